/-
  Which expressions are late: the contracts of onset.late, Late.
-/
import Derived.Test.YtolabbnchmmckaaTreeRight
namespace Go.Proofs.Ytolabbnchmmckaa
open Go.RowKit

/-- what is wrong, and where -/
structure Fl where
  err : Int
  line : Int
  col : Int
abbrev Fl.v (f : Fl) : Value := .agg #[.int .i64 f.err, .int .i64 f.line, .int .i64 f.col]
abbrev flOk : Fl := ⟨0, 0, 0⟩
def lateEnd (op l c : Int) (some first : Bool) : Bool × Fl :=
  if op = 21 ∨ op = 22 ∨ op = 26 ∨ op = 4 then (if some = true then (false, ⟨31, l, c⟩) else (op == 21, flOk))
  else if op = 23 then (if first = true then (false, ⟨31, l, c⟩) else (false, flOk)) else (some, flOk)
def headB : List Bool → Bool
  | [] => false
  | b :: _ => b
def lateC (op l c : Int) (rs : List (Bool × Fl)) : Bool × Fl :=
  match rs.find? (fun r => r.2.err != 0) with
  | some r => (false, r.2)
  | none => lateEnd op l c (rs.any (·.1)) (headB (rs.map (·.1)))
noncomputable def lateR : Ex → Bool × Fl := Ex.para fun e rs => lateC e.op e.line e.col rs
theorem lateR_eq (e : Ex) : lateR e = lateC e.op e.line e.col (e.args.map lateR) := Ex.para_eq _ e
noncomputable def someTo (e : Ex) (k : Nat) : Bool := ((e.args.take k).map lateR).any (·.1)
noncomputable def firstTo (e : Ex) (k : Nat) : Bool := headB (((e.args.take k).map lateR).map (·.1))
theorem someTo_succ {e x : Ex} {k : Nat} (h : e.args[k]? = some x) : someTo e (k + 1) = (someTo e k || (lateR x).1) := by
  unfold someTo; rw [take_succ_map lateR h]; simp
theorem firstTo_succ {e x : Ex} {k : Nat} (h : e.args[k]? = some x) : firstTo e (k + 1) = (firstTo e k || ((lateR x).1 && ((k : Int) == 0))) := by
  unfold firstTo
  rw [take_succ_map lateR h]
  cases k with
  | zero => simp [headB]
  | succ k =>
    have hl : 0 < e.args.length := by have := (List.getElem?_eq_some_iff.1 h).1; omega
    cases ha : e.args with
    | nil => rw [ha] at hl; simp at hl
    | cons y l =>
      have : (((k + 1 : Nat) : Int) == 0) = false := by rw [beq_eq_false_iff_ne]; omega
      rw [this]
      simp [headB]
theorem find_none {rs : List (Bool × Fl)} (h : ∀ j, j < rs.length → ∀ r, rs[j]? = some r → r.2.err = 0) : rs.find? (fun r => r.2.err != 0) = none := by
  rw [List.find?_eq_none]
  intro r hr
  obtain ⟨j, hj⟩ := List.getElem?_of_mem hr
  simp [h j (List.getElem?_eq_some_iff.1 hj).1 r hj]
theorem late_end {e : Ex} (h : ∀ j, j < e.args.length → ∀ x, e.args[j]? = some x → (lateR x).2.err = 0) : lateR e = lateEnd e.op e.line e.col (someTo e e.args.length) (firstTo e e.args.length) := by
  rw [lateR_eq]
  unfold lateC
  rw [find_none fun j hj r hr => ?_]
  · unfold someTo firstTo; rw [List.take_length]
  · rw [List.getElem?_map, Option.map_eq_some_iff] at hr
    obtain ⟨x, hx, rfl⟩ := hr
    exact h j (by simpa using hj) x hx
theorem late_stop {e x : Ex} {k : Nat} (h : ∀ j, j < k → ∀ x, e.args[j]? = some x → (lateR x).2.err = 0) (hx : e.args[k]? = some x) (hne : (lateR x).2.err ≠ 0) : lateR e = (false, (lateR x).2) := by
  rw [lateR_eq]
  unfold lateC
  have : (e.args.map lateR).find? (fun r => r.2.err != 0) = some (lateR x) := by
    have hk := (List.getElem?_eq_some_iff.1 hx).1
    rw [← List.take_append_drop k (e.args.map lateR), List.find?_append, List.find?_eq_none.2 ?_, Option.none_or, ← List.map_drop, drop_succ_map lateR hx]
    · rw [List.find?_cons_of_pos]; simpa using hne
    · intro r hr
      rw [← List.map_take] at hr
      obtain ⟨y, hy, rfl⟩ := List.mem_map.1 hr
      obtain ⟨j, hj⟩ := List.getElem?_of_mem hy
      have hjk : j < k := by have := (List.getElem?_eq_some_iff.1 hj).1; simp at this; omega
      rw [List.getElem?_take_of_lt hjk] at hj
      simp [h j hjk y hj]
  rw [this]
theorem two_box {w wr : World} {e : Ex} {A : Option Addr} {cap : Nat} (hb : Below (w.heap.size + 2) ((w.alloc (.cells #[.int .i64 e.op, .string e.name, .int .i64 e.n, .slice A e.args.length cap, .int .i64 e.line, .int .i64 e.col] 26)).alloc (.cells #[.int .i64 0, .int .i64 0, .int .i64 0] 31)) wr) :
    (wr.cell? ⟨w.heap.size, 0, none⟩ = some (.int .i64 e.op) ∧ wr.cell? ⟨w.heap.size, 3, none⟩ = some (.slice A e.args.length cap) ∧ wr.cell? ⟨w.heap.size, 4, none⟩ = some (.int .i64 e.line) ∧ wr.cell? ⟨w.heap.size, 5, none⟩ = some (.int .i64 e.col)) ∧
    Row wr (w.heap.size + 1) #[.int .i64 0, .int .i64 0, .int .i64 0] 31 ∧ Below w.heap.size w wr ∧ w.heap.size + 2 ≤ wr.heap.size := by
  have hR : Row ((w.alloc (.cells #[.int .i64 e.op, .string e.name, .int .i64 e.n, .slice A e.args.length cap, .int .i64 e.line, .int .i64 e.col] 26)).alloc (.cells #[.int .i64 0, .int .i64 0, .int .i64 0] 31)) (w.heap.size + 1) #[.int .i64 0, .int .i64 0, .int .i64 0] 31 := by
    have := Row.new (w.alloc (.cells #[.int .i64 e.op, .string e.name, .int .i64 e.n, .slice A e.args.length cap, .int .i64 e.line, .int .i64 e.col] 26)) #[.int .i64 0, .int .i64 0, .int .i64 0] 31
    rwa [World.size_alloc] at this
  have hE : Row ((w.alloc (.cells #[.int .i64 e.op, .string e.name, .int .i64 e.n, .slice A e.args.length cap, .int .i64 e.line, .int .i64 e.col] 26)).alloc (.cells #[.int .i64 0, .int .i64 0, .int .i64 0] 31)) w.heap.size #[.int .i64 e.op, .string e.name, .int .i64 e.n, .slice A e.args.length cap, .int .i64 e.line, .int .i64 e.col] 26 := (Row.new w _ _).alloc _
  have hE' := hE.below hb (by omega)
  refine ⟨⟨?_, ?_, ?_, ?_⟩, hR.below hb (by omega), (((Below.refl _ _).alloc (Nat.le_refl _) _).alloc (by simp) _).trans (hb.mono (by omega)), by have := hb.size; simpa using this⟩
  all_goals (rw [hE'.cell]; rfl)

set_option maxHeartbeats 4000000 in
theorem late_any (e : Ex) : ∀ (A : Option Addr) (cap : Nat) (w : World), e.args.length ≤ cap → cap ≤ maxLen → IsExs w w.heap.size A e.args →
    Calls Try.prog 54 #[exV e A cap] w fun r w' => r = .returned (.tuple #[.bool (lateR e).1, (lateR e).2.v]) ∧ Below w.heap.size w w' := by
  induction e using Ex.ind with
  | h e ih =>
    intro A cap w hcap hmax hx
    have HI := Lib.hid ih
    clear ih
    unfold maxLen at hmax
    go_enter Try.func54, Try.ntmps54
    go_wp2_with fail
    go_loopw [4, 5, 14] (fun s f i wr => ∃ k : Nat, k ≤ e.args.length ∧ i = .int .i64 k ∧ s = .bool (someTo e k) ∧ f = .bool (firstTo e k) ∧ Hid (∀ j, j < k → ∀ x, e.args[j]? = some x → (lateR x).2.err = 0) ∧ Below (w.heap.size + 2) ((w.alloc (.cells #[.int .i64 e.op, .string e.name, .int .i64 e.n, .slice A e.args.length cap, .int .i64 e.line, .int .i64 e.col] 26)).alloc (.cells #[.int .i64 0, .int .i64 0, .int .i64 0] 31)) wr) (fun _ _ i _ => e.args.length - (intOf i).toNat)
    case atStart => exact ⟨0, Nat.zero_le _, rfl, rfl, rfl, fun j h => absurd h (by omega), by simpa using Below.refl _ _⟩
    case round =>
      obtain ⟨k, hk, rfl, rfl, rfl, HN, hbox⟩ := hrel
      obtain ⟨⟨b0, b3, b4, b5⟩, bR, hbel, hsz⟩ := two_box hbox
      have fR0 := bR.frozen 0
      have fR1 := bR.frozen 1
      have fR2 := bR.frozen 2
      have cR0 := bR.cell 0
      have cR1 := bR.cell 1
      have cR2 := bR.cell 2
      simp only [List.getElem?_toArray, List.getElem?_cons_zero, List.getElem?_cons_succ] at cR0 cR1 cR2
      by_cases hlt : k < e.args.length
      · obtain ⟨b, off, x, A', cap', rfl, hb, hxk, hxm, hok', hcap', hmax', hx', c0, c1, c2, c3, c4, c5⟩ := (hx.below hbel).at_ hlt
        have HS := Lib.hid (someTo_succ hxk)
        have HF := Lib.hid (firstTo_succ hxk)
        have HK := Lib.hid hxk
        have HM := Lib.hid hxm
        clear hxk hxm
        go_wp2_with fail
        refine (HI.out x HM.out A' cap' _ hcap' hmax' ((hx'.below ((Below.refl _ _).alloc (by omega) _)).more (by simp; omega))).mono ?_
        rintro r w2 ⟨rfl, hb2⟩
        have hb2' : Below wr.heap.size wr w2 := ((Below.refl _ _).alloc (Nat.le_refl _) _).trans (hb2.mono (by simp))
        have hsz2 := hb2'.size
        have bR2 := bR.below hb2' (by omega)
        have hb3 : Below (w.heap.size + 2) ((w.alloc (.cells #[.int .i64 e.op, .string e.name, .int .i64 e.n, .slice (some ⟨b, off, none⟩) e.args.length cap, .int .i64 e.line, .int .i64 e.col] 26)).alloc (.cells #[.int .i64 0, .int .i64 0, .int .i64 0] 31)) w2 := hbox.trans (hb2'.mono hsz)
        clear hbox hb2 bR fR0 fR1 fR2 cR0 cR1 cR2
        have fR0 := bR2.frozen 0
        have fR1 := bR2.frozen 1
        have fR2 := bR2.frozen 2
        have cR0 := bR2.cell 0
        have cR1 := bR2.cell 1
        have cR2 := bR2.cell 2
        simp only [List.getElem?_toArray, List.getElem?_cons_zero, List.getElem?_cons_succ] at cR0 cR1 cR2
        by_cases hE : (lateR x).2.err = 0
        · have HN' := Lib.hid (upto_succ HN.out (fun y hy => by rw [HK.out] at hy; injection hy with hy; rw [← hy]; exact hE))
          have hE' : ((lateR x).2.err != 0) = false := by simp [hE]
          clear hE
          generalize hR : lateR x = R at *
          obtain ⟨is, f⟩ := R
          have hk0 : ((k : Int) == 0) = true ∨ ((k : Int) == 0) = false := by cases ((k : Int) == 0) <;> simp
          clear hR
          generalize hS : someTo e k = S at *
          generalize hF : firstTo e k = Fi at *
          clear hS hF
          simp only at HS HF hE'
          cases is <;> cases S <;> cases Fi
          all_goals
            rcases hk0 with hk0 | hk0
            all_goals
              go_wp2_with fail
              go_roundw
              case rel => exact ⟨k + 1, by omega, by go_num, by rw [HS.out]; rfl, by rw [HF.out, hk0]; rfl, HN', hb3.alloc (by omega) _⟩
              case measure => simp [intOf]; omega
        · have HL := Lib.hid (late_stop HN.out HK.out hE)
          have hE' : ((lateR x).2.err != 0) = true := by simp [hE]
          clear hE
          generalize lateR x = R at *
          obtain ⟨is, f⟩ := R
          simp only at hE' HL
          go_wp2_with fail
          have bR3 := bR2.alloc (.cells #[.int .i64 f.err, .int .i64 f.line, .int .i64 f.col] 31)
          have bF3 := Row.new w2 #[.int .i64 f.err, .int .i64 f.line, .int .i64 f.col] 31
          have hb4 := hb3.alloc (by omega) (.cells #[.int .i64 f.err, .int .i64 f.line, .int .i64 f.col] 31)
          clear fR0 fR1 fR2 cR0 cR1 cR2
          generalize w2.alloc (.cells #[.int .i64 f.err, .int .i64 f.line, .int .i64 f.col] 31) = W3 at *
          have fR0 := bR3.frozen 0
          have fR1 := bR3.frozen 1
          have fR2 := bR3.frozen 2
          have cR0 := bR3.cell 0
          have cR1 := bR3.cell 1
          have cR2 := bR3.cell 2
          have cF0 := bF3.cell 0
          have cF1 := bF3.cell 1
          have cF2 := bF3.cell 2
          simp only [List.getElem?_toArray, List.getElem?_cons_zero, List.getElem?_cons_succ] at cR0 cR1 cR2 cF0 cF1 cF2
          go_region
          go_wp2_with fail
          have hB : Below w.heap.size w W3 := (((Below.refl _ _).alloc (Nat.le_refl _) _).alloc (by simp) _).trans (hb4.mono (by omega))
          refine bodyPost_ret (v := .tuple #[.bool false, .agg #[.int .i64 f.err, .int .i64 f.line, .int .i64 f.col]]) (by simp [results, Try.results54, go_sem, cR0, cR1, cR2]) rfl ⟨by rw [HL.out], ?_⟩
          repeat (first | exact hB | refine Below.drew ?_ | refine Below.setCell ?_ (by simp) _)
      · obtain rfl : k = e.args.length := by omega
        have HL := Lib.hid (late_end HN.out)
        have hB : Below w.heap.size w wr := hbel
        generalize someTo e e.args.length = S at *
        generalize firstTo e e.args.length = Fi at *
        by_cases ho : e.op = 21 ∨ e.op = 22 ∨ e.op = 26 ∨ e.op = 4
        · have ho' : ((e.op == 21) = true) ∨ ((e.op == 21) = false ∧ ((e.op == 22) = true ∨ (e.op == 22) = false ∧ ((e.op == 26) = true ∨ (e.op == 26) = false ∧ (e.op == 4) = true))) := by
            simp only [beq_iff_eq, beq_eq_false_iff_ne]; omega
          cases S
          · have HR := Lib.hid (HL.out.trans (show lateEnd e.op e.line e.col false Fi = (e.op == 21, flOk) by unfold lateEnd; rw [if_pos ho]; rfl))
            clear HL ho
            rcases ho' with o1 | ⟨o1, o2 | ⟨o2, o3 | ⟨o3, o4⟩⟩⟩
            all_goals
              go_wp2_with fail
              refine bodyPost_ret (v := .tuple #[.bool (e.op == 21), .agg #[.int .i64 0, .int .i64 0, .int .i64 0]]) (by simp [results, Try.results54, go_sem, cR0, cR1, cR2, o1]) rfl ⟨by rw [HR.out], ?_⟩
              repeat (first | exact hB | refine Below.drew ?_ | refine Below.setCell ?_ (by simp) _)
          · have HR := Lib.hid (HL.out.trans (show lateEnd e.op e.line e.col true Fi = (false, ⟨31, e.line, e.col⟩) by unfold lateEnd; rw [if_pos ho]; rfl))
            clear HL ho
            rcases ho' with o1 | ⟨o1, o2 | ⟨o2, o3 | ⟨o3, o4⟩⟩⟩
            all_goals
              go_wp2_with fail
              go_region
              go_wp2_with fail
              refine bodyPost_ret (v := .tuple #[.bool false, .agg #[.int .i64 31, .int .i64 e.line, .int .i64 e.col]]) (by simp [results, Try.results54, go_sem, cR0, cR1, cR2]) rfl ⟨by rw [HR.out], ?_⟩
              repeat (first | exact hB | refine Below.drew ?_ | refine Below.setCell ?_ (by simp) _)
        · have o1 : (e.op == 21) = false := by rw [beq_eq_false_iff_ne]; omega
          have o2 : (e.op == 22) = false := by rw [beq_eq_false_iff_ne]; omega
          have o3 : (e.op == 26) = false := by rw [beq_eq_false_iff_ne]; omega
          have o4 : (e.op == 4) = false := by rw [beq_eq_false_iff_ne]; omega
          by_cases h23 : e.op = 23
          · have o5 : (e.op == 23) = true := by simp [h23]
            cases Fi
            · have HR := Lib.hid (HL.out.trans (show lateEnd e.op e.line e.col S false = (false, flOk) by unfold lateEnd; rw [if_neg ho, if_pos h23]; rfl))
              clear HL ho h23
              go_wp2_with fail
              refine bodyPost_ret (v := .tuple #[.bool false, .agg #[.int .i64 0, .int .i64 0, .int .i64 0]]) (by simp [results, Try.results54, go_sem, cR0, cR1, cR2]) rfl ⟨by rw [HR.out], ?_⟩
              repeat (first | exact hB | refine Below.drew ?_ | refine Below.setCell ?_ (by simp) _)
            · have HR := Lib.hid (HL.out.trans (show lateEnd e.op e.line e.col S true = (false, ⟨31, e.line, e.col⟩) by unfold lateEnd; rw [if_neg ho, if_pos h23]; rfl))
              clear HL ho h23
              go_wp2_with fail
              go_region
              go_wp2_with fail
              refine bodyPost_ret (v := .tuple #[.bool false, .agg #[.int .i64 31, .int .i64 e.line, .int .i64 e.col]]) (by simp [results, Try.results54, go_sem, cR0, cR1, cR2]) rfl ⟨by rw [HR.out], ?_⟩
              repeat (first | exact hB | refine Below.drew ?_ | refine Below.setCell ?_ (by simp) _)
          · have o5 : (e.op == 23) = false := by simp [h23]
            have HR := Lib.hid (HL.out.trans (show lateEnd e.op e.line e.col S Fi = (S, flOk) by unfold lateEnd; rw [if_neg ho, if_neg h23]))
            clear HL ho h23
            go_wp2_with fail
            refine bodyPost_ret (v := .tuple #[.bool S, .agg #[.int .i64 0, .int .i64 0, .int .i64 0]]) (by simp [results, Try.results54, go_sem, cR0, cR1, cR2]) rfl ⟨by rw [HR.out], ?_⟩
            repeat (first | exact hB | refine Below.drew ?_ | refine Below.setCell ?_ (by simp) _)
end Go.Proofs.Ytolabbnchmmckaa
