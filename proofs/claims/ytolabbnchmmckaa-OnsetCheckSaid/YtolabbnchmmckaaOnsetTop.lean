/-
  The contracts of onset.Late and of tompionref19.Late, Wrong.
-/
import Derived.Test.YtolabbnchmmckaaOnset
namespace Go.Proofs.Ytolabbnchmmckaa
open Go.RowKit

noncomputable def lateTop (e : Ex) : Bool × Fl := if exRight e = true then lateR e else (false, ⟨2, 0, 0⟩)
set_option maxHeartbeats 2000000 in
theorem lateTop_any (e : Ex) (A : Option Addr) (cap : Nat) (w : World) (hok : ExOk e) (hcap : e.args.length ≤ cap) (hmax : cap ≤ maxLen) (hx : IsExs w w.heap.size A e.args) (hs : exSize e ≤ 1000000) :
    Calls Try.prog 16 #[exV e A cap] w fun r w' => r = .returned (.tuple #[.bool (lateTop e).1, (lateTop e).2.v]) ∧ Below w.heap.size w w' := by
  have HT := Lib.hid (show lateTop e = if exRight e = true then lateR e else (false, ⟨2, 0, 0⟩) from rfl)
  go_enter Try.func16, Try.ntmps16
  go_wp2_with fail
  have hB0 : Below w.heap.size w ((w.alloc (.cells #[.int .i64 e.op, .string e.name, .int .i64 e.n, .slice A e.args.length cap, .int .i64 e.line, .int .i64 e.col] 26)).alloc (.cells #[.int .i64 0, .int .i64 0, .int .i64 0] 31)) := ((Below.refl _ _).alloc (Nat.le_refl _) _).alloc (by simp) _
  refine (right_any e A cap _ hok hcap hmax ((hx.below hB0).more (by simp; omega)) hs).mono ?_
  rintro r w1 ⟨rfl, hb1⟩
  have hb1' : Below (w.heap.size + 2) ((w.alloc (.cells #[.int .i64 e.op, .string e.name, .int .i64 e.n, .slice A e.args.length cap, .int .i64 e.line, .int .i64 e.col] 26)).alloc (.cells #[.int .i64 0, .int .i64 0, .int .i64 0] 31)) w1 := by simpa using hb1
  obtain ⟨_, bR, hbel, hsz⟩ := two_box hb1'
  have bE : Row w1 w.heap.size #[.int .i64 e.op, .string e.name, .int .i64 e.n, .slice A e.args.length cap, .int .i64 e.line, .int .i64 e.col] 26 := ((Row.new w _ _).alloc _).below hb1' (by omega)
  have c0 := bE.cell 0
  have c1 := bE.cell 1
  have c2 := bE.cell 2
  have c3 := bE.cell 3
  have c4 := bE.cell 4
  have c5 := bE.cell 5
  have fR0 := bR.frozen 0
  have fR1 := bR.frozen 1
  have fR2 := bR.frozen 2
  have cR0 := bR.cell 0
  have cR1 := bR.cell 1
  have cR2 := bR.cell 2
  simp only [List.getElem?_toArray, List.getElem?_cons_zero, List.getElem?_cons_succ] at c0 c1 c2 c3 c4 c5 cR0 cR1 cR2
  clear hb1
  generalize exRight e = R at *
  cases R
  · go_wp2_with fail
    refine bodyPost_ret (v := .tuple #[.bool false, .agg #[.int .i64 2, .int .i64 0, .int .i64 0]]) (by simp [results, Try.results16, go_sem, cR0, cR1, cR2]) rfl ⟨by rw [HT.out]; rfl, ?_⟩
    repeat (first | exact hbel | refine Below.drew ?_ | refine Below.setCell ?_ (by simp) _)
  · have HT' : Hid (lateTop e = lateR e) := HT.out
    clear HT
    go_wp2_with fail
    refine (late_any e A cap _ hcap hmax ((hx.below hbel).more (by omega))).mono ?_
    rintro r w2 ⟨rfl, hb2⟩
    have bR2 := bR.below hb2 (by omega)
    have hbel2 := hbel.trans (hb2.mono (by omega))
    clear fR0 fR1 fR2 cR0 cR1 cR2
    have fR0 := bR2.frozen 0
    have fR1 := bR2.frozen 1
    have fR2 := bR2.frozen 2
    have cR0 := bR2.cell 0
    have cR1 := bR2.cell 1
    have cR2 := bR2.cell 2
    simp only [List.getElem?_toArray, List.getElem?_cons_zero, List.getElem?_cons_succ] at cR0 cR1 cR2
    generalize lateR e = L at *
    go_wp2_with fail
    refine bodyPost_ret (v := .tuple #[.bool L.1, .agg #[.int .i64 L.2.err, .int .i64 L.2.line, .int .i64 L.2.col]]) (by simp [results, Try.results16, go_sem, cR0, cR1, cR2]) rfl ⟨by rw [HT'.out], ?_⟩
    repeat (first | exact hbel2 | refine Below.drew ?_ | refine Below.setCell ?_ (by simp) _)

/-! ### the document's -/
def rlateC (op : Int) (ls : List Bool) : Bool := if op = 21 then true else if op = 23 ∨ op = 22 ∨ op = 26 ∨ op = 4 then false else ls.any id
noncomputable def rlate : Ex → Bool := Ex.para fun e ls => rlateC e.op ls
theorem rlate_eq (e : Ex) : rlate e = rlateC e.op (e.args.map rlate) := Ex.para_eq _ e
theorem any_no {α : Type} {p : α → Bool} {l : List α} (h : ∀ j, j < l.length → ∀ x, l[j]? = some x → p x = false) : l.any p = false := by
  refine List.any_eq_false.2 fun x hx => ?_
  obtain ⟨j, hj⟩ := List.getElem?_of_mem hx
  simp [h j (List.getElem?_eq_some_iff.1 hj).1 x hj]
theorem any_yes {α : Type} {p : α → Bool} {l : List α} {k : Nat} {x : α} (h : l[k]? = some x) (hx : p x = true) : l.any p = true := List.any_eq_true.2 ⟨x, List.mem_of_getElem? h, hx⟩
set_option maxHeartbeats 4000000 in
theorem rlate_any (e : Ex) : ∀ (A : Option Addr) (cap : Nat) (w : World), e.args.length ≤ cap → cap ≤ maxLen → IsExs w w.heap.size A e.args →
    Calls Try.prog 19 #[exV e A cap] w fun r w' => r = .returned (.bool (rlate e)) ∧ Below w.heap.size w w' := by
  induction e using Ex.ind with
  | h e ih =>
    intro A cap w hcap hmax hx
    have HI := Lib.hid ih
    have HE := Lib.hid (rlate_eq e)
    clear ih
    unfold maxLen at hmax
    have hB0 : Below w.heap.size w (w.alloc (.cells #[.int .i64 e.op, .string e.name, .int .i64 e.n, .slice A e.args.length cap, .int .i64 e.line, .int .i64 e.col] 26)) := (Below.refl _ _).alloc (Nat.le_refl _) _
    by_cases h21 : e.op = 21
    · have o1 : (e.op == 21) = true := by simp [h21]
      have HR := Lib.hid (HE.out.trans (show rlateC e.op (e.args.map rlate) = true by unfold rlateC; rw [if_pos h21]))
      clear h21 HE
      go_enter Try.func19, Try.ntmps19
      go_wp2_with fail
      go_ret
      exact ⟨ret_bool HR.out.symm, hB0⟩
    · have o1 : (e.op == 21) = false := by simp [h21]
      by_cases h4 : e.op = 23 ∨ e.op = 22 ∨ e.op = 26 ∨ e.op = 4
      · have ho' : ((e.op == 23) = true) ∨ ((e.op == 23) = false ∧ ((e.op == 22) = true ∨ (e.op == 22) = false ∧ ((e.op == 26) = true ∨ (e.op == 26) = false ∧ (e.op == 4) = true))) := by
          simp only [beq_iff_eq, beq_eq_false_iff_ne]; omega
        have HR := Lib.hid (HE.out.trans (show rlateC e.op (e.args.map rlate) = false by unfold rlateC; rw [if_neg h21, if_pos h4]))
        clear h21 HE h4
        rcases ho' with o2 | ⟨o2, o3 | ⟨o3, o4 | ⟨o4, o5⟩⟩⟩
        all_goals
          go_enter Try.func19, Try.ntmps19
          go_wp2_with fail
          go_ret
          exact ⟨ret_bool HR.out.symm, hB0⟩
      · have o2 : (e.op == 23) = false := by rw [beq_eq_false_iff_ne]; omega
        have o3 : (e.op == 22) = false := by rw [beq_eq_false_iff_ne]; omega
        have o4 : (e.op == 26) = false := by rw [beq_eq_false_iff_ne]; omega
        have o5 : (e.op == 4) = false := by rw [beq_eq_false_iff_ne]; omega
        have HR := Lib.hid (HE.out.trans (show rlateC e.op (e.args.map rlate) = e.args.any rlate by unfold rlateC; rw [if_neg h21, if_neg h4, List.any_map]; rfl))
        clear h21 HE h4
        go_enter Try.func19, Try.ntmps19
        go_wp2_with fail
        go_loopw [3] (fun i wr => ∃ k : Nat, k ≤ e.args.length ∧ i = .int .i64 k ∧ Hid (∀ j, j < k → ∀ x, e.args[j]? = some x → rlate x = false) ∧ Below (w.heap.size + 1) (w.alloc (.cells #[.int .i64 e.op, .string e.name, .int .i64 e.n, .slice A e.args.length cap, .int .i64 e.line, .int .i64 e.col] 26)) wr) (fun i _ => e.args.length - (intOf i).toNat)
        case atStart => exact ⟨0, Nat.zero_le _, rfl, fun j h => absurd h (by omega), by simpa using Below.refl _ _⟩
        case round =>
          obtain ⟨k, hk, rfl, HN, hbox⟩ := hrel
          obtain ⟨⟨_, _, _, hc3, _, _⟩, hbel, hsz⟩ := exBox hbox
          by_cases hlt : k < e.args.length
          · obtain ⟨b, off, x, A', cap', rfl, hb, hxk, hxm, hok', hcap', hmax', hx', c0, c1, c2, c3, c4, c5⟩ := (hx.below hbel).at_ hlt
            have HK := Lib.hid hxk
            have HM := Lib.hid hxm
            clear hxk hxm
            go_wp2_with fail
            refine (HI.out x HM.out A' cap' _ hcap' hmax' (hx'.more (by omega))).mono ?_
            rintro r w2 ⟨rfl, hb2⟩
            have hb3 := hbox.trans (hb2.mono hsz)
            clear hbox
            generalize hL : rlate x = L at *
            have HL := Lib.hid hL
            clear hL
            cases L
            · go_wp2_with fail
              go_roundw
              case rel => exact ⟨k + 1, by omega, by go_num, upto_succ HN.out (fun y hy => by rw [HK.out] at hy; injection hy with hy; rw [← hy]; exact HL.out), hb3⟩
              case measure => simp [intOf]; omega
            · have HF := Lib.hid (HR.out.trans (any_yes HK.out HL.out))
              obtain ⟨_, hbel3, _⟩ := exBox hb3
              go_wp2_with fail
              go_ret
              exact ⟨ret_bool HF.out.symm, hbel3⟩
          · obtain rfl : k = e.args.length := by omega
            have HF := Lib.hid (HR.out.trans (any_no HN.out))
            go_wp2_with fail
            go_ret
            exact ⟨ret_bool HF.out.symm, hbel⟩
end Go.Proofs.Ytolabbnchmmckaa
