/-
  The contract of tompionref19.Wrong.
-/
import Derived.Test.YtolabbnchmmckaaOnsetTop
import Derived.Deep.DeepCutAuto
namespace Go.Proofs.Ytolabbnchmmckaa
open Go.RowKit

abbrev allOps (op : Int) : Prop := op = 21 ∨ op = 22 ∨ op = 26 ∨ op = 4
/-- is one of the first k parts late where it may not be? -/
noncomputable def badTo (e : Ex) (k : Nat) : Bool := if allOps e.op then (e.args.take k).any rlate else if e.op = 23 then headB ((e.args.take k).map rlate) else false
noncomputable def rwrong : Ex → Fl := Ex.para fun e ps => match ps.find? (fun f => f.err != 0) with
  | some f => f
  | none => if badTo e e.args.length = true then ⟨31, e.line, e.col⟩ else flOk
theorem rwrong_eq (e : Ex) : rwrong e = match (e.args.map rwrong).find? (fun f => f.err != 0) with
  | some f => f
  | none => if badTo e e.args.length = true then ⟨31, e.line, e.col⟩ else flOk := Ex.para_eq _ e
theorem findF_none {rs : List Fl} (h : ∀ j, j < rs.length → ∀ r, rs[j]? = some r → r.err = 0) : rs.find? (fun r => r.err != 0) = none := by
  rw [List.find?_eq_none]
  intro r hr
  obtain ⟨j, hj⟩ := List.getElem?_of_mem hr
  simp [h j (List.getElem?_eq_some_iff.1 hj).1 r hj]
theorem findF_some {e x : Ex} {g : Ex → Fl} {k : Nat} (h : ∀ j, j < k → ∀ x, e.args[j]? = some x → (g x).err = 0) (hx : e.args[k]? = some x) (hne : (g x).err ≠ 0) : (e.args.map g).find? (fun r => r.err != 0) = some (g x) := by
  have hk := (List.getElem?_eq_some_iff.1 hx).1
  rw [← List.take_append_drop k (e.args.map g), List.find?_append, List.find?_eq_none.2 ?_, Option.none_or, ← List.map_drop, drop_succ_map g hx]
  · rw [List.find?_cons_of_pos]; simpa using hne
  · intro r hr
    rw [← List.map_take] at hr
    obtain ⟨y, hy, rfl⟩ := List.mem_map.1 hr
    obtain ⟨j, hj⟩ := List.getElem?_of_mem hy
    have hjk : j < k := by have := (List.getElem?_eq_some_iff.1 hj).1; simp at this; omega
    rw [List.getElem?_take_of_lt hjk] at hj
    simp [h j hjk y hj]
theorem wrong_stop {e x : Ex} {k : Nat} (h : ∀ j, j < k → ∀ x, e.args[j]? = some x → (rwrong x).err = 0) (hx : e.args[k]? = some x) (hne : (rwrong x).err ≠ 0) : rwrong e = rwrong x := by
  rw [rwrong_eq, findF_some h hx hne]
theorem wrong_end {e : Ex} (h : ∀ j, j < e.args.length → ∀ x, e.args[j]? = some x → (rwrong x).err = 0) : rwrong e = if badTo e e.args.length = true then ⟨31, e.line, e.col⟩ else flOk := by
  rw [rwrong_eq, findF_none fun j hj r hr => ?_]
  rw [List.getElem?_map, Option.map_eq_some_iff] at hr
  obtain ⟨x, hx, rfl⟩ := hr
  exact h j (by simpa using hj) x hx
/-- may the k-th part be late? -/
def watch (op : Int) (k : Nat) : Prop := allOps op ∨ (op = 23 ∧ k = 0)
theorem badTo_zero (e : Ex) : badTo e 0 = false := by 
  unfold badTo
  split
  · rfl
  · split <;> rfl
theorem badTo_yes {e x : Ex} {k : Nat} (h : e.args[k]? = some x) (hw : watch e.op k) : badTo e (k + 1) = (badTo e k || rlate x) := by
  unfold badTo
  rcases hw with hw | ⟨hw, rfl⟩
  · rw [if_pos hw, if_pos hw, List.take_add_one, h]; simp
  · have : ¬ allOps e.op := by unfold allOps; omega
    rw [if_neg this, if_neg this, if_pos hw, if_pos hw, take_succ_map rlate h]; simp [headB]
theorem badTo_no {e x : Ex} {k : Nat} (h : e.args[k]? = some x) (hw : ¬ watch e.op k) : badTo e (k + 1) = badTo e k := by
  unfold watch at hw
  unfold badTo
  rw [if_neg (fun h => hw (.inl h)), if_neg (fun h => hw (.inl h))]
  split
  · cases k with
    | zero => exact absurd (.inr ⟨by assumption, rfl⟩) hw
    | succ k =>
      rw [take_succ_map rlate h]
      cases ha : e.args with
      | nil => rw [ha] at h; simp at h
      | cons y l => simp [headB]
  · rfl

set_option maxHeartbeats 4000000 in
theorem rwrong_any (e : Ex) : ∀ (A : Option Addr) (cap : Nat) (w : World), e.args.length ≤ cap → cap ≤ maxLen → IsExs w w.heap.size A e.args →
    Calls Try.prog 18 #[exV e A cap] w fun r w' => r = .returned (rwrong e).v ∧ Below w.heap.size w w' := by
  induction e using Ex.ind with
  | h e ih =>
    intro A cap w hcap hmax hx
    have HI := Lib.hid ih
    clear ih
    unfold maxLen at hmax
    go_enter Try.func18, Try.ntmps18
    go_wp2_with fail
    go_loopw [3] (fun i wr => ∃ k : Nat, k ≤ e.args.length ∧ i = .int .i64 k ∧ Hid (∀ j, j < k → ∀ x, e.args[j]? = some x → (rwrong x).err = 0) ∧ Below (w.heap.size + 2) ((w.alloc (.cells #[.int .i64 e.op, .string e.name, .int .i64 e.n, .slice A e.args.length cap, .int .i64 e.line, .int .i64 e.col] 26)).alloc (.cells #[.int .i64 0, .int .i64 0, .int .i64 0] 31)) wr) (fun i _ => e.args.length - (intOf i).toNat)
    case atStart => exact ⟨0, Nat.zero_le _, rfl, fun j h => absurd h (by omega), by simpa using Below.refl _ _⟩
    case round =>
      obtain ⟨k, hk, rfl, HN, hbox⟩ := hrel
      obtain ⟨⟨b0, b3, b4, b5⟩, bR, hbel, hsz⟩ := two_box hbox
      by_cases hlt : k < e.args.length
      · obtain ⟨b, off, x, A', cap', rfl, hb, hxk, hxm, hok', hcap', hmax', hx', c0, c1, c2, c3, c4, c5⟩ := (hx.below hbel).at_ hlt
        have HK := Lib.hid hxk
        have HM := Lib.hid hxm
        clear hxk hxm
        go_wp2_with fail
        refine (HI.out x HM.out A' cap' _ hcap' hmax' (hx'.more (by omega))).mono ?_
        rintro r w2 ⟨rfl, hb2⟩
        have hsz2 := hb2.size
        have bR2 := bR.below hb2 (by omega)
        have hb3 : Below (w.heap.size + 2) ((w.alloc (.cells #[.int .i64 e.op, .string e.name, .int .i64 e.n, .slice (some ⟨b, off, none⟩) e.args.length cap, .int .i64 e.line, .int .i64 e.col] 26)).alloc (.cells #[.int .i64 0, .int .i64 0, .int .i64 0] 31)) w2 := hbox.trans (hb2.mono hsz)
        have fR0 := bR2.frozen 0
        have fR1 := bR2.frozen 1
        have fR2 := bR2.frozen 2
        have cR0 := bR2.cell 0
        have cR1 := bR2.cell 1
        have cR2 := bR2.cell 2
        simp only [List.getElem?_toArray, List.getElem?_cons_zero, List.getElem?_cons_succ] at cR0 cR1 cR2
        clear hbox bR
        by_cases hE : (rwrong x).err = 0
        · have HN' := Lib.hid (upto_succ HN.out (fun y hy => by rw [HK.out] at hy; injection hy with hy; rw [← hy]; exact hE))
          have hE' : ((rwrong x).err != 0) = false := by simp [hE]
          clear hE
          generalize rwrong x = f at *
          go_wp2_with fail
          go_roundw
          case rel => exact ⟨k + 1, by omega, by go_num, HN', hb3.alloc (by omega) _⟩
          case measure => simp [intOf]; omega
        · have HL := Lib.hid (wrong_stop HN.out HK.out hE)
          have hE' : ((rwrong x).err != 0) = true := by simp [hE]
          clear hE
          generalize rwrong x = f at *
          go_upto_region 6 with (fail)
          have hB : Below w.heap.size w (w2.alloc (.cells #[.int .i64 f.err, .int .i64 f.line, .int .i64 f.col] 31)) := (hbel.trans (hb2.mono (by omega))).alloc (by omega) _
          have bR3 := bR2.alloc (.cells #[.int .i64 f.err, .int .i64 f.line, .int .i64 f.col] 31)
          have bF3 := Row.new w2 #[.int .i64 f.err, .int .i64 f.line, .int .i64 f.col] 31
          clear fR0 fR1 fR2 cR0 cR1 cR2
          generalize w2.alloc (.cells #[.int .i64 f.err, .int .i64 f.line, .int .i64 f.col] 31) = W3 at *
          have fR0 := bR3.frozen 0
          have fR1 := bR3.frozen 1
          have fR2 := bR3.frozen 2
          have cR0 := bR3.cell 0
          have cR1 := bR3.cell 1
          have cR2 := bR3.cell 2
          have cF0 := bF3.cell 0
          have cF1 := bF3.cell 1
          have cF2 := bF3.cell 2
          simp only [List.getElem?_toArray, List.getElem?_cons_zero, List.getElem?_cons_succ] at cR0 cR1 cR2 cF0 cF1 cF2
          go_wp2_with fail
          refine bodyPost_ret (v := .agg #[.int .i64 f.err, .int .i64 f.line, .int .i64 f.col]) (by simp [results, Try.results18, go_sem, cR0, cR1, cR2]) rfl ⟨by rw [HL.out], ?_⟩
          repeat (first | exact hB | refine Below.drew ?_ | refine Below.setCell ?_ (by simp) _)
      · obtain rfl : k = e.args.length := by omega
        have HL := Lib.hid (wrong_end HN.out)
        clear HN hk hlt
        go_wp2_with fail
        go_loopw [5, 6] (fun v i wr => ∃ k : Nat, k ≤ e.args.length ∧ i = .int .i64 k ∧ v = .bool (badTo e k) ∧ Below (w.heap.size + 2) ((w.alloc (.cells #[.int .i64 e.op, .string e.name, .int .i64 e.n, .slice A e.args.length cap, .int .i64 e.line, .int .i64 e.col] 26)).alloc (.cells #[.int .i64 0, .int .i64 0, .int .i64 0] 31)) wr) (fun _ i _ => e.args.length - (intOf i).toNat)
        case atStart => exact ⟨0, Nat.zero_le _, rfl, by rw [badTo_zero], hbox⟩
        case round =>
          clear hbox b0 b3 b4 b5 bR hbel hsz
          obtain ⟨k, hk, rfl, rfl, hbox⟩ := hrel
          obtain ⟨⟨b0, b3, b4, b5⟩, bR, hbel, hsz⟩ := two_box hbox
          by_cases hlt : k < e.args.length
          · obtain ⟨b, off, x, A', cap', rfl, hb, hxk, hxm, hok', hcap', hmax', hx', c0, c1, c2, c3, c4, c5⟩ := (hx.below hbel).at_ hlt
            by_cases hw : watch e.op k
            · have HB := Lib.hid (badTo_yes hxk hw)
              have hw' : ((e.op == 21) = true) ∨ ((e.op == 21) = false ∧ ((e.op == 22) = true ∨ (e.op == 22) = false ∧ ((e.op == 26) = true ∨ (e.op == 26) = false ∧ ((e.op == 4) = true ∨ ((e.op == 4) = false ∧ (e.op == 23) = true ∧ ((k : Int) == 0) = true))))) := by
                unfold watch allOps at hw
                simp only [beq_iff_eq, beq_eq_false_iff_ne]; omega
              clear hw hxk hxm HL
              generalize badTo e k = Bd at *
              rcases hw' with o1 | ⟨o1, o2 | ⟨o2, o3 | ⟨o3, o4 | ⟨o4, o5, o6⟩⟩⟩⟩
              all_goals
                cases Bd
                · go_wp2_with fail
                  refine (rlate_any x A' cap' _ hcap' hmax' (hx'.more (by omega))).mono ?_
                  rintro r w2 ⟨rfl, hb2⟩
                  have hb3 := hbox.trans (hb2.mono hsz)
                  go_wp2_with fail
                  go_roundw
                  case rel => exact ⟨k + 1, by omega, by go_num, by rw [HB.out]; rfl, hb3⟩
                  case measure => simp [intOf]; omega
                · go_wp2_with fail
                  go_roundw
                  case rel => exact ⟨k + 1, by omega, by go_num, by rw [HB.out]; rfl, hbox⟩
                  case measure => simp [intOf]; omega
            · have HB := Lib.hid (badTo_no hxk hw)
              have hw' : (e.op == 21) = false ∧ (e.op == 22) = false ∧ (e.op == 26) = false ∧ (e.op == 4) = false ∧ ((e.op == 23) = false ∨ (e.op == 23) = true ∧ ((k : Int) == 0) = false) := by
                unfold watch allOps at hw
                simp only [beq_iff_eq, beq_eq_false_iff_ne]; omega
              clear hw hxk hxm HL
              obtain ⟨o1, o2, o3, o4, o5 | ⟨o5, o6⟩⟩ := hw'
              all_goals
                go_wp2_with fail
                go_roundw
                case rel => exact ⟨k + 1, by omega, by go_num, by rw [HB.out], hbox⟩
                case measure => simp [intOf]; omega
          · obtain rfl : k = e.args.length := by omega
            have fR0 := bR.frozen 0
            have fR1 := bR.frozen 1
            have fR2 := bR.frozen 2
            have cR0 := bR.cell 0
            have cR1 := bR.cell 1
            have cR2 := bR.cell 2
            simp only [List.getElem?_toArray, List.getElem?_cons_zero, List.getElem?_cons_succ] at cR0 cR1 cR2
            generalize badTo e e.args.length = Bd at *
            cases Bd
            · go_wp2_with fail
              refine bodyPost_ret (v := .agg #[.int .i64 0, .int .i64 0, .int .i64 0]) (by simp [results, Try.results18, go_sem, cR0, cR1, cR2]) rfl ⟨by rw [HL.out]; rfl, ?_⟩
              repeat (first | exact hbel | refine Below.drew ?_ | refine Below.setCell ?_ (by simp) _)
            · go_wp2_with fail
              refine bodyPost_ret (v := .agg #[.int .i64 31, .int .i64 e.line, .int .i64 e.col]) (by simp [results, Try.results18, go_sem, cR0, cR1, cR2]) rfl ⟨by rw [HL.out]; rfl, ?_⟩
              repeat (first | exact hbel | refine Below.drew ?_ | refine Below.setCell ?_ (by simp) _)
/-- the two are one -/
theorem late_is (e : Ex) : lateR e = (((rwrong e).err == 0) && rlate e, rwrong e) := by
  induction e using Ex.ind with
  | h e ih =>
    by_cases hall : ∀ j, j < e.args.length → ∀ x, e.args[j]? = some x → (rwrong x).err = 0
    · have h1 : ∀ j, j < e.args.length → ∀ x, e.args[j]? = some x → (lateR x).2.err = 0 := fun j hj x hx => by rw [ih x (List.mem_of_getElem? hx)]; exact hall j hj x hx
      have hmap : e.args.map (fun x => (lateR x).1) = e.args.map rlate := List.map_congr_left fun x hx => by
        obtain ⟨j, hj⟩ := List.getElem?_of_mem hx
        rw [ih x hx, hall j (List.getElem?_eq_some_iff.1 hj).1 x hj]; rfl
      have hs : someTo e e.args.length = e.args.any rlate := by
        unfold someTo
        rw [List.take_length, List.any_map]
        have : (e.args.map (fun x => (lateR x).1)).any id = (e.args.map rlate).any id := by rw [hmap]
        rw [List.any_map, List.any_map] at this
        exact this
      have hf : firstTo e e.args.length = headB (e.args.map rlate) := by
        unfold firstTo
        rw [List.take_length, List.map_map]
        exact congrArg headB hmap
      rw [late_end h1, wrong_end hall, rlate_eq, hs, hf]
      unfold lateEnd badTo rlateC allOps
      rw [List.take_length, List.any_map]
      by_cases ho : e.op = 21 ∨ e.op = 22 ∨ e.op = 26 ∨ e.op = 4
      · rw [if_pos ho, if_pos ho]
        by_cases h21 : e.op = 21
        · rw [show (e.op == 21) = true by simp [h21], if_pos h21]
          cases e.args.any rlate <;> rfl
        · have h4 : e.op = 23 ∨ e.op = 22 ∨ e.op = 26 ∨ e.op = 4 := by omega
          rw [show (e.op == 21) = false by simp [h21], if_neg h21, if_pos h4]
          cases e.args.any rlate <;> rfl
      · have h21 : ¬ e.op = 21 := by omega
        rw [if_neg ho, if_neg ho, if_neg h21]
        by_cases h23 : e.op = 23
        · have h4 : e.op = 23 ∨ e.op = 22 ∨ e.op = 26 ∨ e.op = 4 := .inl h23
          rw [if_pos h23, if_pos h23, if_pos h4]
          cases headB (e.args.map rlate) <;> rfl
        · have h4 : ¬ (e.op = 23 ∨ e.op = 22 ∨ e.op = 26 ∨ e.op = 4) := by omega
          rw [if_neg h23, if_neg h23, if_neg h4]
          rfl
    · have : ∃ k, k < e.args.length ∧ (∀ j, j < k → ∀ x, e.args[j]? = some x → (rwrong x).err = 0) ∧ ∃ x, e.args[k]? = some x ∧ (rwrong x).err ≠ 0 := by
        rcases Classical.em (∃ k, k < e.args.length ∧ (∀ j, j < k → ∀ x, e.args[j]? = some x → (rwrong x).err = 0) ∧ ∃ x, e.args[k]? = some x ∧ (rwrong x).err ≠ 0) with h | h
        · exact h
        · exfalso
          apply hall
          intro j
          induction j using Nat.strongRecOn with
          | ind j ihj =>
            intro hj x hx
            rcases Classical.em ((rwrong x).err = 0) with h0 | h0
            · exact h0
            · exact absurd ⟨j, hj, fun i hi y hy => ihj i hi (by omega) y hy, x, hx, h0⟩ h
      obtain ⟨k, hk, h1, x, hx, hne⟩ := this
      have hxm := List.mem_of_getElem? hx
      have e1 : (lateR x).2 = rwrong x := by rw [ih x hxm]
      rw [wrong_stop h1 hx hne, late_stop (fun j hj y hy => by rw [ih y (List.mem_of_getElem? hy)]; exact h1 j hj y hy) hx (by rw [e1]; exact hne), e1]
      have : ((rwrong x).err == 0) = false := by simp [hne]
      rw [this]; rfl
end Go.Proofs.Ytolabbnchmmckaa
