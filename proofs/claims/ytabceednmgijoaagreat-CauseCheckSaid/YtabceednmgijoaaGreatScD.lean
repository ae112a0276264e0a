/-
  Rows of texts and of conditions: where one is, whether two are one.
-/
import Derived.Test.YtabceednmgijoaaGreatScC
import Derived.Laws.StructEq
import Derived.Deep.DrawnRows
namespace Go.Proofs.YtabceednmgijoaaGreat
open Go.RowKit
attribute [local go_sem ↓] Go.wp_at_zero Go.wp_at_succ
set_option maxRecDepth 100000 in
set_option maxHeartbeats 1000000 in
theorem index_str (l : List ByteArray) (nm : ByteArray) (A : Option Addr) (cap B : Nat) (w : World) (h1 : l.length ≤ cap) (h2 : cap ≤ maxLen) (h : Sl w B 1 isStr A l) :
    Calls Tryz.prog 67 #[.slice A l.length cap, .string nm] w fun e w' => e = .returned (.int .i64 (idxOf l nm)) ∧ w = w' := by
  have HS := Lib.hid h
  have hl3 : cap ≤ 9223372036854775807 := by unfold maxLen at h2; omega
  clear h
  go_enter Tryz.func67, Tryz.ntmps67
  go_wp2_with fail
  go_loop [8] (fun i => ∃ k : Nat, k ≤ l.length ∧ i = .int .i64 k ∧ Hid (∀ j, j < k → ∀ x, l[j]? = some x → x ≠ nm)) (fun i => l.length - (intOf i).toNat)
  case atStart => exact ⟨0, Nat.zero_le _, rfl, fun j h => absurd h (by omega)⟩
  case round =>
    obtain ⟨k, hk, rfl, HN⟩ := hrel
    by_cases hlt : k < l.length
    · obtain ⟨b, off, x, rfl, hb, hx, hsx, c0⟩ := HS.out.str hlt
      have HX := Lib.hid hx
      clear hx
      by_cases e : x = nm
      · have e1 := beq_yes e
        have e2 := beq_yes e.symm
        have HF := Lib.hid (idx_at HN.out (e ▸ HX.out))
        clear e
        go_wp2_with fail
        go_ret
        exact ⟨ret_int HF.out.symm, rfl⟩
      · have HN' := Lib.hid (step_upto (P := fun x => x ≠ nm) HN.out HX.out e)
        have e1 := beq_no e
        have e2 := beq_no (fun g => e (Eq.symm g))
        clear e
        go_wp2_with fail
        go_round
        case rel => exact ⟨k + 1, by omega, by go_num, HN'⟩
        case measure => simp [intOf]; omega
    · obtain rfl : k = l.length := by omega
      have HF := Lib.hid (idx_none HN.out)
      go_wp2_with fail
      go_ret
      exact ⟨ret_int HF.out.symm, rfl⟩
set_option maxRecDepth 100000 in
set_option maxHeartbeats 1000000 in
theorem in_str (l : List ByteArray) (nm : ByteArray) (A : Option Addr) (cap B : Nat) (w : World) (h1 : l.length ≤ cap) (h2 : cap ≤ maxLen) (h : Sl w B 1 isStr A l) :
    Calls Tryz.prog 35 #[.slice A l.length cap, .string nm] w fun e w' => e = .returned (.bool (cB (nm ∈ l))) ∧ w = w' := by
  have HS := Lib.hid h
  have hl3 : cap ≤ 9223372036854775807 := by unfold maxLen at h2; omega
  clear h
  go_enter Tryz.func35, Tryz.ntmps35
  go_wp2_with fail
  go_loop [5] (fun i => ∃ k : Nat, k ≤ l.length ∧ i = .int .i64 k ∧ Hid (∀ j, j < k → ∀ x, l[j]? = some x → x ≠ nm)) (fun i => l.length - (intOf i).toNat)
  case atStart => exact ⟨0, Nat.zero_le _, rfl, fun j h => absurd h (by omega)⟩
  case round =>
    obtain ⟨k, hk, rfl, HN⟩ := hrel
    by_cases hlt : k < l.length
    · obtain ⟨b, off, x, rfl, hb, hx, hsx, c0⟩ := HS.out.str hlt
      have HX := Lib.hid hx
      clear hx
      by_cases e : x = nm
      · have e1 := beq_yes e
        have e2 := beq_yes e.symm
        have HF := Lib.hid (cB_true (List.mem_of_getElem? (e ▸ HX.out)))
        clear e
        go_wp2_with fail
        go_ret
        exact ⟨ret_bool HF.out.symm, rfl⟩
      · have HN' := Lib.hid (step_upto (P := fun x => x ≠ nm) HN.out HX.out e)
        have e1 := beq_no e
        have e2 := beq_no (fun g => e (Eq.symm g))
        clear e
        go_wp2_with fail
        go_round
        case rel => exact ⟨k + 1, by omega, by go_num, HN'⟩
        case measure => simp [intOf]; omega
    · obtain rfl : k = l.length := by omega
      have HF := Lib.hid (cB_false (p := nm ∈ l) (fun hm => by obtain ⟨j, hj⟩ := List.getElem?_of_mem hm; exact HN.out j (List.getElem?_eq_some_iff.1 hj).1 nm hj rfl))
      go_wp2_with fail
      go_ret
      exact ⟨ret_bool HF.out.symm, rfl⟩
theorem lits_eq {l m : List Lt} (hl : l.length = m.length) (h : ∀ j, j < l.length → ∀ x y, l[j]? = some x → m[j]? = some y → x = y) : l = m := by
  apply List.ext_getElem hl
  intro i h1 h2
  exact h i h1 _ _ (List.getElem?_eq_getElem h1) (List.getElem?_eq_getElem h2)
end Go.Proofs.YtabceednmgijoaaGreat
