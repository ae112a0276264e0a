/-
  slices.Contains of a row of bools.
-/
import Derived.Test.YtbjaejgechadpaaLookF
namespace Go.Proofs.Ytbjaejgechadpaa
open Go.RowKit Vf
set_option maxRecDepth 100000 in
set_option maxHeartbeats 4000000 in
theorem index_bool {w : World} {O : Nat} {l : List Bool} {t : TypeId} (h : Row w O (l.map Value.bool).toArray t) (hl : l.length ≤ 1600) :
    Calls Try.prog 123 #[.slice (some ⟨O, 0, none⟩) l.length l.length, .bool false] w fun e w' => (∃ r : Int, e = .returned (.int .i64 r) ∧ (0 ≤ r ↔ ¬ ∀ b ∈ l, b = true)) ∧ w = w' := by
  go_enter Try.func123, Try.ntmps123
  go_wp2_with fail
  go_loopw [8] (fun i wr => ∃ k : Nat, k ≤ l.length ∧ i = .int .i64 k ∧ Hid (∀ j, j < k → l.getD j false = true) ∧ w = wr) (fun i _ => l.length - (intOf i).toNat)
  case atStart => exact ⟨0, Nat.zero_le _, rfl, fun j h => absurd h (by omega), rfl⟩
  case round =>
    obtain ⟨k, hk, rfl, HN, rfl⟩ := hrel
    by_cases hlt : k < l.length
    · have c0 := out_cell h hlt
      generalize hV : l.getD k false = V at *
      have HV := Lib.hid hV
      have HM := Lib.hid (List.getElem_mem hlt)
      have HG := Lib.hid (show l.getD k false = l[k] by rw [List.getD_eq_getElem?_getD, List.getElem?_eq_getElem hlt]; rfl)
      clear hV
      cases V
      · go_wp2_with fail
        go_ret
        refine ⟨⟨_, rfl, ?_⟩, rfl⟩
        refine ⟨fun _ ha => ?_, fun _ => by omega⟩
        have := ha _ HM.out
        rw [← HG.out, HV.out] at this
        exact absurd this (by decide)
      · have HN' := Lib.hid (show ∀ j, j < k + 1 → l.getD j false = true from fun j hj => by
          by_cases e : j = k
          · rw [e]; exact HV.out
          · exact HN.out j (by omega))
        go_wp2_with fail
        go_roundw
        case rel => exact ⟨k + 1, by omega, by go_num, HN', trivial⟩
        case measure => simp [intOf]; omega
    · obtain rfl : k = l.length := by omega
      go_wp2_with fail
      go_ret
      refine ⟨⟨_, rfl, ?_⟩, rfl⟩
      refine ⟨fun h0 => absurd h0 (by decide), fun hn => absurd (fun b hb => ?_) hn⟩
      obtain ⟨j, hj, rfl⟩ := List.getElem_of_mem hb
      have := HN.out j hj
      rwa [List.getD_eq_getElem?_getD, List.getElem?_eq_getElem hj] at this
set_option maxRecDepth 100000 in
theorem contains_bool {w : World} {O : Nat} {l : List Bool} {t : TypeId} (h : Row w O (l.map Value.bool).toArray t) (hl : l.length ≤ 1600) :
    Calls Try.prog 91 #[.slice (some ⟨O, 0, none⟩) l.length l.length, .bool false] w fun e w' => e = .returned (.bool (cB (¬ ∀ b ∈ l, b = true))) ∧ w = w' := by
  have HI := Lib.hid (index_bool h hl)
  clear h
  go_enter Try.func91, Try.ntmps91
  go_wp2_with fail
  refine HI.out.mono ?_
  rintro e w' ⟨⟨r, rfl, hr⟩, rfl⟩
  have HR := Lib.hid hr
  clear hr
  go_wp2_with fail
  go_ret
  exact ⟨ret_bool (by rw [← cB_congr HR.out]; by_cases c : 0 ≤ r <;> simp [cB, c]), rfl⟩
end Go.Proofs.Ytbjaejgechadpaa
