/-
  The contracts of tree.Parts, names and of tompionref12.Parts.
-/
import Derived.Test.YtolabbnchmmckaaExMem
import Derived.Test.YtolabbnchmmckaaRefToken
namespace Go.Proofs.Ytolabbnchmmckaa
open Go.RowKit Nm

def partsZ (op : Int) : Int :=
  if op = 1 ∨ op = 2 ∨ op = 3 then 0 else if op = 4 then -1 else if op = 5 ∨ op = 6 ∨ op = 21 ∨ op = 24 ∨ op = 25 then 1
  else if 7 ≤ op ∧ op ≤ 20 ∨ op = 22 ∨ op = 23 ∨ op = 26 then 2 else if op = 27 then 3 else -2
theorem ret_i64 {a b : Int} (h : a = b) : Ending.returned (.int .i64 a) = .returned (.int .i64 b) := by rw [h]
set_option maxHeartbeats 4000000 in
theorem parts_any (op : Int) (w : World) :
    Calls Try.prog 127 #[.int .i64 op] w fun e w' => e = .returned (.int .i64 (partsZ op)) ∧ w = w' := by
  go_enter Try.func127, Try.ntmps127
  go_wp2
  all_goals
    go_ret
    refine ⟨ret_i64 ?_, rfl⟩
    (try simp only [beq_iff_eq, beq_eq_false_iff_ne] at *)
    unfold partsZ
    repeat' split
    all_goals omega
def partsL : List Int := [0, 0, 0, -1, 1, 1, 2, 2, 2, 2, 2, 2, 2, 2, 2, 2, 2, 2, 2, 2, 1, 2, 2, 1, 1, 2, 3]
theorem partsL_eq (op : Int) (h1 : 1 ≤ op) (h2 : op ≤ 27) : partsL[(op - 1).toNat]? = some (partsZ op) := by
  rcases (by omega : op = 1 ∨ op = 2 ∨ op = 3 ∨ op = 4 ∨ op = 5 ∨ op = 6 ∨ op = 7 ∨ op = 8 ∨ op = 9 ∨ op = 10 ∨ op = 11 ∨ op = 12 ∨ op = 13 ∨ op = 14 ∨ op = 15 ∨ op = 16 ∨ op = 17 ∨ op = 18 ∨ op = 19 ∨ op = 20 ∨ op = 21 ∨ op = 22 ∨ op = 23 ∨ op = 24 ∨ op = 25 ∨ op = 26 ∨ op = 27) with rfl | rfl | rfl | rfl | rfl | rfl | rfl | rfl | rfl | rfl | rfl | rfl | rfl | rfl | rfl | rfl | rfl | rfl | rfl | rfl | rfl | rfl | rfl | rfl | rfl | rfl | rfl
  all_goals decide +kernel
theorem parts_cell (op : Int) (h1 : 1 ≤ op) (h2 : op ≤ 27) : (partsL.map (Value.int .i64))[op.toNat - 1]? = some (.int .i64 (partsZ op)) := by
  rw [List.getElem?_map, show op.toNat - 1 = (op - 1).toNat by omega, partsL_eq op h1 h2]
  rfl
theorem rparts_any (op : Int) (w : World) :
    Calls Try.prog 97 #[.int .i64 op] w fun e w' => e = .returned (.int .i64 (partsZ op)) ∧ Below w.heap.size w w' := by
  by_cases h1 : 1 ≤ op ∧ op ≤ 27
  · obtain ⟨h1, h2⟩ := h1
    have hc : [Value.int .i64 0, Value.int .i64 0, Value.int .i64 0, Value.int .i64 (-1), Value.int .i64 1, Value.int .i64 1, Value.int .i64 2, Value.int .i64 2, Value.int .i64 2, Value.int .i64 2, Value.int .i64 2, Value.int .i64 2, Value.int .i64 2, Value.int .i64 2, Value.int .i64 2, Value.int .i64 2, Value.int .i64 2, Value.int .i64 2, Value.int .i64 2, Value.int .i64 2, Value.int .i64 1, Value.int .i64 2, Value.int .i64 2, Value.int .i64 1, Value.int .i64 1, Value.int .i64 2, Value.int .i64 3][op.toNat - 1]? = some (.int .i64 (partsZ op)) := parts_cell op h1 h2
    go_enter Try.func97, Try.ntmps97
    go_wp2
    go_ret
    exact ⟨rfl, (Below.refl _ _).alloc (Nat.le_refl _) _⟩
  · have HE := Lib.hid (show partsZ op = -2 from by unfold partsZ; repeat' split; all_goals omega)
    go_enter Try.func97, Try.ntmps97
    go_wp2
    all_goals
      first | (exfalso; omega) | (go_ret; exact ⟨ret_i64 HE.out.symm, Below.refl _ _⟩)
def namesB (op : Int) : Bool := decide (op = 3 ∨ op = 24 ∨ op = 25 ∨ op = 26)
theorem names_any (op : Int) (w : World) :
    Calls Try.prog 99 #[.int .i64 op] w fun e w' => e = .returned (.bool (namesB op)) ∧ w = w' := by
  go_enter Try.func99, Try.ntmps99
  go_wp2
  all_goals
    go_ret
    refine ⟨ret_bool ?_, rfl⟩
    rw [Bool.eq_iff_iff]
    simp [namesB]
    omega
end Go.Proofs.Ytolabbnchmmckaa
