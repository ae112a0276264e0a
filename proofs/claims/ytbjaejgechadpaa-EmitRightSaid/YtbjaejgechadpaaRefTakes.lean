/-
  The contract of tompionref28.Takes.
-/
import Derived.Test.YtbjaejgechadpaaRefTakesA
import Derived.Test.YtbjaejgechadpaaRefTakesB
namespace Go.Proofs.Ytbjaejgechadpaa
open Go.RowKit Vf
section
variable {p : Pg} {vi vo vc vd : Value}
theorem rtakes_any {i : Nat} {x : In5} (w : World) (hx : p.code[i]? = some x) (h : PgAt w w.heap.size p vi vo vc vd) (ho : instrOk x) :
    Calls Try.prog 50 #[pgV p vi vo vc vd, .int .i64 i] w fun e w' => e = .returned (.bool (cB (takesOk p (pairs p i) i x))) ∧ Below w.heap.size w w' := by
  have hi : i ≤ p.code.length := Nat.le_of_lt (List.getElem?_eq_some_iff.1 hx).1
  by_cases h1 : 5 ≤ x.op ∧ x.op ≤ 20
  · exact takes_sign hi x w hx h h1
  by_cases h2 : x.op = 1 ∨ x.op = 2 ∨ x.op = 3 ∨ x.op = 21 ∨ x.op = 28
  · exact takes_small hi x w hx h h2
  by_cases h3 : x.op = 27
  · exact takes_27 hi x w hx h h3
  by_cases h4 : x.op = 30 ∨ x.op = 31
  · exact takes_30 hi x w hx h h4
  by_cases h5 : x.op = 29
  · exact takes_29 hi x w hx h h5
  have h6 : x.op = 32 := by unfold instrOk hasA hasAB hasABC at ho; omega
  exact takes_32 hi x w hx h h6
end
end Go.Proofs.Ytbjaejgechadpaa
