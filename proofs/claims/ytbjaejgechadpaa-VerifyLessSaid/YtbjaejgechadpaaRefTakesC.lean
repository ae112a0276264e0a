/-
  What is said of tompionref28.Takes.
-/
import Derived.Test.YtbjaejgechadpaaRefKind
namespace Go.Proofs.Ytbjaejgechadpaa
open Go.RowKit Vf
def TakesC (p : Pg) (vi vo vc vd : Value) (i : Nat) (c : In5 → Prop) : Prop := ∀ (x : In5) (w : World), p.code[i]? = some x → PgAt w w.heap.size p vi vo vc vd → c x →
  Calls Try.prog 50 #[pgV p vi vo vc vd, .int .i64 i] w fun e w' => e = .returned (.bool (cB (takesOk p (pairs p i) i x))) ∧ Below w.heap.size w w'
end Go.Proofs.Ytbjaejgechadpaa
