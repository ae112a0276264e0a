/-
  ClockFits: the walk, from arguments that read as data.
-/
import Derived.Test.YtolabbnchmmckaaClockFitsWalk
import Derived.Test.YtolabbnchmmckaaOpenS
namespace Go.Proofs.Ytolabbnchmmckaa.clockFits
open Go.RowKit
theorem walk (n : Nd) (v : Value) (e : Ex) (A : Option Addr) (cap : Nat) (l : List Lt) (v2 : Value) (w : World) (h : NdIs w n v) (ok : ExOk e) (len : e.args.length ≤ cap) (max : cap ≤ maxLen) (hx : IsExs w w.heap.size A e.args) (h2 : SlV w w.heap.size 2 isLit v2 l) :
    Calls Try.prog 5 #[v, exV e A cap, v2] w fun r w' => r = .returned (.bool true) ∧ Below w.heap.size w w' := by
  obtain ⟨a, rfl, ha⟩ := h
  obtain ⟨A2, c2, rfl, h3, h4, h5⟩ := h2
  exact clockFits_walk n a e A cap l A2 c2 w ha ok len max hx h3 h4 h5
end Go.Proofs.Ytolabbnchmmckaa.clockFits
