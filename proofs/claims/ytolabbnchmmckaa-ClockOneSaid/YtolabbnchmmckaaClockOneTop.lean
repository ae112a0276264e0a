/-
  ClockOne: the walk, from arguments that read as data.
-/
import Derived.Test.YtolabbnchmmckaaClockOneWalk
import Derived.Test.YtolabbnchmmckaaOpenT
namespace Go.Proofs.Ytolabbnchmmckaa.clockOne
open Go.RowKit
theorem walk (n : Nd) (v : Value) (e : Ex) (A : Option Addr) (cap : Nat) (l k : List Lt) (v2 : Value) (w : World) (h : NdIs w n v) (ok : ExOk e) (len : e.args.length ≤ cap) (max : cap ≤ maxLen) (hx : IsExs w w.heap.size A e.args) (h2 : Lits2Is w l k v2) :
    Calls Try.prog 6 #[v, exV e A cap, v2] w fun r w' => r = .returned (.bool true) ∧ Below w.heap.size w w' := by
  obtain ⟨a, rfl, ha⟩ := h
  obtain ⟨A1, c1, A2, c2, rfl, h3, h4, h5, h6, h7, h8⟩ := h2
  exact clockOne_walk n a e A cap l A1 c1 k A2 c2 w ha ok len max hx h3 h4 h5 h6 h7 h8
end Go.Proofs.Ytolabbnchmmckaa.clockOne
