/-
  NARROWER THAN 'FOR EVERY INPUT', by the rows' own cells (each row's printed sentence says how): OnsetCheck: loops · CauseRow: loops · CallsBehind: loops.
  DERIVED. THE GIVEN ROWS OF THIS SEAT. 3 by the template 'for every input the law returns true; each argument reads behind the call as it read before'; 0 by the template 'total and deterministic' (their statements: YthlhcahghonhhaaTotals.lean).
  GIVEN WITH THE SEED: the statements are not yours to turn. If you find one false, say at which input.
  Laid BY PROGRAM, IN A SANDBOX (cutbox-rows.mjs): the forced cells as the released guide's own fill.sh prints them over the translation 3daa462b71272b45… (all of the seat's roots in one cut). By AI agents, Wed Nov 11 2026. No macro, syntax, notation, axiom, sorry.
-/
import Derived.Test.YthlhcahghonhhaaChecked
import GoSem.Claim
import GoSem.ClaimJoined
import GoSem.ClaimMapViews
import Derived.JoinedTies
import Derived.KernelRfl
namespace Go.Proofs.Ythlhcahghonhhaa
/- THE CELL 'sum', in the pinned program and in every row, IS THE sha256 OF THE DUMP (.gsa) THAT YthlhcahghonhhaaProg.lean LOADS. Nothing in Lean hashes anything: it is a label: what it is worth is what the hold of that sum in a sandbox is worth. -/
noncomputable def Try.pinned : Pinned := { name := "ythlhcahghonhhaa", sum := "3daa462b71272b450bfdc913b1dfbe40a46766b8922fb3c1552e1222d6de68e9", checked := Try.checked }
namespace Rows
def none {H : Type} : Left H := { results := [], args := [] }

/-- 'tompionlaw19.OnsetCheck': WHATEVER THE INPUT: true; the input reads as it did. -/
def onsetCheckSpec : ChangeSpec := { name := "onsetCheck", fn := fun _ => fun
  | [d] => { results := [.lit (.bool true)], args := [d] }
  | _ => none }
def onsetCheckRow : OpenClaim := { program := "ythlhcahghonhhaa", sum := "3daa462b71272b450bfdc913b1dfbe40a46766b8922fb3c1552e1222d6de68e9", func := "tompion/tompionlaw19.OnsetCheck", spec := "onsetCheck", unfollowed := true, recurses := true, loops := true, apart := false }
def OnsetCheckSaid : Prop := onsetCheckRow.holds Try.pinned (OpenSpec.ofChange onsetCheckSpec)

/-- ITS FALSE NEIGHBOUR: 'it returns false'. Refute it at one input. -/
def onsetCheckWrong : ChangeSpec := { name := "onsetCheck", fn := fun _ => fun
  | [d] => { results := [.lit (.bool false)], args := [d] }
  | _ => none }
def OnsetCheckWrongFalsely : Prop := onsetCheckRow.holds Try.pinned (OpenSpec.ofChange onsetCheckWrong)

/-- 'tompionlaw20.CauseRow': WHATEVER THE INPUT: true; the input reads as it did. -/
def causeRowSpec : ChangeSpec := { name := "causeRow", fn := fun _ => fun
  | [d] => { results := [.lit (.bool true)], args := [d] }
  | _ => none }
def causeRowRow : OpenClaim := { program := "ythlhcahghonhhaa", sum := "3daa462b71272b450bfdc913b1dfbe40a46766b8922fb3c1552e1222d6de68e9", func := "tompion/tompionlaw20.CauseRow", spec := "causeRow", unfollowed := true, recurses := true, loops := true, apart := false }
def CauseRowSaid : Prop := causeRowRow.holds Try.pinned (OpenSpec.ofChange causeRowSpec)

/-- ITS FALSE NEIGHBOUR: 'it returns false'. Refute it at one input. -/
def causeRowWrong : ChangeSpec := { name := "causeRow", fn := fun _ => fun
  | [d] => { results := [.lit (.bool false)], args := [d] }
  | _ => none }
def CauseRowWrongFalsely : Prop := causeRowRow.holds Try.pinned (OpenSpec.ofChange causeRowWrong)

/-- 'tompionlaw17.CallsBehind': WHATEVER THE INPUT: true; the input reads as it did. -/
def callsBehindSpec : ChangeSpec := { name := "callsBehind", fn := fun _ => fun
  | [d] => { results := [.lit (.bool true)], args := [d] }
  | _ => none }
def callsBehindRow : OpenClaim := { program := "ythlhcahghonhhaa", sum := "3daa462b71272b450bfdc913b1dfbe40a46766b8922fb3c1552e1222d6de68e9", func := "tompion/tompionlaw17.CallsBehind", spec := "callsBehind", unfollowed := true, recurses := true, loops := true, apart := false }
def CallsBehindSaid : Prop := callsBehindRow.holds Try.pinned (OpenSpec.ofChange callsBehindSpec)

/-- ITS FALSE NEIGHBOUR: 'it returns false'. Refute it at one input. -/
def callsBehindWrong : ChangeSpec := { name := "callsBehind", fn := fun _ => fun
  | [d] => { results := [.lit (.bool false)], args := [d] }
  | _ => none }
def CallsBehindWrongFalsely : Prop := callsBehindRow.holds Try.pinned (OpenSpec.ofChange callsBehindWrong)

/- THE SECOND FORM. 'bulk': how many values and letters a reading holds, each counted each time it is reached (what is shared counts as often as it is met; a slice's spare places count too). A statement '..UptoSaid' is the law's where the arguments, and the package variables that the reading takes, are together of bulk at most 1048576: NARROWER than '..Said'. Prove '..Said' where nothing that the law and all that it calls make is longer than what came in: it says more and counts as full. Else prove '..UptoSaid'. A law counts once. -/
mutual
def uptoBulk {H : Type} : DataW H → Nat
  | .lit (.string bytes) => bytes.length + 1
  | .lit _ => 1
  | .nil => 1
  | .ptr d => uptoBulk d + 1
  | .slice elems spare => uptoBulkAll elems + uptoBulkAll spare + 1
  | .agg parts => uptoBulkAll parts + 1
  | .iface _ d => uptoBulk d + 1
  | .map entries => uptoBulkEntries entries + 1
  | .held _ => 1
def uptoBulkAll {H : Type} : List (DataW H) → Nat
  | [] => 0
  | d :: r => uptoBulk d + uptoBulkAll r
def uptoBulkEntries {H : Type} : List (Lit × DataW H) → Nat
  | [] => 0
  | x :: r => uptoBulkEntry x + uptoBulkEntries r
def uptoBulkEntry {H : Type} : Lit × DataW H → Nat
  | (.string bytes, d) => bytes.length + uptoBulk d + 1
  | (_, d) => uptoBulk d + 1
 end
def uptoSmall : (H : Type) → List (DataW H) → Bool := fun _ ds => decide (uptoBulkAll ds ≤ 1048576)
def OpenSpec.upto (s : _root_.Go.ChangeSpec) : _root_.Go.OpenSpec := { _root_.Go.OpenSpec.ofChange s with cond := some uptoSmall }

/-- 'tompionlaw19.OnsetCheck', WHERE WHAT IT READS IS OF BULK AT MOST 1048576: true; the input reads as it did. -/
def onsetCheckUptoRow : OpenClaim := { program := "ythlhcahghonhhaa", sum := "3daa462b71272b450bfdc913b1dfbe40a46766b8922fb3c1552e1222d6de68e9", func := "tompion/tompionlaw19.OnsetCheck", spec := "onsetCheck", unfollowed := true, recurses := true, loops := true, apart := false, narrowed := true }
def OnsetCheckUptoSaid : Prop := onsetCheckUptoRow.holds Try.pinned (OpenSpec.upto onsetCheckSpec)

/-- 'tompionlaw20.CauseRow', WHERE WHAT IT READS IS OF BULK AT MOST 1048576: true; the input reads as it did. -/
def causeRowUptoRow : OpenClaim := { program := "ythlhcahghonhhaa", sum := "3daa462b71272b450bfdc913b1dfbe40a46766b8922fb3c1552e1222d6de68e9", func := "tompion/tompionlaw20.CauseRow", spec := "causeRow", unfollowed := true, recurses := true, loops := true, apart := false, narrowed := true }
def CauseRowUptoSaid : Prop := causeRowUptoRow.holds Try.pinned (OpenSpec.upto causeRowSpec)

/-- 'tompionlaw17.CallsBehind', WHERE WHAT IT READS IS OF BULK AT MOST 1048576: true; the input reads as it did. -/
def callsBehindUptoRow : OpenClaim := { program := "ythlhcahghonhhaa", sum := "3daa462b71272b450bfdc913b1dfbe40a46766b8922fb3c1552e1222d6de68e9", func := "tompion/tompionlaw17.CallsBehind", spec := "callsBehind", unfollowed := true, recurses := true, loops := true, apart := false, narrowed := true }
def CallsBehindUptoSaid : Prop := callsBehindUptoRow.holds Try.pinned (OpenSpec.upto callsBehindSpec)

end Rows
end Go.Proofs.Ythlhcahghonhhaa
