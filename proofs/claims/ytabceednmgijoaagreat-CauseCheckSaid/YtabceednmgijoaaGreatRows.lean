/-
  NARROWER THAN 'FOR EVERY INPUT', by the rows' own cells (each row's printed sentence says how): CauseCheck: loops · CallsCheck: loops · CallsOrder: loops.
  DERIVED. THE GIVEN ROWS OF THIS SEAT. 3 by the template 'for every input the law returns true; each argument reads behind the call as it read before'; 0 by the template 'total and deterministic' (their statements: YtabceednmgijoaaGreatTotals.lean).
  GIVEN WITH THE SEED: the statements are not yours to turn. If you find one false, say at which input.
  Laid BY PROGRAM, IN A SANDBOX (cutbox-rows.mjs): the forced cells as the released guide's own fill.sh prints them over the translation c9459d614ff75cb1… (all of the seat's roots in one cut). By AI agents, Wed Nov 11 2026. No macro, syntax, notation, axiom, sorry.
-/
import Derived.Test.YtabceednmgijoaaGreatChecked
import GoSem.Claim
import GoSem.ClaimJoined
import GoSem.ClaimMapViews
import Derived.JoinedTies
import Derived.KernelRfl
namespace Go.Proofs.YtabceednmgijoaaGreat
/- THE CELL 'sum', in the pinned program and in every row, IS THE sha256 OF THE DUMP (.gsa) THAT YtabceednmgijoaaGreatProg.lean LOADS. Nothing in Lean hashes anything: it is a label: what it is worth is what the hold of that sum in a sandbox is worth. -/
noncomputable def Tryz.pinned : Pinned := { name := "ytabceednmgijoaagreat", sum := "c9459d614ff75cb1c2648d4f3554ed6a363483dbada33833572f8ed303a87b99", checked := Tryz.checked }
namespace Rows
def none {H : Type} : Left H := { results := [], args := [] }

/-- 'tompionlaw20.CauseCheck': WHATEVER THE INPUT: true; the input reads as it did. -/
def causeCheckSpec : ChangeSpec := { name := "causeCheck", fn := fun _ => fun
  | [d] => { results := [.lit (.bool true)], args := [d] }
  | _ => none }
def causeCheckRow : OpenClaim := { program := "ytabceednmgijoaagreat", sum := "c9459d614ff75cb1c2648d4f3554ed6a363483dbada33833572f8ed303a87b99", func := "tompion/tompionlaw20.CauseCheck", spec := "causeCheck", unfollowed := true, recurses := true, loops := true, apart := false }
def CauseCheckSaid : Prop := causeCheckRow.holds Tryz.pinned (OpenSpec.ofChange causeCheckSpec)

/-- ITS FALSE NEIGHBOUR: 'it returns false'. Refute it at one input. -/
def causeCheckWrong : ChangeSpec := { name := "causeCheck", fn := fun _ => fun
  | [d] => { results := [.lit (.bool false)], args := [d] }
  | _ => none }
def CauseCheckWrongFalsely : Prop := causeCheckRow.holds Tryz.pinned (OpenSpec.ofChange causeCheckWrong)

/-- 'tompionlaw17.CallsCheck': WHATEVER THE INPUT: true; the input reads as it did. -/
def callsCheckSpec : ChangeSpec := { name := "callsCheck", fn := fun _ => fun
  | [d] => { results := [.lit (.bool true)], args := [d] }
  | _ => none }
def callsCheckRow : OpenClaim := { program := "ytabceednmgijoaagreat", sum := "c9459d614ff75cb1c2648d4f3554ed6a363483dbada33833572f8ed303a87b99", func := "tompion/tompionlaw17.CallsCheck", spec := "callsCheck", unfollowed := true, recurses := true, loops := true, apart := false }
def CallsCheckSaid : Prop := callsCheckRow.holds Tryz.pinned (OpenSpec.ofChange callsCheckSpec)

/-- ITS FALSE NEIGHBOUR: 'it returns false'. Refute it at one input. -/
def callsCheckWrong : ChangeSpec := { name := "callsCheck", fn := fun _ => fun
  | [d] => { results := [.lit (.bool false)], args := [d] }
  | _ => none }
def CallsCheckWrongFalsely : Prop := callsCheckRow.holds Tryz.pinned (OpenSpec.ofChange callsCheckWrong)

/-- 'tompionlaw17.CallsOrder': WHATEVER THE INPUT: true; the input reads as it did. -/
def callsOrderSpec : ChangeSpec := { name := "callsOrder", fn := fun _ => fun
  | [d] => { results := [.lit (.bool true)], args := [d] }
  | _ => none }
def callsOrderRow : OpenClaim := { program := "ytabceednmgijoaagreat", sum := "c9459d614ff75cb1c2648d4f3554ed6a363483dbada33833572f8ed303a87b99", func := "tompion/tompionlaw17.CallsOrder", spec := "callsOrder", unfollowed := true, recurses := true, loops := true, apart := false }
def CallsOrderSaid : Prop := callsOrderRow.holds Tryz.pinned (OpenSpec.ofChange callsOrderSpec)

/-- ITS FALSE NEIGHBOUR: 'it returns false'. Refute it at one input. -/
def callsOrderWrong : ChangeSpec := { name := "callsOrder", fn := fun _ => fun
  | [d] => { results := [.lit (.bool false)], args := [d] }
  | _ => none }
def CallsOrderWrongFalsely : Prop := callsOrderRow.holds Tryz.pinned (OpenSpec.ofChange callsOrderWrong)

/- THE SECOND FORM. 'bulk': how many values and letters a reading holds, each counted each time it is reached (what is shared counts as often as it is met; a slice's spare places count too). A statement '..UptoSaid' is the law's where the arguments, and the package variables that the reading takes, are together of bulk at most 1048576: NARROWER than '..Said'. Prove '..Said' where nothing that the law and all that it calls make is longer than what came in: it says more and counts as full. Else prove '..UptoSaid'. A law counts once. -/
mutual
def uptoBulk {H : Type} : DataW H → Nat
  | .lit (.string bytes) => bytes.length + 1
  | .lit _ => 1
  | .nil => 1
  | .ptr d => uptoBulk d + 1
  | .slice elems spare => uptoBulkAll elems + uptoBulkAll spare + 1
  | .agg parts => uptoBulkAll parts + 1
  | .iface _ d => uptoBulk d + 1
  | .map entries => uptoBulkEntries entries + 1
  | .held _ => 1
def uptoBulkAll {H : Type} : List (DataW H) → Nat
  | [] => 0
  | d :: r => uptoBulk d + uptoBulkAll r
def uptoBulkEntries {H : Type} : List (Lit × DataW H) → Nat
  | [] => 0
  | x :: r => uptoBulkEntry x + uptoBulkEntries r
def uptoBulkEntry {H : Type} : Lit × DataW H → Nat
  | (.string bytes, d) => bytes.length + uptoBulk d + 1
  | (_, d) => uptoBulk d + 1
 end
def uptoSmall : (H : Type) → List (DataW H) → Bool := fun _ ds => decide (uptoBulkAll ds ≤ 1048576)
def OpenSpec.upto (s : _root_.Go.ChangeSpec) : _root_.Go.OpenSpec := { _root_.Go.OpenSpec.ofChange s with cond := some uptoSmall }

/-- 'tompionlaw20.CauseCheck', WHERE WHAT IT READS IS OF BULK AT MOST 1048576: true; the input reads as it did. -/
def causeCheckUptoRow : OpenClaim := { program := "ytabceednmgijoaagreat", sum := "c9459d614ff75cb1c2648d4f3554ed6a363483dbada33833572f8ed303a87b99", func := "tompion/tompionlaw20.CauseCheck", spec := "causeCheck", unfollowed := true, recurses := true, loops := true, apart := false, narrowed := true }
def CauseCheckUptoSaid : Prop := causeCheckUptoRow.holds Tryz.pinned (OpenSpec.upto causeCheckSpec)

/-- 'tompionlaw17.CallsCheck', WHERE WHAT IT READS IS OF BULK AT MOST 1048576: true; the input reads as it did. -/
def callsCheckUptoRow : OpenClaim := { program := "ytabceednmgijoaagreat", sum := "c9459d614ff75cb1c2648d4f3554ed6a363483dbada33833572f8ed303a87b99", func := "tompion/tompionlaw17.CallsCheck", spec := "callsCheck", unfollowed := true, recurses := true, loops := true, apart := false, narrowed := true }
def CallsCheckUptoSaid : Prop := callsCheckUptoRow.holds Tryz.pinned (OpenSpec.upto callsCheckSpec)

/-- 'tompionlaw17.CallsOrder', WHERE WHAT IT READS IS OF BULK AT MOST 1048576: true; the input reads as it did. -/
def callsOrderUptoRow : OpenClaim := { program := "ytabceednmgijoaagreat", sum := "c9459d614ff75cb1c2648d4f3554ed6a363483dbada33833572f8ed303a87b99", func := "tompion/tompionlaw17.CallsOrder", spec := "callsOrder", unfollowed := true, recurses := true, loops := true, apart := false, narrowed := true }
def CallsOrderUptoSaid : Prop := callsOrderUptoRow.holds Tryz.pinned (OpenSpec.upto callsOrderSpec)

end Rows
end Go.Proofs.YtabceednmgijoaaGreat
