/-
  No cell of these rows narrows 'for every input' (looked for: loops, veiled, ifaces, maps, wideKeys, modest, calm, conditions, laid).
  DERIVED. THE GIVEN ROWS OF THIS SEAT. 10 by the template 'for every input the law returns true; each argument reads behind the call as it read before'; 0 by the template 'total and deterministic' (their statements: YtbjaejgechadpaaTotals.lean).
  GIVEN WITH THE SEED: the statements are not yours to turn. If you find one false, say at which input.
  Laid BY PROGRAM, IN A SANDBOX (cutbox-rows.mjs): the forced cells as the released guide's own fill.sh prints them over the translation 2b14ced132087be7… (all of the seat's roots in one cut). By AI agents, Wed Nov 11 2026. No macro, syntax, notation, axiom, sorry.
-/
import Derived.Test.YtbjaejgechadpaaChecked
import GoSem.Claim
import GoSem.ClaimJoined
import GoSem.ClaimMapViews
import Derived.JoinedTies
import Derived.KernelRfl
namespace Go.Proofs.Ytbjaejgechadpaa
/- THE CELL 'sum', in the pinned program and in every row, IS THE sha256 OF THE DUMP (.gsa) THAT YtbjaejgechadpaaProg.lean LOADS. Nothing in Lean hashes anything: it is a label: what it is worth is what the hold of that sum in a sandbox is worth. -/
noncomputable def Try.pinned : Pinned := { name := "ytbjaejgechadpaa", sum := "2b14ced132087be75cfc3eb3422bf44cfe9b742cdbee2ceed7fb91bc5cfd9437", checked := Try.checked }
namespace Rows
def none {H : Type} : Left H := { results := [], args := [] }

/-- 'tompionlaw28.VerifyRight': WHATEVER THE INPUT: true; the input reads as it did. -/
def verifyRightSpec : ChangeSpec := { name := "verifyRight", fn := fun _ => fun
  | [d] => { results := [.lit (.bool true)], args := [d] }
  | _ => none }
def verifyRightRow : OpenClaim := { program := "ytbjaejgechadpaa", sum := "2b14ced132087be75cfc3eb3422bf44cfe9b742cdbee2ceed7fb91bc5cfd9437", func := "tompion/tompionlaw28.VerifyRight", spec := "verifyRight", recurses := true, apart := false }
def VerifyRightSaid : Prop := verifyRightRow.holds Try.pinned (OpenSpec.ofChange verifyRightSpec)

/-- ITS FALSE NEIGHBOUR: 'it returns false'. Refute it at one input. -/
def verifyRightWrong : ChangeSpec := { name := "verifyRight", fn := fun _ => fun
  | [d] => { results := [.lit (.bool false)], args := [d] }
  | _ => none }
def VerifyRightWrongFalsely : Prop := verifyRightRow.holds Try.pinned (OpenSpec.ofChange verifyRightWrong)

/-- 'tompionlaw28.VerifyLess': WHATEVER THE INPUT: true; the input reads as it did. -/
def verifyLessSpec : ChangeSpec := { name := "verifyLess", fn := fun _ => fun
  | [d1, d2] => { results := [.lit (.bool true)], args := [d1, d2] }
  | _ => none }
def verifyLessRow : OpenClaim := { program := "ytbjaejgechadpaa", sum := "2b14ced132087be75cfc3eb3422bf44cfe9b742cdbee2ceed7fb91bc5cfd9437", func := "tompion/tompionlaw28.VerifyLess", spec := "verifyLess", apart := false }
def VerifyLessSaid : Prop := verifyLessRow.holds Try.pinned (OpenSpec.ofChange verifyLessSpec)

/-- ITS FALSE NEIGHBOUR: 'it returns false'. Refute it at one input. -/
def verifyLessWrong : ChangeSpec := { name := "verifyLess", fn := fun _ => fun
  | [d1, d2] => { results := [.lit (.bool false)], args := [d1, d2] }
  | _ => none }
def VerifyLessWrongFalsely : Prop := verifyLessRow.holds Try.pinned (OpenSpec.ofChange verifyLessWrong)

/-- 'tompionlaw29.VmKeeps': WHATEVER THE INPUT: true; the input reads as it did. -/
def vmKeepsSpec : ChangeSpec := { name := "vmKeeps", fn := fun _ => fun
  | [d1, d2, d3] => { results := [.lit (.bool true)], args := [d1, d2, d3] }
  | _ => none }
def vmKeepsRow : OpenClaim := { program := "ytbjaejgechadpaa", sum := "2b14ced132087be75cfc3eb3422bf44cfe9b742cdbee2ceed7fb91bc5cfd9437", func := "tompion/tompionlaw29.VmKeeps", spec := "vmKeeps", apart := false }
def VmKeepsSaid : Prop := vmKeepsRow.holds Try.pinned (OpenSpec.ofChange vmKeepsSpec)

/-- ITS FALSE NEIGHBOUR: 'it returns false'. Refute it at one input. -/
def vmKeepsWrong : ChangeSpec := { name := "vmKeeps", fn := fun _ => fun
  | [d1, d2, d3] => { results := [.lit (.bool false)], args := [d1, d2, d3] }
  | _ => none }
def VmKeepsWrongFalsely : Prop := vmKeepsRow.holds Try.pinned (OpenSpec.ofChange vmKeepsWrong)

/-- 'tompionlaw29.VmFits': WHATEVER THE INPUT: true; the input reads as it did. -/
def vmFitsSpec : ChangeSpec := { name := "vmFits", fn := fun _ => fun
  | [d1, d2] => { results := [.lit (.bool true)], args := [d1, d2] }
  | _ => none }
def vmFitsRow : OpenClaim := { program := "ytbjaejgechadpaa", sum := "2b14ced132087be75cfc3eb3422bf44cfe9b742cdbee2ceed7fb91bc5cfd9437", func := "tompion/tompionlaw29.VmFits", spec := "vmFits", apart := false }
def VmFitsSaid : Prop := vmFitsRow.holds Try.pinned (OpenSpec.ofChange vmFitsSpec)

/-- ITS FALSE NEIGHBOUR: 'it returns false'. Refute it at one input. -/
def vmFitsWrong : ChangeSpec := { name := "vmFits", fn := fun _ => fun
  | [d1, d2] => { results := [.lit (.bool false)], args := [d1, d2] }
  | _ => none }
def VmFitsWrongFalsely : Prop := vmFitsRow.holds Try.pinned (OpenSpec.ofChange vmFitsWrong)

/-- 'tompionlaw26.OrderActs': WHATEVER THE INPUT: true; the input reads as it did. -/
def orderActsSpec : ChangeSpec := { name := "orderActs", fn := fun _ => fun
  | [d] => { results := [.lit (.bool true)], args := [d] }
  | _ => none }
def orderActsRow : OpenClaim := { program := "ytbjaejgechadpaa", sum := "2b14ced132087be75cfc3eb3422bf44cfe9b742cdbee2ceed7fb91bc5cfd9437", func := "tompion/tompionlaw26.OrderActs", spec := "orderActs", unfollowed := true, recurses := true, apart := false }
def OrderActsSaid : Prop := orderActsRow.holds Try.pinned (OpenSpec.ofChange orderActsSpec)

/-- ITS FALSE NEIGHBOUR: 'it returns false'. Refute it at one input. -/
def orderActsWrong : ChangeSpec := { name := "orderActs", fn := fun _ => fun
  | [d] => { results := [.lit (.bool false)], args := [d] }
  | _ => none }
def OrderActsWrongFalsely : Prop := orderActsRow.holds Try.pinned (OpenSpec.ofChange orderActsWrong)

/-- 'tompionlaw26.OrderStays': WHATEVER THE INPUT: true; the input reads as it did. -/
def orderStaysSpec : ChangeSpec := { name := "orderStays", fn := fun _ => fun
  | [d] => { results := [.lit (.bool true)], args := [d] }
  | _ => none }
def orderStaysRow : OpenClaim := { program := "ytbjaejgechadpaa", sum := "2b14ced132087be75cfc3eb3422bf44cfe9b742cdbee2ceed7fb91bc5cfd9437", func := "tompion/tompionlaw26.OrderStays", spec := "orderStays", unfollowed := true, recurses := true, apart := false }
def OrderStaysSaid : Prop := orderStaysRow.holds Try.pinned (OpenSpec.ofChange orderStaysSpec)

/-- ITS FALSE NEIGHBOUR: 'it returns false'. Refute it at one input. -/
def orderStaysWrong : ChangeSpec := { name := "orderStays", fn := fun _ => fun
  | [d] => { results := [.lit (.bool false)], args := [d] }
  | _ => none }
def OrderStaysWrongFalsely : Prop := orderStaysRow.holds Try.pinned (OpenSpec.ofChange orderStaysWrong)

/-- 'tompionlaw26.OrderSays': WHATEVER THE INPUT: true; the input reads as it did. -/
def orderSaysSpec : ChangeSpec := { name := "orderSays", fn := fun _ => fun
  | [d1, d2] => { results := [.lit (.bool true)], args := [d1, d2] }
  | _ => none }
def orderSaysRow : OpenClaim := { program := "ytbjaejgechadpaa", sum := "2b14ced132087be75cfc3eb3422bf44cfe9b742cdbee2ceed7fb91bc5cfd9437", func := "tompion/tompionlaw26.OrderSays", spec := "orderSays", unfollowed := true, recurses := true, apart := false }
def OrderSaysSaid : Prop := orderSaysRow.holds Try.pinned (OpenSpec.ofChange orderSaysSpec)

/-- ITS FALSE NEIGHBOUR: 'it returns false'. Refute it at one input. -/
def orderSaysWrong : ChangeSpec := { name := "orderSays", fn := fun _ => fun
  | [d1, d2] => { results := [.lit (.bool false)], args := [d1, d2] }
  | _ => none }
def OrderSaysWrongFalsely : Prop := orderSaysRow.holds Try.pinned (OpenSpec.ofChange orderSaysWrong)

/-- 'tompionlaw29.VmTicks': WHATEVER THE INPUT: true; the input reads as it did. -/
def vmTicksSpec : ChangeSpec := { name := "vmTicks", fn := fun _ => fun
  | [d1, d2, d3] => { results := [.lit (.bool true)], args := [d1, d2, d3] }
  | _ => none }
def vmTicksRow : OpenClaim := { program := "ytbjaejgechadpaa", sum := "2b14ced132087be75cfc3eb3422bf44cfe9b742cdbee2ceed7fb91bc5cfd9437", func := "tompion/tompionlaw29.VmTicks", spec := "vmTicks", recurses := true, apart := false }
def VmTicksSaid : Prop := vmTicksRow.holds Try.pinned (OpenSpec.ofChange vmTicksSpec)

/-- ITS FALSE NEIGHBOUR: 'it returns false'. Refute it at one input. -/
def vmTicksWrong : ChangeSpec := { name := "vmTicks", fn := fun _ => fun
  | [d1, d2, d3] => { results := [.lit (.bool false)], args := [d1, d2, d3] }
  | _ => none }
def VmTicksWrongFalsely : Prop := vmTicksRow.holds Try.pinned (OpenSpec.ofChange vmTicksWrong)

/-- 'tompionlaw30.EmitRight': WHATEVER THE INPUT: true; the input reads as it did. -/
def emitRightSpec : ChangeSpec := { name := "emitRight", fn := fun _ => fun
  | [d] => { results := [.lit (.bool true)], args := [d] }
  | _ => none }
def emitRightRow : OpenClaim := { program := "ytbjaejgechadpaa", sum := "2b14ced132087be75cfc3eb3422bf44cfe9b742cdbee2ceed7fb91bc5cfd9437", func := "tompion/tompionlaw30.EmitRight", spec := "emitRight", unfollowed := true, recurses := true, apart := false }
def EmitRightSaid : Prop := emitRightRow.holds Try.pinned (OpenSpec.ofChange emitRightSpec)

/-- ITS FALSE NEIGHBOUR: 'it returns false'. Refute it at one input. -/
def emitRightWrong : ChangeSpec := { name := "emitRight", fn := fun _ => fun
  | [d] => { results := [.lit (.bool false)], args := [d] }
  | _ => none }
def EmitRightWrongFalsely : Prop := emitRightRow.holds Try.pinned (OpenSpec.ofChange emitRightWrong)

/-- 'tompionlaw30.EmitOf': WHATEVER THE INPUT: true; the input reads as it did. -/
def emitOfSpec : ChangeSpec := { name := "emitOf", fn := fun _ => fun
  | [d] => { results := [.lit (.bool true)], args := [d] }
  | _ => none }
def emitOfRow : OpenClaim := { program := "ytbjaejgechadpaa", sum := "2b14ced132087be75cfc3eb3422bf44cfe9b742cdbee2ceed7fb91bc5cfd9437", func := "tompion/tompionlaw30.EmitOf", spec := "emitOf", unfollowed := true, recurses := true, apart := false }
def EmitOfSaid : Prop := emitOfRow.holds Try.pinned (OpenSpec.ofChange emitOfSpec)

/-- ITS FALSE NEIGHBOUR: 'it returns false'. Refute it at one input. -/
def emitOfWrong : ChangeSpec := { name := "emitOf", fn := fun _ => fun
  | [d] => { results := [.lit (.bool false)], args := [d] }
  | _ => none }
def EmitOfWrongFalsely : Prop := emitOfRow.holds Try.pinned (OpenSpec.ofChange emitOfWrong)

/- THE SECOND FORM. 'bulk': how many values and letters a reading holds, each counted each time it is reached (what is shared counts as often as it is met; a slice's spare places count too). A statement '..UptoSaid' is the law's where the arguments, and the package variables that the reading takes, are together of bulk at most 1048576: NARROWER than '..Said'. Prove '..Said' where nothing that the law and all that it calls make is longer than what came in: it says more and counts as full. Else prove '..UptoSaid'. A law counts once. -/
mutual
def uptoBulk {H : Type} : DataW H → Nat
  | .lit (.string bytes) => bytes.length + 1
  | .lit _ => 1
  | .nil => 1
  | .ptr d => uptoBulk d + 1
  | .slice elems spare => uptoBulkAll elems + uptoBulkAll spare + 1
  | .agg parts => uptoBulkAll parts + 1
  | .iface _ d => uptoBulk d + 1
  | .map entries => uptoBulkEntries entries + 1
  | .held _ => 1
def uptoBulkAll {H : Type} : List (DataW H) → Nat
  | [] => 0
  | d :: r => uptoBulk d + uptoBulkAll r
def uptoBulkEntries {H : Type} : List (Lit × DataW H) → Nat
  | [] => 0
  | x :: r => uptoBulkEntry x + uptoBulkEntries r
def uptoBulkEntry {H : Type} : Lit × DataW H → Nat
  | (.string bytes, d) => bytes.length + uptoBulk d + 1
  | (_, d) => uptoBulk d + 1
 end
def uptoSmall : (H : Type) → List (DataW H) → Bool := fun _ ds => decide (uptoBulkAll ds ≤ 1048576)
def OpenSpec.upto (s : _root_.Go.ChangeSpec) : _root_.Go.OpenSpec := { _root_.Go.OpenSpec.ofChange s with cond := some uptoSmall }

/-- 'tompionlaw28.VerifyRight', WHERE WHAT IT READS IS OF BULK AT MOST 1048576: true; the input reads as it did. -/
def verifyRightUptoRow : OpenClaim := { program := "ytbjaejgechadpaa", sum := "2b14ced132087be75cfc3eb3422bf44cfe9b742cdbee2ceed7fb91bc5cfd9437", func := "tompion/tompionlaw28.VerifyRight", spec := "verifyRight", recurses := true, apart := false, narrowed := true }
def VerifyRightUptoSaid : Prop := verifyRightUptoRow.holds Try.pinned (OpenSpec.upto verifyRightSpec)

/-- 'tompionlaw28.VerifyLess', WHERE WHAT IT READS IS OF BULK AT MOST 1048576: true; the input reads as it did. -/
def verifyLessUptoRow : OpenClaim := { program := "ytbjaejgechadpaa", sum := "2b14ced132087be75cfc3eb3422bf44cfe9b742cdbee2ceed7fb91bc5cfd9437", func := "tompion/tompionlaw28.VerifyLess", spec := "verifyLess", apart := false, narrowed := true }
def VerifyLessUptoSaid : Prop := verifyLessUptoRow.holds Try.pinned (OpenSpec.upto verifyLessSpec)

/-- 'tompionlaw29.VmKeeps', WHERE WHAT IT READS IS OF BULK AT MOST 1048576: true; the input reads as it did. -/
def vmKeepsUptoRow : OpenClaim := { program := "ytbjaejgechadpaa", sum := "2b14ced132087be75cfc3eb3422bf44cfe9b742cdbee2ceed7fb91bc5cfd9437", func := "tompion/tompionlaw29.VmKeeps", spec := "vmKeeps", apart := false, narrowed := true }
def VmKeepsUptoSaid : Prop := vmKeepsUptoRow.holds Try.pinned (OpenSpec.upto vmKeepsSpec)

/-- 'tompionlaw29.VmFits', WHERE WHAT IT READS IS OF BULK AT MOST 1048576: true; the input reads as it did. -/
def vmFitsUptoRow : OpenClaim := { program := "ytbjaejgechadpaa", sum := "2b14ced132087be75cfc3eb3422bf44cfe9b742cdbee2ceed7fb91bc5cfd9437", func := "tompion/tompionlaw29.VmFits", spec := "vmFits", apart := false, narrowed := true }
def VmFitsUptoSaid : Prop := vmFitsUptoRow.holds Try.pinned (OpenSpec.upto vmFitsSpec)

/-- 'tompionlaw26.OrderActs', WHERE WHAT IT READS IS OF BULK AT MOST 1048576: true; the input reads as it did. -/
def orderActsUptoRow : OpenClaim := { program := "ytbjaejgechadpaa", sum := "2b14ced132087be75cfc3eb3422bf44cfe9b742cdbee2ceed7fb91bc5cfd9437", func := "tompion/tompionlaw26.OrderActs", spec := "orderActs", unfollowed := true, recurses := true, apart := false, narrowed := true }
def OrderActsUptoSaid : Prop := orderActsUptoRow.holds Try.pinned (OpenSpec.upto orderActsSpec)

/-- 'tompionlaw26.OrderStays', WHERE WHAT IT READS IS OF BULK AT MOST 1048576: true; the input reads as it did. -/
def orderStaysUptoRow : OpenClaim := { program := "ytbjaejgechadpaa", sum := "2b14ced132087be75cfc3eb3422bf44cfe9b742cdbee2ceed7fb91bc5cfd9437", func := "tompion/tompionlaw26.OrderStays", spec := "orderStays", unfollowed := true, recurses := true, apart := false, narrowed := true }
def OrderStaysUptoSaid : Prop := orderStaysUptoRow.holds Try.pinned (OpenSpec.upto orderStaysSpec)

/-- 'tompionlaw26.OrderSays', WHERE WHAT IT READS IS OF BULK AT MOST 1048576: true; the input reads as it did. -/
def orderSaysUptoRow : OpenClaim := { program := "ytbjaejgechadpaa", sum := "2b14ced132087be75cfc3eb3422bf44cfe9b742cdbee2ceed7fb91bc5cfd9437", func := "tompion/tompionlaw26.OrderSays", spec := "orderSays", unfollowed := true, recurses := true, apart := false, narrowed := true }
def OrderSaysUptoSaid : Prop := orderSaysUptoRow.holds Try.pinned (OpenSpec.upto orderSaysSpec)

/-- 'tompionlaw29.VmTicks', WHERE WHAT IT READS IS OF BULK AT MOST 1048576: true; the input reads as it did. -/
def vmTicksUptoRow : OpenClaim := { program := "ytbjaejgechadpaa", sum := "2b14ced132087be75cfc3eb3422bf44cfe9b742cdbee2ceed7fb91bc5cfd9437", func := "tompion/tompionlaw29.VmTicks", spec := "vmTicks", recurses := true, apart := false, narrowed := true }
def VmTicksUptoSaid : Prop := vmTicksUptoRow.holds Try.pinned (OpenSpec.upto vmTicksSpec)

/-- 'tompionlaw30.EmitRight', WHERE WHAT IT READS IS OF BULK AT MOST 1048576: true; the input reads as it did. -/
def emitRightUptoRow : OpenClaim := { program := "ytbjaejgechadpaa", sum := "2b14ced132087be75cfc3eb3422bf44cfe9b742cdbee2ceed7fb91bc5cfd9437", func := "tompion/tompionlaw30.EmitRight", spec := "emitRight", unfollowed := true, recurses := true, apart := false, narrowed := true }
def EmitRightUptoSaid : Prop := emitRightUptoRow.holds Try.pinned (OpenSpec.upto emitRightSpec)

/-- 'tompionlaw30.EmitOf', WHERE WHAT IT READS IS OF BULK AT MOST 1048576: true; the input reads as it did. -/
def emitOfUptoRow : OpenClaim := { program := "ytbjaejgechadpaa", sum := "2b14ced132087be75cfc3eb3422bf44cfe9b742cdbee2ceed7fb91bc5cfd9437", func := "tompion/tompionlaw30.EmitOf", spec := "emitOf", unfollowed := true, recurses := true, apart := false, narrowed := true }
def EmitOfUptoSaid : Prop := emitOfUptoRow.holds Try.pinned (OpenSpec.upto emitOfSpec)

end Rows
end Go.Proofs.Ytbjaejgechadpaa
