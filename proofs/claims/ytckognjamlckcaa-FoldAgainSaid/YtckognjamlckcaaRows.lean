/-
  No cell of these rows narrows 'for every input' (looked for: loops, veiled, ifaces, maps, wideKeys, modest, calm, conditions, laid).
  DERIVED. THE GIVEN ROWS OF THIS SEAT. 4 by the template 'for every input the law returns true; each argument reads behind the call as it read before'; 0 by the template 'total and deterministic' (their statements: YtckognjamlckcaaTotals.lean).
  GIVEN WITH THE SEED: the statements are not yours to turn. If you find one false, say at which input.
  Laid BY PROGRAM, IN A SANDBOX (cutbox-rows.mjs): the forced cells as the released guide's own fill.sh prints them over the translation 317165997c907fe4… (all of the seat's roots in one cut). By AI agents, Wed Nov 11 2026. No macro, syntax, notation, axiom, sorry.
-/
import Derived.Test.YtckognjamlckcaaChecked
import GoSem.Claim
import GoSem.ClaimJoined
import GoSem.ClaimMapViews
import Derived.JoinedTies
import Derived.KernelRfl
namespace Go.Proofs.Ytckognjamlckcaa
/- THE CELL 'sum', in the pinned program and in every row, IS THE sha256 OF THE DUMP (.gsa) THAT YtckognjamlckcaaProg.lean LOADS. Nothing in Lean hashes anything: it is a label: what it is worth is what the hold of that sum in a sandbox is worth. -/
noncomputable def Try.pinned : Pinned := { name := "ytckognjamlckcaa", sum := "317165997c907fe49bb17fdeeb807b7303644d448b58ca8b145dbfed07d3496e", checked := Try.checked }
namespace Rows
def none {H : Type} : Left H := { results := [], args := [] }

/-- 'tompionlaw25.FoldBare': WHATEVER THE INPUT: true; the input reads as it did. -/
def foldBareSpec : ChangeSpec := { name := "foldBare", fn := fun _ => fun
  | [d] => { results := [.lit (.bool true)], args := [d] }
  | _ => none }
def foldBareRow : OpenClaim := { program := "ytckognjamlckcaa", sum := "317165997c907fe49bb17fdeeb807b7303644d448b58ca8b145dbfed07d3496e", func := "tompion/tompionlaw25.FoldBare", spec := "foldBare", unfollowed := true, recurses := true, apart := false }
def FoldBareSaid : Prop := foldBareRow.holds Try.pinned (OpenSpec.ofChange foldBareSpec)

/-- ITS FALSE NEIGHBOUR: 'it returns false'. Refute it at one input. -/
def foldBareWrong : ChangeSpec := { name := "foldBare", fn := fun _ => fun
  | [d] => { results := [.lit (.bool false)], args := [d] }
  | _ => none }
def FoldBareWrongFalsely : Prop := foldBareRow.holds Try.pinned (OpenSpec.ofChange foldBareWrong)

/-- 'tompionlaw25.FoldOf': WHATEVER THE INPUT: true; the input reads as it did. -/
def foldOfSpec : ChangeSpec := { name := "foldOf", fn := fun _ => fun
  | [d] => { results := [.lit (.bool true)], args := [d] }
  | _ => none }
def foldOfRow : OpenClaim := { program := "ytckognjamlckcaa", sum := "317165997c907fe49bb17fdeeb807b7303644d448b58ca8b145dbfed07d3496e", func := "tompion/tompionlaw25.FoldOf", spec := "foldOf", unfollowed := true, recurses := true, apart := false }
def FoldOfSaid : Prop := foldOfRow.holds Try.pinned (OpenSpec.ofChange foldOfSpec)

/-- ITS FALSE NEIGHBOUR: 'it returns false'. Refute it at one input. -/
def foldOfWrong : ChangeSpec := { name := "foldOf", fn := fun _ => fun
  | [d] => { results := [.lit (.bool false)], args := [d] }
  | _ => none }
def FoldOfWrongFalsely : Prop := foldOfRow.holds Try.pinned (OpenSpec.ofChange foldOfWrong)

/-- 'tompionlaw25.FoldSays': WHATEVER THE INPUT: true; the input reads as it did. -/
def foldSaysSpec : ChangeSpec := { name := "foldSays", fn := fun _ => fun
  | [d1, d2] => { results := [.lit (.bool true)], args := [d1, d2] }
  | _ => none }
def foldSaysRow : OpenClaim := { program := "ytckognjamlckcaa", sum := "317165997c907fe49bb17fdeeb807b7303644d448b58ca8b145dbfed07d3496e", func := "tompion/tompionlaw25.FoldSays", spec := "foldSays", unfollowed := true, recurses := true, apart := false }
def FoldSaysSaid : Prop := foldSaysRow.holds Try.pinned (OpenSpec.ofChange foldSaysSpec)

/-- ITS FALSE NEIGHBOUR: 'it returns false'. Refute it at one input. -/
def foldSaysWrong : ChangeSpec := { name := "foldSays", fn := fun _ => fun
  | [d1, d2] => { results := [.lit (.bool false)], args := [d1, d2] }
  | _ => none }
def FoldSaysWrongFalsely : Prop := foldSaysRow.holds Try.pinned (OpenSpec.ofChange foldSaysWrong)

/-- 'tompionlaw25.FoldAgain': WHATEVER THE INPUT: true; the input reads as it did. -/
def foldAgainSpec : ChangeSpec := { name := "foldAgain", fn := fun _ => fun
  | [d] => { results := [.lit (.bool true)], args := [d] }
  | _ => none }
def foldAgainRow : OpenClaim := { program := "ytckognjamlckcaa", sum := "317165997c907fe49bb17fdeeb807b7303644d448b58ca8b145dbfed07d3496e", func := "tompion/tompionlaw25.FoldAgain", spec := "foldAgain", unfollowed := true, recurses := true, apart := false }
def FoldAgainSaid : Prop := foldAgainRow.holds Try.pinned (OpenSpec.ofChange foldAgainSpec)

/-- ITS FALSE NEIGHBOUR: 'it returns false'. Refute it at one input. -/
def foldAgainWrong : ChangeSpec := { name := "foldAgain", fn := fun _ => fun
  | [d] => { results := [.lit (.bool false)], args := [d] }
  | _ => none }
def FoldAgainWrongFalsely : Prop := foldAgainRow.holds Try.pinned (OpenSpec.ofChange foldAgainWrong)

/- THE SECOND FORM. 'bulk': how many values and letters a reading holds, each counted each time it is reached (what is shared counts as often as it is met; a slice's spare places count too). A statement '..UptoSaid' is the law's where the arguments, and the package variables that the reading takes, are together of bulk at most 1048576: NARROWER than '..Said'. Prove '..Said' where nothing that the law and all that it calls make is longer than what came in: it says more and counts as full. Else prove '..UptoSaid'. A law counts once. -/
mutual
def uptoBulk {H : Type} : DataW H → Nat
  | .lit (.string bytes) => bytes.length + 1
  | .lit _ => 1
  | .nil => 1
  | .ptr d => uptoBulk d + 1
  | .slice elems spare => uptoBulkAll elems + uptoBulkAll spare + 1
  | .agg parts => uptoBulkAll parts + 1
  | .iface _ d => uptoBulk d + 1
  | .map entries => uptoBulkEntries entries + 1
  | .held _ => 1
def uptoBulkAll {H : Type} : List (DataW H) → Nat
  | [] => 0
  | d :: r => uptoBulk d + uptoBulkAll r
def uptoBulkEntries {H : Type} : List (Lit × DataW H) → Nat
  | [] => 0
  | x :: r => uptoBulkEntry x + uptoBulkEntries r
def uptoBulkEntry {H : Type} : Lit × DataW H → Nat
  | (.string bytes, d) => bytes.length + uptoBulk d + 1
  | (_, d) => uptoBulk d + 1
 end
def uptoSmall : (H : Type) → List (DataW H) → Bool := fun _ ds => decide (uptoBulkAll ds ≤ 1048576)
def OpenSpec.upto (s : _root_.Go.ChangeSpec) : _root_.Go.OpenSpec := { _root_.Go.OpenSpec.ofChange s with cond := some uptoSmall }

/-- 'tompionlaw25.FoldBare', WHERE WHAT IT READS IS OF BULK AT MOST 1048576: true; the input reads as it did. -/
def foldBareUptoRow : OpenClaim := { program := "ytckognjamlckcaa", sum := "317165997c907fe49bb17fdeeb807b7303644d448b58ca8b145dbfed07d3496e", func := "tompion/tompionlaw25.FoldBare", spec := "foldBare", unfollowed := true, recurses := true, apart := false, narrowed := true }
def FoldBareUptoSaid : Prop := foldBareUptoRow.holds Try.pinned (OpenSpec.upto foldBareSpec)

/-- 'tompionlaw25.FoldOf', WHERE WHAT IT READS IS OF BULK AT MOST 1048576: true; the input reads as it did. -/
def foldOfUptoRow : OpenClaim := { program := "ytckognjamlckcaa", sum := "317165997c907fe49bb17fdeeb807b7303644d448b58ca8b145dbfed07d3496e", func := "tompion/tompionlaw25.FoldOf", spec := "foldOf", unfollowed := true, recurses := true, apart := false, narrowed := true }
def FoldOfUptoSaid : Prop := foldOfUptoRow.holds Try.pinned (OpenSpec.upto foldOfSpec)

/-- 'tompionlaw25.FoldSays', WHERE WHAT IT READS IS OF BULK AT MOST 1048576: true; the input reads as it did. -/
def foldSaysUptoRow : OpenClaim := { program := "ytckognjamlckcaa", sum := "317165997c907fe49bb17fdeeb807b7303644d448b58ca8b145dbfed07d3496e", func := "tompion/tompionlaw25.FoldSays", spec := "foldSays", unfollowed := true, recurses := true, apart := false, narrowed := true }
def FoldSaysUptoSaid : Prop := foldSaysUptoRow.holds Try.pinned (OpenSpec.upto foldSaysSpec)

/-- 'tompionlaw25.FoldAgain', WHERE WHAT IT READS IS OF BULK AT MOST 1048576: true; the input reads as it did. -/
def foldAgainUptoRow : OpenClaim := { program := "ytckognjamlckcaa", sum := "317165997c907fe49bb17fdeeb807b7303644d448b58ca8b145dbfed07d3496e", func := "tompion/tompionlaw25.FoldAgain", spec := "foldAgain", unfollowed := true, recurses := true, apart := false, narrowed := true }
def FoldAgainUptoSaid : Prop := foldAgainUptoRow.holds Try.pinned (OpenSpec.upto foldAgainSpec)

end Rows
end Go.Proofs.Ytckognjamlckcaa
