/-
  NARROWER THAN 'FOR EVERY INPUT', by the rows' own cells (each row's printed sentence says how): StreamAhead: loops · DependSource: loops.
  DERIVED. THE GIVEN ROWS OF THIS SEAT. 4 by the template 'for every input the law returns true; each argument reads behind the call as it read before'; 0 by the template 'total and deterministic' (their statements: YtdkgkacnjdnpoaaGreatTotals.lean).
  GIVEN WITH THE SEED: the statements are not yours to turn. If you find one false, say at which input.
  Laid BY PROGRAM, IN A SANDBOX (cutbox-rows.mjs): the forced cells as the released guide's own fill.sh prints them over the translation dd3eec36037658ae… (all of the seat's roots in one cut). By AI agents, Wed Nov 11 2026. No macro, syntax, notation, axiom, sorry.
-/
import Derived.Test.YtdkgkacnjdnpoaaGreatChecked
import GoSem.Claim
import GoSem.ClaimJoined
import GoSem.ClaimMapViews
import Derived.JoinedTies
import Derived.KernelRfl
namespace Go.Proofs.YtdkgkacnjdnpoaaGreat
/- THE CELL 'sum', in the pinned program and in every row, IS THE sha256 OF THE DUMP (.gsa) THAT YtdkgkacnjdnpoaaGreatProg.lean LOADS. Nothing in Lean hashes anything: it is a label: what it is worth is what the hold of that sum in a sandbox is worth. -/
noncomputable def Tryz.pinned : Pinned := { name := "ytdkgkacnjdnpoaagreat", sum := "dd3eec36037658ae7da42e11c988154de8478ab50684103d4e536082a8938989", checked := Tryz.checked }
namespace Rows
def none {H : Type} : Left H := { results := [], args := [] }

/-- 'tompionlaw22.StreamAhead': WHATEVER THE INPUT: true; the input reads as it did. -/
def streamAheadSpec : ChangeSpec := { name := "streamAhead", fn := fun _ => fun
  | [d1, d2, d3] => { results := [.lit (.bool true)], args := [d1, d2, d3] }
  | _ => none }
def streamAheadRow : OpenClaim := { program := "ytdkgkacnjdnpoaagreat", sum := "dd3eec36037658ae7da42e11c988154de8478ab50684103d4e536082a8938989", func := "tompion/tompionlaw22.StreamAhead", spec := "streamAhead", unfollowed := true, recurses := true, loops := true, apart := false }
def StreamAheadSaid : Prop := streamAheadRow.holds Tryz.pinned (OpenSpec.ofChange streamAheadSpec)

/-- ITS FALSE NEIGHBOUR: 'it returns false'. Refute it at one input. -/
def streamAheadWrong : ChangeSpec := { name := "streamAhead", fn := fun _ => fun
  | [d1, d2, d3] => { results := [.lit (.bool false)], args := [d1, d2, d3] }
  | _ => none }
def StreamAheadWrongFalsely : Prop := streamAheadRow.holds Tryz.pinned (OpenSpec.ofChange streamAheadWrong)

/-- 'tompionlaw22.StreamDelays': WHATEVER THE INPUT: true; the input reads as it did. -/
def streamDelaysSpec : ChangeSpec := { name := "streamDelays", fn := fun _ => fun
  | [d] => { results := [.lit (.bool true)], args := [d] }
  | _ => none }
def streamDelaysRow : OpenClaim := { program := "ytdkgkacnjdnpoaagreat", sum := "dd3eec36037658ae7da42e11c988154de8478ab50684103d4e536082a8938989", func := "tompion/tompionlaw22.StreamDelays", spec := "streamDelays", unfollowed := true, recurses := true, apart := false }
def StreamDelaysSaid : Prop := streamDelaysRow.holds Tryz.pinned (OpenSpec.ofChange streamDelaysSpec)

/-- ITS FALSE NEIGHBOUR: 'it returns false'. Refute it at one input. -/
def streamDelaysWrong : ChangeSpec := { name := "streamDelays", fn := fun _ => fun
  | [d] => { results := [.lit (.bool false)], args := [d] }
  | _ => none }
def StreamDelaysWrongFalsely : Prop := streamDelaysRow.holds Tryz.pinned (OpenSpec.ofChange streamDelaysWrong)

/-- 'tompionlaw46.DependSource': WHATEVER THE INPUT: true; the input reads as it did. -/
def dependSourceSpec : ChangeSpec := { name := "dependSource", fn := fun _ => fun
  | [d] => { results := [.lit (.bool true)], args := [d] }
  | _ => none }
def dependSourceRow : OpenClaim := { program := "ytdkgkacnjdnpoaagreat", sum := "dd3eec36037658ae7da42e11c988154de8478ab50684103d4e536082a8938989", func := "tompion/tompionlaw46.DependSource", spec := "dependSource", inPlace := ["internal/abi.NoEscape"], unfollowed := true, recurses := true, loops := true, apart := false }
def DependSourceSaid : Prop := dependSourceRow.holds Tryz.pinned (OpenSpec.ofChange dependSourceSpec)

/-- ITS FALSE NEIGHBOUR: 'it returns false'. Refute it at one input. -/
def dependSourceWrong : ChangeSpec := { name := "dependSource", fn := fun _ => fun
  | [d] => { results := [.lit (.bool false)], args := [d] }
  | _ => none }
def DependSourceWrongFalsely : Prop := dependSourceRow.holds Tryz.pinned (OpenSpec.ofChange dependSourceWrong)

/-- 'tompionlaw46.DependTexts': WHATEVER THE INPUT: true; the input reads as it did. -/
def dependTextsSpec : ChangeSpec := { name := "dependTexts", fn := fun _ => fun
  | [d] => { results := [.lit (.bool true)], args := [d] }
  | _ => none }
def dependTextsRow : OpenClaim := { program := "ytdkgkacnjdnpoaagreat", sum := "dd3eec36037658ae7da42e11c988154de8478ab50684103d4e536082a8938989", func := "tompion/tompionlaw46.DependTexts", spec := "dependTexts", inPlace := ["internal/abi.NoEscape"], unfollowed := true, recurses := true, apart := false }
def DependTextsSaid : Prop := dependTextsRow.holds Tryz.pinned (OpenSpec.ofChange dependTextsSpec)

/-- ITS FALSE NEIGHBOUR: 'it returns false'. Refute it at one input. -/
def dependTextsWrong : ChangeSpec := { name := "dependTexts", fn := fun _ => fun
  | [d] => { results := [.lit (.bool false)], args := [d] }
  | _ => none }
def DependTextsWrongFalsely : Prop := dependTextsRow.holds Tryz.pinned (OpenSpec.ofChange dependTextsWrong)

/- THE SECOND FORM. 'bulk': how many values and letters a reading holds, each counted each time it is reached (what is shared counts as often as it is met; a slice's spare places count too). A statement '..UptoSaid' is the law's where the arguments, and the package variables that the reading takes, are together of bulk at most 1048576: NARROWER than '..Said'. Prove '..Said' where nothing that the law and all that it calls make is longer than what came in: it says more and counts as full. Else prove '..UptoSaid'. A law counts once. -/
mutual
def uptoBulk {H : Type} : DataW H → Nat
  | .lit (.string bytes) => bytes.length + 1
  | .lit _ => 1
  | .nil => 1
  | .ptr d => uptoBulk d + 1
  | .slice elems spare => uptoBulkAll elems + uptoBulkAll spare + 1
  | .agg parts => uptoBulkAll parts + 1
  | .iface _ d => uptoBulk d + 1
  | .map entries => uptoBulkEntries entries + 1
  | .held _ => 1
def uptoBulkAll {H : Type} : List (DataW H) → Nat
  | [] => 0
  | d :: r => uptoBulk d + uptoBulkAll r
def uptoBulkEntries {H : Type} : List (Lit × DataW H) → Nat
  | [] => 0
  | x :: r => uptoBulkEntry x + uptoBulkEntries r
def uptoBulkEntry {H : Type} : Lit × DataW H → Nat
  | (.string bytes, d) => bytes.length + uptoBulk d + 1
  | (_, d) => uptoBulk d + 1
 end
def uptoSmall : (H : Type) → List (DataW H) → Bool := fun _ ds => decide (uptoBulkAll ds ≤ 1048576)
def OpenSpec.upto (s : _root_.Go.ChangeSpec) : _root_.Go.OpenSpec := { _root_.Go.OpenSpec.ofChange s with cond := some uptoSmall }

/-- 'tompionlaw22.StreamAhead', WHERE WHAT IT READS IS OF BULK AT MOST 1048576: true; the input reads as it did. -/
def streamAheadUptoRow : OpenClaim := { program := "ytdkgkacnjdnpoaagreat", sum := "dd3eec36037658ae7da42e11c988154de8478ab50684103d4e536082a8938989", func := "tompion/tompionlaw22.StreamAhead", spec := "streamAhead", unfollowed := true, recurses := true, loops := true, apart := false, narrowed := true }
def StreamAheadUptoSaid : Prop := streamAheadUptoRow.holds Tryz.pinned (OpenSpec.upto streamAheadSpec)

/-- 'tompionlaw22.StreamDelays', WHERE WHAT IT READS IS OF BULK AT MOST 1048576: true; the input reads as it did. -/
def streamDelaysUptoRow : OpenClaim := { program := "ytdkgkacnjdnpoaagreat", sum := "dd3eec36037658ae7da42e11c988154de8478ab50684103d4e536082a8938989", func := "tompion/tompionlaw22.StreamDelays", spec := "streamDelays", unfollowed := true, recurses := true, apart := false, narrowed := true }
def StreamDelaysUptoSaid : Prop := streamDelaysUptoRow.holds Tryz.pinned (OpenSpec.upto streamDelaysSpec)

/-- 'tompionlaw46.DependSource', WHERE WHAT IT READS IS OF BULK AT MOST 1048576: true; the input reads as it did. -/
def dependSourceUptoRow : OpenClaim := { program := "ytdkgkacnjdnpoaagreat", sum := "dd3eec36037658ae7da42e11c988154de8478ab50684103d4e536082a8938989", func := "tompion/tompionlaw46.DependSource", spec := "dependSource", inPlace := ["internal/abi.NoEscape"], unfollowed := true, recurses := true, loops := true, apart := false, narrowed := true }
def DependSourceUptoSaid : Prop := dependSourceUptoRow.holds Tryz.pinned (OpenSpec.upto dependSourceSpec)

/-- 'tompionlaw46.DependTexts', WHERE WHAT IT READS IS OF BULK AT MOST 1048576: true; the input reads as it did. -/
def dependTextsUptoRow : OpenClaim := { program := "ytdkgkacnjdnpoaagreat", sum := "dd3eec36037658ae7da42e11c988154de8478ab50684103d4e536082a8938989", func := "tompion/tompionlaw46.DependTexts", spec := "dependTexts", inPlace := ["internal/abi.NoEscape"], unfollowed := true, recurses := true, apart := false, narrowed := true }
def DependTextsUptoSaid : Prop := dependTextsUptoRow.holds Tryz.pinned (OpenSpec.upto dependTextsSpec)

end Rows
end Go.Proofs.YtdkgkacnjdnpoaaGreat
