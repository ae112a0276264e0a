/-
  NARROWER THAN 'FOR EVERY INPUT', by the rows' own cells (each row's printed sentence says how): CheckSource: loops · StreamRuns: loops · StreamAhead: loops · FlatRight: loops · FlatOf: loops · FlatSays: loops · DependOf: loops · DependSource: loops · DependSays: loops.
  DERIVED. THE GIVEN ROWS OF THIS SEAT. 12 by the template 'for every input the law returns true; each argument reads behind the call as it read before'; 0 by the template 'total and deterministic' (their statements: YtgjfkidbfmbjoaaGreatTotals.lean).
  GIVEN WITH THE SEED: the statements are not yours to turn. If you find one false, say at which input.
  Laid BY PROGRAM, IN A SANDBOX (cutbox-rows.mjs): the forced cells as the released guide's own fill.sh prints them over the translation e937f393e803f0d9… (all of the seat's roots in one cut). By AI agents, Wed Nov 11 2026. No macro, syntax, notation, axiom, sorry.
-/
import Derived.Test.YtgjfkidbfmbjoaaGreatChecked
import GoSem.Claim
import GoSem.ClaimJoined
import GoSem.ClaimMapViews
import Derived.JoinedTies
import Derived.KernelRfl
namespace Go.Proofs.YtgjfkidbfmbjoaaGreat
/- THE CELL 'sum', in the pinned program and in every row, IS THE sha256 OF THE DUMP (.gsa) THAT YtgjfkidbfmbjoaaGreatProg.lean LOADS. Nothing in Lean hashes anything: it is a label: what it is worth is what the hold of that sum in a sandbox is worth. -/
noncomputable def Tryz.pinned : Pinned := { name := "ytgjfkidbfmbjoaagreat", sum := "e937f393e803f0d9ba94fd1c6ec4c9a63cf9ba51d069abb4a8211b97de3fe0aa", checked := Tryz.checked }
namespace Rows
def none {H : Type} : Left H := { results := [], args := [] }

/-- 'tompionlaw21.CheckSource': WHATEVER THE INPUT: true; the input reads as it did. -/
def checkSourceSpec : ChangeSpec := { name := "checkSource", fn := fun _ => fun
  | [d] => { results := [.lit (.bool true)], args := [d] }
  | _ => none }
def checkSourceRow : OpenClaim := { program := "ytgjfkidbfmbjoaagreat", sum := "e937f393e803f0d9ba94fd1c6ec4c9a63cf9ba51d069abb4a8211b97de3fe0aa", func := "tompion/tompionlaw21.CheckSource", spec := "checkSource", unfollowed := true, recurses := true, loops := true, apart := false }
def CheckSourceSaid : Prop := checkSourceRow.holds Tryz.pinned (OpenSpec.ofChange checkSourceSpec)

/-- ITS FALSE NEIGHBOUR: 'it returns false'. Refute it at one input. -/
def checkSourceWrong : ChangeSpec := { name := "checkSource", fn := fun _ => fun
  | [d] => { results := [.lit (.bool false)], args := [d] }
  | _ => none }
def CheckSourceWrongFalsely : Prop := checkSourceRow.holds Tryz.pinned (OpenSpec.ofChange checkSourceWrong)

/-- 'tompionlaw21.CheckText': WHATEVER THE INPUT: true; the input reads as it did. -/
def checkTextSpec : ChangeSpec := { name := "checkText", fn := fun _ => fun
  | [d] => { results := [.lit (.bool true)], args := [d] }
  | _ => none }
def checkTextRow : OpenClaim := { program := "ytgjfkidbfmbjoaagreat", sum := "e937f393e803f0d9ba94fd1c6ec4c9a63cf9ba51d069abb4a8211b97de3fe0aa", func := "tompion/tompionlaw21.CheckText", spec := "checkText", unfollowed := true, recurses := true, apart := false }
def CheckTextSaid : Prop := checkTextRow.holds Tryz.pinned (OpenSpec.ofChange checkTextSpec)

/-- ITS FALSE NEIGHBOUR: 'it returns false'. Refute it at one input. -/
def checkTextWrong : ChangeSpec := { name := "checkText", fn := fun _ => fun
  | [d] => { results := [.lit (.bool false)], args := [d] }
  | _ => none }
def CheckTextWrongFalsely : Prop := checkTextRow.holds Tryz.pinned (OpenSpec.ofChange checkTextWrong)

/-- 'tompionlaw22.StreamRuns': WHATEVER THE INPUT: true; the input reads as it did. -/
def streamRunsSpec : ChangeSpec := { name := "streamRuns", fn := fun _ => fun
  | [d1, d2] => { results := [.lit (.bool true)], args := [d1, d2] }
  | _ => none }
def streamRunsRow : OpenClaim := { program := "ytgjfkidbfmbjoaagreat", sum := "e937f393e803f0d9ba94fd1c6ec4c9a63cf9ba51d069abb4a8211b97de3fe0aa", func := "tompion/tompionlaw22.StreamRuns", spec := "streamRuns", unfollowed := true, recurses := true, loops := true, apart := false }
def StreamRunsSaid : Prop := streamRunsRow.holds Tryz.pinned (OpenSpec.ofChange streamRunsSpec)

/-- ITS FALSE NEIGHBOUR: 'it returns false'. Refute it at one input. -/
def streamRunsWrong : ChangeSpec := { name := "streamRuns", fn := fun _ => fun
  | [d1, d2] => { results := [.lit (.bool false)], args := [d1, d2] }
  | _ => none }
def StreamRunsWrongFalsely : Prop := streamRunsRow.holds Tryz.pinned (OpenSpec.ofChange streamRunsWrong)

/-- 'tompionlaw22.StreamAhead': WHATEVER THE INPUT: true; the input reads as it did. -/
def streamAheadSpec : ChangeSpec := { name := "streamAhead", fn := fun _ => fun
  | [d1, d2, d3] => { results := [.lit (.bool true)], args := [d1, d2, d3] }
  | _ => none }
def streamAheadRow : OpenClaim := { program := "ytgjfkidbfmbjoaagreat", sum := "e937f393e803f0d9ba94fd1c6ec4c9a63cf9ba51d069abb4a8211b97de3fe0aa", func := "tompion/tompionlaw22.StreamAhead", spec := "streamAhead", unfollowed := true, recurses := true, loops := true, apart := false }
def StreamAheadSaid : Prop := streamAheadRow.holds Tryz.pinned (OpenSpec.ofChange streamAheadSpec)

/-- ITS FALSE NEIGHBOUR: 'it returns false'. Refute it at one input. -/
def streamAheadWrong : ChangeSpec := { name := "streamAhead", fn := fun _ => fun
  | [d1, d2, d3] => { results := [.lit (.bool false)], args := [d1, d2, d3] }
  | _ => none }
def StreamAheadWrongFalsely : Prop := streamAheadRow.holds Tryz.pinned (OpenSpec.ofChange streamAheadWrong)

/-- 'tompionlaw22.StreamDelays': WHATEVER THE INPUT: true; the input reads as it did. -/
def streamDelaysSpec : ChangeSpec := { name := "streamDelays", fn := fun _ => fun
  | [d] => { results := [.lit (.bool true)], args := [d] }
  | _ => none }
def streamDelaysRow : OpenClaim := { program := "ytgjfkidbfmbjoaagreat", sum := "e937f393e803f0d9ba94fd1c6ec4c9a63cf9ba51d069abb4a8211b97de3fe0aa", func := "tompion/tompionlaw22.StreamDelays", spec := "streamDelays", unfollowed := true, recurses := true, apart := false }
def StreamDelaysSaid : Prop := streamDelaysRow.holds Tryz.pinned (OpenSpec.ofChange streamDelaysSpec)

/-- ITS FALSE NEIGHBOUR: 'it returns false'. Refute it at one input. -/
def streamDelaysWrong : ChangeSpec := { name := "streamDelays", fn := fun _ => fun
  | [d] => { results := [.lit (.bool false)], args := [d] }
  | _ => none }
def StreamDelaysWrongFalsely : Prop := streamDelaysRow.holds Tryz.pinned (OpenSpec.ofChange streamDelaysWrong)

/-- 'tompionlaw23.FlatRight': WHATEVER THE INPUT: true; the input reads as it did. -/
def flatRightSpec : ChangeSpec := { name := "flatRight", fn := fun _ => fun
  | [d] => { results := [.lit (.bool true)], args := [d] }
  | _ => none }
def flatRightRow : OpenClaim := { program := "ytgjfkidbfmbjoaagreat", sum := "e937f393e803f0d9ba94fd1c6ec4c9a63cf9ba51d069abb4a8211b97de3fe0aa", func := "tompion/tompionlaw23.FlatRight", spec := "flatRight", unfollowed := true, recurses := true, loops := true, apart := false }
def FlatRightSaid : Prop := flatRightRow.holds Tryz.pinned (OpenSpec.ofChange flatRightSpec)

/-- ITS FALSE NEIGHBOUR: 'it returns false'. Refute it at one input. -/
def flatRightWrong : ChangeSpec := { name := "flatRight", fn := fun _ => fun
  | [d] => { results := [.lit (.bool false)], args := [d] }
  | _ => none }
def FlatRightWrongFalsely : Prop := flatRightRow.holds Tryz.pinned (OpenSpec.ofChange flatRightWrong)

/-- 'tompionlaw23.FlatOf': WHATEVER THE INPUT: true; the input reads as it did. -/
def flatOfSpec : ChangeSpec := { name := "flatOf", fn := fun _ => fun
  | [d] => { results := [.lit (.bool true)], args := [d] }
  | _ => none }
def flatOfRow : OpenClaim := { program := "ytgjfkidbfmbjoaagreat", sum := "e937f393e803f0d9ba94fd1c6ec4c9a63cf9ba51d069abb4a8211b97de3fe0aa", func := "tompion/tompionlaw23.FlatOf", spec := "flatOf", unfollowed := true, recurses := true, loops := true, apart := false }
def FlatOfSaid : Prop := flatOfRow.holds Tryz.pinned (OpenSpec.ofChange flatOfSpec)

/-- ITS FALSE NEIGHBOUR: 'it returns false'. Refute it at one input. -/
def flatOfWrong : ChangeSpec := { name := "flatOf", fn := fun _ => fun
  | [d] => { results := [.lit (.bool false)], args := [d] }
  | _ => none }
def FlatOfWrongFalsely : Prop := flatOfRow.holds Tryz.pinned (OpenSpec.ofChange flatOfWrong)

/-- 'tompionlaw23.FlatSays': WHATEVER THE INPUT: true; the input reads as it did. -/
def flatSaysSpec : ChangeSpec := { name := "flatSays", fn := fun _ => fun
  | [d1, d2] => { results := [.lit (.bool true)], args := [d1, d2] }
  | _ => none }
def flatSaysRow : OpenClaim := { program := "ytgjfkidbfmbjoaagreat", sum := "e937f393e803f0d9ba94fd1c6ec4c9a63cf9ba51d069abb4a8211b97de3fe0aa", func := "tompion/tompionlaw23.FlatSays", spec := "flatSays", unfollowed := true, recurses := true, loops := true, apart := false }
def FlatSaysSaid : Prop := flatSaysRow.holds Tryz.pinned (OpenSpec.ofChange flatSaysSpec)

/-- ITS FALSE NEIGHBOUR: 'it returns false'. Refute it at one input. -/
def flatSaysWrong : ChangeSpec := { name := "flatSays", fn := fun _ => fun
  | [d1, d2] => { results := [.lit (.bool false)], args := [d1, d2] }
  | _ => none }
def FlatSaysWrongFalsely : Prop := flatSaysRow.holds Tryz.pinned (OpenSpec.ofChange flatSaysWrong)

/-- 'tompionlaw46.DependOf': WHATEVER THE INPUT: true; the input reads as it did. -/
def dependOfSpec : ChangeSpec := { name := "dependOf", fn := fun _ => fun
  | [d] => { results := [.lit (.bool true)], args := [d] }
  | _ => none }
def dependOfRow : OpenClaim := { program := "ytgjfkidbfmbjoaagreat", sum := "e937f393e803f0d9ba94fd1c6ec4c9a63cf9ba51d069abb4a8211b97de3fe0aa", func := "tompion/tompionlaw46.DependOf", spec := "dependOf", inPlace := ["internal/abi.NoEscape"], unfollowed := true, recurses := true, loops := true, apart := false }
def DependOfSaid : Prop := dependOfRow.holds Tryz.pinned (OpenSpec.ofChange dependOfSpec)

/-- ITS FALSE NEIGHBOUR: 'it returns false'. Refute it at one input. -/
def dependOfWrong : ChangeSpec := { name := "dependOf", fn := fun _ => fun
  | [d] => { results := [.lit (.bool false)], args := [d] }
  | _ => none }
def DependOfWrongFalsely : Prop := dependOfRow.holds Tryz.pinned (OpenSpec.ofChange dependOfWrong)

/-- 'tompionlaw46.DependSource': WHATEVER THE INPUT: true; the input reads as it did. -/
def dependSourceSpec : ChangeSpec := { name := "dependSource", fn := fun _ => fun
  | [d] => { results := [.lit (.bool true)], args := [d] }
  | _ => none }
def dependSourceRow : OpenClaim := { program := "ytgjfkidbfmbjoaagreat", sum := "e937f393e803f0d9ba94fd1c6ec4c9a63cf9ba51d069abb4a8211b97de3fe0aa", func := "tompion/tompionlaw46.DependSource", spec := "dependSource", inPlace := ["internal/abi.NoEscape"], unfollowed := true, recurses := true, loops := true, apart := false }
def DependSourceSaid : Prop := dependSourceRow.holds Tryz.pinned (OpenSpec.ofChange dependSourceSpec)

/-- ITS FALSE NEIGHBOUR: 'it returns false'. Refute it at one input. -/
def dependSourceWrong : ChangeSpec := { name := "dependSource", fn := fun _ => fun
  | [d] => { results := [.lit (.bool false)], args := [d] }
  | _ => none }
def DependSourceWrongFalsely : Prop := dependSourceRow.holds Tryz.pinned (OpenSpec.ofChange dependSourceWrong)

/-- 'tompionlaw46.DependSays': WHATEVER THE INPUT: true; the input reads as it did. -/
def dependSaysSpec : ChangeSpec := { name := "dependSays", fn := fun _ => fun
  | [d1, d2, d3] => { results := [.lit (.bool true)], args := [d1, d2, d3] }
  | _ => none }
def dependSaysRow : OpenClaim := { program := "ytgjfkidbfmbjoaagreat", sum := "e937f393e803f0d9ba94fd1c6ec4c9a63cf9ba51d069abb4a8211b97de3fe0aa", func := "tompion/tompionlaw46.DependSays", spec := "dependSays", inPlace := ["internal/abi.NoEscape"], unfollowed := true, recurses := true, loops := true, apart := false }
def DependSaysSaid : Prop := dependSaysRow.holds Tryz.pinned (OpenSpec.ofChange dependSaysSpec)

/-- ITS FALSE NEIGHBOUR: 'it returns false'. Refute it at one input. -/
def dependSaysWrong : ChangeSpec := { name := "dependSays", fn := fun _ => fun
  | [d1, d2, d3] => { results := [.lit (.bool false)], args := [d1, d2, d3] }
  | _ => none }
def DependSaysWrongFalsely : Prop := dependSaysRow.holds Tryz.pinned (OpenSpec.ofChange dependSaysWrong)

/-- 'tompionlaw46.DependTexts': WHATEVER THE INPUT: true; the input reads as it did. -/
def dependTextsSpec : ChangeSpec := { name := "dependTexts", fn := fun _ => fun
  | [d] => { results := [.lit (.bool true)], args := [d] }
  | _ => none }
def dependTextsRow : OpenClaim := { program := "ytgjfkidbfmbjoaagreat", sum := "e937f393e803f0d9ba94fd1c6ec4c9a63cf9ba51d069abb4a8211b97de3fe0aa", func := "tompion/tompionlaw46.DependTexts", spec := "dependTexts", inPlace := ["internal/abi.NoEscape"], unfollowed := true, recurses := true, apart := false }
def DependTextsSaid : Prop := dependTextsRow.holds Tryz.pinned (OpenSpec.ofChange dependTextsSpec)

/-- ITS FALSE NEIGHBOUR: 'it returns false'. Refute it at one input. -/
def dependTextsWrong : ChangeSpec := { name := "dependTexts", fn := fun _ => fun
  | [d] => { results := [.lit (.bool false)], args := [d] }
  | _ => none }
def DependTextsWrongFalsely : Prop := dependTextsRow.holds Tryz.pinned (OpenSpec.ofChange dependTextsWrong)

/- THE SECOND FORM. 'bulk': how many values and letters a reading holds, each counted each time it is reached (what is shared counts as often as it is met; a slice's spare places count too). A statement '..UptoSaid' is the law's where the arguments, and the package variables that the reading takes, are together of bulk at most 1048576: NARROWER than '..Said'. Prove '..Said' where nothing that the law and all that it calls make is longer than what came in: it says more and counts as full. Else prove '..UptoSaid'. A law counts once. -/
mutual
def uptoBulk {H : Type} : DataW H → Nat
  | .lit (.string bytes) => bytes.length + 1
  | .lit _ => 1
  | .nil => 1
  | .ptr d => uptoBulk d + 1
  | .slice elems spare => uptoBulkAll elems + uptoBulkAll spare + 1
  | .agg parts => uptoBulkAll parts + 1
  | .iface _ d => uptoBulk d + 1
  | .map entries => uptoBulkEntries entries + 1
  | .held _ => 1
def uptoBulkAll {H : Type} : List (DataW H) → Nat
  | [] => 0
  | d :: r => uptoBulk d + uptoBulkAll r
def uptoBulkEntries {H : Type} : List (Lit × DataW H) → Nat
  | [] => 0
  | x :: r => uptoBulkEntry x + uptoBulkEntries r
def uptoBulkEntry {H : Type} : Lit × DataW H → Nat
  | (.string bytes, d) => bytes.length + uptoBulk d + 1
  | (_, d) => uptoBulk d + 1
 end
def uptoSmall : (H : Type) → List (DataW H) → Bool := fun _ ds => decide (uptoBulkAll ds ≤ 1048576)
def OpenSpec.upto (s : _root_.Go.ChangeSpec) : _root_.Go.OpenSpec := { _root_.Go.OpenSpec.ofChange s with cond := some uptoSmall }

/-- 'tompionlaw21.CheckSource', WHERE WHAT IT READS IS OF BULK AT MOST 1048576: true; the input reads as it did. -/
def checkSourceUptoRow : OpenClaim := { program := "ytgjfkidbfmbjoaagreat", sum := "e937f393e803f0d9ba94fd1c6ec4c9a63cf9ba51d069abb4a8211b97de3fe0aa", func := "tompion/tompionlaw21.CheckSource", spec := "checkSource", unfollowed := true, recurses := true, loops := true, apart := false, narrowed := true }
def CheckSourceUptoSaid : Prop := checkSourceUptoRow.holds Tryz.pinned (OpenSpec.upto checkSourceSpec)

/-- 'tompionlaw21.CheckText', WHERE WHAT IT READS IS OF BULK AT MOST 1048576: true; the input reads as it did. -/
def checkTextUptoRow : OpenClaim := { program := "ytgjfkidbfmbjoaagreat", sum := "e937f393e803f0d9ba94fd1c6ec4c9a63cf9ba51d069abb4a8211b97de3fe0aa", func := "tompion/tompionlaw21.CheckText", spec := "checkText", unfollowed := true, recurses := true, apart := false, narrowed := true }
def CheckTextUptoSaid : Prop := checkTextUptoRow.holds Tryz.pinned (OpenSpec.upto checkTextSpec)

/-- 'tompionlaw22.StreamRuns', WHERE WHAT IT READS IS OF BULK AT MOST 1048576: true; the input reads as it did. -/
def streamRunsUptoRow : OpenClaim := { program := "ytgjfkidbfmbjoaagreat", sum := "e937f393e803f0d9ba94fd1c6ec4c9a63cf9ba51d069abb4a8211b97de3fe0aa", func := "tompion/tompionlaw22.StreamRuns", spec := "streamRuns", unfollowed := true, recurses := true, loops := true, apart := false, narrowed := true }
def StreamRunsUptoSaid : Prop := streamRunsUptoRow.holds Tryz.pinned (OpenSpec.upto streamRunsSpec)

/-- 'tompionlaw22.StreamAhead', WHERE WHAT IT READS IS OF BULK AT MOST 1048576: true; the input reads as it did. -/
def streamAheadUptoRow : OpenClaim := { program := "ytgjfkidbfmbjoaagreat", sum := "e937f393e803f0d9ba94fd1c6ec4c9a63cf9ba51d069abb4a8211b97de3fe0aa", func := "tompion/tompionlaw22.StreamAhead", spec := "streamAhead", unfollowed := true, recurses := true, loops := true, apart := false, narrowed := true }
def StreamAheadUptoSaid : Prop := streamAheadUptoRow.holds Tryz.pinned (OpenSpec.upto streamAheadSpec)

/-- 'tompionlaw22.StreamDelays', WHERE WHAT IT READS IS OF BULK AT MOST 1048576: true; the input reads as it did. -/
def streamDelaysUptoRow : OpenClaim := { program := "ytgjfkidbfmbjoaagreat", sum := "e937f393e803f0d9ba94fd1c6ec4c9a63cf9ba51d069abb4a8211b97de3fe0aa", func := "tompion/tompionlaw22.StreamDelays", spec := "streamDelays", unfollowed := true, recurses := true, apart := false, narrowed := true }
def StreamDelaysUptoSaid : Prop := streamDelaysUptoRow.holds Tryz.pinned (OpenSpec.upto streamDelaysSpec)

/-- 'tompionlaw23.FlatRight', WHERE WHAT IT READS IS OF BULK AT MOST 1048576: true; the input reads as it did. -/
def flatRightUptoRow : OpenClaim := { program := "ytgjfkidbfmbjoaagreat", sum := "e937f393e803f0d9ba94fd1c6ec4c9a63cf9ba51d069abb4a8211b97de3fe0aa", func := "tompion/tompionlaw23.FlatRight", spec := "flatRight", unfollowed := true, recurses := true, loops := true, apart := false, narrowed := true }
def FlatRightUptoSaid : Prop := flatRightUptoRow.holds Tryz.pinned (OpenSpec.upto flatRightSpec)

/-- 'tompionlaw23.FlatOf', WHERE WHAT IT READS IS OF BULK AT MOST 1048576: true; the input reads as it did. -/
def flatOfUptoRow : OpenClaim := { program := "ytgjfkidbfmbjoaagreat", sum := "e937f393e803f0d9ba94fd1c6ec4c9a63cf9ba51d069abb4a8211b97de3fe0aa", func := "tompion/tompionlaw23.FlatOf", spec := "flatOf", unfollowed := true, recurses := true, loops := true, apart := false, narrowed := true }
def FlatOfUptoSaid : Prop := flatOfUptoRow.holds Tryz.pinned (OpenSpec.upto flatOfSpec)

/-- 'tompionlaw23.FlatSays', WHERE WHAT IT READS IS OF BULK AT MOST 1048576: true; the input reads as it did. -/
def flatSaysUptoRow : OpenClaim := { program := "ytgjfkidbfmbjoaagreat", sum := "e937f393e803f0d9ba94fd1c6ec4c9a63cf9ba51d069abb4a8211b97de3fe0aa", func := "tompion/tompionlaw23.FlatSays", spec := "flatSays", unfollowed := true, recurses := true, loops := true, apart := false, narrowed := true }
def FlatSaysUptoSaid : Prop := flatSaysUptoRow.holds Tryz.pinned (OpenSpec.upto flatSaysSpec)

/-- 'tompionlaw46.DependOf', WHERE WHAT IT READS IS OF BULK AT MOST 1048576: true; the input reads as it did. -/
def dependOfUptoRow : OpenClaim := { program := "ytgjfkidbfmbjoaagreat", sum := "e937f393e803f0d9ba94fd1c6ec4c9a63cf9ba51d069abb4a8211b97de3fe0aa", func := "tompion/tompionlaw46.DependOf", spec := "dependOf", inPlace := ["internal/abi.NoEscape"], unfollowed := true, recurses := true, loops := true, apart := false, narrowed := true }
def DependOfUptoSaid : Prop := dependOfUptoRow.holds Tryz.pinned (OpenSpec.upto dependOfSpec)

/-- 'tompionlaw46.DependSource', WHERE WHAT IT READS IS OF BULK AT MOST 1048576: true; the input reads as it did. -/
def dependSourceUptoRow : OpenClaim := { program := "ytgjfkidbfmbjoaagreat", sum := "e937f393e803f0d9ba94fd1c6ec4c9a63cf9ba51d069abb4a8211b97de3fe0aa", func := "tompion/tompionlaw46.DependSource", spec := "dependSource", inPlace := ["internal/abi.NoEscape"], unfollowed := true, recurses := true, loops := true, apart := false, narrowed := true }
def DependSourceUptoSaid : Prop := dependSourceUptoRow.holds Tryz.pinned (OpenSpec.upto dependSourceSpec)

/-- 'tompionlaw46.DependSays', WHERE WHAT IT READS IS OF BULK AT MOST 1048576: true; the input reads as it did. -/
def dependSaysUptoRow : OpenClaim := { program := "ytgjfkidbfmbjoaagreat", sum := "e937f393e803f0d9ba94fd1c6ec4c9a63cf9ba51d069abb4a8211b97de3fe0aa", func := "tompion/tompionlaw46.DependSays", spec := "dependSays", inPlace := ["internal/abi.NoEscape"], unfollowed := true, recurses := true, loops := true, apart := false, narrowed := true }
def DependSaysUptoSaid : Prop := dependSaysUptoRow.holds Tryz.pinned (OpenSpec.upto dependSaysSpec)

/-- 'tompionlaw46.DependTexts', WHERE WHAT IT READS IS OF BULK AT MOST 1048576: true; the input reads as it did. -/
def dependTextsUptoRow : OpenClaim := { program := "ytgjfkidbfmbjoaagreat", sum := "e937f393e803f0d9ba94fd1c6ec4c9a63cf9ba51d069abb4a8211b97de3fe0aa", func := "tompion/tompionlaw46.DependTexts", spec := "dependTexts", inPlace := ["internal/abi.NoEscape"], unfollowed := true, recurses := true, apart := false, narrowed := true }
def DependTextsUptoSaid : Prop := dependTextsUptoRow.holds Tryz.pinned (OpenSpec.upto dependTextsSpec)

end Rows
end Go.Proofs.YtgjfkidbfmbjoaaGreat
