/-
  NARROWER THAN 'FOR EVERY INPUT', by the rows' own cells (each row's printed sentence says how): OnsetLate: loops · OnsetBegins: loops · ClockFits: loops · ClockOne: loops · ScopeWhole: loops · ScopeFinds: loops · OnsetCheck: loops · TypesCheck: loops · ClockCheck: loops · TypesOf: loops · TypesWhole: loops.
  DERIVED. THE GIVEN ROWS OF THIS SEAT. 11 by the template 'for every input the law returns true; each argument reads behind the call as it read before'; 0 by the template 'total and deterministic' (their statements: YtolabbnchmmckaaTotals.lean).
  GIVEN WITH THE SEED: the statements are not yours to turn. If you find one false, say at which input.
  Laid BY PROGRAM, IN A SANDBOX (cutbox-rows.mjs): the forced cells as the released guide's own fill.sh prints them over the translation f27345da9f97fd53… (all of the seat's roots in one cut). By AI agents, Wed Nov 11 2026. No macro, syntax, notation, axiom, sorry.
-/
import Derived.Test.YtolabbnchmmckaaChecked
import GoSem.Claim
import GoSem.ClaimJoined
import GoSem.ClaimMapViews
import Derived.JoinedTies
import Derived.KernelRfl
namespace Go.Proofs.Ytolabbnchmmckaa
/- THE CELL 'sum', in the pinned program and in every row, IS THE sha256 OF THE DUMP (.gsa) THAT YtolabbnchmmckaaProg.lean LOADS. Nothing in Lean hashes anything: it is a label: what it is worth is what the hold of that sum in a sandbox is worth. -/
noncomputable def Try.pinned : Pinned := { name := "ytolabbnchmmckaa", sum := "f27345da9f97fd532cef82d171a64875dbb7f9d889dfc18df1aa3e112ba2a768", checked := Try.checked }
namespace Rows
def none {H : Type} : Left H := { results := [], args := [] }

/-- 'tompionlaw19.OnsetLate': WHATEVER THE INPUT: true; the input reads as it did. -/
def onsetLateSpec : ChangeSpec := { name := "onsetLate", fn := fun _ => fun
  | [d] => { results := [.lit (.bool true)], args := [d] }
  | _ => none }
def onsetLateRow : OpenClaim := { program := "ytolabbnchmmckaa", sum := "f27345da9f97fd532cef82d171a64875dbb7f9d889dfc18df1aa3e112ba2a768", func := "tompion/tompionlaw19.OnsetLate", spec := "onsetLate", unfollowed := true, recurses := true, loops := true, apart := false }
def OnsetLateSaid : Prop := onsetLateRow.holds Try.pinned (OpenSpec.ofChange onsetLateSpec)

/-- ITS FALSE NEIGHBOUR: 'it returns false'. Refute it at one input. -/
def onsetLateWrong : ChangeSpec := { name := "onsetLate", fn := fun _ => fun
  | [d] => { results := [.lit (.bool false)], args := [d] }
  | _ => none }
def OnsetLateWrongFalsely : Prop := onsetLateRow.holds Try.pinned (OpenSpec.ofChange onsetLateWrong)

/-- 'tompionlaw19.OnsetBegins': WHATEVER THE INPUT: true; the input reads as it did. -/
def onsetBeginsSpec : ChangeSpec := { name := "onsetBegins", fn := fun _ => fun
  | [d1, d2] => { results := [.lit (.bool true)], args := [d1, d2] }
  | _ => none }
def onsetBeginsRow : OpenClaim := { program := "ytolabbnchmmckaa", sum := "f27345da9f97fd532cef82d171a64875dbb7f9d889dfc18df1aa3e112ba2a768", func := "tompion/tompionlaw19.OnsetBegins", spec := "onsetBegins", unfollowed := true, recurses := true, loops := true, apart := false }
def OnsetBeginsSaid : Prop := onsetBeginsRow.holds Try.pinned (OpenSpec.ofChange onsetBeginsSpec)

/-- ITS FALSE NEIGHBOUR: 'it returns false'. Refute it at one input. -/
def onsetBeginsWrong : ChangeSpec := { name := "onsetBegins", fn := fun _ => fun
  | [d1, d2] => { results := [.lit (.bool false)], args := [d1, d2] }
  | _ => none }
def OnsetBeginsWrongFalsely : Prop := onsetBeginsRow.holds Try.pinned (OpenSpec.ofChange onsetBeginsWrong)

/-- 'tompionlaw18.ClockFits': WHATEVER THE INPUT: true; the input reads as it did. -/
def clockFitsSpec : ChangeSpec := { name := "clockFits", fn := fun _ => fun
  | [d1, d2, d3] => { results := [.lit (.bool true)], args := [d1, d2, d3] }
  | _ => none }
def clockFitsRow : OpenClaim := { program := "ytolabbnchmmckaa", sum := "f27345da9f97fd532cef82d171a64875dbb7f9d889dfc18df1aa3e112ba2a768", func := "tompion/tompionlaw18.ClockFits", spec := "clockFits", unfollowed := true, recurses := true, loops := true, apart := false }
def ClockFitsSaid : Prop := clockFitsRow.holds Try.pinned (OpenSpec.ofChange clockFitsSpec)

/-- ITS FALSE NEIGHBOUR: 'it returns false'. Refute it at one input. -/
def clockFitsWrong : ChangeSpec := { name := "clockFits", fn := fun _ => fun
  | [d1, d2, d3] => { results := [.lit (.bool false)], args := [d1, d2, d3] }
  | _ => none }
def ClockFitsWrongFalsely : Prop := clockFitsRow.holds Try.pinned (OpenSpec.ofChange clockFitsWrong)

/-- 'tompionlaw18.ClockOne': WHATEVER THE INPUT: true; the input reads as it did. -/
def clockOneSpec : ChangeSpec := { name := "clockOne", fn := fun _ => fun
  | [d1, d2, d3] => { results := [.lit (.bool true)], args := [d1, d2, d3] }
  | _ => none }
def clockOneRow : OpenClaim := { program := "ytolabbnchmmckaa", sum := "f27345da9f97fd532cef82d171a64875dbb7f9d889dfc18df1aa3e112ba2a768", func := "tompion/tompionlaw18.ClockOne", spec := "clockOne", unfollowed := true, recurses := true, loops := true, apart := false }
def ClockOneSaid : Prop := clockOneRow.holds Try.pinned (OpenSpec.ofChange clockOneSpec)

/-- ITS FALSE NEIGHBOUR: 'it returns false'. Refute it at one input. -/
def clockOneWrong : ChangeSpec := { name := "clockOne", fn := fun _ => fun
  | [d1, d2, d3] => { results := [.lit (.bool false)], args := [d1, d2, d3] }
  | _ => none }
def ClockOneWrongFalsely : Prop := clockOneRow.holds Try.pinned (OpenSpec.ofChange clockOneWrong)

/-- 'tompionlaw15.ScopeWhole': WHATEVER THE INPUT: true; the input reads as it did. -/
def scopeWholeSpec : ChangeSpec := { name := "scopeWhole", fn := fun _ => fun
  | [d] => { results := [.lit (.bool true)], args := [d] }
  | _ => none }
def scopeWholeRow : OpenClaim := { program := "ytolabbnchmmckaa", sum := "f27345da9f97fd532cef82d171a64875dbb7f9d889dfc18df1aa3e112ba2a768", func := "tompion/tompionlaw15.ScopeWhole", spec := "scopeWhole", unfollowed := true, recurses := true, loops := true, apart := false }
def ScopeWholeSaid : Prop := scopeWholeRow.holds Try.pinned (OpenSpec.ofChange scopeWholeSpec)

/-- ITS FALSE NEIGHBOUR: 'it returns false'. Refute it at one input. -/
def scopeWholeWrong : ChangeSpec := { name := "scopeWhole", fn := fun _ => fun
  | [d] => { results := [.lit (.bool false)], args := [d] }
  | _ => none }
def ScopeWholeWrongFalsely : Prop := scopeWholeRow.holds Try.pinned (OpenSpec.ofChange scopeWholeWrong)

/-- 'tompionlaw15.ScopeFinds': WHATEVER THE INPUT: true; the input reads as it did. -/
def scopeFindsSpec : ChangeSpec := { name := "scopeFinds", fn := fun _ => fun
  | [d1, d2] => { results := [.lit (.bool true)], args := [d1, d2] }
  | _ => none }
def scopeFindsRow : OpenClaim := { program := "ytolabbnchmmckaa", sum := "f27345da9f97fd532cef82d171a64875dbb7f9d889dfc18df1aa3e112ba2a768", func := "tompion/tompionlaw15.ScopeFinds", spec := "scopeFinds", unfollowed := true, recurses := true, loops := true, apart := false }
def ScopeFindsSaid : Prop := scopeFindsRow.holds Try.pinned (OpenSpec.ofChange scopeFindsSpec)

/-- ITS FALSE NEIGHBOUR: 'it returns false'. Refute it at one input. -/
def scopeFindsWrong : ChangeSpec := { name := "scopeFinds", fn := fun _ => fun
  | [d1, d2] => { results := [.lit (.bool false)], args := [d1, d2] }
  | _ => none }
def ScopeFindsWrongFalsely : Prop := scopeFindsRow.holds Try.pinned (OpenSpec.ofChange scopeFindsWrong)

/-- 'tompionlaw19.OnsetCheck': WHATEVER THE INPUT: true; the input reads as it did. -/
def onsetCheckSpec : ChangeSpec := { name := "onsetCheck", fn := fun _ => fun
  | [d] => { results := [.lit (.bool true)], args := [d] }
  | _ => none }
def onsetCheckRow : OpenClaim := { program := "ytolabbnchmmckaa", sum := "f27345da9f97fd532cef82d171a64875dbb7f9d889dfc18df1aa3e112ba2a768", func := "tompion/tompionlaw19.OnsetCheck", spec := "onsetCheck", unfollowed := true, recurses := true, loops := true, apart := false }
def OnsetCheckSaid : Prop := onsetCheckRow.holds Try.pinned (OpenSpec.ofChange onsetCheckSpec)

/-- ITS FALSE NEIGHBOUR: 'it returns false'. Refute it at one input. -/
def onsetCheckWrong : ChangeSpec := { name := "onsetCheck", fn := fun _ => fun
  | [d] => { results := [.lit (.bool false)], args := [d] }
  | _ => none }
def OnsetCheckWrongFalsely : Prop := onsetCheckRow.holds Try.pinned (OpenSpec.ofChange onsetCheckWrong)

/-- 'tompionlaw16.TypesCheck': WHATEVER THE INPUT: true; the input reads as it did. -/
def typesCheckSpec : ChangeSpec := { name := "typesCheck", fn := fun _ => fun
  | [d] => { results := [.lit (.bool true)], args := [d] }
  | _ => none }
def typesCheckRow : OpenClaim := { program := "ytolabbnchmmckaa", sum := "f27345da9f97fd532cef82d171a64875dbb7f9d889dfc18df1aa3e112ba2a768", func := "tompion/tompionlaw16.TypesCheck", spec := "typesCheck", unfollowed := true, recurses := true, loops := true, apart := false }
def TypesCheckSaid : Prop := typesCheckRow.holds Try.pinned (OpenSpec.ofChange typesCheckSpec)

/-- ITS FALSE NEIGHBOUR: 'it returns false'. Refute it at one input. -/
def typesCheckWrong : ChangeSpec := { name := "typesCheck", fn := fun _ => fun
  | [d] => { results := [.lit (.bool false)], args := [d] }
  | _ => none }
def TypesCheckWrongFalsely : Prop := typesCheckRow.holds Try.pinned (OpenSpec.ofChange typesCheckWrong)

/-- 'tompionlaw18.ClockCheck': WHATEVER THE INPUT: true; the input reads as it did. -/
def clockCheckSpec : ChangeSpec := { name := "clockCheck", fn := fun _ => fun
  | [d] => { results := [.lit (.bool true)], args := [d] }
  | _ => none }
def clockCheckRow : OpenClaim := { program := "ytolabbnchmmckaa", sum := "f27345da9f97fd532cef82d171a64875dbb7f9d889dfc18df1aa3e112ba2a768", func := "tompion/tompionlaw18.ClockCheck", spec := "clockCheck", unfollowed := true, recurses := true, loops := true, apart := false }
def ClockCheckSaid : Prop := clockCheckRow.holds Try.pinned (OpenSpec.ofChange clockCheckSpec)

/-- ITS FALSE NEIGHBOUR: 'it returns false'. Refute it at one input. -/
def clockCheckWrong : ChangeSpec := { name := "clockCheck", fn := fun _ => fun
  | [d] => { results := [.lit (.bool false)], args := [d] }
  | _ => none }
def ClockCheckWrongFalsely : Prop := clockCheckRow.holds Try.pinned (OpenSpec.ofChange clockCheckWrong)

/-- 'tompionlaw16.TypesOf': WHATEVER THE INPUT: true; the input reads as it did. -/
def typesOfSpec : ChangeSpec := { name := "typesOf", fn := fun _ => fun
  | [d1, d2, d3] => { results := [.lit (.bool true)], args := [d1, d2, d3] }
  | _ => none }
def typesOfRow : OpenClaim := { program := "ytolabbnchmmckaa", sum := "f27345da9f97fd532cef82d171a64875dbb7f9d889dfc18df1aa3e112ba2a768", func := "tompion/tompionlaw16.TypesOf", spec := "typesOf", unfollowed := true, recurses := true, loops := true, apart := false }
def TypesOfSaid : Prop := typesOfRow.holds Try.pinned (OpenSpec.ofChange typesOfSpec)

/-- ITS FALSE NEIGHBOUR: 'it returns false'. Refute it at one input. -/
def typesOfWrong : ChangeSpec := { name := "typesOf", fn := fun _ => fun
  | [d1, d2, d3] => { results := [.lit (.bool false)], args := [d1, d2, d3] }
  | _ => none }
def TypesOfWrongFalsely : Prop := typesOfRow.holds Try.pinned (OpenSpec.ofChange typesOfWrong)

/-- 'tompionlaw16.TypesWhole': WHATEVER THE INPUT: true; the input reads as it did. -/
def typesWholeSpec : ChangeSpec := { name := "typesWhole", fn := fun _ => fun
  | [d] => { results := [.lit (.bool true)], args := [d] }
  | _ => none }
def typesWholeRow : OpenClaim := { program := "ytolabbnchmmckaa", sum := "f27345da9f97fd532cef82d171a64875dbb7f9d889dfc18df1aa3e112ba2a768", func := "tompion/tompionlaw16.TypesWhole", spec := "typesWhole", unfollowed := true, recurses := true, loops := true, apart := false }
def TypesWholeSaid : Prop := typesWholeRow.holds Try.pinned (OpenSpec.ofChange typesWholeSpec)

/-- ITS FALSE NEIGHBOUR: 'it returns false'. Refute it at one input. -/
def typesWholeWrong : ChangeSpec := { name := "typesWhole", fn := fun _ => fun
  | [d] => { results := [.lit (.bool false)], args := [d] }
  | _ => none }
def TypesWholeWrongFalsely : Prop := typesWholeRow.holds Try.pinned (OpenSpec.ofChange typesWholeWrong)

/- THE SECOND FORM. 'bulk': how many values and letters a reading holds, each counted each time it is reached (what is shared counts as often as it is met; a slice's spare places count too). A statement '..UptoSaid' is the law's where the arguments, and the package variables that the reading takes, are together of bulk at most 1048576: NARROWER than '..Said'. Prove '..Said' where nothing that the law and all that it calls make is longer than what came in: it says more and counts as full. Else prove '..UptoSaid'. A law counts once. -/
mutual
def uptoBulk {H : Type} : DataW H → Nat
  | .lit (.string bytes) => bytes.length + 1
  | .lit _ => 1
  | .nil => 1
  | .ptr d => uptoBulk d + 1
  | .slice elems spare => uptoBulkAll elems + uptoBulkAll spare + 1
  | .agg parts => uptoBulkAll parts + 1
  | .iface _ d => uptoBulk d + 1
  | .map entries => uptoBulkEntries entries + 1
  | .held _ => 1
def uptoBulkAll {H : Type} : List (DataW H) → Nat
  | [] => 0
  | d :: r => uptoBulk d + uptoBulkAll r
def uptoBulkEntries {H : Type} : List (Lit × DataW H) → Nat
  | [] => 0
  | x :: r => uptoBulkEntry x + uptoBulkEntries r
def uptoBulkEntry {H : Type} : Lit × DataW H → Nat
  | (.string bytes, d) => bytes.length + uptoBulk d + 1
  | (_, d) => uptoBulk d + 1
 end
def uptoSmall : (H : Type) → List (DataW H) → Bool := fun _ ds => decide (uptoBulkAll ds ≤ 1048576)
def OpenSpec.upto (s : _root_.Go.ChangeSpec) : _root_.Go.OpenSpec := { _root_.Go.OpenSpec.ofChange s with cond := some uptoSmall }

/-- 'tompionlaw19.OnsetLate', WHERE WHAT IT READS IS OF BULK AT MOST 1048576: true; the input reads as it did. -/
def onsetLateUptoRow : OpenClaim := { program := "ytolabbnchmmckaa", sum := "f27345da9f97fd532cef82d171a64875dbb7f9d889dfc18df1aa3e112ba2a768", func := "tompion/tompionlaw19.OnsetLate", spec := "onsetLate", unfollowed := true, recurses := true, loops := true, apart := false, narrowed := true }
def OnsetLateUptoSaid : Prop := onsetLateUptoRow.holds Try.pinned (OpenSpec.upto onsetLateSpec)

/-- 'tompionlaw19.OnsetBegins', WHERE WHAT IT READS IS OF BULK AT MOST 1048576: true; the input reads as it did. -/
def onsetBeginsUptoRow : OpenClaim := { program := "ytolabbnchmmckaa", sum := "f27345da9f97fd532cef82d171a64875dbb7f9d889dfc18df1aa3e112ba2a768", func := "tompion/tompionlaw19.OnsetBegins", spec := "onsetBegins", unfollowed := true, recurses := true, loops := true, apart := false, narrowed := true }
def OnsetBeginsUptoSaid : Prop := onsetBeginsUptoRow.holds Try.pinned (OpenSpec.upto onsetBeginsSpec)

/-- 'tompionlaw18.ClockFits', WHERE WHAT IT READS IS OF BULK AT MOST 1048576: true; the input reads as it did. -/
def clockFitsUptoRow : OpenClaim := { program := "ytolabbnchmmckaa", sum := "f27345da9f97fd532cef82d171a64875dbb7f9d889dfc18df1aa3e112ba2a768", func := "tompion/tompionlaw18.ClockFits", spec := "clockFits", unfollowed := true, recurses := true, loops := true, apart := false, narrowed := true }
def ClockFitsUptoSaid : Prop := clockFitsUptoRow.holds Try.pinned (OpenSpec.upto clockFitsSpec)

/-- 'tompionlaw18.ClockOne', WHERE WHAT IT READS IS OF BULK AT MOST 1048576: true; the input reads as it did. -/
def clockOneUptoRow : OpenClaim := { program := "ytolabbnchmmckaa", sum := "f27345da9f97fd532cef82d171a64875dbb7f9d889dfc18df1aa3e112ba2a768", func := "tompion/tompionlaw18.ClockOne", spec := "clockOne", unfollowed := true, recurses := true, loops := true, apart := false, narrowed := true }
def ClockOneUptoSaid : Prop := clockOneUptoRow.holds Try.pinned (OpenSpec.upto clockOneSpec)

/-- 'tompionlaw15.ScopeWhole', WHERE WHAT IT READS IS OF BULK AT MOST 1048576: true; the input reads as it did. -/
def scopeWholeUptoRow : OpenClaim := { program := "ytolabbnchmmckaa", sum := "f27345da9f97fd532cef82d171a64875dbb7f9d889dfc18df1aa3e112ba2a768", func := "tompion/tompionlaw15.ScopeWhole", spec := "scopeWhole", unfollowed := true, recurses := true, loops := true, apart := false, narrowed := true }
def ScopeWholeUptoSaid : Prop := scopeWholeUptoRow.holds Try.pinned (OpenSpec.upto scopeWholeSpec)

/-- 'tompionlaw15.ScopeFinds', WHERE WHAT IT READS IS OF BULK AT MOST 1048576: true; the input reads as it did. -/
def scopeFindsUptoRow : OpenClaim := { program := "ytolabbnchmmckaa", sum := "f27345da9f97fd532cef82d171a64875dbb7f9d889dfc18df1aa3e112ba2a768", func := "tompion/tompionlaw15.ScopeFinds", spec := "scopeFinds", unfollowed := true, recurses := true, loops := true, apart := false, narrowed := true }
def ScopeFindsUptoSaid : Prop := scopeFindsUptoRow.holds Try.pinned (OpenSpec.upto scopeFindsSpec)

/-- 'tompionlaw19.OnsetCheck', WHERE WHAT IT READS IS OF BULK AT MOST 1048576: true; the input reads as it did. -/
def onsetCheckUptoRow : OpenClaim := { program := "ytolabbnchmmckaa", sum := "f27345da9f97fd532cef82d171a64875dbb7f9d889dfc18df1aa3e112ba2a768", func := "tompion/tompionlaw19.OnsetCheck", spec := "onsetCheck", unfollowed := true, recurses := true, loops := true, apart := false, narrowed := true }
def OnsetCheckUptoSaid : Prop := onsetCheckUptoRow.holds Try.pinned (OpenSpec.upto onsetCheckSpec)

/-- 'tompionlaw16.TypesCheck', WHERE WHAT IT READS IS OF BULK AT MOST 1048576: true; the input reads as it did. -/
def typesCheckUptoRow : OpenClaim := { program := "ytolabbnchmmckaa", sum := "f27345da9f97fd532cef82d171a64875dbb7f9d889dfc18df1aa3e112ba2a768", func := "tompion/tompionlaw16.TypesCheck", spec := "typesCheck", unfollowed := true, recurses := true, loops := true, apart := false, narrowed := true }
def TypesCheckUptoSaid : Prop := typesCheckUptoRow.holds Try.pinned (OpenSpec.upto typesCheckSpec)

/-- 'tompionlaw18.ClockCheck', WHERE WHAT IT READS IS OF BULK AT MOST 1048576: true; the input reads as it did. -/
def clockCheckUptoRow : OpenClaim := { program := "ytolabbnchmmckaa", sum := "f27345da9f97fd532cef82d171a64875dbb7f9d889dfc18df1aa3e112ba2a768", func := "tompion/tompionlaw18.ClockCheck", spec := "clockCheck", unfollowed := true, recurses := true, loops := true, apart := false, narrowed := true }
def ClockCheckUptoSaid : Prop := clockCheckUptoRow.holds Try.pinned (OpenSpec.upto clockCheckSpec)

/-- 'tompionlaw16.TypesOf', WHERE WHAT IT READS IS OF BULK AT MOST 1048576: true; the input reads as it did. -/
def typesOfUptoRow : OpenClaim := { program := "ytolabbnchmmckaa", sum := "f27345da9f97fd532cef82d171a64875dbb7f9d889dfc18df1aa3e112ba2a768", func := "tompion/tompionlaw16.TypesOf", spec := "typesOf", unfollowed := true, recurses := true, loops := true, apart := false, narrowed := true }
def TypesOfUptoSaid : Prop := typesOfUptoRow.holds Try.pinned (OpenSpec.upto typesOfSpec)

/-- 'tompionlaw16.TypesWhole', WHERE WHAT IT READS IS OF BULK AT MOST 1048576: true; the input reads as it did. -/
def typesWholeUptoRow : OpenClaim := { program := "ytolabbnchmmckaa", sum := "f27345da9f97fd532cef82d171a64875dbb7f9d889dfc18df1aa3e112ba2a768", func := "tompion/tompionlaw16.TypesWhole", spec := "typesWhole", unfollowed := true, recurses := true, loops := true, apart := false, narrowed := true }
def TypesWholeUptoSaid : Prop := typesWholeUptoRow.holds Try.pinned (OpenSpec.upto typesWholeSpec)

end Rows
end Go.Proofs.Ytolabbnchmmckaa
