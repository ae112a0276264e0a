/-
  Results that lie in memory: rows of cells, stored and read whole.
-/
import Derived.Test.YtolabbnchmmckaaSl
namespace Go.Proofs.Ytolabbnchmmckaa
open Go.RowKit
section
variable {W : World} {b : Nat} {t : TypeId}
theorem Row.set3 {x0 x1 x2 : Value} (h : Row W b #[x0, x1, x2] t) (y0 y1 y2 : Value) : Row (((W.setCell ⟨b, 0, none⟩ y0).setCell ⟨b, 1, none⟩ y1).setCell ⟨b, 2, none⟩ y2) b #[y0, y1, y2] t := by
  have := ((h.set 0 y0).set 1 y1).set 2 y2
  simpa using this
theorem Row.set5 {x0 x1 x2 x3 x4 : Value} (h : Row W b #[x0, x1, x2, x3, x4] t) (y0 y1 y2 y3 y4 : Value) :
    Row (((((W.setCell ⟨b, 0, none⟩ y0).setCell ⟨b, 1, none⟩ y1).setCell ⟨b, 2, none⟩ y2).setCell ⟨b, 3, none⟩ y3).setCell ⟨b, 4, none⟩ y4) b #[y0, y1, y2, y3, y4] t := by
  have := ((((h.set 0 y0).set 1 y1).set 2 y2).set 3 y3).set 4 y4
  simpa using this
theorem Row.set7 {x0 x1 x2 x3 x4 x5 x6 : Value} (h : Row W b #[x0, x1, x2, x3, x4, x5, x6] t) (y0 y1 y2 y3 y4 y5 y6 : Value) :
    Row (((((((W.setCell ⟨b, 0, none⟩ y0).setCell ⟨b, 1, none⟩ y1).setCell ⟨b, 2, none⟩ y2).setCell ⟨b, 3, none⟩ y3).setCell ⟨b, 4, none⟩ y4).setCell ⟨b, 5, none⟩ y5).setCell ⟨b, 6, none⟩ y6) b #[y0, y1, y2, y3, y4, y5, y6] t := by
  have := ((((((h.set 0 y0).set 1 y1).set 2 y2).set 3 y3).set 4 y4).set 5 y5).set 6 y6
  simpa using this
theorem Row.three {x0 x1 x2 : Value} (h : Row W b #[x0, x1, x2] t) : (W.cell? ⟨b, 0, none⟩ = some x0 ∧ W.cell? ⟨b, 1, none⟩ = some x1 ∧ W.cell? ⟨b, 2, none⟩ = some x2) ∧ (W.frozen? ⟨b, 0, none⟩ = false ∧ W.frozen? ⟨b, 1, none⟩ = false ∧ W.frozen? ⟨b, 2, none⟩ = false) :=
  ⟨⟨(h.cell 0).trans rfl, (h.cell 1).trans rfl, (h.cell 2).trans rfl⟩, h.frozen 0, h.frozen 1, h.frozen 2⟩
theorem Row.seven {x0 x1 x2 x3 x4 x5 x6 : Value} (h : Row W b #[x0, x1, x2, x3, x4, x5, x6] t) : (W.cell? ⟨b, 0, none⟩ = some x0 ∧ W.cell? ⟨b, 1, none⟩ = some x1 ∧ W.cell? ⟨b, 2, none⟩ = some x2 ∧ W.cell? ⟨b, 3, none⟩ = some x3 ∧ W.cell? ⟨b, 4, none⟩ = some x4 ∧ W.cell? ⟨b, 5, none⟩ = some x5 ∧ W.cell? ⟨b, 6, none⟩ = some x6) ∧
    (W.frozen? ⟨b, 0, none⟩ = false ∧ W.frozen? ⟨b, 1, none⟩ = false ∧ W.frozen? ⟨b, 2, none⟩ = false ∧ W.frozen? ⟨b, 3, none⟩ = false ∧ W.frozen? ⟨b, 4, none⟩ = false ∧ W.frozen? ⟨b, 5, none⟩ = false ∧ W.frozen? ⟨b, 6, none⟩ = false) :=
  ⟨⟨(h.cell 0).trans rfl, (h.cell 1).trans rfl, (h.cell 2).trans rfl, (h.cell 3).trans rfl, (h.cell 4).trans rfl, (h.cell 5).trans rfl, (h.cell 6).trans rfl⟩, h.frozen 0, h.frozen 1, h.frozen 2, h.frozen 3, h.frozen 4, h.frozen 5, h.frozen 6⟩
end
/-- one result, in memory -/
theorem res1 {P : Program} {fn : Func} {p : Tmp} {ty : TypeId} {d : TypeDesc} {cs : Array Value} (h : fn.results = #[.cell p ty]) (hu : P.underlying ty = some d) (hd : (match d with | .struct _ | .array _ _ => true | _ => false) = true) (hi : (P.info? ty).map (·.size) = some cs.size)
    {tmps : Array Value} {w : World} {g : Nat} {t : TypeId} (hp : tmps.getD p undef = .pointer (some ⟨g, 0, none⟩)) (hg : Row w g cs t) : (results fn tmps).run P w = .ok (.agg cs) w :=
  results_cell_row h tmps w g t cs (0, 0) d hp hg hu hd hi
/-- two results, the first in memory -/
theorem res2 {P : Program} {fn : Func} {p q : Tmp} {ty : TypeId} {d : TypeDesc} {cs : Array Value} (h : fn.results = #[.cell p ty, .tmp q]) (hu : P.underlying ty = some d) (hd : (match d with | .struct _ | .array _ _ => true | _ => false) = true) (hi : (P.info? ty).map (·.size) = some cs.size)
    {tmps : Array Value} {w : World} {g : Nat} {t : TypeId} {u : Value} (hp : tmps.getD p undef = .pointer (some ⟨g, 0, none⟩)) (hq : tmps.getD q undef = u) (hg : Row w g cs t) : (results fn tmps).run P w = .ok (.tuple #[.agg cs, u]) w := by
  have hp' : tmps[p]?.getD undef = .pointer (some ⟨g, 0, none⟩) := by simpa using hp
  have hq' : tmps[q]?.getD undef = u := by simpa using hq
  simp [results, h, hp', hq', asAddr, run_loadVar_row w g t ty cs (0, 0) d hg hu hd hi]
end Go.Proofs.Ytolabbnchmmckaa
