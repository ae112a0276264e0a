/-
  Arguments that read as data, opened: sources.
-/
import Derived.Test.YtabceednmgijoaaGreatOpenS
namespace Go.Proofs.YtabceednmgijoaaGreat
open Go.RowKit
section
variable {H : Type} {enc : TypeId × Value → H} {w : World} {spare : Nat → Bool} {held : Bool}
theorem cells_source : Tryz.prog.cellsOf 24 = 1 := by kernel_rfl
theorem cells_nodes : Tryz.prog.cellsOf 22 = 1 := by kernel_rfl
theorem list1 {α : Type} {l : List α} (h : l.length = 1) : ∃ a, l = [a] := by
  match l, h with
  | [a], _ => exact ⟨a, rfl⟩
theorem open_nds {fuel : Nat} {c : Value} {x : DataW H × List MemPlace} (h : DataW.trod enc Tryz.prog w 0 spare held fuel 22 [c] = some x) : ∃ l, SlV w w.heap.size 7 (isNd w w.heap.size) c l :=
  open_sl Tryz.underlying22 cells_node (by decide) fuel (fun n _ cs x h => open_nd n cs x h) isNd_len ⟨⟨#[]⟩, [], [], [], [], 0, 0⟩ h
/-- a source that lies in memory -/
def SrcIs (w : World) (s : List Nd) (v : Value) : Prop := ∃ A cap, v = .agg #[.slice A s.length cap] ∧ s.length ≤ cap ∧ cap ≤ maxLen ∧ Nds w w.heap.size A s
set_option maxRecDepth 100000 in
theorem open_sourceV {base : Nat} {v : Value} {d : DataW H} {p : List MemPlace} {r : Reach} (hv : Value.okWide Tryz.prog w r base 24 v) (h : DataW.Trod enc Tryz.prog w 0 spare held 24 v d p) : ∃ s, SrcIs w s v := by
  obtain ⟨cs, rfl, hsz⟩ := WideShapes.okWide_struct Tryz.underlying24 hv
  obtain ⟨fuel, hf⟩ := h
  have hf' : DataW.trod enc Tryz.prog w 0 spare held fuel 24 cs.toList = some (d, p) := hf
  obtain ⟨xs, n, _, _, hlen, hxl, hi⟩ := DataW.trod_struct Tryz.underlying24 hf'
  rw [cells_source] at hlen
  obtain ⟨ll⟩ := cs
  obtain ⟨c0, hll⟩ := list1 (l := ll) hlen
  subst hll
  have hx : xs.length = 1 := hxl
  have e0 : xs[0]? = some (xs[0]'(by omega)) := List.getElem?_eq_getElem (by omega)
  have h0 : DataW.trod enc Tryz.prog w 0 spare held n 22 (([c0].drop 0).take (Tryz.prog.cellsOf 22)) = some xs[0] := (hi 0 _ rfl).trans e0
  rw [cells_nodes] at h0
  simp only [List.drop_zero, List.take_succ_cons, List.take_zero] at h0
  obtain ⟨l, A, cap, rfl, l1, m1, s1⟩ := open_nds h0
  exact ⟨l, A, cap, rfl, l1, m1, s1⟩
end
end Go.Proofs.YtabceednmgijoaaGreat
