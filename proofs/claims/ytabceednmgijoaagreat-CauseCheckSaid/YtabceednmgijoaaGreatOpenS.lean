/-
  Arguments that read as data, opened: conditions, variables, equations, nodes.
-/
import Derived.Test.YtabceednmgijoaaGreatOpen
import Derived.Test.YtabceednmgijoaaGreatExMem
namespace Go.Proofs.YtabceednmgijoaaGreat
open Go.RowKit
theorem list5 {α : Type} {l : List α} (h : l.length = 5) : ∃ a b c d e, l = [a, b, c, d, e] := by
  match l, h with
  | [a, b, c, d, e], _ => exact ⟨a, b, c, d, e, rfl⟩
theorem list7 {α : Type} {l : List α} (h : l.length = 7) : ∃ a b c d e f g, l = [a, b, c, d, e, f, g] := by
  match l, h with
  | [a, b, c, d, e, f, g], _ => exact ⟨a, b, c, d, e, f, g, rfl⟩
theorem list9 {α : Type} {l : List α} (h : l.length = 9) : ∃ a b c d e f g x y, l = [a, b, c, d, e, f, g, x, y] := by
  match l, h with
  | [a, b, c, d, e, f, g, x, y], _ => exact ⟨a, b, c, d, e, f, g, x, y, rfl⟩
section
variable {H : Type} {enc : TypeId × Value → H} {w : World} {spare : Nat → Bool} {held : Bool}
theorem cells_lit : Tryz.prog.cellsOf 81 = 2 := by kernel_rfl
theorem cells_bool : Tryz.prog.cellsOf 4 = 1 := by kernel_rfl
theorem cells_lits : Tryz.prog.cellsOf 47 = 1 := by kernel_rfl
theorem cells_var : Tryz.prog.cellsOf 49 = 5 := by kernel_rfl
theorem cells_vars : Tryz.prog.cellsOf 33 = 1 := by kernel_rfl
theorem cells_eqn : Tryz.prog.cellsOf 51 = 9 := by kernel_rfl
theorem cells_eqns : Tryz.prog.cellsOf 34 = 1 := by kernel_rfl
theorem cells_strs : Tryz.prog.cellsOf 38 = 1 := by kernel_rfl
theorem cells_node : Tryz.prog.cellsOf 36 = 7 := by kernel_rfl
theorem isLit_len (y : Lt) (cs : List Value) (h : isLit y cs) : cs.length = 2 := by rw [h.1]; rfl
theorem isStr_len (y : ByteArray) (cs : List Value) (h : isStr y cs) : cs.length = 1 := by rw [h.1]; rfl
theorem isVr_len (y : Vr) (cs : List Value) (h : isVr w w.heap.size y cs) : cs.length = 5 := by obtain ⟨A, cap, rfl, _⟩ := h; rfl
theorem isEqn_len (y : Eqn) (cs : List Value) (h : isEqn w w.heap.size y cs) : cs.length = 9 := by obtain ⟨A, cap, A', cap', rfl, _⟩ := h; rfl
theorem isNd_len (y : Nd) (cs : List Value) (h : isNd w w.heap.size y cs) : cs.length = 7 := by obtain ⟨a, rfl, _⟩ := h; rfl
set_option maxRecDepth 100000 in
theorem open_lit (fuel : Nat) (cs : List Value) (x : DataW H × List MemPlace) (h : DataW.trod enc Tryz.prog w 0 spare held fuel 81 cs = some x) : ∃ c, isLit c cs := by
  obtain ⟨xs, n, _, _, hlen, hxl, hf⟩ := DataW.trod_struct Tryz.underlying81 h
  rw [cells_lit] at hlen
  obtain ⟨c0, c1, rfl⟩ := list2 hlen
  have hx : xs.length = 2 := hxl
  have e0 : xs[0]? = some (xs[0]'(by omega)) := List.getElem?_eq_getElem (by omega)
  have e1 : xs[1]? = some (xs[1]'(by omega)) := List.getElem?_eq_getElem (by omega)
  have h0 : DataW.trod enc Tryz.prog w 0 spare held n 9 (([c0, c1].drop 0).take (Tryz.prog.cellsOf 9)) = some xs[0] := (hf 0 _ rfl).trans e0
  have h1 : DataW.trod enc Tryz.prog w 0 spare held n 4 (([c0, c1].drop 1).take (Tryz.prog.cellsOf 4)) = some xs[1] := (hf 1 _ rfl).trans e1
  obtain ⟨a, ha, _, wa⟩ := DataW.trod_string Tryz.underlying9 h0
  obtain ⟨b, hb, _⟩ := DataW.trod_bool Tryz.underlying4 h1
  rw [cells_string] at ha
  rw [cells_bool] at hb
  simp at ha hb
  subst ha; subst hb
  exact ⟨⟨a, b⟩, rfl, wa⟩
theorem open_lits {fuel : Nat} {c : Value} {x : DataW H × List MemPlace} (h : DataW.trod enc Tryz.prog w 0 spare held fuel 47 [c] = some x) : ∃ l, SlV w w.heap.size 2 isLit c l :=
  open_sl Tryz.underlying47 cells_lit (by decide) fuel (fun n _ cs x h => open_lit n cs x h) isLit_len ⟨⟨#[]⟩, false⟩ h
theorem open_strs {fuel : Nat} {c : Value} {x : DataW H × List MemPlace} (h : DataW.trod enc Tryz.prog w 0 spare held fuel 38 [c] = some x) : ∃ l, SlV w w.heap.size 1 isStr c l :=
  open_sl Tryz.underlying38 cells_string (by decide) fuel (fun n _ cs x h => open_isStr Tryz.underlying9 n cs x h) isStr_len ⟨#[]⟩ h
set_option maxRecDepth 100000 in
theorem open_vr (fuel : Nat) (cs : List Value) (x : DataW H × List MemPlace) (h : DataW.trod enc Tryz.prog w 0 spare held fuel 49 cs = some x) : ∃ v, isVr w w.heap.size v cs := by
  obtain ⟨xs, n, _, _, hlen, hxl, hf⟩ := DataW.trod_struct Tryz.underlying49 h
  rw [cells_var] at hlen
  obtain ⟨c0, c1, c2, c3, c4, rfl⟩ := list5 hlen
  have hx : xs.length = 4 := hxl
  have e0 : xs[0]? = some (xs[0]'(by omega)) := List.getElem?_eq_getElem (by omega)
  have e1 : xs[1]? = some (xs[1]'(by omega)) := List.getElem?_eq_getElem (by omega)
  have e2 : xs[2]? = some (xs[2]'(by omega)) := List.getElem?_eq_getElem (by omega)
  have e3 : xs[3]? = some (xs[3]'(by omega)) := List.getElem?_eq_getElem (by omega)
  have h0 : DataW.trod enc Tryz.prog w 0 spare held n 9 (([c0, c1, c2, c3, c4].drop 0).take (Tryz.prog.cellsOf 9)) = some xs[0] := (hf 0 _ rfl).trans e0
  have h1 : DataW.trod enc Tryz.prog w 0 spare held n 3 (([c0, c1, c2, c3, c4].drop 1).take (Tryz.prog.cellsOf 3)) = some xs[1] := (hf 1 _ rfl).trans e1
  have h2 : DataW.trod enc Tryz.prog w 0 spare held n 47 (([c0, c1, c2, c3, c4].drop 2).take (Tryz.prog.cellsOf 47)) = some xs[2] := (hf 2 _ rfl).trans e2
  have h3 : DataW.trod enc Tryz.prog w 0 spare held n 29 (([c0, c1, c2, c3, c4].drop 3).take (Tryz.prog.cellsOf 29)) = some xs[3] := (hf 3 _ rfl).trans e3
  rw [cells_string] at h0
  rw [cells_int] at h1
  rw [cells_lits] at h2
  rw [cells_pos] at h3
  simp only [List.drop_zero, List.drop_succ_cons, List.take_succ_cons, List.take_zero] at h0 h1 h2 h3
  obtain ⟨nm, g0, _, w0⟩ := DataW.trod_string Tryz.underlying9 h0
  obtain ⟨ty, g1, _, w1⟩ := DataW.trod_int Tryz.underlying3 h1
  obtain ⟨l, A, cap, g2, l2, m2, s2⟩ := open_lits h2
  obtain ⟨li, co, g3, w3, w4⟩ := open_pos h3
  simp at g0 g1 g3
  obtain ⟨rfl, rfl⟩ := g3
  subst g0; subst g1; subst g2
  exact ⟨⟨nm, ty, l, li, co⟩, A, cap, rfl, ⟨w0, w1, w3, w4⟩, l2, m2, s2⟩
theorem open_vrs {fuel : Nat} {c : Value} {x : DataW H × List MemPlace} (h : DataW.trod enc Tryz.prog w 0 spare held fuel 33 [c] = some x) : ∃ l, SlV w w.heap.size 5 (isVr w w.heap.size) c l :=
  open_sl Tryz.underlying33 cells_var (by decide) fuel (fun n _ cs x h => open_vr n cs x h) isVr_len ⟨⟨#[]⟩, 0, [], 0, 0⟩ h
set_option maxRecDepth 100000 in
theorem open_eqn (fuel : Nat) (cs : List Value) (x : DataW H × List MemPlace) (h : DataW.trod enc Tryz.prog w 0 spare held fuel 51 cs = some x) : ∃ v, isEqn w w.heap.size v cs := by
  obtain ⟨xs, n, _, _, hlen, hxl, hf⟩ := DataW.trod_struct Tryz.underlying51 h
  rw [cells_eqn] at hlen
  obtain ⟨c0, c1, c2, c3, c4, c5, c6, c7, c8, rfl⟩ := list9 hlen
  have hx : xs.length = 3 := hxl
  have e0 : xs[0]? = some (xs[0]'(by omega)) := List.getElem?_eq_getElem (by omega)
  have e1 : xs[1]? = some (xs[1]'(by omega)) := List.getElem?_eq_getElem (by omega)
  have e2 : xs[2]? = some (xs[2]'(by omega)) := List.getElem?_eq_getElem (by omega)
  have h0 : DataW.trod enc Tryz.prog w 0 spare held n 38 (([c0, c1, c2, c3, c4, c5, c6, c7, c8].drop 0).take (Tryz.prog.cellsOf 38)) = some xs[0] := (hf 0 _ rfl).trans e0
  have h1 : DataW.trod enc Tryz.prog w 0 spare held n 45 (([c0, c1, c2, c3, c4, c5, c6, c7, c8].drop 1).take (Tryz.prog.cellsOf 45)) = some xs[1] := (hf 1 _ rfl).trans e1
  have h2 : DataW.trod enc Tryz.prog w 0 spare held n 29 (([c0, c1, c2, c3, c4, c5, c6, c7, c8].drop 7).take (Tryz.prog.cellsOf 29)) = some xs[2] := (hf 2 _ rfl).trans e2
  rw [cells_strs] at h0
  rw [cells_ex] at h1
  rw [cells_pos] at h2
  simp only [List.drop_zero, List.drop_succ_cons, List.take_succ_cons, List.take_zero] at h0 h1 h2
  obtain ⟨l, A, cap, g0, l0, m0, s0⟩ := open_strs h0
  obtain ⟨e, he⟩ := open_ex _ _ _ h1
  obtain ⟨A', cap', g1, ok, l1, m1, s1⟩ := he.open
  obtain ⟨li, co, g2, w3, w4⟩ := open_pos h2
  simp only [exCells, List.cons.injEq, and_true] at g1 g2
  obtain ⟨rfl, rfl, rfl, rfl, rfl, rfl⟩ := g1
  obtain ⟨rfl, rfl⟩ := g2
  subst g0
  exact ⟨⟨l, e, li, co⟩, A, cap, A', cap', rfl, ⟨ok, w3, w4⟩, l0, m0, s0, l1, m1, s1⟩
theorem open_eqns {fuel : Nat} {c : Value} {x : DataW H × List MemPlace} (h : DataW.trod enc Tryz.prog w 0 spare held fuel 34 [c] = some x) : ∃ l, SlV w w.heap.size 9 (isEqn w w.heap.size) c l :=
  open_sl Tryz.underlying34 cells_eqn (by decide) fuel (fun n _ cs x h => open_eqn n cs x h) isEqn_len ⟨[], .mk 0 ⟨#[]⟩ 0 [] 0 0, 0, 0⟩ h
set_option maxRecDepth 100000 in
theorem open_nd (fuel : Nat) (cs : List Value) (x : DataW H × List MemPlace) (h : DataW.trod enc Tryz.prog w 0 spare held fuel 36 cs = some x) : ∃ v, isNd w w.heap.size v cs := by
  obtain ⟨xs, n, _, _, hlen, hxl, hf⟩ := DataW.trod_struct Tryz.underlying36 h
  rw [cells_node] at hlen
  obtain ⟨c0, c1, c2, c3, c4, c5, c6, rfl⟩ := list7 hlen
  have hx : xs.length = 6 := hxl
  have e0 : xs[0]? = some (xs[0]'(by omega)) := List.getElem?_eq_getElem (by omega)
  have e1 : xs[1]? = some (xs[1]'(by omega)) := List.getElem?_eq_getElem (by omega)
  have e2 : xs[2]? = some (xs[2]'(by omega)) := List.getElem?_eq_getElem (by omega)
  have e3 : xs[3]? = some (xs[3]'(by omega)) := List.getElem?_eq_getElem (by omega)
  have e4 : xs[4]? = some (xs[4]'(by omega)) := List.getElem?_eq_getElem (by omega)
  have e5 : xs[5]? = some (xs[5]'(by omega)) := List.getElem?_eq_getElem (by omega)
  have h0 : DataW.trod enc Tryz.prog w 0 spare held n 9 (([c0, c1, c2, c3, c4, c5, c6].drop 0).take (Tryz.prog.cellsOf 9)) = some xs[0] := (hf 0 _ rfl).trans e0
  have h1 : DataW.trod enc Tryz.prog w 0 spare held n 33 (([c0, c1, c2, c3, c4, c5, c6].drop 1).take (Tryz.prog.cellsOf 33)) = some xs[1] := (hf 1 _ rfl).trans e1
  have h2 : DataW.trod enc Tryz.prog w 0 spare held n 33 (([c0, c1, c2, c3, c4, c5, c6].drop 2).take (Tryz.prog.cellsOf 33)) = some xs[2] := (hf 2 _ rfl).trans e2
  have h3 : DataW.trod enc Tryz.prog w 0 spare held n 33 (([c0, c1, c2, c3, c4, c5, c6].drop 3).take (Tryz.prog.cellsOf 33)) = some xs[3] := (hf 3 _ rfl).trans e3
  have h4 : DataW.trod enc Tryz.prog w 0 spare held n 34 (([c0, c1, c2, c3, c4, c5, c6].drop 4).take (Tryz.prog.cellsOf 34)) = some xs[4] := (hf 4 _ rfl).trans e4
  have h5 : DataW.trod enc Tryz.prog w 0 spare held n 29 (([c0, c1, c2, c3, c4, c5, c6].drop 5).take (Tryz.prog.cellsOf 29)) = some xs[5] := (hf 5 _ rfl).trans e5
  rw [cells_string] at h0
  rw [cells_vars] at h1 h2 h3
  rw [cells_eqns] at h4
  rw [cells_pos] at h5
  simp only [List.drop_zero, List.drop_succ_cons, List.take_succ_cons, List.take_zero] at h0 h1 h2 h3 h4 h5
  obtain ⟨nm, g0, _, w0⟩ := DataW.trod_string Tryz.underlying9 h0
  obtain ⟨li, Ai, ci, g1, l1, m1, s1⟩ := open_vrs h1
  obtain ⟨lo, Ao, co, g2, l2, m2, s2⟩ := open_vrs h2
  obtain ⟨lv, Av, cv, g3, l3, m3, s3⟩ := open_vrs h3
  obtain ⟨lq, Aq, cq, g4, l4, m4, s4⟩ := open_eqns h4
  obtain ⟨ln, cl, g5, w5, w6⟩ := open_pos h5
  simp at g0 g5
  obtain ⟨rfl, rfl⟩ := g5
  subst g0; subst g1; subst g2; subst g3; subst g4
  exact ⟨⟨nm, li, lo, lv, lq, ln, cl⟩, ⟨Ai, ci, Ao, co, Av, cv, Aq, cq⟩, rfl, ⟨w0, w5, w6, l1, m1, s1, l2, m2, s2, l3, m3, s3, l4, m4, s4⟩⟩
set_option maxRecDepth 100000 in
theorem open_ndV {base : Nat} {v : Value} {d : DataW H} {p : List MemPlace} {r : Reach} (hv : Value.okWide Tryz.prog w r base 36 v) (h : DataW.Trod enc Tryz.prog w 0 spare held 36 v d p) :
    ∃ n a, v = ndV n a ∧ NdAt w w.heap.size n a := by
  obtain ⟨cs, rfl, hsz⟩ := WideShapes.okWide_struct Tryz.underlying36 hv
  obtain ⟨fuel, hf⟩ := h
  obtain ⟨n, a, hc, ha⟩ := open_nd fuel _ _ hf
  refine ⟨n, a, ?_, ha⟩
  obtain ⟨l⟩ := cs
  have : l = ndCs n a := hc
  rw [this]
/-- a node that lies in memory -/
def NdIs (w : World) (n : Nd) (v : Value) : Prop := ∃ a, v = ndV n a ∧ NdAt w w.heap.size n a
set_option maxRecDepth 100000 in
theorem open_nodeV {base : Nat} {v : Value} {d : DataW H} {p : List MemPlace} {r : Reach} (hv : Value.okWide Tryz.prog w r base 36 v) (h : DataW.Trod enc Tryz.prog w 0 spare held 36 v d p) : ∃ n, NdIs w n v := by
  obtain ⟨n, a, h1, h2⟩ := open_ndV hv h
  exact ⟨n, a, h1, h2⟩
set_option maxRecDepth 100000 in
theorem open_litsV {base : Nat} {v : Value} {d : DataW H} {p : List MemPlace} {r : Reach} (hv : Value.okWide Tryz.prog w r base 47 v) (h : DataW.Trod enc Tryz.prog w 0 spare held 47 v d p) : ∃ l, SlV w w.heap.size 2 isLit v l := by
  obtain ⟨a, len, cap, rfl⟩ := WideShapes.okWide_slice Tryz.underlying47 hv
  obtain ⟨fuel, hf⟩ := h
  exact open_lits hf
end
end Go.Proofs.YtabceednmgijoaaGreat
