/-
  Arguments that read as data, opened: machines' programs.
-/
import Derived.Test.YtbjaejgechadpaaPgMem
namespace Go.Proofs.Ytbjaejgechadpaa
open Go.RowKit Vf
theorem list2 {α : Type} {l : List α} (h : l.length = 2) : ∃ a b, l = [a, b] := by
  match l, h with
  | [a, b], _ => exact ⟨a, b, rfl⟩
theorem list5 {α : Type} {l : List α} (h : l.length = 5) : ∃ a b c d e, l = [a, b, c, d, e] := by
  match l, h with
  | [a, b, c, d, e], _ => exact ⟨a, b, c, d, e, rfl⟩
section
variable {H : Type} {enc : TypeId × Value → H} {w : World} {spare : Nat → Bool} {held : Bool}
theorem cells_int : Try.prog.cellsOf 3 = 1 := by kernel_rfl
theorem cells_ints : Try.prog.cellsOf 22 = 1 := by kernel_rfl
theorem cells_cell : Try.prog.cellsOf 81 = 2 := by kernel_rfl
theorem cells_instr : Try.prog.cellsOf 30 = 5 := by kernel_rfl
theorem cells_prog : Try.prog.cellsOf 26 = 5 := by kernel_rfl
theorem cells_cells : Try.prog.cellsOf 23 = 1 := by kernel_rfl
theorem cells_code : Try.prog.cellsOf 24 = 1 := by kernel_rfl
set_option maxRecDepth 100000 in
theorem open_cell (fuel : Nat) (cs : List Value) (x : DataW H × List MemPlace) (h : DataW.trod enc Try.prog w 0 spare held fuel 81 cs = some x) : ∃ c, isCell c cs := by
  obtain ⟨xs, n, _, _, hlen, hxl, hf⟩ := DataW.trod_struct Try.underlying81 h
  rw [cells_cell] at hlen
  obtain ⟨c0, c1, rfl⟩ := list2 hlen
  have hx : xs.length = 2 := hxl
  have e0 : xs[0]? = some (xs[0]'(by omega)) := List.getElem?_eq_getElem (by omega)
  have e1 : xs[1]? = some (xs[1]'(by omega)) := List.getElem?_eq_getElem (by omega)
  have h0 : DataW.trod enc Try.prog w 0 spare held n 3 (([c0, c1].drop 0).take (Try.prog.cellsOf 3)) = some xs[0] := (hf 0 _ rfl).trans e0
  have h1 : DataW.trod enc Try.prog w 0 spare held n 3 (([c0, c1].drop 1).take (Try.prog.cellsOf 3)) = some xs[1] := (hf 1 _ rfl).trans e1
  obtain ⟨a, ha, _, wa⟩ := DataW.trod_int Try.underlying3 h0
  obtain ⟨b, hb, _, wb⟩ := DataW.trod_int Try.underlying3 h1
  rw [cells_int] at ha hb
  simp at ha hb
  subst ha; subst hb
  exact ⟨(a, b), rfl, wa, wb⟩
set_option maxRecDepth 100000 in
theorem open_in5 (fuel : Nat) (cs : List Value) (x : DataW H × List MemPlace) (h : DataW.trod enc Try.prog w 0 spare held fuel 30 cs = some x) : ∃ c, isIn5 c cs := by
  obtain ⟨xs, n, _, _, hlen, hxl, hf⟩ := DataW.trod_struct Try.underlying30 h
  rw [cells_instr] at hlen
  obtain ⟨c0, c1, c2, c3, c4, rfl⟩ := list5 hlen
  have hx : xs.length = 5 := hxl
  have e0 : xs[0]? = some (xs[0]'(by omega)) := List.getElem?_eq_getElem (by omega)
  have e1 : xs[1]? = some (xs[1]'(by omega)) := List.getElem?_eq_getElem (by omega)
  have e2 : xs[2]? = some (xs[2]'(by omega)) := List.getElem?_eq_getElem (by omega)
  have e3 : xs[3]? = some (xs[3]'(by omega)) := List.getElem?_eq_getElem (by omega)
  have e4 : xs[4]? = some (xs[4]'(by omega)) := List.getElem?_eq_getElem (by omega)
  have h0 : DataW.trod enc Try.prog w 0 spare held n 3 (([c0, c1, c2, c3, c4].drop 0).take (Try.prog.cellsOf 3)) = some xs[0] := (hf 0 _ rfl).trans e0
  have h1 : DataW.trod enc Try.prog w 0 spare held n 3 (([c0, c1, c2, c3, c4].drop 1).take (Try.prog.cellsOf 3)) = some xs[1] := (hf 1 _ rfl).trans e1
  have h2 : DataW.trod enc Try.prog w 0 spare held n 3 (([c0, c1, c2, c3, c4].drop 2).take (Try.prog.cellsOf 3)) = some xs[2] := (hf 2 _ rfl).trans e2
  have h3 : DataW.trod enc Try.prog w 0 spare held n 3 (([c0, c1, c2, c3, c4].drop 3).take (Try.prog.cellsOf 3)) = some xs[3] := (hf 3 _ rfl).trans e3
  have h4 : DataW.trod enc Try.prog w 0 spare held n 3 (([c0, c1, c2, c3, c4].drop 4).take (Try.prog.cellsOf 3)) = some xs[4] := (hf 4 _ rfl).trans e4
  obtain ⟨a0, ha0, _, w0⟩ := DataW.trod_int Try.underlying3 h0
  obtain ⟨a1, ha1, _, w1⟩ := DataW.trod_int Try.underlying3 h1
  obtain ⟨a2, ha2, _, w2⟩ := DataW.trod_int Try.underlying3 h2
  obtain ⟨a3, ha3, _, w3⟩ := DataW.trod_int Try.underlying3 h3
  obtain ⟨a4, ha4, _, w4⟩ := DataW.trod_int Try.underlying3 h4
  rw [cells_int] at ha0 ha1 ha2 ha3 ha4
  simp at ha0 ha1 ha2 ha3 ha4
  subst ha0; subst ha1; subst ha2; subst ha3; subst ha4
  exact ⟨⟨a0, a1, a2, a3, a4⟩, rfl, w0, w1, w2, w3, w4⟩
theorem isInt_len (y : Int) (cs : List Value) (h : isInt y cs) : cs.length = 1 := by rw [h.1]; rfl
theorem isCell_len (y : Int × Int) (cs : List Value) (h : isCell y cs) : cs.length = 2 := by rw [h.1]; rfl
theorem isIn5_len (y : In5) (cs : List Value) (h : isIn5 y cs) : cs.length = 5 := by rw [h.1]; rfl
theorem open_ints {fuel : Nat} {c : Value} {x : DataW H × List MemPlace} (h : DataW.trod enc Try.prog w 0 spare held fuel 22 [c] = some x) : ∃ l, SlV w w.heap.size 1 isInt c l :=
  open_sl Try.underlying22 cells_int (by decide) fuel (fun n _ cs x h => open_isInt Try.underlying3 n cs x h) isInt_len 0 h
/-- a program that lies in memory -/
def PgIs (w : World) (p : Pg) (v : Value) : Prop := ∃ vi vo vc vd, v = pgV p vi vo vc vd ∧ PgAt w w.heap.size p vi vo vc vd
set_option maxRecDepth 100000 in
theorem open_prog (fuel : Nat) (cs : List Value) (x : DataW H × List MemPlace) (h : DataW.trod enc Try.prog w 0 spare held fuel 26 cs = some x) : ∃ p vi vo vc vd, cs = [vi, vo, .int .i64 p.regs, vc, vd] ∧ PgAt w w.heap.size p vi vo vc vd := by
  obtain ⟨xs, n, _, _, hlen, hxl, hf⟩ := DataW.trod_struct Try.underlying26 h
  rw [cells_prog] at hlen
  obtain ⟨c0, c1, c2, c3, c4, rfl⟩ := list5 hlen
  have hx : xs.length = 5 := hxl
  have e0 : xs[0]? = some (xs[0]'(by omega)) := List.getElem?_eq_getElem (by omega)
  have e1 : xs[1]? = some (xs[1]'(by omega)) := List.getElem?_eq_getElem (by omega)
  have e2 : xs[2]? = some (xs[2]'(by omega)) := List.getElem?_eq_getElem (by omega)
  have e3 : xs[3]? = some (xs[3]'(by omega)) := List.getElem?_eq_getElem (by omega)
  have e4 : xs[4]? = some (xs[4]'(by omega)) := List.getElem?_eq_getElem (by omega)
  have h0 : DataW.trod enc Try.prog w 0 spare held n 22 (([c0, c1, c2, c3, c4].drop 0).take (Try.prog.cellsOf 22)) = some xs[0] := (hf 0 _ rfl).trans e0
  have h1 : DataW.trod enc Try.prog w 0 spare held n 22 (([c0, c1, c2, c3, c4].drop 1).take (Try.prog.cellsOf 22)) = some xs[1] := (hf 1 _ rfl).trans e1
  have h2 : DataW.trod enc Try.prog w 0 spare held n 3 (([c0, c1, c2, c3, c4].drop 2).take (Try.prog.cellsOf 3)) = some xs[2] := (hf 2 _ rfl).trans e2
  have h3 : DataW.trod enc Try.prog w 0 spare held n 23 (([c0, c1, c2, c3, c4].drop 3).take (Try.prog.cellsOf 23)) = some xs[3] := (hf 3 _ rfl).trans e3
  have h4 : DataW.trod enc Try.prog w 0 spare held n 24 (([c0, c1, c2, c3, c4].drop 4).take (Try.prog.cellsOf 24)) = some xs[4] := (hf 4 _ rfl).trans e4
  rw [cells_ints] at h0 h1
  rw [cells_int] at h2
  rw [cells_cells] at h3
  rw [cells_code] at h4
  simp only [List.drop_zero, List.drop_succ_cons, List.take_succ_cons, List.take_zero] at h0 h1 h2 h3 h4
  obtain ⟨li, hi⟩ := open_ints h0
  obtain ⟨lo, ho⟩ := open_ints h1
  obtain ⟨r, hr, _, wr⟩ := DataW.trod_int Try.underlying3 h2
  obtain ⟨lc, hc⟩ := open_sl Try.underlying23 cells_cell (by decide) n (fun k _ cs x h => open_cell k cs x h) isCell_len (0, 0) h3
  obtain ⟨ld, hd⟩ := open_sl Try.underlying24 cells_instr (by decide) n (fun k _ cs x h => open_in5 k cs x h) isIn5_len ⟨0, 0, 0, 0, 0⟩ h4
  simp at hr
  subst hr
  exact ⟨⟨li, lo, r, lc, ld⟩, c0, c1, c3, c4, rfl, hi, ho, wr, hc, hd⟩
set_option maxRecDepth 100000 in
theorem open_progV {base : Nat} {v : Value} {d : DataW H} {p : List MemPlace} {r : Reach} (hv : Value.okWide Try.prog w r base 26 v) (h : DataW.Trod enc Try.prog w 0 spare held 26 v d p) : ∃ q, PgIs w q v := by
  obtain ⟨cs, rfl, hsz⟩ := WideShapes.okWide_struct Try.underlying26 hv
  obtain ⟨fuel, hf⟩ := h
  obtain ⟨q, vi, vo, vc, vd, hc, ha⟩ := open_prog fuel _ _ hf
  refine ⟨q, vi, vo, vc, vd, ?_, ha⟩
  obtain ⟨l⟩ := cs
  have : l = [vi, vo, .int .i64 q.regs, vc, vd] := hc
  rw [this]
set_option maxRecDepth 100000 in
theorem open_intsV {base : Nat} {v : Value} {d : DataW H} {p : List MemPlace} {r : Reach} (hv : Value.okWide Try.prog w r base 22 v) (h : DataW.Trod enc Try.prog w 0 spare held 22 v d p) : ∃ l, SlV w w.heap.size 1 isInt v l := by
  obtain ⟨a, len, cap, rfl⟩ := WideShapes.okWide_slice Try.underlying22 hv
  obtain ⟨fuel, hf⟩ := h
  exact open_ints hf
end
end Go.Proofs.Ytbjaejgechadpaa
