/-
  An argument that reads as data, opened: expressions.
-/
import Derived.Test.YtabceednmgijoaaGreatExMem
import Derived.OpenShut
import Derived.DataReads
namespace Go.Proofs.YtabceednmgijoaaGreat
open Go.RowKit

theorem list2 {α : Type} {l : List α} (h : l.length = 2) : ∃ a b, l = [a, b] := by
  match l, h with
  | [a, b], _ => exact ⟨a, b, rfl⟩
theorem list6 {α : Type} {l : List α} (h : l.length = 6) : ∃ a b c d e f, l = [a, b, c, d, e, f] := by
  match l, h with
  | [a, b, c, d, e, f], _ => exact ⟨a, b, c, d, e, f, rfl⟩
section
variable {H : Type} {enc : TypeId × Value → H} {w : World} {spare : Nat → Bool} {held : Bool}
theorem cells_ex : Tryz.prog.cellsOf 45 = 6 := by kernel_rfl
theorem cells_pos : Tryz.prog.cellsOf 29 = 2 := by kernel_rfl
theorem cells_int : Tryz.prog.cellsOf 3 = 1 := by kernel_rfl
theorem cells_string : Tryz.prog.cellsOf 9 = 1 := by kernel_rfl
theorem cells_exs : Tryz.prog.cellsOf 43 = 1 := by kernel_rfl
set_option maxRecDepth 100000 in
theorem open_pos {fuel : Nat} {cs : List Value} {x : DataW H × List MemPlace} (h : DataW.trod enc Tryz.prog w 0 spare held fuel 29 cs = some x) : ∃ l c : Int, cs = [.int .i64 l, .int .i64 c] ∧ Wf l ∧ Wf c := by
  obtain ⟨xs, n, _, _, hlen, hxl, hf⟩ := DataW.trod_struct Tryz.underlying29 h
  rw [cells_pos] at hlen
  obtain ⟨c0, c1, rfl⟩ := list2 hlen
  · have hx : xs.length = 2 := hxl
    have e0 : xs[0]? = some (xs[0]'(by omega)) := List.getElem?_eq_getElem (by omega)
    have e1 : xs[1]? = some (xs[1]'(by omega)) := List.getElem?_eq_getElem (by omega)
    have h0 : DataW.trod enc Tryz.prog w 0 spare held n 3 (([c0, c1].drop 0).take (Tryz.prog.cellsOf 3)) = some xs[0] := (hf 0 _ rfl).trans e0
    have h1 : DataW.trod enc Tryz.prog w 0 spare held n 3 (([c0, c1].drop 1).take (Tryz.prog.cellsOf 3)) = some xs[1] := (hf 1 _ rfl).trans e1
    obtain ⟨l, hl, _, wl⟩ := DataW.trod_int Tryz.underlying3 h0
    obtain ⟨c, hc, _, wc⟩ := DataW.trod_int Tryz.underlying3 h1
    rw [cells_int] at hl hc
    simp at hl hc
    subst hl; subst hc
    exact ⟨l, c, rfl, wl, wc⟩
set_option maxRecDepth 100000 in
theorem open_ex : ∀ (fuel : Nat) (cs : List Value) (x : DataW H × List MemPlace), DataW.trod enc Tryz.prog w 0 spare held fuel 45 cs = some x → ∃ e, IsEx w w.heap.size e cs := by
  intro fuel
  induction fuel using Nat.strongRecOn with
  | ind fuel ih =>
    intro cs x h
    obtain ⟨xs, n, hn, _, hlen, hxl, hf⟩ := DataW.trod_struct Tryz.underlying45 h
    rw [cells_ex] at hlen
    obtain ⟨c0, c1, c2, c3, c4, c5, rfl⟩ := list6 hlen
    · have hx : xs.length = 5 := hxl
      have e0 : xs[0]? = some (xs[0]'(by omega)) := List.getElem?_eq_getElem (by omega)
      have e1 : xs[1]? = some (xs[1]'(by omega)) := List.getElem?_eq_getElem (by omega)
      have e2 : xs[2]? = some (xs[2]'(by omega)) := List.getElem?_eq_getElem (by omega)
      have e3 : xs[3]? = some (xs[3]'(by omega)) := List.getElem?_eq_getElem (by omega)
      have e4 : xs[4]? = some (xs[4]'(by omega)) := List.getElem?_eq_getElem (by omega)
      have h0 : DataW.trod enc Tryz.prog w 0 spare held n 3 (([c0, c1, c2, c3, c4, c5].drop 0).take (Tryz.prog.cellsOf 3)) = some xs[0] := (hf 0 _ rfl).trans e0
      have h1 : DataW.trod enc Tryz.prog w 0 spare held n 9 (([c0, c1, c2, c3, c4, c5].drop 1).take (Tryz.prog.cellsOf 9)) = some xs[1] := (hf 1 _ rfl).trans e1
      have h2 : DataW.trod enc Tryz.prog w 0 spare held n 3 (([c0, c1, c2, c3, c4, c5].drop 2).take (Tryz.prog.cellsOf 3)) = some xs[2] := (hf 2 _ rfl).trans e2
      have h3 : DataW.trod enc Tryz.prog w 0 spare held n 43 (([c0, c1, c2, c3, c4, c5].drop 3).take (Tryz.prog.cellsOf 43)) = some xs[3] := (hf 3 _ rfl).trans e3
      have h4 : DataW.trod enc Tryz.prog w 0 spare held n 29 (([c0, c1, c2, c3, c4, c5].drop 4).take (Tryz.prog.cellsOf 29)) = some xs[4] := (hf 4 _ rfl).trans e4
      clear e0 e1 e2 e3 e4 hf
      obtain ⟨op, g0, _, w0⟩ := DataW.trod_int Tryz.underlying3 h0
      obtain ⟨nm, g1, _, w1⟩ := DataW.trod_string Tryz.underlying9 h1
      obtain ⟨m, g2, _, w2⟩ := DataW.trod_int Tryz.underlying3 h2
      obtain ⟨l, c, g4, wl, wc⟩ := open_pos h4
      rw [cells_int] at g0 g2
      rw [cells_string] at g1
      rw [cells_pos] at g4
      simp at g0 g1 g2 g4
      obtain ⟨rfl, rfl⟩ := g4
      subst g0; subst g1; subst g2
      rw [cells_exs] at h3
      have h3' : DataW.trod enc Tryz.prog w 0 spare held n 43 [c3] = some xs[3] := h3
      clear h0 h1 h2 h3 h4
      rcases DataW.trod_slice Tryz.underlying43 h3' with ⟨hc, _⟩ | ⟨a, len, cap, elems, rest, k, hk, hc, _, _, hlc, hcm, hel, hr, _⟩
      · simp at hc; subst hc
        exact ⟨.mk op nm m [] l c, IsEx.mk' (e := .mk op nm m [] l c) ⟨w0, w1, w2, wl, wc⟩ (Nat.le_refl _) (Nat.zero_le _) (fun h => absurd h (by simp [Ex.args]))⟩
      · simp at hc; subst hc
        have key : ∀ i, i < len → ∃ e cs', (w.cells? 0 (a.add (i * 6)) 6 = some cs') ∧ IsEx w w.heap.size e cs' := by
          intro i hi
          have h := hr i hi
          rw [cells_ex, List.getElem?_eq_getElem (by omega), Option.bind_eq_some_iff] at h
          obtain ⟨cs', h1, h2⟩ := h
          obtain ⟨e, he⟩ := ih k (by omega) cs' _ h2
          exact ⟨e, cs', h1, he⟩
        obtain ⟨f, hfn⟩ : ∃ f : Nat → Ex, ∀ i, i < len → ∃ cs', (w.cells? 0 (a.add (i * 6)) 6 = some cs') ∧ IsEx w w.heap.size (f i) cs' :=
          ⟨fun i => if h : i < len then Classical.choose (key i h) else .mk 0 nm 0 [] 0 0, fun i hi => by simp only [dif_pos hi]; exact Classical.choose_spec (key i hi)⟩
        have hlen' : ((List.range len).map f).length = len := by simp
        refine ⟨.mk op nm m ((List.range len).map f) l c, ?_⟩
        have hA : IsExs w w.heap.size (some a) ((List.range len).map f) := fun hp => by
          rw [hlen'] at hp
          obtain ⟨cs0, hc0, hx0⟩ := hfn 0 hp
          have hcell := (World.cells?_some hc0).2.2 0 (by omega)
          have hl0 : cs0.length = 6 := hx0.len
          rw [List.getElem?_eq_getElem (by omega)] at hcell
          have hspot := spot_none hcell
          have hblk : a.block < w.heap.size := by
            have : ((a.add (0 * 6)).add 0).block < w.heap.size := by
              simp only [World.cell?] at hcell
              rcases Nat.lt_or_ge ((a.add (0 * 6)).add 0).block w.heap.size with h | h
              · exact h
              · rw [Array.getElem?_eq_none h] at hcell; cases hcell
            rwa [add_block, add_block] at this
          obtain ⟨b, off, spot⟩ := a
          have : spot = none := by simpa [Addr.add] using hspot
          subst this
          refine ⟨b, off, rfl, hblk, fun i x hi => ?_⟩
          have hil : i < len := by have := (List.getElem?_eq_some_iff.1 hi).1; rwa [hlen'] at this
          obtain ⟨cs', hc', hx'⟩ := hfn i hil
          have hxe : x = f i := by rw [List.getElem?_map, List.getElem?_range hil] at hi; simpa using hi.symm
          subst hxe
          refine ⟨cs', fun j u hu => ?_, hx'⟩
          have hj : j < 6 := by rw [← hx'.len]; exact (List.getElem?_eq_some_iff.1 hu).1
          have := (World.cells?_some hc').2.2 j hj
          rw [hu, Addr.add_lit, Addr.add_lit] at this
          exact this
        have := IsEx.mk' (w := w) (B := w.heap.size) (e := .mk op nm m ((List.range len).map f) l c) (A := some a) (cap := cap) ⟨w0, w1, w2, wl, wc⟩ (by show ((List.range len).map f).length ≤ cap; rw [hlen']; exact hlc) hcm hA
        rw [show exCells (.mk op nm m ((List.range len).map f) l c) (some a) cap = [.int .i64 op, .string nm, .int .i64 m, .slice (some a) len cap, .int .i64 l, .int .i64 c] from by simp [exCells, Ex.op, Ex.name, Ex.n, Ex.args, Ex.line, Ex.col]] at this
        exact this
set_option maxRecDepth 100000 in
theorem open_exV {base : Nat} {v : Value} {d : DataW H} {p : List MemPlace} {r : Reach} (hv : Value.okWide Tryz.prog w r base 45 v) (h : DataW.Trod enc Tryz.prog w 0 spare held 45 v d p) :
    ∃ e A cap, v = exV e A cap ∧ ExOk e ∧ e.args.length ≤ cap ∧ cap ≤ maxLen ∧ IsExs w w.heap.size A e.args := by
  obtain ⟨cs, rfl, hsz⟩ := WideShapes.okWide_struct Tryz.underlying45 hv
  obtain ⟨fuel, hf⟩ := h
  obtain ⟨e, he⟩ := open_ex fuel _ _ hf
  obtain ⟨A, cap, hc, h1, h2, h3, h4⟩ := he.open
  refine ⟨e, A, cap, ?_, h1, h2, h3, h4⟩
  obtain ⟨l⟩ := cs
  have : l = exCells e A cap := hc
  rw [this]; rfl
end
end Go.Proofs.YtabceednmgijoaaGreat
