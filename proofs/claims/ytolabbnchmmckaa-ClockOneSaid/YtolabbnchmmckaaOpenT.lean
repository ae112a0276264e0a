/-
  Arguments that read as data, opened: arrays of two rows of conditions.
-/
import Derived.Test.YtolabbnchmmckaaOpenS
namespace Go.Proofs.Ytolabbnchmmckaa
open Go.RowKit
section
variable {H : Type} {enc : TypeId × Value → H} {w : World} {spare : Nat → Bool} {held : Bool}
theorem cells_lits2 : Try.prog.cellsOf 55 = 2 := by kernel_rfl
/-- two rows of conditions that lie in memory -/
def Lits2Is (w : World) (l k : List Lt) (v : Value) : Prop := ∃ A1 c1 A2 c2, v = .agg #[.slice A1 l.length c1, .slice A2 k.length c2] ∧ l.length ≤ c1 ∧ c1 ≤ maxLen ∧ Sl w w.heap.size 2 isLit A1 l ∧ k.length ≤ c2 ∧ c2 ≤ maxLen ∧ Sl w w.heap.size 2 isLit A2 k
theorem okWide_arr {P : Program} {r : Reach} {base n : Nat} {t e : TypeId} {v : Value} (ht : P.underlying t = some (.array n e)) (h : Value.okWide P w r base t v) : ∃ cs, v = .agg cs ∧ cs.size = P.cellsOf t := by
  simp only [Value.okWide, ht] at h
  obtain ⟨cs, h1, h2, _⟩ := h
  exact ⟨cs, h1, h2⟩
set_option maxRecDepth 100000 in
theorem open_lits2V {base : Nat} {v : Value} {d : DataW H} {p : List MemPlace} {r : Reach} (hv : Value.okWide Try.prog w r base 55 v) (h : DataW.Trod enc Try.prog w 0 spare held 55 v d p) : ∃ l k, Lits2Is w l k v := by
  obtain ⟨cs, rfl, hsz⟩ := okWide_arr Try.underlying55 hv
  obtain ⟨fuel, hf⟩ := h
  have hf' : DataW.trod enc Try.prog w 0 spare held fuel 55 cs.toList = some (d, p) := hf
  obtain ⟨xs, m, _, _, hlen, hxl, hi⟩ := DataW.trod_array Try.underlying55 hf'
  rw [cells_lits2] at hlen
  obtain ⟨ll⟩ := cs
  obtain ⟨c0, c1, hll⟩ := list2 (l := ll) hlen
  subst hll
  have e0 : xs[0]? = some (xs[0]'(by omega)) := List.getElem?_eq_getElem (by omega)
  have e1 : xs[1]? = some (xs[1]'(by omega)) := List.getElem?_eq_getElem (by omega)
  have h0 : DataW.trod enc Try.prog w 0 spare held m 41 (([c0, c1].drop (0 * Try.prog.cellsOf 41)).take (Try.prog.cellsOf 41)) = some xs[0] := (hi 0 (by decide)).trans e0
  have h1 : DataW.trod enc Try.prog w 0 spare held m 41 (([c0, c1].drop (1 * Try.prog.cellsOf 41)).take (Try.prog.cellsOf 41)) = some xs[1] := (hi 1 (by decide)).trans e1
  rw [cells_lits] at h0 h1
  simp only [Nat.zero_mul, Nat.one_mul, List.drop_zero, List.drop_succ_cons, List.take_succ_cons, List.take_zero] at h0 h1
  obtain ⟨l, A1, k1, rfl, l1, m1, s1⟩ := open_lits h0
  obtain ⟨k, A2, k2, rfl, l2, m2, s2⟩ := open_lits h1
  exact ⟨l, k, A1, k1, A2, k2, rfl, l1, m1, s1, l2, m2, s2⟩
end
end Go.Proofs.Ytolabbnchmmckaa
