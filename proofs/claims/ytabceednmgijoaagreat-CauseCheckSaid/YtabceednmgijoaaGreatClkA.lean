/-
  The clock of a name: the contracts of clock.Of, tompionref18.Of; clocks with one more condition. Clocks with one more condition: the contracts of clock.more, tompionref18.With; the document's clock of a name.
-/
import Derived.Test.YtabceednmgijoaaGreatScD
import Derived.Deep.RegionHeld3
import Derived.IntWalk
import Derived.Deep.RegionLawGrows
namespace Go.Proofs.YtabceednmgijoaaGreat
open Go.RowKit
theorem info_lit : (Tryz.prog.info? 81).map (fun i => (i.zero, i.size, i.bytes)) = some (some (.agg #[.string ⟨#[]⟩, .bool false]), 2, 24) := by kernel_rfl
theorem isLit_one {x : Lt} {cs : List Value} (h : isLit x cs) : cs.length = 2 ∧ ∀ u ∈ cs, u.oneCell' = true := by
  obtain ⟨rfl, _⟩ := h
  refine ⟨rfl, fun u hu => ?_⟩
  simp only [List.mem_cons, List.not_mem_nil, or_false] at hu
  rcases hu with rfl | rfl <;> rfl
/-- a row of conditions, as a value -/
def LitsV (w : World) (l : List Lt) (v : Value) : Prop := ∃ A cap, v = .slice A l.length cap ∧ l.length ≤ cap ∧ cap ≤ maxLen ∧ Sl w w.heap.size 2 isLit A l
theorem lits_own {w : World} {base n : Nat} {v : Value} {l : List Lt} {css : List (List Value)} (h : w.ownsRow base 81 2 v n css.flatten) (ha : Are isLit l css) : LitsV w l v := by
  obtain ⟨⟨A, cap, e1, e2, e3, e4⟩, _⟩ := own_sl h ha (ha.all (fun _ _ _ h => (isLit_one h).1)) (by decide)
  exact ⟨A, cap, e1, e2, e3, e4⟩
/-- a row of conditions of the call's own -/
def LitsO (B : Nat) (w : World) (l : List Lt) (v : Value) : Prop := ∃ A cap, v = .slice A l.length cap ∧ l.length ≤ cap ∧ cap ≤ maxLen ∧ Sl w w.heap.size 2 isLit A l ∧ ∀ ad, A = some ad → B ≤ ad.block
theorem lits_ownO {w : World} {B base n : Nat} {v : Value} {l : List Lt} {css : List (List Value)} (h : w.ownsRow base 81 2 v n css.flatten) (ha : Are isLit l css) (hB : B ≤ base) : LitsO B w l v := by
  obtain ⟨⟨A, cap, e1, e2, e3, e4⟩, _⟩ := own_sl h ha (ha.all (fun _ _ _ h => (isLit_one h).1)) (by decide)
  exact ⟨A, cap, e1, e2, e3, e4, fun ad hA => by
    subst hA; subst e1
    exact Nat.le_trans hB (h.lt ad.block rfl).1⟩
theorem sl_far {W : World} {B : Nat} {A : Option Addr} {l : List Lt} (h : Sl W B 2 isLit A l) {p : Addr} (hp : ∀ ad, A = some ad → ad.block ≠ p.block) (u : Value) : Sl (W.setCell p u) B 2 isLit A l := fun hn => by
  obtain ⟨b, off, rfl, hb, hx⟩ := h hn
  refine ⟨b, off, rfl, hb, fun i x hi => ?_⟩
  obtain ⟨cs, hc, hr⟩ := hx i x hi
  exact ⟨cs, fun j v hv => (World.cell?_of_block (a := ⟨b, off + i * 2 + j, none⟩) (Below.heap_setCell W p u b (hp _ rfl))).trans (hc j v hv), hr⟩
/-! ### plain: the clock of a name -/
def clockOf (n : Nd) (nm : ByteArray) : List Lt := if 0 ≤ varIdx n nm then (((vrs n)[(varIdx n nm).toNat]?).map Vr.clock).getD [] else []
theorem clock_at {n : Nd} {nm : ByteArray} {k : Nat} {x : Vr} (h : varIdx n nm = k) (hx : (vrs n)[k]? = some x) : clockOf n nm = x.clock := by
  unfold clockOf
  rw [h, if_pos (by omega)]
  simp [hx]
theorem clock_no {n : Nd} {nm : ByteArray} (h : varIdx n nm = -1) : clockOf n nm = [] := by unfold clockOf; rw [h]; rfl
theorem var_cases (n : Nd) (nm : ByteArray) : (∃ (k : Nat) (x : Vr), varIdx n nm = k ∧ (vrs n)[k]? = some x ∧ x.name = nm) ∨ varIdx n nm = -1 := by
  rcases idx_cases ((vrs n).map (·.name)) nm with ⟨k, h1, h2, _⟩ | ⟨h1, _⟩
  · rw [List.getElem?_map, Option.map_eq_some_iff] at h2
    obtain ⟨x, h3, h4⟩ := h2
    exact .inl ⟨k, x, h1, h3, h4⟩
  · exact .inr h1
theorem clock_small {n : Nd} (h : NdSm n) (nm : ByteArray) : (clockOf n nm).length ≤ 6 := by
  rcases var_cases n nm with ⟨k, x, h1, h2, _⟩ | h1
  · rw [clock_at h1 h2]; exact (h.all x (List.mem_of_getElem? h2)).clock
  · rw [clock_no h1]; simp
/-- what clock.Of gives -/
def OfRes (n : Nd) (nm : ByteArray) (w : World) (e : Ending) (w' : World) : Prop := (∃ A cap, e = .returned (.tuple #[.slice A (clockOf n nm).length cap, .bool (cB (0 ≤ varIdx n nm))]) ∧ (clockOf n nm).length ≤ cap ∧ cap ≤ maxLen ∧ Sl w' w'.heap.size 2 isLit A (clockOf n nm)) ∧ Below w.heap.size w w'
theorem ret_two {a b : Value} {x y : Bool} (h : x = y) : Ending.returned (.tuple #[a, .bool x]) = .returned (.tuple #[a, .bool y]) ∨ b = b := .inl (by rw [h])
end Go.Proofs.YtabceednmgijoaaGreat
namespace Go.Proofs.YtabceednmgijoaaGreat
open Go.RowKit
theorem old_cell {w W : World} (hb : Below w.heap.size w W) {p : Addr} {u : Value} (h : w.cell? p = some u) : W.cell? p = some u := (hb.cell (block_lt_of_cell h)).trans h
/-- one element, in a block of its own -/
theorem sl_one {α : Type} {W : World} {B g size : Nat} {t : TypeId} {cs : List Value} {rel : α → List Value → Prop} {x : α} (h : Row W g cs.toArray t) (hB : g < B) (hr : rel x cs) : Sl W B size rel (some ⟨g, 0, none⟩) [x] := fun _ => by
  refine ⟨g, 0, rfl, hB, fun i y hi => ?_⟩
  match i, hi with
  | 0, hi =>
    simp at hi; subst hi
    refine ⟨cs, fun j u hu => ?_, hr⟩
    rw [Nat.zero_mul, Nat.zero_add]
    try rw [Nat.zero_add]
    refine (h.cell j).trans ?_
    simpa using hu
theorem Row.two {W : World} {g : Nat} {x0 x1 : Value} {t : TypeId} (h : Row W g #[x0, x1] t) {j : Nat} {u : Value} (hu : [x0, x1][j]? = some u) : W.cell? ((⟨g, 0, none⟩ : Addr).add j) = some u := by
  rw [Addr.add_lit, Nat.zero_add]
  exact (h.cell j).trans (by simpa using hu)
end Go.Proofs.YtabceednmgijoaaGreat
