/-
  The clock of a name: the contracts of clock.Of, tompionref18.Of; clocks with one more condition.
-/
import Derived.Test.YtolabbnchmmckaaScD
import Derived.Deep.RegionHeld3
import Derived.IntWalk
namespace Go.Proofs.Ytolabbnchmmckaa
open Go.RowKit
theorem info_lit : (Try.prog.info? 68).map (fun i => (i.zero, i.size, i.bytes)) = some (some (.agg #[.string ⟨#[]⟩, .bool false]), 2, 24) := by kernel_rfl
theorem isLit_one {x : Lt} {cs : List Value} (h : isLit x cs) : cs.length = 2 ∧ ∀ u ∈ cs, u.oneCell' = true := by
  obtain ⟨rfl, _⟩ := h
  refine ⟨rfl, fun u hu => ?_⟩
  simp only [List.mem_cons, List.not_mem_nil, or_false] at hu
  rcases hu with rfl | rfl <;> rfl
/-- a row of conditions, as a value -/
def LitsV (w : World) (l : List Lt) (v : Value) : Prop := ∃ A cap, v = .slice A l.length cap ∧ l.length ≤ cap ∧ cap ≤ maxLen ∧ Sl w w.heap.size 2 isLit A l
theorem lits_own {w : World} {base n : Nat} {v : Value} {l : List Lt} {css : List (List Value)} (h : w.ownsRow base 68 2 v n css.flatten) (ha : Are isLit l css) : LitsV w l v := by
  obtain ⟨⟨A, cap, e1, e2, e3, e4⟩, _⟩ := own_sl h ha (ha.all (fun _ _ _ h => (isLit_one h).1)) (by decide)
  exact ⟨A, cap, e1, e2, e3, e4⟩
/-- a row of conditions of the call's own -/
def LitsO (B : Nat) (w : World) (l : List Lt) (v : Value) : Prop := ∃ A cap, v = .slice A l.length cap ∧ l.length ≤ cap ∧ cap ≤ maxLen ∧ Sl w w.heap.size 2 isLit A l ∧ ∀ ad, A = some ad → B ≤ ad.block
theorem lits_ownO {w : World} {B base n : Nat} {v : Value} {l : List Lt} {css : List (List Value)} (h : w.ownsRow base 68 2 v n css.flatten) (ha : Are isLit l css) (hB : B ≤ base) : LitsO B w l v := by
  obtain ⟨⟨A, cap, e1, e2, e3, e4⟩, _⟩ := own_sl h ha (ha.all (fun _ _ _ h => (isLit_one h).1)) (by decide)
  exact ⟨A, cap, e1, e2, e3, e4, fun ad hA => by
    subst hA; subst e1
    exact Nat.le_trans hB (h.lt ad.block rfl).1⟩
theorem sl_far {W : World} {B : Nat} {A : Option Addr} {l : List Lt} (h : Sl W B 2 isLit A l) {p : Addr} (hp : ∀ ad, A = some ad → ad.block ≠ p.block) (u : Value) : Sl (W.setCell p u) B 2 isLit A l := fun hn => by
  obtain ⟨b, off, rfl, hb, hx⟩ := h hn
  refine ⟨b, off, rfl, hb, fun i x hi => ?_⟩
  obtain ⟨cs, hc, hr⟩ := hx i x hi
  exact ⟨cs, fun j v hv => (World.cell?_of_block (a := ⟨b, off + i * 2 + j, none⟩) (Below.heap_setCell W p u b (hp _ rfl))).trans (hc j v hv), hr⟩
set_option maxRecDepth 100000 in
set_option maxHeartbeats 1000000 in
theorem clone_lits (l : List Lt) (A : Option Addr) (cap : Nat) (w : World) (h0 : l.length ≤ 1000) (h : Sl w w.heap.size 2 isLit A l) :
    Calls Try.prog 59 #[.slice A l.length cap] w fun e w' => (∃ v, e = .returned v ∧ LitsV w' l v) ∧ Below w.heap.size w w' := by
  obtain ⟨i0, hi0, hz0, hz1, hz2⟩ := info_parts info_lit
  cases A with
  | none =>
    have hl : l = [] := by
      rcases Nat.eq_zero_or_pos l.length with h1 | h1
      · exact List.eq_nil_of_length_eq_zero h1
      · obtain ⟨_, _, h, _⟩ := h h1
        cases h
    subst hl
    clear h
    have en := Lib.run_eql_slice_nil (P := Try.prog)
    go_enter Try.func59, Try.ntmps59
    go_wp2_with fail
    go_ret
    exact ⟨⟨_, rfl, none, 0, rfl, Nat.le_refl _, Nat.zero_le _, Sl.nil⟩, Below.refl _ _⟩
  | some ad =>
    have en := Lib.run_eql_slice_nil (P := Try.prog)
    have HS := Lib.hid (h.keep (keeps_of ((Below.refl _ w).alloc (Nat.le_refl _) (.cells #[] 68))) (Nat.le_refl _) (fun _ _ _ h => h))
    have ho := own_empty w 68 2
    clear h
    go_enter Try.func59, Try.ntmps59
    go_wp2_with (at_builtin; refine wpList_append_sl rfl _ _ 41 rfl w.heap.size 68 i0 _ 2 24 Try.underlying41 hi0 hz0 hz1 hz2 rfl (by decide) _ _ _ rfl ho (some ad) l cap rfl HS.out (fun _ _ h => isLit_one h) ?c3 ?c4 ?c5 ?_)
    case c3 => unfold maxLen; omega
    case c4 => omega
    case c5 => simp
    intro v' w3 css' hown' hare' hb3 _
    have HO := Lib.hid hown'
    have HA := Lib.hid hare'
    clear hown' hare'
    go_wp2_with fail
    go_ret
    refine ⟨⟨_, rfl, lits_own (base := w.heap.size) (n := 0 + l.length) (css := css') ?_ HA.out⟩, ((Below.refl _ _).alloc (Nat.le_refl _) _).trans hb3⟩
    simpa using HO.out
/-! ### plain: the clock of a name -/
def clockOf (n : Nd) (nm : ByteArray) : List Lt := if 0 ≤ varIdx n nm then (((vrs n)[(varIdx n nm).toNat]?).map Vr.clock).getD [] else []
theorem clock_at {n : Nd} {nm : ByteArray} {k : Nat} {x : Vr} (h : varIdx n nm = k) (hx : (vrs n)[k]? = some x) : clockOf n nm = x.clock := by
  unfold clockOf
  rw [h, if_pos (by omega)]
  simp [hx]
theorem clock_no {n : Nd} {nm : ByteArray} (h : varIdx n nm = -1) : clockOf n nm = [] := by unfold clockOf; rw [h]; rfl
theorem var_cases (n : Nd) (nm : ByteArray) : (∃ (k : Nat) (x : Vr), varIdx n nm = k ∧ (vrs n)[k]? = some x ∧ x.name = nm) ∨ varIdx n nm = -1 := by
  rcases idx_cases ((vrs n).map (·.name)) nm with ⟨k, h1, h2, _⟩ | ⟨h1, _⟩
  · rw [List.getElem?_map, Option.map_eq_some_iff] at h2
    obtain ⟨x, h3, h4⟩ := h2
    exact .inl ⟨k, x, h1, h3, h4⟩
  · exact .inr h1
theorem clock_small {n : Nd} (h : NdSm n) (nm : ByteArray) : (clockOf n nm).length ≤ 6 := by
  rcases var_cases n nm with ⟨k, x, h1, h2, _⟩ | h1
  · rw [clock_at h1 h2]; exact (h.all x (List.mem_of_getElem? h2)).clock
  · rw [clock_no h1]; simp
/-- what clock.Of gives -/
def OfRes (n : Nd) (nm : ByteArray) (w : World) (e : Ending) (w' : World) : Prop := (∃ A cap, e = .returned (.tuple #[.slice A (clockOf n nm).length cap, .bool (cB (0 ≤ varIdx n nm))]) ∧ (clockOf n nm).length ≤ cap ∧ cap ≤ maxLen ∧ Sl w' w'.heap.size 2 isLit A (clockOf n nm)) ∧ Below w.heap.size w w'
theorem ret_two {a b : Value} {x y : Bool} (h : x = y) : Ending.returned (.tuple #[a, .bool x]) = .returned (.tuple #[a, .bool y]) ∨ b = b := .inl (by rw [h])
set_option maxRecDepth 100000 in
set_option maxHeartbeats 1000000 in
theorem of_any (n : Nd) (a : NdA) (nm : ByteArray) (w : World) (h : NdAt w w.heap.size n a) (hs : NdSm n) :
    Calls Try.prog 24 #[ndV n a, .string nm] w (OfRes n nm w) := by
  have b1 : Below w.heap.size w (w.alloc (.cells (ndArr n a) 40)) := (Below.refl _ _).alloc (Nat.le_refl _) _
  have H := Lib.hid (h.next b1)
  have HL := Lib.hid hs
  clear h hs
  go_enter Try.func24, Try.ntmps24
  go_wp2_with fail
  refine (svar_any n a nm _ H.out (by have := HL.out.len; omega)).mono ?_
  rintro e w2 ⟨(⟨k, x, A, cap, hk, hx, rfl, ok, g1, g2, hsl⟩ | ⟨hk, rfl⟩), hb2⟩
  · have hB : Below w.heap.size w w2 := b1.trans (hb2.mono (by simp))
    have HK := Lib.hid hk
    have HC := Lib.hid (clock_at hk hx)
    have hsz2 := hb2.size
    have hcl : x.clock.length ≤ 1000 := by have := (HL.out.all x (List.mem_of_getElem? hx)).clock; omega
    have b3 : Below w2.heap.size w2 (w2.alloc (.cells (vrArr x A cap) 64)) := (Below.refl _ _).alloc (Nat.le_refl _) _
    have HSL := Lib.hid (lits_keep (lits_keep hsl (fun _ _ _ h => h) hsz2) (keeps_of b3) (show w2.heap.size ≤ (w2.alloc (.cells (vrArr x A cap) 64)).heap.size by simp))
    clear hk hx hsl
    go_wp2_with fail
    refine (clone_lits x.clock A cap _ hcl HSL.out).mono ?_
    rintro e w4 ⟨⟨v, rfl, A4, cap4, rfl, l4, m4, s4⟩, hb4⟩
    go_wp2_with fail
    go_ret2
    unfold OfRes
    rw [HC.out]
    exact ⟨⟨A4, cap4, by rw [cB_true (by rw [HK.out]; omega)]; rfl, l4, m4, s4⟩, hB.trans ((b3.mono hB.size).trans (hb4.mono (by simp; have := hB.size; omega)))⟩
  · have hB : Below w.heap.size w w2 := b1.trans (hb2.mono (by simp))
    have HK := Lib.hid hk
    have HC := Lib.hid (clock_no hk)
    clear hk
    go_wp2_with fail
    go_ret2
    unfold OfRes
    rw [HC.out]
    exact ⟨⟨none, 0, by rw [cB_false (by rw [HK.out]; decide)]; rfl, Nat.le_refl _, Nat.zero_le _, Sl.nil⟩, hB.alloc hB.size _⟩
end Go.Proofs.Ytolabbnchmmckaa
