/-
  The clock of a name: the contracts of clock.Of, tompionref18.Of; clocks with one more condition. Clocks with one more condition: the contracts of clock.more, tompionref18.With; the document's clock of a name.
-/
import Derived.Test.YtolabbnchmmckaaScD
import Derived.Deep.RegionHeld3
import Derived.IntWalk
import Derived.Deep.RegionLawGrows
namespace Go.Proofs.Ytolabbnchmmckaa
open Go.RowKit
theorem info_lit : (Try.prog.info? 68).map (fun i => (i.zero, i.size, i.bytes)) = some (some (.agg #[.string ⟨#[]⟩, .bool false]), 2, 24) := by kernel_rfl
theorem isLit_one {x : Lt} {cs : List Value} (h : isLit x cs) : cs.length = 2 ∧ ∀ u ∈ cs, u.oneCell' = true := by
  obtain ⟨rfl, _⟩ := h
  refine ⟨rfl, fun u hu => ?_⟩
  simp only [List.mem_cons, List.not_mem_nil, or_false] at hu
  rcases hu with rfl | rfl <;> rfl
/-- a row of conditions, as a value -/
def LitsV (w : World) (l : List Lt) (v : Value) : Prop := ∃ A cap, v = .slice A l.length cap ∧ l.length ≤ cap ∧ cap ≤ maxLen ∧ Sl w w.heap.size 2 isLit A l
theorem lits_own {w : World} {base n : Nat} {v : Value} {l : List Lt} {css : List (List Value)} (h : w.ownsRow base 68 2 v n css.flatten) (ha : Are isLit l css) : LitsV w l v := by
  obtain ⟨⟨A, cap, e1, e2, e3, e4⟩, _⟩ := own_sl h ha (ha.all (fun _ _ _ h => (isLit_one h).1)) (by decide)
  exact ⟨A, cap, e1, e2, e3, e4⟩
/-- a row of conditions of the call's own -/
def LitsO (B : Nat) (w : World) (l : List Lt) (v : Value) : Prop := ∃ A cap, v = .slice A l.length cap ∧ l.length ≤ cap ∧ cap ≤ maxLen ∧ Sl w w.heap.size 2 isLit A l ∧ ∀ ad, A = some ad → B ≤ ad.block
theorem lits_ownO {w : World} {B base n : Nat} {v : Value} {l : List Lt} {css : List (List Value)} (h : w.ownsRow base 68 2 v n css.flatten) (ha : Are isLit l css) (hB : B ≤ base) : LitsO B w l v := by
  obtain ⟨⟨A, cap, e1, e2, e3, e4⟩, _⟩ := own_sl h ha (ha.all (fun _ _ _ h => (isLit_one h).1)) (by decide)
  exact ⟨A, cap, e1, e2, e3, e4, fun ad hA => by
    subst hA; subst e1
    exact Nat.le_trans hB (h.lt ad.block rfl).1⟩
theorem sl_far {W : World} {B : Nat} {A : Option Addr} {l : List Lt} (h : Sl W B 2 isLit A l) {p : Addr} (hp : ∀ ad, A = some ad → ad.block ≠ p.block) (u : Value) : Sl (W.setCell p u) B 2 isLit A l := fun hn => by
  obtain ⟨b, off, rfl, hb, hx⟩ := h hn
  refine ⟨b, off, rfl, hb, fun i x hi => ?_⟩
  obtain ⟨cs, hc, hr⟩ := hx i x hi
  exact ⟨cs, fun j v hv => (World.cell?_of_block (a := ⟨b, off + i * 2 + j, none⟩) (Below.heap_setCell W p u b (hp _ rfl))).trans (hc j v hv), hr⟩
set_option maxRecDepth 100000 in
set_option maxHeartbeats 1000000 in
theorem clone_lits (l : List Lt) (A : Option Addr) (cap : Nat) (w : World) (h0 : l.length ≤ 1000) (h : Sl w w.heap.size 2 isLit A l) :
    Calls Try.prog 59 #[.slice A l.length cap] w fun e w' => (∃ v, e = .returned v ∧ LitsV w' l v) ∧ Below w.heap.size w w' := by
  obtain ⟨i0, hi0, hz0, hz1, hz2⟩ := info_parts info_lit
  cases A with
  | none =>
    have hl : l = [] := by
      rcases Nat.eq_zero_or_pos l.length with h1 | h1
      · exact List.eq_nil_of_length_eq_zero h1
      · obtain ⟨_, _, h, _⟩ := h h1
        cases h
    subst hl
    clear h
    have en := Lib.run_eql_slice_nil (P := Try.prog)
    go_enter Try.func59, Try.ntmps59
    go_wp2_with fail
    go_ret
    exact ⟨⟨_, rfl, none, 0, rfl, Nat.le_refl _, Nat.zero_le _, Sl.nil⟩, Below.refl _ _⟩
  | some ad =>
    have en := Lib.run_eql_slice_nil (P := Try.prog)
    have HS := Lib.hid (h.keep (keeps_of ((Below.refl _ w).alloc (Nat.le_refl _) (.cells #[] 68))) (Nat.le_refl _) (fun _ _ _ h => h))
    have ho := own_empty w 68 2
    clear h
    go_enter Try.func59, Try.ntmps59
    go_wp2_with (at_builtin; refine wpList_append_sl rfl _ _ 41 rfl w.heap.size 68 i0 _ 2 24 Try.underlying41 hi0 hz0 hz1 hz2 rfl (by decide) _ _ _ rfl ho (some ad) l cap rfl HS.out (fun _ _ h => isLit_one h) ?c3 ?c4 ?c5 ?_)
    case c3 => unfold maxLen; omega
    case c4 => omega
    case c5 => simp
    intro v' w3 css' hown' hare' hb3 _
    have HO := Lib.hid hown'
    have HA := Lib.hid hare'
    clear hown' hare'
    go_wp2_with fail
    go_ret
    refine ⟨⟨_, rfl, lits_own (base := w.heap.size) (n := 0 + l.length) (css := css') ?_ HA.out⟩, ((Below.refl _ _).alloc (Nat.le_refl _) _).trans hb3⟩
    simpa using HO.out
/-! ### plain: the clock of a name -/
def clockOf (n : Nd) (nm : ByteArray) : List Lt := if 0 ≤ varIdx n nm then (((vrs n)[(varIdx n nm).toNat]?).map Vr.clock).getD [] else []
theorem clock_at {n : Nd} {nm : ByteArray} {k : Nat} {x : Vr} (h : varIdx n nm = k) (hx : (vrs n)[k]? = some x) : clockOf n nm = x.clock := by
  unfold clockOf
  rw [h, if_pos (by omega)]
  simp [hx]
theorem clock_no {n : Nd} {nm : ByteArray} (h : varIdx n nm = -1) : clockOf n nm = [] := by unfold clockOf; rw [h]; rfl
theorem var_cases (n : Nd) (nm : ByteArray) : (∃ (k : Nat) (x : Vr), varIdx n nm = k ∧ (vrs n)[k]? = some x ∧ x.name = nm) ∨ varIdx n nm = -1 := by
  rcases idx_cases ((vrs n).map (·.name)) nm with ⟨k, h1, h2, _⟩ | ⟨h1, _⟩
  · rw [List.getElem?_map, Option.map_eq_some_iff] at h2
    obtain ⟨x, h3, h4⟩ := h2
    exact .inl ⟨k, x, h1, h3, h4⟩
  · exact .inr h1
theorem clock_small {n : Nd} (h : NdSm n) (nm : ByteArray) : (clockOf n nm).length ≤ 6 := by
  rcases var_cases n nm with ⟨k, x, h1, h2, _⟩ | h1
  · rw [clock_at h1 h2]; exact (h.all x (List.mem_of_getElem? h2)).clock
  · rw [clock_no h1]; simp
/-- what clock.Of gives -/
def OfRes (n : Nd) (nm : ByteArray) (w : World) (e : Ending) (w' : World) : Prop := (∃ A cap, e = .returned (.tuple #[.slice A (clockOf n nm).length cap, .bool (cB (0 ≤ varIdx n nm))]) ∧ (clockOf n nm).length ≤ cap ∧ cap ≤ maxLen ∧ Sl w' w'.heap.size 2 isLit A (clockOf n nm)) ∧ Below w.heap.size w w'
theorem ret_two {a b : Value} {x y : Bool} (h : x = y) : Ending.returned (.tuple #[a, .bool x]) = .returned (.tuple #[a, .bool y]) ∨ b = b := .inl (by rw [h])
set_option maxRecDepth 100000 in
set_option maxHeartbeats 1000000 in
theorem of_any (n : Nd) (a : NdA) (nm : ByteArray) (w : World) (h : NdAt w w.heap.size n a) (hs : NdSm n) :
    Calls Try.prog 24 #[ndV n a, .string nm] w (OfRes n nm w) := by
  have b1 : Below w.heap.size w (w.alloc (.cells (ndArr n a) 40)) := (Below.refl _ _).alloc (Nat.le_refl _) _
  have H := Lib.hid (h.next b1)
  have HL := Lib.hid hs
  clear h hs
  go_enter Try.func24, Try.ntmps24
  go_wp2_with fail
  refine (svar_any n a nm _ H.out (by have := HL.out.len; omega)).mono ?_
  rintro e w2 ⟨(⟨k, x, A, cap, hk, hx, rfl, ok, g1, g2, hsl⟩ | ⟨hk, rfl⟩), hb2⟩
  · have hB : Below w.heap.size w w2 := b1.trans (hb2.mono (by simp))
    have HK := Lib.hid hk
    have HC := Lib.hid (clock_at hk hx)
    have hsz2 := hb2.size
    have hcl : x.clock.length ≤ 1000 := by have := (HL.out.all x (List.mem_of_getElem? hx)).clock; omega
    have b3 : Below w2.heap.size w2 (w2.alloc (.cells (vrArr x A cap) 64)) := (Below.refl _ _).alloc (Nat.le_refl _) _
    have HSL := Lib.hid (lits_keep (lits_keep hsl (fun _ _ _ h => h) hsz2) (keeps_of b3) (show w2.heap.size ≤ (w2.alloc (.cells (vrArr x A cap) 64)).heap.size by simp))
    clear hk hx hsl
    go_wp2_with fail
    refine (clone_lits x.clock A cap _ hcl HSL.out).mono ?_
    rintro e w4 ⟨⟨v, rfl, A4, cap4, rfl, l4, m4, s4⟩, hb4⟩
    go_wp2_with fail
    go_ret2
    unfold OfRes
    rw [HC.out]
    exact ⟨⟨A4, cap4, by rw [cB_true (by rw [HK.out]; omega)]; rfl, l4, m4, s4⟩, hB.trans ((b3.mono hB.size).trans (hb4.mono (by simp; have := hB.size; omega)))⟩
  · have hB : Below w.heap.size w w2 := b1.trans (hb2.mono (by simp))
    have HK := Lib.hid hk
    have HC := Lib.hid (clock_no hk)
    clear hk
    go_wp2_with fail
    go_ret2
    unfold OfRes
    rw [HC.out]
    exact ⟨⟨none, 0, by rw [cB_false (by rw [HK.out]; decide)]; rfl, Nat.le_refl _, Nat.zero_le _, Sl.nil⟩, hB.alloc hB.size _⟩
end Go.Proofs.Ytolabbnchmmckaa
namespace Go.Proofs.Ytolabbnchmmckaa
open Go.RowKit
theorem old_cell {w W : World} (hb : Below w.heap.size w W) {p : Addr} {u : Value} (h : w.cell? p = some u) : W.cell? p = some u := (hb.cell (block_lt_of_cell h)).trans h
/-- one element, in a block of its own -/
theorem sl_one {α : Type} {W : World} {B g size : Nat} {t : TypeId} {cs : List Value} {rel : α → List Value → Prop} {x : α} (h : Row W g cs.toArray t) (hB : g < B) (hr : rel x cs) : Sl W B size rel (some ⟨g, 0, none⟩) [x] := fun _ => by
  refine ⟨g, 0, rfl, hB, fun i y hi => ?_⟩
  match i, hi with
  | 0, hi =>
    simp at hi; subst hi
    refine ⟨cs, fun j u hu => ?_, hr⟩
    rw [Nat.zero_mul, Nat.zero_add]
    try rw [Nat.zero_add]
    refine (h.cell j).trans ?_
    simpa using hu
theorem Row.two {W : World} {g : Nat} {x0 x1 : Value} {t : TypeId} (h : Row W g #[x0, x1] t) {j : Nat} {u : Value} (hu : [x0, x1][j]? = some u) : W.cell? ((⟨g, 0, none⟩ : Addr).add j) = some u := by
  rw [Addr.add_lit, Nat.zero_add]
  exact (h.cell j).trans (by simpa using hu)
set_option maxRecDepth 100000 in
set_option maxHeartbeats 2000000 in
theorem with_any (l : List Lt) (x : Lt) (A : Option Addr) (cap : Nat) (w : World) (h0 : l.length ≤ 1000) (hx : x.name.size ≤ maxLen) (h : Sl w w.heap.size 2 isLit A l) :
    Calls Try.prog 62 #[.slice A l.length cap, .string x.name, .bool x.no] w fun e w' => (∃ v, e = .returned v ∧ LitsV w' (l ++ [x]) v) ∧ Below w.heap.size w w' := by
  obtain ⟨i0, hi0, hz0, hz1, hz2⟩ := info_parts info_lit
  have HS := Lib.hid (h.keep (keeps_of ((Below.refl _ w).alloc (Nat.le_refl _) (.cells #[] 68))) (Nat.le_refl _) (fun _ _ _ h => h))
  have ho := own_empty w 68 2
  clear h
  go_enter Try.func62, Try.ntmps62
  go_wp2_with (at_builtin; refine wpList_append_sl rfl (.tmp 7) (.tmp 8) 41 rfl w.heap.size 68 i0 _ 2 24 Try.underlying41 hi0 hz0 hz1 hz2 rfl (by decide) _ _ _ rfl ho A l cap rfl HS.out (fun _ _ h => isLit_one h) ?c3 ?c4 ?c5 ?_)
  case c3 => unfold maxLen; omega
  case c4 => omega
  case c5 => simp
  intro v2 w2 css2 ho2 ha2 hb2 _
  have HA2 := Lib.hid ha2
  have hB2 : Below w.heap.size w w2 := ((Below.refl _ _).alloc (Nat.le_refl _) _).trans hb2
  have hsz2 := hB2.size
  have ho3 : (w2.alloc (.cells #[.string x.name, .bool x.no] 68)).ownsRow w.heap.size 68 2 v2 (0 + l.length) css2.flatten := by simpa using ho2.alloc (.cells #[.string x.name, .bool x.no] 68)
  have r3 := Row.new w2 #[.string x.name, .bool x.no] 68
  have HS3 : Hid (Sl (w2.alloc (.cells #[.string x.name, .bool x.no] 68)) (w2.alloc (.cells #[.string x.name, .bool x.no] 68)).heap.size 2 isLit (some ⟨w2.heap.size, 0, none⟩) [x]) := sl_one (cs := [.string x.name, .bool x.no]) r3 r3.lt ⟨rfl, hx⟩
  clear ho2 ha2 ho
  go_wp2_with (at_builtin; refine wpList_append_sl rfl (.tmp 9) (.tmp 13) 41 rfl w.heap.size 68 i0 _ 2 24 Try.underlying41 hi0 hz0 hz1 hz2 rfl (by decide) _ _ _ rfl ho3 (some ⟨w2.heap.size, 0, none⟩) [x] 1 rfl HS3.out (fun _ _ h => isLit_one h) ?c3 ?c4 ?c5 ?_)
  case c3 => simp; unfold maxLen; omega
  case c4 => simp; omega
  case c5 => simp; omega
  intro v4 w4 css4 ho4 ha4 hb4 _
  have HO4 := Lib.hid ho4
  have HA4 := Lib.hid ha4
  clear ho4 ha4
  go_wp2_with fail
  go_ret
  refine ⟨⟨_, rfl, lits_own (base := w.heap.size) (n := l.length + 1) (v := v4) (css := css2 ++ css4) ?_ (HA2.out.append HA4.out)⟩, hB2.trans (((Below.refl _ _).alloc hsz2 _).trans hb4)⟩
  rw [List.flatten_append]
  exact HO4.out
set_option maxRecDepth 100000 in
set_option maxHeartbeats 4000000 in
theorem more_any (l : List Lt) (x : Lt) (A : Option Addr) (cap : Nat) (w : World) (h0 : l.length ≤ 1000) (hx : x.name.size ≤ maxLen) (hc : l.length ≤ cap) (hm : cap ≤ maxLen) (h : Sl w w.heap.size 2 isLit A l) :
    Calls Try.prog 103 #[.slice A l.length cap, .agg #[.string x.name, .bool x.no]] w fun e w' => (∃ v, e = .returned v ∧ LitsO w.heap.size w' (l ++ [x]) v) ∧ Below w.heap.size w w' := by
  obtain ⟨i0, hi0, hz0, hz1, hz2⟩ := info_parts info_lit
  have hm' : cap ≤ 9223372036854775807 := by unfold maxLen at hm; omega
  obtain ⟨css, hare, hcs⟩ := h.css (fun x cs h => (isLit_one h).1)
  have HA := Lib.hid hare
  have HL := Lib.hid (hare.len (fun x cs h => (isLit_one h).1))
  have HC := Lib.hid hcs
  have i1 : (0 : Int) ≤ (l.length : Int) := by omega
  have i2 : (l.length : Int) ≤ (cap : Int) := by omega
  have i3 : (l.length : Int) ≤ (l.length : Int) := Int.le_refl _
  have c0 : (w.alloc (.cells #[.string x.name, .bool x.no] 68)).cell? ⟨w.heap.size, 0, none⟩ = some (.string x.name) := by simp
  have c1 : (w.alloc (.cells #[.string x.name, .bool x.no] 68)).cell? ⟨w.heap.size, 1, none⟩ = some (.bool x.no) := by simp
  have hA : A = none → l.length = 0 ∧ l.length = 0 := fun e => by
    subst e
    rcases Nat.eq_zero_or_pos l.length with h1 | h1
    · exact ⟨h1, h1⟩
    · obtain ⟨_, _, h, _⟩ := h h1
      cases h
  have HN := Lib.hid hA
  clear h hare hcs hA
  go_enter Try.func103, Try.ntmps103
  go_wp2_with fail
  cases A with
  | none =>
    go_region_held3 (fun w' => w'.cell? ⟨w.heap.size, 0, none⟩ = some (.string x.name) ∧ w'.cell? ⟨w.heap.size, 1, none⟩ = some (.bool x.no)) (first | exact kk | go_keep)
      (first | ((refine step_append_grows (by rfl) (.tmp 10) (.tmp 12) 41 (by rfl) 68 i0 _ 2 24 Try.underlying41 hi0 hz0 hz1 hz2 rfl (by decide) none l.length l.length css.flatten (by rfl) HN.out HL.out (fun b e => by cases e) ⟨w.heap.size + 1, 0, none⟩ 1 1 [.string x.name, .bool x.no] (by rfl) rfl (fun j u hu => (show Row _ _ #[_, _] 68 from rowNew2 _ _ _ _).two hu) (fun u hu => by simp at hu; rcases hu with rfl | rfl <;> rfl) (by omega) (by unfold maxLen; omega) (by omega) ?_); intro v3 w3 ho3 hg3; have kk : w3.cell? ⟨w.heap.size, 0, none⟩ = some (.string x.name) ∧ w3.cell? ⟨w.heap.size, 1, none⟩ = some (.bool x.no) := ⟨(World.cell?_of_block (a := ⟨w.heap.size, 0, none⟩) (hg3.block w.heap.size (by first | (simp; omega) | simp) (fun e => by cases e))).trans (by simp), (World.cell?_of_block (a := ⟨w.heap.size, 1, none⟩) (hg3.block w.heap.size (by first | (simp; omega) | simp) (fun e => by cases e))).trans (by simp)⟩))
    all_goals
      have HO := Lib.hid ho3
      have hb3 := (Below.refl w.heap.size _).grown hg3 (by simp; omega) (fun k hk => by cases hk)
      clear ho3 hg3
      go_wp2_with fail
      go_ret
      refine ⟨⟨_, rfl, lits_ownO (n := l.length + 1) (v := v3) (css := css ++ [[.string x.name, .bool x.no]]) (by rw [List.flatten_append]; exact HO.out) (HA.out.append (Are.one ⟨rfl, hx⟩)) (by first | (simp; omega) | simp)⟩, Below.trans ?_ hb3⟩
      repeat (first | exact Below.refl _ _ | refine Below.drew ?_ | refine Below.alloc ?_ (by simp) _)
  | some ad =>
    go_region_held3 (fun w' => w'.cell? ⟨w.heap.size, 0, none⟩ = some (.string x.name) ∧ w'.cell? ⟨w.heap.size, 1, none⟩ = some (.bool x.no)) (first | exact kk | go_keep)
      (first | ((refine step_append_grows (by rfl) (.tmp 10) (.tmp 12) 41 (by rfl) 68 i0 _ 2 24 Try.underlying41 hi0 hz0 hz1 hz2 rfl (by decide) (some ad) l.length l.length css.flatten (by rfl) HN.out HL.out (fun b e j u hu => old_cell (by repeat (first | exact Below.refl _ _ | refine Below.drew ?_ | refine Below.alloc ?_ (by simp) _)) (HC.out b e j u hu)) ⟨w.heap.size + 1, 0, none⟩ 1 1 [.string x.name, .bool x.no] (by rfl) rfl (fun j u hu => (show Row _ _ #[_, _] 68 from rowNew2 _ _ _ _).two hu) (fun u hu => by simp at hu; rcases hu with rfl | rfl <;> rfl) (by omega) (by unfold maxLen; omega) (by omega) ?_); intro v3 w3 ho3 hg3; have kk : w3.cell? ⟨w.heap.size, 0, none⟩ = some (.string x.name) ∧ w3.cell? ⟨w.heap.size, 1, none⟩ = some (.bool x.no) := ⟨(World.cell?_of_block (a := ⟨w.heap.size, 0, none⟩) (hg3.block w.heap.size (by first | (simp; omega) | simp) (fun e => by cases e))).trans (by simp), (World.cell?_of_block (a := ⟨w.heap.size, 1, none⟩) (hg3.block w.heap.size (by first | (simp; omega) | simp) (fun e => by cases e))).trans (by simp)⟩))
    all_goals
      have HO := Lib.hid ho3
      have hb3 := (Below.refl w.heap.size _).grown hg3 (by simp; omega) (fun k hk => by cases hk)
      clear ho3 hg3
      go_wp2_with fail
      go_ret
      refine ⟨⟨_, rfl, lits_ownO (n := l.length + 1) (v := v3) (css := css ++ [[.string x.name, .bool x.no]]) (by rw [List.flatten_append]; exact HO.out) (HA.out.append (Are.one ⟨rfl, hx⟩)) (by first | (simp; omega) | simp)⟩, Below.trans ?_ hb3⟩
      repeat (first | exact Below.refl _ _ | refine Below.drew ?_ | refine Below.alloc ?_ (by simp) _)
end Go.Proofs.Ytolabbnchmmckaa
