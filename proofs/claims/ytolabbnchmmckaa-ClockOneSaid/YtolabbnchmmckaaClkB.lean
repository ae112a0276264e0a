/-
  Clocks with one more condition: the contracts of clock.more, tompionref18.With; the document's clock of a name.
-/
import Derived.Test.YtolabbnchmmckaaClkA
import Derived.Deep.RegionLawGrows
namespace Go.Proofs.Ytolabbnchmmckaa
open Go.RowKit
theorem old_cell {w W : World} (hb : Below w.heap.size w W) {p : Addr} {u : Value} (h : w.cell? p = some u) : W.cell? p = some u := (hb.cell (block_lt_of_cell h)).trans h
/-- one element, in a block of its own -/
theorem sl_one {α : Type} {W : World} {B g size : Nat} {t : TypeId} {cs : List Value} {rel : α → List Value → Prop} {x : α} (h : Row W g cs.toArray t) (hB : g < B) (hr : rel x cs) : Sl W B size rel (some ⟨g, 0, none⟩) [x] := fun _ => by
  refine ⟨g, 0, rfl, hB, fun i y hi => ?_⟩
  match i, hi with
  | 0, hi =>
    simp at hi; subst hi
    refine ⟨cs, fun j u hu => ?_, hr⟩
    rw [Nat.zero_mul, Nat.zero_add]
    try rw [Nat.zero_add]
    refine (h.cell j).trans ?_
    simpa using hu
theorem Row.two {W : World} {g : Nat} {x0 x1 : Value} {t : TypeId} (h : Row W g #[x0, x1] t) {j : Nat} {u : Value} (hu : [x0, x1][j]? = some u) : W.cell? ((⟨g, 0, none⟩ : Addr).add j) = some u := by
  rw [Addr.add_lit, Nat.zero_add]
  exact (h.cell j).trans (by simpa using hu)
set_option maxRecDepth 100000 in
set_option maxHeartbeats 2000000 in
theorem with_any (l : List Lt) (x : Lt) (A : Option Addr) (cap : Nat) (w : World) (h0 : l.length ≤ 1000) (hx : x.name.size ≤ maxLen) (h : Sl w w.heap.size 2 isLit A l) :
    Calls Try.prog 62 #[.slice A l.length cap, .string x.name, .bool x.no] w fun e w' => (∃ v, e = .returned v ∧ LitsV w' (l ++ [x]) v) ∧ Below w.heap.size w w' := by
  obtain ⟨i0, hi0, hz0, hz1, hz2⟩ := info_parts info_lit
  have HS := Lib.hid (h.keep (keeps_of ((Below.refl _ w).alloc (Nat.le_refl _) (.cells #[] 68))) (Nat.le_refl _) (fun _ _ _ h => h))
  have ho := own_empty w 68 2
  clear h
  go_enter Try.func62, Try.ntmps62
  go_wp2_with (at_builtin; refine wpList_append_sl rfl (.tmp 7) (.tmp 8) 41 rfl w.heap.size 68 i0 _ 2 24 Try.underlying41 hi0 hz0 hz1 hz2 rfl (by decide) _ _ _ rfl ho A l cap rfl HS.out (fun _ _ h => isLit_one h) ?c3 ?c4 ?c5 ?_)
  case c3 => unfold maxLen; omega
  case c4 => omega
  case c5 => simp
  intro v2 w2 css2 ho2 ha2 hb2 _
  have HA2 := Lib.hid ha2
  have hB2 : Below w.heap.size w w2 := ((Below.refl _ _).alloc (Nat.le_refl _) _).trans hb2
  have hsz2 := hB2.size
  have ho3 : (w2.alloc (.cells #[.string x.name, .bool x.no] 68)).ownsRow w.heap.size 68 2 v2 (0 + l.length) css2.flatten := by simpa using ho2.alloc (.cells #[.string x.name, .bool x.no] 68)
  have r3 := Row.new w2 #[.string x.name, .bool x.no] 68
  have HS3 : Hid (Sl (w2.alloc (.cells #[.string x.name, .bool x.no] 68)) (w2.alloc (.cells #[.string x.name, .bool x.no] 68)).heap.size 2 isLit (some ⟨w2.heap.size, 0, none⟩) [x]) := sl_one (cs := [.string x.name, .bool x.no]) r3 r3.lt ⟨rfl, hx⟩
  clear ho2 ha2 ho
  go_wp2_with (at_builtin; refine wpList_append_sl rfl (.tmp 9) (.tmp 13) 41 rfl w.heap.size 68 i0 _ 2 24 Try.underlying41 hi0 hz0 hz1 hz2 rfl (by decide) _ _ _ rfl ho3 (some ⟨w2.heap.size, 0, none⟩) [x] 1 rfl HS3.out (fun _ _ h => isLit_one h) ?c3 ?c4 ?c5 ?_)
  case c3 => simp; unfold maxLen; omega
  case c4 => simp; omega
  case c5 => simp; omega
  intro v4 w4 css4 ho4 ha4 hb4 _
  have HO4 := Lib.hid ho4
  have HA4 := Lib.hid ha4
  clear ho4 ha4
  go_wp2_with fail
  go_ret
  refine ⟨⟨_, rfl, lits_own (base := w.heap.size) (n := l.length + 1) (v := v4) (css := css2 ++ css4) ?_ (HA2.out.append HA4.out)⟩, hB2.trans (((Below.refl _ _).alloc hsz2 _).trans hb4)⟩
  rw [List.flatten_append]
  exact HO4.out
set_option maxRecDepth 100000 in
set_option maxHeartbeats 4000000 in
theorem more_any (l : List Lt) (x : Lt) (A : Option Addr) (cap : Nat) (w : World) (h0 : l.length ≤ 1000) (hx : x.name.size ≤ maxLen) (hc : l.length ≤ cap) (hm : cap ≤ maxLen) (h : Sl w w.heap.size 2 isLit A l) :
    Calls Try.prog 103 #[.slice A l.length cap, .agg #[.string x.name, .bool x.no]] w fun e w' => (∃ v, e = .returned v ∧ LitsO w.heap.size w' (l ++ [x]) v) ∧ Below w.heap.size w w' := by
  obtain ⟨i0, hi0, hz0, hz1, hz2⟩ := info_parts info_lit
  have hm' : cap ≤ 9223372036854775807 := by unfold maxLen at hm; omega
  obtain ⟨css, hare, hcs⟩ := h.css (fun x cs h => (isLit_one h).1)
  have HA := Lib.hid hare
  have HL := Lib.hid (hare.len (fun x cs h => (isLit_one h).1))
  have HC := Lib.hid hcs
  have i1 : (0 : Int) ≤ (l.length : Int) := by omega
  have i2 : (l.length : Int) ≤ (cap : Int) := by omega
  have i3 : (l.length : Int) ≤ (l.length : Int) := Int.le_refl _
  have c0 : (w.alloc (.cells #[.string x.name, .bool x.no] 68)).cell? ⟨w.heap.size, 0, none⟩ = some (.string x.name) := by simp
  have c1 : (w.alloc (.cells #[.string x.name, .bool x.no] 68)).cell? ⟨w.heap.size, 1, none⟩ = some (.bool x.no) := by simp
  have hA : A = none → l.length = 0 ∧ l.length = 0 := fun e => by
    subst e
    rcases Nat.eq_zero_or_pos l.length with h1 | h1
    · exact ⟨h1, h1⟩
    · obtain ⟨_, _, h, _⟩ := h h1
      cases h
  have HN := Lib.hid hA
  clear h hare hcs hA
  go_enter Try.func103, Try.ntmps103
  go_wp2_with fail
  cases A with
  | none =>
    go_region_held3 (fun w' => w'.cell? ⟨w.heap.size, 0, none⟩ = some (.string x.name) ∧ w'.cell? ⟨w.heap.size, 1, none⟩ = some (.bool x.no)) (first | exact kk | go_keep)
      (first | ((refine step_append_grows (by rfl) (.tmp 10) (.tmp 12) 41 (by rfl) 68 i0 _ 2 24 Try.underlying41 hi0 hz0 hz1 hz2 rfl (by decide) none l.length l.length css.flatten (by rfl) HN.out HL.out (fun b e => by cases e) ⟨w.heap.size + 1, 0, none⟩ 1 1 [.string x.name, .bool x.no] (by rfl) rfl (fun j u hu => (show Row _ _ #[_, _] 68 from rowNew2 _ _ _ _).two hu) (fun u hu => by simp at hu; rcases hu with rfl | rfl <;> rfl) (by omega) (by unfold maxLen; omega) (by omega) ?_); intro v3 w3 ho3 hg3; have kk : w3.cell? ⟨w.heap.size, 0, none⟩ = some (.string x.name) ∧ w3.cell? ⟨w.heap.size, 1, none⟩ = some (.bool x.no) := ⟨(World.cell?_of_block (a := ⟨w.heap.size, 0, none⟩) (hg3.block w.heap.size (by first | (simp; omega) | simp) (fun e => by cases e))).trans (by simp), (World.cell?_of_block (a := ⟨w.heap.size, 1, none⟩) (hg3.block w.heap.size (by first | (simp; omega) | simp) (fun e => by cases e))).trans (by simp)⟩))
    all_goals
      have HO := Lib.hid ho3
      have hb3 := (Below.refl w.heap.size _).grown hg3 (by simp; omega) (fun k hk => by cases hk)
      clear ho3 hg3
      go_wp2_with fail
      go_ret
      refine ⟨⟨_, rfl, lits_ownO (n := l.length + 1) (v := v3) (css := css ++ [[.string x.name, .bool x.no]]) (by rw [List.flatten_append]; exact HO.out) (HA.out.append (Are.one ⟨rfl, hx⟩)) (by first | (simp; omega) | simp)⟩, Below.trans ?_ hb3⟩
      repeat (first | exact Below.refl _ _ | refine Below.drew ?_ | refine Below.alloc ?_ (by simp) _)
  | some ad =>
    go_region_held3 (fun w' => w'.cell? ⟨w.heap.size, 0, none⟩ = some (.string x.name) ∧ w'.cell? ⟨w.heap.size, 1, none⟩ = some (.bool x.no)) (first | exact kk | go_keep)
      (first | ((refine step_append_grows (by rfl) (.tmp 10) (.tmp 12) 41 (by rfl) 68 i0 _ 2 24 Try.underlying41 hi0 hz0 hz1 hz2 rfl (by decide) (some ad) l.length l.length css.flatten (by rfl) HN.out HL.out (fun b e j u hu => old_cell (by repeat (first | exact Below.refl _ _ | refine Below.drew ?_ | refine Below.alloc ?_ (by simp) _)) (HC.out b e j u hu)) ⟨w.heap.size + 1, 0, none⟩ 1 1 [.string x.name, .bool x.no] (by rfl) rfl (fun j u hu => (show Row _ _ #[_, _] 68 from rowNew2 _ _ _ _).two hu) (fun u hu => by simp at hu; rcases hu with rfl | rfl <;> rfl) (by omega) (by unfold maxLen; omega) (by omega) ?_); intro v3 w3 ho3 hg3; have kk : w3.cell? ⟨w.heap.size, 0, none⟩ = some (.string x.name) ∧ w3.cell? ⟨w.heap.size, 1, none⟩ = some (.bool x.no) := ⟨(World.cell?_of_block (a := ⟨w.heap.size, 0, none⟩) (hg3.block w.heap.size (by first | (simp; omega) | simp) (fun e => by cases e))).trans (by simp), (World.cell?_of_block (a := ⟨w.heap.size, 1, none⟩) (hg3.block w.heap.size (by first | (simp; omega) | simp) (fun e => by cases e))).trans (by simp)⟩))
    all_goals
      have HO := Lib.hid ho3
      have hb3 := (Below.refl w.heap.size _).grown hg3 (by simp; omega) (fun k hk => by cases hk)
      clear ho3 hg3
      go_wp2_with fail
      go_ret
      refine ⟨⟨_, rfl, lits_ownO (n := l.length + 1) (v := v3) (css := css ++ [[.string x.name, .bool x.no]]) (by rw [List.flatten_append]; exact HO.out) (HA.out.append (Are.one ⟨rfl, hx⟩)) (by first | (simp; omega) | simp)⟩, Below.trans ?_ hb3⟩
      repeat (first | exact Below.refl _ _ | refine Below.drew ?_ | refine Below.alloc ?_ (by simp) _)
end Go.Proofs.Ytolabbnchmmckaa
