/-
  More methods of the looker: one, cell, reckons.
-/
import Derived.Test.YtbjaejgechadpaaLook
namespace Go.Proofs.Ytbjaejgechadpaa
open Go.RowKit Vf

theorem getI_at {l : List Int} {n : Nat} {x : Int} (h : l[n]? = some x) : getI l n = x := by
  unfold getI
  rw [List.getD_eq_getElem?_getD, Int.toNat_natCast, h]; rfl
theorem types_at {l : List (Int × Int)} {n : Nat} {x : Int × Int} (h : l[n]? = some x) : (types l)[n]? = some x.1 := by
  unfold types; rw [List.getElem?_map, h]; rfl
set_option maxHeartbeats 1000000 in
theorem one_any {w : World} {B L K O : Nat} {p : Pg} {vi vo vc vd : Value} {s : LS} (l : List Int) (v : Value) (n : Int) (h : Lk w B L K O p vi vo vc vd s) (hl : SlV w B 1 isInt v l) :
    Calls Try.prog 122 #[.pointer (some ⟨L, 0, none⟩), v, .int .i64 n] w fun e w' => e = .returned (.int .i64 (s.one l n).1) ∧ Left w B L K O p vi vo vc vd (s.one l n).2 w' := by
  obtain ⟨A, cap, rfl, hcap, hmax, hs⟩ := hl
  have l0 := h.row.cell 0
  have l1 := h.row.cell 1
  have l2 := h.row.cell 2
  have l3 := h.row.cell 3
  have l4 := h.row.cell 4
  have l5 := h.row.cell 5
  have l6 := h.row.cell 6
  have l7 := h.row.cell 7
  have l8 := h.row.cell 8
  have lf := h.row.frozen 8
  simp only [List.getElem?_toArray, List.getElem?_cons_zero, List.getElem?_cons_succ] at l0 l1 l2 l3 l4 l5 l6 l7 l8
  unfold maxLen at hmax
  have HNo : Hid (Left w B L K O p vi vo vc vd s.no (w.setCell ⟨L, 8, none⟩ (.bool true))) := ⟨h.setBad true, (Upd.refl _ _).setCell (.inl rfl) _⟩
  have HYes : Hid (Left w B L K O p vi vo vc vd s w) := ⟨h, Upd.refl _ _⟩
  by_cases hn : n < 0
  · have HT := Lib.hid (show s.one l n = (0, s.no) by unfold LS.one; rw [if_neg (fun h => by have := h.1; omega)])
    clear h
    go_enter Try.func122, Try.ntmps122
    go_wp2_with fail
    go_ret
    exact ⟨ret_i64 (by rw [HT.out]), by rw [HT.out]; exact HNo.out⟩
  · obtain ⟨n, rfl⟩ := Int.eq_ofNat_of_zero_le (by omega : 0 ≤ n)
    by_cases hl : n < l.length
    · obtain ⟨b, off, x, rfl, hb, hx, hwf, hc⟩ := hs.int hl
      have HT := Lib.hid (show s.one l n = (x, s) by unfold LS.one; rw [if_pos ⟨by omega, by omega⟩, getI_at hx])
      clear h hx
      go_enter Try.func122, Try.ntmps122
      go_wp2_with fail
      go_ret
      exact ⟨ret_i64 (by rw [HT.out]), by rw [HT.out]; exact HYes.out⟩
    · have HT := Lib.hid (show s.one l n = (0, s.no) by unfold LS.one; rw [if_neg (fun h => by have := h.2; omega)])
      clear h
      go_enter Try.func122, Try.ntmps122
      go_wp2_with fail
      go_ret
      exact ⟨ret_i64 (by rw [HT.out]), by rw [HT.out]; exact HNo.out⟩
set_option maxHeartbeats 1000000 in
theorem cell_any {w : World} {B L K O : Nat} {p : Pg} {vi vo vc vd : Value} {s : LS} (n : Int) (h : Lk w B L K O p vi vo vc vd s) :
    Calls Try.prog 121 #[.pointer (some ⟨L, 0, none⟩), .int .i64 n] w fun e w' => e = .returned (.int .i64 (s.one (types p.cells) n).1) ∧ Left w B L K O p vi vo vc vd (s.one (types p.cells) n).2 w' := by
  obtain ⟨A, cap, rfl, hcap, hmax, hs⟩ := h.pg.cells
  have l0 := h.row.cell 0
  have l1 := h.row.cell 1
  have l2 := h.row.cell 2
  have l3 := h.row.cell 3
  have l4 := h.row.cell 4
  have l5 := h.row.cell 5
  have l6 := h.row.cell 6
  have l7 := h.row.cell 7
  have l8 := h.row.cell 8
  have lf := h.row.frozen 8
  simp only [List.getElem?_toArray, List.getElem?_cons_zero, List.getElem?_cons_succ] at l0 l1 l2 l3 l4 l5 l6 l7 l8
  unfold maxLen at hmax
  have hlen : (types p.cells).length = p.cells.length := by simp [types]
  have HNo : Hid (Left w B L K O p vi vo (.slice A p.cells.length cap) vd s.no (w.setCell ⟨L, 8, none⟩ (.bool true))) := ⟨h.setBad true, (Upd.refl _ _).setCell (.inl rfl) _⟩
  have HYes : Hid (Left w B L K O p vi vo (.slice A p.cells.length cap) vd s w) := ⟨h, Upd.refl _ _⟩
  by_cases hn : n < 0
  · have HT := Lib.hid (show s.one (types p.cells) n = (0, s.no) by unfold LS.one; rw [if_neg (fun h => by have := h.1; omega)])
    clear h hlen
    go_enter Try.func121, Try.ntmps121
    go_wp2_with fail
    go_ret
    exact ⟨ret_i64 (by rw [HT.out]), by rw [HT.out]; exact HNo.out⟩
  · obtain ⟨n, rfl⟩ := Int.eq_ofNat_of_zero_le (by omega : 0 ≤ n)
    by_cases hl : n < p.cells.length
    · obtain ⟨b, off, x, rfl, hb, hx, hwf, hwf2, hc, hc2⟩ := hs.cell hl
      have HT := Lib.hid (show s.one (types p.cells) n = (x.1, s) by unfold LS.one; rw [if_pos ⟨by omega, by omega⟩, getI_at (types_at hx)])
      clear h hx hlen
      go_enter Try.func121, Try.ntmps121
      go_wp2_with fail
      go_ret
      exact ⟨ret_i64 (by rw [HT.out]), by rw [HT.out]; exact HYes.out⟩
    · have HT := Lib.hid (show s.one (types p.cells) n = (0, s.no) by unfold LS.one; rw [if_neg (fun h => by have := h.2; omega)])
      clear h hlen
      go_enter Try.func121, Try.ntmps121
      go_wp2_with fail
      go_ret
      exact ⟨ret_i64 (by rw [HT.out]), by rw [HT.out]; exact HNo.out⟩
/-- the instruction's own box, beside the looker -/
theorem Left.row {w w' : World} {B L K O : Nat} {p : Pg} {vi vo vc vd : Value} {s : LS} (h : Left w B L K O p vi vo vc vd s w') {b : Nat} {cs : Array Value} {t : TypeId} (hr : Row w b cs t) (hL : b ≠ L) (hK : b ≠ K) (hO : b ≠ O) : Row w' b cs t :=
  h.2.row hr (by rintro (h | h | h) <;> contradiction)
theorem in5_cells {W : World} {b : Nat} {x : In5} {t : TypeId} (h : Row W b #[.int .i64 x.op, .int .i64 x.a, .int .i64 x.b, .int .i64 x.c, .int .i64 x.k] t) : W.cell? ⟨b, 0, none⟩ = some (.int .i64 x.op) ∧ W.cell? ⟨b, 1, none⟩ = some (.int .i64 x.a) ∧ W.cell? ⟨b, 2, none⟩ = some (.int .i64 x.b) ∧ W.cell? ⟨b, 3, none⟩ = some (.int .i64 x.c) ∧ W.cell? ⟨b, 4, none⟩ = some (.int .i64 x.k) :=
  ⟨h.cell 0, h.cell 1, h.cell 2, h.cell 3, h.cell 4⟩
set_option maxHeartbeats 2000000 in
theorem reckons_any {w : World} {B L K O : Nat} {p : Pg} {vi vo vc vd : Value} {s : LS} (x : In5) (i o : Int) (h : Lk w B L K O p vi vo vc vd s) :
    Calls Try.prog 117 #[.pointer (some ⟨L, 0, none⟩), in5V x, .int .i64 i, .int .i64 o] w fun e w' => e = .returned (.tuple #[]) ∧ Left w B L K O p vi vo vc vd (s.reckons x i o) w' := by
  have hL : w.heap.size ≠ L := by have := h.row.lt; omega
  have hK : w.heap.size ≠ K := by have := h.kinds.lt; omega
  have hO : w.heap.size ≠ O := by have := h.outs.lt; omega
  have bX := Row.new w #[.int .i64 x.op, .int .i64 x.a, .int .i64 x.b, .int .i64 x.c, .int .i64 x.k] 30
  have h0 := h.alloc (.cells #[.int .i64 x.op, .int .i64 x.a, .int .i64 x.b, .int .i64 x.c, .int .i64 x.k] 30)
  have u0 : Upd (lkX L K O) w (w.alloc (.cells #[.int .i64 x.op, .int .i64 x.a, .int .i64 x.b, .int .i64 x.c, .int .i64 x.k] 30)) := (Upd.refl _ _).alloc _
  go_enter Try.func117, Try.ntmps117
  go_wp2_with fail
  refine (takes_any x.b h0).mono ?_
  rintro e w1 ⟨rfl, hl1⟩
  have bX1 := hl1.row bX hL hK hO
  have u1 := u0.trans hl1.2
  have h1 := hl1.1
  clear hl1 bX u0 h0 h
  obtain ⟨x0, x1, x2, x3, x4⟩ := in5_cells bX1
  have HR := Lib.hid (show s.reckons x i o = ((if x.op ≠ 5 ∧ x.op ≠ 6 then (((s.takes x.b).2.need (i == 0 || (s.takes x.b).1 == i)).takes x.c).2.need ((((s.takes x.b).2.need (i == 0 || (s.takes x.b).1 == i)).takes x.c).1 == (s.takes x.b).1) else (s.takes x.b).2.need (i == 0 || (s.takes x.b).1 == i))).gives x.a o from rfl)
  generalize (s.takes x.b).2 = s1 at *
  generalize (s.takes x.b).1 = kind at *
  have HP : Hid (∀ b : Bool, Calls Try.prog 119 #[.pointer (some ⟨L, 0, none⟩), .bool b] w1 fun e w' => e = .returned (.tuple #[]) ∧ Left w1 B L K O p vi vo vc vd (s1.need b) w') := fun b => need_any b h1
  cases hi : (i == 0)
  all_goals
    go_wp2_with fail
    refine (HP.out _).mono ?_
    rintro e w2 ⟨rfl, hl2⟩
    have bX2 := hl2.row bX1 hL hK hO
    have u2 := u1.trans hl2.2
    have h2 := hl2.1
    rw [hi] at HR
    clear hl2 bX1 u1 h1 x0 x1 x2 x3 x4 HP
    obtain ⟨x0, x1, x2, x3, x4⟩ := in5_cells bX2
    simp only [Bool.false_or, Bool.true_or] at HR h2
    (first | generalize hs2 : s1.need (kind == i) = s2 at * | generalize hs2 : s1.need true = s2 at *)
    clear hs2
    by_cases h56 : x.op ≠ 5 ∧ x.op ≠ 6
    · have k5 : (x.op != 5) = true := by simp [h56.1]
      have k6 : (x.op != 6) = true := by simp [h56.2]
      rw [if_pos h56] at HR
      clear h56
      go_wp2_with fail
      refine (takes_any x.c h2).mono ?_
      rintro e w3 ⟨rfl, hl3⟩
      have bX3 := hl3.row bX2 hL hK hO
      have u3 := u2.trans hl3.2
      have h3 := hl3.1
      clear hl3 bX2 u2 h2 x0 x1 x2 x3 x4
      generalize (s2.takes x.c).2 = s3 at *
      generalize (s2.takes x.c).1 = kc at *
      go_wp2_with fail
      refine (need_any _ h3).mono ?_
      rintro e w4 ⟨rfl, hl4⟩
      have bX4 := hl4.row bX3 hL hK hO
      have u4 := u3.trans hl4.2
      have h4 := hl4.1
      clear hl4 bX3 u3 h3
      obtain ⟨x0, x1, x2, x3, x4⟩ := in5_cells bX4
      go_wp2_with fail
      refine (gives_any x.a o h4).mono ?_
      rintro e w5 ⟨rfl, hl5⟩
      go_wp2_with fail
      go_end0
      exact ⟨rfl, by rw [HR.out]; exact hl5.1, u4.trans hl5.2⟩
    · rw [if_neg h56] at HR
      have k56 : (x.op != 5) = false ∨ ((x.op != 5) = true ∧ (x.op != 6) = false) := by simp only [bne_iff_ne, bne_eq_false_iff_eq, ne_eq]; omega
      clear h56
      rcases k56 with k5 | ⟨k5, k6⟩
      all_goals
        go_wp2_with fail
        refine (gives_any x.a o h2).mono ?_
        rintro e w5 ⟨rfl, hl5⟩
        go_wp2_with fail
        go_end0
        exact ⟨rfl, by rw [HR.out]; exact hl5.1, u2.trans hl5.2⟩
end Go.Proofs.Ytbjaejgechadpaa
