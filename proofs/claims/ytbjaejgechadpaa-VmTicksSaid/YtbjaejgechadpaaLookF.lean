/-
  The looker looks at an instruction, op by op (what comes out).
-/
import Derived.Test.YtbjaejgechadpaaLookB
import Derived.Test.YtbjaejgechadpaaArithOps
import Derived.Deep.RegionHeld3
namespace Go.Proofs.Ytbjaejgechadpaa
open Go.RowKit Vf
theorem out_cell {w : World} {O : Nat} {l : List Bool} {t : TypeId} (h : Row w O (l.map Value.bool).toArray t) {n : Nat} (hn : n < l.length) : w.cell? ⟨O, n, none⟩ = some (.bool (l.getD n false)) := by
  rw [h.cell, List.getElem?_toArray, List.getElem?_map, List.getElem?_eq_getElem hn, List.getD_eq_getElem?_getD, List.getElem?_eq_getElem hn]
  rfl
set_option maxRecDepth 100000 in
set_option maxHeartbeats 4000000 in
theorem instr_29 {w : World} {B L K O : Nat} {p : Pg} {vi vo vc vd : Value} {s : LS} (i : Int) (x : In5) (h : Lk w B L K O p vi vo vc vd s) (hop : x.op = 29) (hol : s.outs.length = p.outs.length) :
    Calls Try.prog 90 #[.pointer (some ⟨L, 0, none⟩), .int .i64 i, in5V x] w fun e w' => e = .returned (.tuple #[]) ∧ Left w B L K O p vi vo vc vd (s.instr p i x) w' := by
  have hL : w.heap.size ≠ L := by have := h.row.lt; omega
  have hK : w.heap.size ≠ K := by have := h.kinds.lt; omega
  have hO : w.heap.size ≠ O := by have := h.outs.lt; omega
  have bX := Row.new w #[.int .i64 x.op, .int .i64 x.a, .int .i64 x.b, .int .i64 x.c, .int .i64 x.k] 30
  have h0 := h.alloc (.cells #[.int .i64 x.op, .int .i64 x.a, .int .i64 x.b, .int .i64 x.c, .int .i64 x.k] 30)
  have u0 : Upd (lkX L K O) w (w.alloc (.cells #[.int .i64 x.op, .int .i64 x.a, .int .i64 x.b, .int .i64 x.c, .int .i64 x.k] 30)) := (Upd.refl _ _).alloc _
  have sg : Ar.signB x.op = false := by simp [Ar.signB]; omega
  have o1 : (x.op == 1) = false := by rw [beq_eq_false_iff_ne]; omega
  have o2 : (x.op == 2) = false := by rw [beq_eq_false_iff_ne]; omega
  have o3 : (x.op == 3) = false := by rw [beq_eq_false_iff_ne]; omega
  have o27 : (x.op == 27) = false := by rw [beq_eq_false_iff_ne]; omega
  have o21 : (x.op == 21) = false := by rw [beq_eq_false_iff_ne]; omega
  have o28 : (x.op == 28) = false := by rw [beq_eq_false_iff_ne]; omega
  have o29 : (x.op == 29) = true := by rw [beq_iff_eq]; omega
  have HR := Lib.hid (show s.instr p i x = (
      let s2 := ((s.takes x.a).2.one p.outs x.k).2.need ((s.takes x.a).1 == ((s.takes x.a).2.one p.outs x.k).1)
      let s3 := s2.need (decide (s2.past ≤ i))
      if s3.bad = true then s3 else { s3.need (!(s3.outs.getD x.k.toNat false)) with outs := s3.outs.set x.k.toNat true }) by unfold LS.instr; rw [if_neg (by omega : ¬ (5 ≤ x.op ∧ x.op ≤ 20)), if_neg (by omega : ¬ x.op = 1), if_neg (by omega : ¬ x.op = 2), if_neg (by omega : ¬ x.op = 3), if_neg (by omega : ¬ x.op = 27), if_neg (by omega : ¬ x.op = 21), if_neg (by omega : ¬ x.op = 28), if_pos hop])
  have HB : Hid ((((s.takes x.a).2.one p.outs x.k).2.need ((s.takes x.a).1 == ((s.takes x.a).2.one p.outs x.k).1)).bad = false → has p.outs x.k) := by
    intro hb
    rw [one_eq] at hb
    simp only [LS.need, LS.wb, Bool.or_eq_false_iff, Bool.not_eq_false', decide_eq_true_eq] at hb
    exact hb.1.2
  have HO2 : Hid ((((s.takes x.a).2.one p.outs x.k).2.need ((s.takes x.a).1 == ((s.takes x.a).2.one p.outs x.k).1)).outs = s.outs) := by
    rw [one_eq]
    show (s.takes x.a).2.outs = s.outs
    unfold LS.takes; split <;> rfl
  have HOL := Lib.hid hol
  clear hol
  clear h hop
  go_enter Try.func90, Try.ntmps90
  go_wp2_with fail
  refine (Ar.sign_any x.op _).mono ?_
  rintro e w' ⟨rfl, rfl⟩
  rw [sg]
  generalize Ar.signIn x.op = si at *
  generalize Ar.signOut x.op = so at *
  clear sg
  generalize w.alloc (.cells #[.int .i64 x.op, .int .i64 x.a, .int .i64 x.b, .int .i64 x.c, .int .i64 x.k] 30) = W at *
  generalize w.heap.size = gx at *
  obtain ⟨x0, x1, x2, x3, x4⟩ := in5_cells bX
  have l0 := h0.row.cell 0
  have l1 := h0.row.cell 1
  have l2 := h0.row.cell 2
  have l3 := h0.row.cell 3
  have l4 := h0.row.cell 4
  have l5 := h0.row.cell 5
  have l6 := h0.row.cell 6
  have l7 := h0.row.cell 7
  have l8 := h0.row.cell 8
  simp only [List.getElem?_toArray, List.getElem?_cons_zero, List.getElem?_cons_succ] at l0 l1 l2 l3 l4 l5 l6 l7 l8
  go_upto_region 24 with (fail)
  go_cut [] (fun W2 => ∃ s2, Hid (s2 = ((s.takes x.a).2.one p.outs x.k).2.need ((s.takes x.a).1 == ((s.takes x.a).2.one p.outs x.k).1)) ∧ Lk W2 B L K O p vi vo vc vd s2 ∧ Row W2 gx #[.int .i64 x.op, .int .i64 x.a, .int .i64 x.b, .int .i64 x.c, .int .i64 x.k] 30 ∧ Upd (lkX L K O) w W2)
  case first =>
    go_region_held3 (fun w' => w'.cell? ⟨gx, 0, none⟩ = some (.int .i64 x.op) ∧ w'.cell? ⟨gx, 1, none⟩ = some (.int .i64 x.a) ∧ w'.cell? ⟨gx, 2, none⟩ = some (.int .i64 x.b) ∧ w'.cell? ⟨gx, 3, none⟩ = some (.int .i64 x.c) ∧ w'.cell? ⟨gx, 4, none⟩ = some (.int .i64 x.k) ∧ w'.cell? ⟨L, 1, none⟩ = some vo)
      (first | go_keep | exact ⟨(in5_cells bX1).1, (in5_cells bX1).2.1, (in5_cells bX1).2.2.1, (in5_cells bX1).2.2.2.1, (in5_cells bX1).2.2.2.2, h1.row.cell 1⟩ | exact ⟨(in5_cells bX2).1, (in5_cells bX2).2.1, (in5_cells bX2).2.2.1, (in5_cells bX2).2.2.2.1, (in5_cells bX2).2.2.2.2, h2.row.cell 1⟩ | exact ⟨(in5_cells bX3).1, (in5_cells bX3).2.1, (in5_cells bX3).2.2.1, (in5_cells bX3).2.2.2.1, (in5_cells bX3).2.2.2.2, h3.row.cell 1⟩)
      (first | (go_at_call 120; refine (takes_any x.a (by first | exact h0 | exact h0.drew)).mono ?_; rintro e w1 ⟨rfl, hl1⟩; have bX1 := hl1.row (by first | exact bX | exact bX.drew) hL hK hO; have u1 := u0.drew.trans hl1.2; have h1 := hl1.1) | (go_at_call 122; refine (one_any p.outs vo x.k h1 h1.pg.outs).mono ?_; rintro e w2 ⟨rfl, hl2⟩; have bX2 := hl2.row bX1 hL hK hO; have u2 := u1.trans hl2.2; have h2 := hl2.1) | (go_at_call 119; refine (need_any _ h2).mono ?_; rintro e w3 ⟨rfl, hl3⟩; have bX3 := hl3.row bX2 hL hK hO; have u3 := u2.trans hl3.2; have h3 := hl3.1))
    all_goals
      go_wp2_with fail
      go_meet
      exact ⟨_, rfl, h3, bX3, u3⟩
  case rest =>
    obtain ⟨s2, HS2, h2, bX2, u2⟩ := hcut
    rw [← HS2.out] at HR HB HO2
    clear l0 l1 l2 l3 l4 l5 l6 l7 l8 x0 x1 x2 x3 x4 bX u0 h0 HS2
    obtain ⟨x0, x1, x2, x3, x4⟩ := in5_cells bX2
    have l0 := h2.row.cell 0
    have l1 := h2.row.cell 1
    have l2 := h2.row.cell 2
    have l3 := h2.row.cell 3
    have l4 := h2.row.cell 4
    have l5 := h2.row.cell 5
    have l6 := h2.row.cell 6
    have l7 := h2.row.cell 7
    have l8 := h2.row.cell 8
    simp only [List.getElem?_toArray, List.getElem?_cons_zero, List.getElem?_cons_succ] at l0 l1 l2 l3 l4 l5 l6 l7 l8
    go_wp2_with fail
    refine (need_any _ h2).mono ?_
    rintro e w3 ⟨rfl, hl3⟩
    have bX3 := hl3.row bX2 hL hK hO
    have u3 := u2.trans hl3.2
    have h3 := hl3.1
    clear hl3 l0 l1 l2 l3 l4 l5 l6 l7 l8 x0 x1 x2 x3 x4 bX2 u2 h2
    obtain ⟨x0, x1, x2, x3, x4⟩ := in5_cells bX3
    have HR3 := Lib.hid (show s.instr p i x = (if (s2.need (decide (s2.past ≤ i))).bad = true then (s2.need (decide (s2.past ≤ i))) else { (s2.need (decide (s2.past ≤ i))).need (!((s2.need (decide (s2.past ≤ i))).outs.getD x.k.toNat false)) with outs := (s2.need (decide (s2.past ≤ i))).outs.set x.k.toNat true }) from HR.out)
    have HB3 : Hid ((s2.need (decide (s2.past ≤ i))).bad = false → has p.outs x.k) := fun hb => HB.out (by simp only [LS.need, Bool.or_eq_false_iff] at hb; exact hb.1)
    have HO3 : Hid ((s2.need (decide (s2.past ≤ i))).outs = s.outs) := HO2.out
    clear HR HB HO2
    generalize s2.need (decide (s2.past ≤ i)) = s3 at *
    have l0 := h3.row.cell 0
    have l1 := h3.row.cell 1
    have l2 := h3.row.cell 2
    have l3 := h3.row.cell 3
    have l4 := h3.row.cell 4
    have l5 := h3.row.cell 5
    have l6 := h3.row.cell 6
    have l7 := h3.row.cell 7
    have l8 := h3.row.cell 8
    simp only [List.getElem?_toArray, List.getElem?_cons_zero, List.getElem?_cons_succ] at l0 l1 l2 l3 l4 l5 l6 l7 l8
    cases hbd : s3.bad
    · have hh := HB3.out hbd
      have hk0 : 0 ≤ x.k := hh.1
      have hk1 : x.k < (s3.outs.length : Int) := by rw [HO3.out, HOL.out]; exact hh.2
      have hkn : x.k.toNat < s3.outs.length := by omega
      have hol8 := h3.olen
      have hc := out_cell h3.outs hkn
      have HR4 := Lib.hid (show s.instr p i x = { s3.need (!(s3.outs.getD x.k.toNat false)) with outs := s3.outs.set x.k.toNat true } by rw [HR3.out, if_neg (by simp [hbd])])
      generalize hG : s3.outs.getD x.k.toNat false = G at *
      have HG := Lib.hid hG
      clear HR3 HB3 hh hG
      rw [hbd] at l8
      go_upto_region 27 with (fail)
      go_cut [] (fun W4 => Lk W4 B L K O p vi vo vc vd (s3.need (!G)) ∧ Row W4 gx #[.int .i64 x.op, .int .i64 x.a, .int .i64 x.b, .int .i64 x.c, .int .i64 x.k] 30 ∧ Upd (lkX L K O) w W4)
      case first =>
        go_region_held3 (fun w' => w'.cell? ⟨gx, 0, none⟩ = some (.int .i64 x.op) ∧ w'.cell? ⟨gx, 1, none⟩ = some (.int .i64 x.a) ∧ w'.cell? ⟨gx, 2, none⟩ = some (.int .i64 x.b) ∧ w'.cell? ⟨gx, 3, none⟩ = some (.int .i64 x.c) ∧ w'.cell? ⟨gx, 4, none⟩ = some (.int .i64 x.k) ∧ w'.cell? ⟨L, 6, none⟩ = some (.slice (some ⟨O, 0, none⟩) s3.outs.length s3.outs.length) ∧ w'.cell? ⟨O, x.k.toNat, none⟩ = some (.bool G))
          (first | exact ⟨(in5_cells bX4).1, (in5_cells bX4).2.1, (in5_cells bX4).2.2.1, (in5_cells bX4).2.2.2.1, (in5_cells bX4).2.2.2.2, h4.row.cell 6, hc4⟩ | go_keep)
          (first | (go_at_call 119; refine (need_any _ (by first | exact h3 | exact h3.drew)).mono ?_; rintro e w4 ⟨rfl, hl4⟩; have bX4 := hl4.row (by first | exact bX3 | exact bX3.drew) hL hK hO; have u4 := u3.drew.trans hl4.2; have h4 := hl4.1; have hc4 : w4.cell? ⟨O, x.k.toNat, none⟩ = some (.bool G) := by have hx := out_cell h4.outs (n := x.k.toNat) hkn; rw [show (s3.need (!G)).outs.getD x.k.toNat false = G from HG.out] at hx; exact hx))
        all_goals
          go_wp2_with fail
          go_meet
          exact ⟨h4, bX4, u4⟩
      case rest =>
        obtain ⟨h4, bX4, u4⟩ := hcut
        have hf4 := h4.outs.frozen x.k.toNat
        have hc4 := out_cell h4.outs (n := x.k.toNat) hkn
        have l46 := h4.row.cell 6
        simp only [List.getElem?_toArray, List.getElem?_cons_zero, List.getElem?_cons_succ] at l46
        have HS : Hid (Lk (wc.setCell ⟨O, x.k.toNat, none⟩ (.bool true)) B L K O p vi vo vc vd { s3.need (!G) with outs := s3.outs.set x.k.toNat true }) := h4.setOut x.k.toNat true
        have HU : Hid (Upd (lkX L K O) w (wc.setCell ⟨O, x.k.toNat, none⟩ (.bool true))) := u4.setCell (.inr (.inr rfl)) _
        have e6 : (s3.need (!G)).outs.length = s3.outs.length := rfl
        rw [e6] at l46
        clear e6 l0 l1 l2 l3 l4 l5 l6 l7 l8 x0 x1 x2 x3 x4 h3 bX3 u3 hc h4 u4
        obtain ⟨x0, x1, x2, x3, x4⟩ := in5_cells bX4
        generalize (s3.need (!G)).outs.getD x.k.toNat false = G4 at *
        go_wp2_with fail
        go_region
        go_wp2_with fail
        go_end0
        exact ⟨rfl, by rw [HR4.out]; exact HS.out.drew, HU.out.drew⟩
    · have HR4 := Lib.hid (show s.instr p i x = s3 by rw [HR3.out, if_pos hbd])
      clear HR3 HB3
      rw [hbd] at l8
      go_wp2_with fail
      go_end0
      exact ⟨rfl, by rw [HR4.out]; exact h3, u3⟩
end Go.Proofs.Ytbjaejgechadpaa
