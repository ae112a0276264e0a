/-
  The looker looks at an instruction, op by op (more that draw their order).
-/
import Derived.Test.YtbjaejgechadpaaLookB
import Derived.Test.YtbjaejgechadpaaArithOps
import Derived.Deep.RegionHeld3
namespace Go.Proofs.Ytbjaejgechadpaa
open Go.RowKit Vf
set_option maxRecDepth 100000 in
set_option maxHeartbeats 4000000 in
theorem instr_21 {w : World} {B L K O : Nat} {p : Pg} {vi vo vc vd : Value} {s : LS} (i : Int) (x : In5) (h : Lk w B L K O p vi vo vc vd s) (hop : x.op = 21) :
    Calls Try.prog 90 #[.pointer (some ⟨L, 0, none⟩), .int .i64 i, in5V x] w fun e w' => e = .returned (.tuple #[]) ∧ Left w B L K O p vi vo vc vd (s.instr p i x) w' := by
  have hL : w.heap.size ≠ L := by have := h.row.lt; omega
  have hK : w.heap.size ≠ K := by have := h.kinds.lt; omega
  have hO : w.heap.size ≠ O := by have := h.outs.lt; omega
  have bX := Row.new w #[.int .i64 x.op, .int .i64 x.a, .int .i64 x.b, .int .i64 x.c, .int .i64 x.k] 30
  have h0 := h.alloc (.cells #[.int .i64 x.op, .int .i64 x.a, .int .i64 x.b, .int .i64 x.c, .int .i64 x.k] 30)
  have u0 : Upd (lkX L K O) w (w.alloc (.cells #[.int .i64 x.op, .int .i64 x.a, .int .i64 x.b, .int .i64 x.c, .int .i64 x.k] 30)) := (Upd.refl _ _).alloc _
  have sg : Ar.signB x.op = false := by simp [Ar.signB]; omega
  have o1 : (x.op == 1) = false := by rw [beq_eq_false_iff_ne]; omega
  have o2 : (x.op == 2) = false := by rw [beq_eq_false_iff_ne]; omega
  have o3 : (x.op == 3) = false := by rw [beq_eq_false_iff_ne]; omega
  have o27 : (x.op == 27) = false := by rw [beq_eq_false_iff_ne]; omega
  have o21 : (x.op == 21) = true := by rw [beq_iff_eq]; omega
  have HR := Lib.hid (show s.instr p i x = (s.one (types p.cells) x.k).2.gives x.a (s.one (types p.cells) x.k).1 by unfold LS.instr; rw [if_neg (by omega : ¬ (5 ≤ x.op ∧ x.op ≤ 20)), if_neg (by omega : ¬ x.op = 1), if_neg (by omega : ¬ x.op = 2), if_neg (by omega : ¬ x.op = 3), if_neg (by omega : ¬ x.op = 27), if_pos hop])
  clear h hop
  go_enter Try.func90, Try.ntmps90
  go_wp2_with fail
  refine (Ar.sign_any x.op _).mono ?_
  rintro e w' ⟨rfl, rfl⟩
  rw [sg]
  generalize Ar.signIn x.op = si at *
  generalize Ar.signOut x.op = so at *
  clear sg
  generalize w.alloc (.cells #[.int .i64 x.op, .int .i64 x.a, .int .i64 x.b, .int .i64 x.c, .int .i64 x.k] 30) = W at *
  generalize w.heap.size = gx at *
  obtain ⟨x0, x1, x2, x3, x4⟩ := in5_cells bX
  go_wp2_with fail
  go_region_held3 (fun w' => w'.cell? ⟨gx, 0, none⟩ = some (.int .i64 x.op) ∧ w'.cell? ⟨gx, 1, none⟩ = some (.int .i64 x.a) ∧ w'.cell? ⟨gx, 2, none⟩ = some (.int .i64 x.b) ∧ w'.cell? ⟨gx, 3, none⟩ = some (.int .i64 x.c) ∧ w'.cell? ⟨gx, 4, none⟩ = some (.int .i64 x.k))
    (first | go_keep | exact in5_cells bX1 | exact in5_cells bX2)
    (first | (go_at_call 121; refine (cell_any x.k (by first | exact h0 | exact h0.drew)).mono ?_; rintro e w1 ⟨rfl, hl1⟩; have bX1 := hl1.row (by first | exact bX | exact bX.drew) hL hK hO; have u1 := u0.drew.trans hl1.2; have h1 := hl1.1) | (go_at_call 118; refine (gives_any x.a _ h1).mono ?_; rintro e w2 ⟨rfl, hl2⟩; have bX2 := hl2.row bX1 hL hK hO; have u2 := u1.trans hl2.2; have h2 := hl2.1))
  all_goals
    go_wp2_with fail
    go_end0
    exact ⟨rfl, by rw [HR.out]; exact h2, u2⟩
set_option maxRecDepth 100000 in
set_option maxHeartbeats 4000000 in
theorem instr_28 {w : World} {B L K O : Nat} {p : Pg} {vi vo vc vd : Value} {s : LS} (i : Int) (x : In5) (h : Lk w B L K O p vi vo vc vd s) (hop : x.op = 28) :
    Calls Try.prog 90 #[.pointer (some ⟨L, 0, none⟩), .int .i64 i, in5V x] w fun e w' => e = .returned (.tuple #[]) ∧ Left w B L K O p vi vo vc vd (s.instr p i x) w' := by
  have hL : w.heap.size ≠ L := by have := h.row.lt; omega
  have hK : w.heap.size ≠ K := by have := h.kinds.lt; omega
  have hO : w.heap.size ≠ O := by have := h.outs.lt; omega
  have bX := Row.new w #[.int .i64 x.op, .int .i64 x.a, .int .i64 x.b, .int .i64 x.c, .int .i64 x.k] 30
  have h0 := h.alloc (.cells #[.int .i64 x.op, .int .i64 x.a, .int .i64 x.b, .int .i64 x.c, .int .i64 x.k] 30)
  have u0 : Upd (lkX L K O) w (w.alloc (.cells #[.int .i64 x.op, .int .i64 x.a, .int .i64 x.b, .int .i64 x.c, .int .i64 x.k] 30)) := (Upd.refl _ _).alloc _
  have sg : Ar.signB x.op = false := by simp [Ar.signB]; omega
  have o1 : (x.op == 1) = false := by rw [beq_eq_false_iff_ne]; omega
  have o2 : (x.op == 2) = false := by rw [beq_eq_false_iff_ne]; omega
  have o3 : (x.op == 3) = false := by rw [beq_eq_false_iff_ne]; omega
  have o27 : (x.op == 27) = false := by rw [beq_eq_false_iff_ne]; omega
  have o21 : (x.op == 21) = false := by rw [beq_eq_false_iff_ne]; omega
  have o28 : (x.op == 28) = true := by rw [beq_iff_eq]; omega
  have HR := Lib.hid (show s.instr p i x = (s.one p.ins x.k).2.gives x.a (s.one p.ins x.k).1 by unfold LS.instr; rw [if_neg (by omega : ¬ (5 ≤ x.op ∧ x.op ≤ 20)), if_neg (by omega : ¬ x.op = 1), if_neg (by omega : ¬ x.op = 2), if_neg (by omega : ¬ x.op = 3), if_neg (by omega : ¬ x.op = 27), if_neg (by omega : ¬ x.op = 21), if_pos hop])
  clear h hop
  go_enter Try.func90, Try.ntmps90
  go_wp2_with fail
  refine (Ar.sign_any x.op _).mono ?_
  rintro e w' ⟨rfl, rfl⟩
  rw [sg]
  generalize Ar.signIn x.op = si at *
  generalize Ar.signOut x.op = so at *
  clear sg
  generalize w.alloc (.cells #[.int .i64 x.op, .int .i64 x.a, .int .i64 x.b, .int .i64 x.c, .int .i64 x.k] 30) = W at *
  generalize w.heap.size = gx at *
  obtain ⟨x0, x1, x2, x3, x4⟩ := in5_cells bX
  have l0 := h0.row.cell 0
  simp only [List.getElem?_toArray, List.getElem?_cons_zero] at l0
  go_wp2_with fail
  go_region_held3 (fun w' => w'.cell? ⟨gx, 0, none⟩ = some (.int .i64 x.op) ∧ w'.cell? ⟨gx, 1, none⟩ = some (.int .i64 x.a) ∧ w'.cell? ⟨gx, 2, none⟩ = some (.int .i64 x.b) ∧ w'.cell? ⟨gx, 3, none⟩ = some (.int .i64 x.c) ∧ w'.cell? ⟨gx, 4, none⟩ = some (.int .i64 x.k) ∧ w'.cell? ⟨L, 0, none⟩ = some vi)
    (first | go_keep | exact ⟨(in5_cells bX1).1, (in5_cells bX1).2.1, (in5_cells bX1).2.2.1, (in5_cells bX1).2.2.2.1, (in5_cells bX1).2.2.2.2, h1.row.cell 0⟩ | exact ⟨(in5_cells bX2).1, (in5_cells bX2).2.1, (in5_cells bX2).2.2.1, (in5_cells bX2).2.2.2.1, (in5_cells bX2).2.2.2.2, h2.row.cell 0⟩)
    (first | (go_at_call 122; refine (one_any p.ins vi x.k (by first | exact h0 | exact h0.drew) (by first | exact h0.pg.ins | exact h0.drew.pg.ins)).mono ?_; rintro e w1 ⟨rfl, hl1⟩; have bX1 := hl1.row (by first | exact bX | exact bX.drew) hL hK hO; have u1 := u0.drew.trans hl1.2; have h1 := hl1.1) | (go_at_call 118; refine (gives_any x.a _ h1).mono ?_; rintro e w2 ⟨rfl, hl2⟩; have bX2 := hl2.row bX1 hL hK hO; have u2 := u1.trans hl2.2; have h2 := hl2.1))
  all_goals
    go_wp2_with fail
    go_end0
    exact ⟨rfl, by rw [HR.out]; exact h2, u2⟩
set_option maxRecDepth 100000 in
set_option maxHeartbeats 4000000 in
theorem instr_32 {w : World} {B L K O : Nat} {p : Pg} {vi vo vc vd : Value} {s : LS} (i : Int) (x : In5) (h : Lk w B L K O p vi vo vc vd s) (hop : x.op = 32) :
    Calls Try.prog 90 #[.pointer (some ⟨L, 0, none⟩), .int .i64 i, in5V x] w fun e w' => e = .returned (.tuple #[]) ∧ Left w B L K O p vi vo vc vd (s.instr p i x) w' := by
  have hL : w.heap.size ≠ L := by have := h.row.lt; omega
  have hK : w.heap.size ≠ K := by have := h.kinds.lt; omega
  have hO : w.heap.size ≠ O := by have := h.outs.lt; omega
  have bX := Row.new w #[.int .i64 x.op, .int .i64 x.a, .int .i64 x.b, .int .i64 x.c, .int .i64 x.k] 30
  have h0 := h.alloc (.cells #[.int .i64 x.op, .int .i64 x.a, .int .i64 x.b, .int .i64 x.c, .int .i64 x.k] 30)
  have u0 : Upd (lkX L K O) w (w.alloc (.cells #[.int .i64 x.op, .int .i64 x.a, .int .i64 x.b, .int .i64 x.c, .int .i64 x.k] 30)) := (Upd.refl _ _).alloc _
  have sg : Ar.signB x.op = false := by simp [Ar.signB]; omega
  have o1 : (x.op == 1) = false := by rw [beq_eq_false_iff_ne]; omega
  have o2 : (x.op == 2) = false := by rw [beq_eq_false_iff_ne]; omega
  have o3 : (x.op == 3) = false := by rw [beq_eq_false_iff_ne]; omega
  have o27 : (x.op == 27) = false := by rw [beq_eq_false_iff_ne]; omega
  have o21 : (x.op == 21) = false := by rw [beq_eq_false_iff_ne]; omega
  have o28 : (x.op == 28) = false := by rw [beq_eq_false_iff_ne]; omega
  have o29 : (x.op == 29) = false := by rw [beq_eq_false_iff_ne]; omega
  have o32 : (x.op == 32) = true := by rw [beq_iff_eq]; omega
  have HR := Lib.hid (show s.instr p i x = ((s.takes x.a).2.one (types p.cells) x.k).2.need ((s.takes x.a).1 == ((s.takes x.a).2.one (types p.cells) x.k).1) by unfold LS.instr; rw [if_neg (by omega : ¬ (5 ≤ x.op ∧ x.op ≤ 20)), if_neg (by omega : ¬ x.op = 1), if_neg (by omega : ¬ x.op = 2), if_neg (by omega : ¬ x.op = 3), if_neg (by omega : ¬ x.op = 27), if_neg (by omega : ¬ x.op = 21), if_neg (by omega : ¬ x.op = 28), if_neg (by omega : ¬ x.op = 29), if_pos hop])
  clear h hop
  go_enter Try.func90, Try.ntmps90
  go_wp2_with fail
  refine (Ar.sign_any x.op _).mono ?_
  rintro e w' ⟨rfl, rfl⟩
  rw [sg]
  generalize Ar.signIn x.op = si at *
  generalize Ar.signOut x.op = so at *
  clear sg
  generalize w.alloc (.cells #[.int .i64 x.op, .int .i64 x.a, .int .i64 x.b, .int .i64 x.c, .int .i64 x.k] 30) = W at *
  generalize w.heap.size = gx at *
  obtain ⟨x0, x1, x2, x3, x4⟩ := in5_cells bX
  go_wp2_with fail
  go_region_held3 (fun w' => w'.cell? ⟨gx, 0, none⟩ = some (.int .i64 x.op) ∧ w'.cell? ⟨gx, 1, none⟩ = some (.int .i64 x.a) ∧ w'.cell? ⟨gx, 2, none⟩ = some (.int .i64 x.b) ∧ w'.cell? ⟨gx, 3, none⟩ = some (.int .i64 x.c) ∧ w'.cell? ⟨gx, 4, none⟩ = some (.int .i64 x.k))
    (first | go_keep | exact in5_cells bX1 | exact in5_cells bX2 | exact in5_cells bX3)
    (first | (go_at_call 120; refine (takes_any x.a (by first | exact h0 | exact h0.drew)).mono ?_; rintro e w1 ⟨rfl, hl1⟩; have bX1 := hl1.row (by first | exact bX | exact bX.drew) hL hK hO; have u1 := u0.drew.trans hl1.2; have h1 := hl1.1) | (go_at_call 121; refine (cell_any x.k h1).mono ?_; rintro e w2 ⟨rfl, hl2⟩; have bX2 := hl2.row bX1 hL hK hO; have u2 := u1.trans hl2.2; have h2 := hl2.1) | (go_at_call 119; refine (need_any _ h2).mono ?_; rintro e w3 ⟨rfl, hl3⟩; have bX3 := hl3.row bX2 hL hK hO; have u3 := u2.trans hl3.2; have h3 := hl3.1))
  all_goals
    go_wp2_with fail
    go_end0
    exact ⟨rfl, by rw [HR.out]; exact h3, u3⟩
end Go.Proofs.Ytbjaejgechadpaa
