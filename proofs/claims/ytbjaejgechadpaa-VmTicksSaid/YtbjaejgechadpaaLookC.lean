/-
  The looker looks at an instruction, op by op (those of one way).
-/
import Derived.Test.YtbjaejgechadpaaLookB
import Derived.Test.YtbjaejgechadpaaArithOps
import Derived.Deep.RegionHeld3
namespace Go.Proofs.Ytbjaejgechadpaa
open Go.RowKit Vf
set_option maxRecDepth 100000 in
set_option maxHeartbeats 4000000 in
theorem instr_1 {w : World} {B L K O : Nat} {p : Pg} {vi vo vc vd : Value} {s : LS} (i : Int) (x : In5) (h : Lk w B L K O p vi vo vc vd s) (hop : x.op = 1) :
    Calls Try.prog 90 #[.pointer (some ⟨L, 0, none⟩), .int .i64 i, in5V x] w fun e w' => e = .returned (.tuple #[]) ∧ Left w B L K O p vi vo vc vd (s.instr p i x) w' := by
  have hL : w.heap.size ≠ L := by have := h.row.lt; omega
  have hK : w.heap.size ≠ K := by have := h.kinds.lt; omega
  have hO : w.heap.size ≠ O := by have := h.outs.lt; omega
  have bX := Row.new w #[.int .i64 x.op, .int .i64 x.a, .int .i64 x.b, .int .i64 x.c, .int .i64 x.k] 30
  have h0 := h.alloc (.cells #[.int .i64 x.op, .int .i64 x.a, .int .i64 x.b, .int .i64 x.c, .int .i64 x.k] 30)
  have u0 : Upd (lkX L K O) w (w.alloc (.cells #[.int .i64 x.op, .int .i64 x.a, .int .i64 x.b, .int .i64 x.c, .int .i64 x.k] 30)) := (Upd.refl _ _).alloc _
  have hX : w.heap.size < (w.alloc (.cells #[.int .i64 x.op, .int .i64 x.a, .int .i64 x.b, .int .i64 x.c, .int .i64 x.k] 30)).heap.size := by simp
  have sg : Ar.signB x.op = false := by simp [Ar.signB]; omega
  have o1 : (x.op == 1) = true := by rw [beq_iff_eq]; omega
  have HR := Lib.hid (show s.instr p i x = s.gives x.a 1 by unfold LS.instr; rw [if_neg (by omega : ¬ (5 ≤ x.op ∧ x.op ≤ 20)), if_pos hop])
  clear h hop
  go_enter Try.func90, Try.ntmps90
  go_wp2_with fail
  refine (Ar.sign_any x.op _).mono ?_
  rintro e w' ⟨rfl, rfl⟩
  rw [sg]
  generalize Ar.signIn x.op = si at *
  generalize Ar.signOut x.op = so at *
  clear sg
  go_wp2_with fail
  refine (gives_any x.a 1 h0).mono ?_
  rintro e w1 ⟨rfl, hl1⟩
  go_wp2_with fail
  go_end0
  exact ⟨rfl, by rw [HR.out]; exact hl1.1, u0.trans hl1.2⟩
set_option maxRecDepth 100000 in
set_option maxHeartbeats 4000000 in
theorem instr_2 {w : World} {B L K O : Nat} {p : Pg} {vi vo vc vd : Value} {s : LS} (i : Int) (x : In5) (h : Lk w B L K O p vi vo vc vd s) (hop : x.op = 2) :
    Calls Try.prog 90 #[.pointer (some ⟨L, 0, none⟩), .int .i64 i, in5V x] w fun e w' => e = .returned (.tuple #[]) ∧ Left w B L K O p vi vo vc vd (s.instr p i x) w' := by
  have hL : w.heap.size ≠ L := by have := h.row.lt; omega
  have hK : w.heap.size ≠ K := by have := h.kinds.lt; omega
  have hO : w.heap.size ≠ O := by have := h.outs.lt; omega
  have bX := Row.new w #[.int .i64 x.op, .int .i64 x.a, .int .i64 x.b, .int .i64 x.c, .int .i64 x.k] 30
  have h0 := h.alloc (.cells #[.int .i64 x.op, .int .i64 x.a, .int .i64 x.b, .int .i64 x.c, .int .i64 x.k] 30)
  have u0 : Upd (lkX L K O) w (w.alloc (.cells #[.int .i64 x.op, .int .i64 x.a, .int .i64 x.b, .int .i64 x.c, .int .i64 x.k] 30)) := (Upd.refl _ _).alloc _
  have hX : w.heap.size < (w.alloc (.cells #[.int .i64 x.op, .int .i64 x.a, .int .i64 x.b, .int .i64 x.c, .int .i64 x.k] 30)).heap.size := by simp
  have sg : Ar.signB x.op = false := by simp [Ar.signB]; omega
  have o1 : (x.op == 1) = false := by rw [beq_eq_false_iff_ne]; omega
  have o2 : (x.op == 2) = true := by rw [beq_iff_eq]; omega
  have HR := Lib.hid (show s.instr p i x = (s.need (x.k == 0 || x.k == 1)).gives x.a 2 by unfold LS.instr; rw [if_neg (by omega : ¬ (5 ≤ x.op ∧ x.op ≤ 20)), if_neg (by omega : ¬ x.op = 1), if_pos hop])
  clear h hop
  go_enter Try.func90, Try.ntmps90
  go_wp2_with fail
  refine (Ar.sign_any x.op _).mono ?_
  rintro e w' ⟨rfl, rfl⟩
  rw [sg]
  generalize Ar.signIn x.op = si at *
  generalize Ar.signOut x.op = so at *
  clear sg
  have HP : Hid (∀ b : Bool, Calls Try.prog 119 #[.pointer (some ⟨L, 0, none⟩), .bool b] (w.alloc (.cells #[.int .i64 x.op, .int .i64 x.a, .int .i64 x.b, .int .i64 x.c, .int .i64 x.k] 30)) fun e w' => e = .returned (.tuple #[]) ∧ Left (w.alloc (.cells #[.int .i64 x.op, .int .i64 x.a, .int .i64 x.b, .int .i64 x.c, .int .i64 x.k] 30)) B L K O p vi vo vc vd (s.need b) w') := fun b => need_any b h0
  cases hk : (x.k == 0)
  all_goals
    go_wp2_with fail
    refine (HP.out _).mono ?_
    rintro e w1 ⟨rfl, hl1⟩
    have bX1 := hl1.row bX hL hK hO
    have u1 := u0.trans hl1.2
    have h1 := hl1.1
    rw [hk] at HR
    simp only [Bool.false_or, Bool.true_or] at HR h1
    clear hl1
    obtain ⟨x0, x1, x2, x3, x4⟩ := in5_cells bX1
    go_wp2_with fail
    refine (gives_any x.a 2 h1).mono ?_
    rintro e w2 ⟨rfl, hl2⟩
    go_wp2_with fail
    go_end0
    exact ⟨rfl, by rw [HR.out]; exact hl2.1, u1.trans hl2.2⟩
set_option maxRecDepth 100000 in
set_option maxHeartbeats 4000000 in
theorem instr_27 {w : World} {B L K O : Nat} {p : Pg} {vi vo vc vd : Value} {s : LS} (i : Int) (x : In5) (h : Lk w B L K O p vi vo vc vd s) (hop : x.op = 27) :
    Calls Try.prog 90 #[.pointer (some ⟨L, 0, none⟩), .int .i64 i, in5V x] w fun e w' => e = .returned (.tuple #[]) ∧ Left w B L K O p vi vo vc vd (s.instr p i x) w' := by
  have hL : w.heap.size ≠ L := by have := h.row.lt; omega
  have hK : w.heap.size ≠ K := by have := h.kinds.lt; omega
  have hO : w.heap.size ≠ O := by have := h.outs.lt; omega
  have bX := Row.new w #[.int .i64 x.op, .int .i64 x.a, .int .i64 x.b, .int .i64 x.c, .int .i64 x.k] 30
  have h0 := h.alloc (.cells #[.int .i64 x.op, .int .i64 x.a, .int .i64 x.b, .int .i64 x.c, .int .i64 x.k] 30)
  have u0 : Upd (lkX L K O) w (w.alloc (.cells #[.int .i64 x.op, .int .i64 x.a, .int .i64 x.b, .int .i64 x.c, .int .i64 x.k] 30)) := (Upd.refl _ _).alloc _
  have hX : w.heap.size < (w.alloc (.cells #[.int .i64 x.op, .int .i64 x.a, .int .i64 x.b, .int .i64 x.c, .int .i64 x.k] 30)).heap.size := by simp
  have sg : Ar.signB x.op = false := by simp [Ar.signB]; omega
  have o1 : (x.op == 1) = false := by rw [beq_eq_false_iff_ne]; omega
  have o2 : (x.op == 2) = false := by rw [beq_eq_false_iff_ne]; omega
  have o3 : (x.op == 3) = false := by rw [beq_eq_false_iff_ne]; omega
  have o27 : (x.op == 27) = true := by rw [beq_iff_eq]; omega
  have HR := Lib.hid (show s.instr p i x = (((((s.takes x.b).2.need ((s.takes x.b).1 == 2)).takes x.c).2.takes x.k).2.need (((((s.takes x.b).2.need ((s.takes x.b).1 == 2)).takes x.c).2.takes x.k).1 == (((s.takes x.b).2.need ((s.takes x.b).1 == 2)).takes x.c).1)).gives x.a (((s.takes x.b).2.need ((s.takes x.b).1 == 2)).takes x.c).1 by unfold LS.instr; rw [if_neg (by omega : ¬ (5 ≤ x.op ∧ x.op ≤ 20)), if_neg (by omega : ¬ x.op = 1), if_neg (by omega : ¬ x.op = 2), if_neg (by omega : ¬ x.op = 3), if_pos hop])
  clear h hop
  go_enter Try.func90, Try.ntmps90
  go_wp2_with fail
  refine (Ar.sign_any x.op _).mono ?_
  rintro e w' ⟨rfl, rfl⟩
  rw [sg]
  generalize Ar.signIn x.op = si at *
  generalize Ar.signOut x.op = so at *
  clear sg
  go_wp2_with fail
  refine (takes_any x.b h0).mono ?_
  rintro e w1 ⟨rfl, hl1⟩
  have bX1 := hl1.row bX hL hK hO
  have u1 := u0.trans hl1.2
  have h1 := hl1.1
  clear hl1 h0 u0
  obtain ⟨x0, x1, x2, x3, x4⟩ := in5_cells bX1
  generalize (s.takes x.b).2 = s1 at *
  generalize (s.takes x.b).1 = k1 at *
  go_wp2_with fail
  refine (need_any _ h1).mono ?_
  rintro e w2 ⟨rfl, hl2⟩
  have bX2 := hl2.row bX1 hL hK hO
  have u2 := u1.trans hl2.2
  have h2 := hl2.1
  clear hl2 h1 u1
  clear x0 x1 x2 x3 x4
  obtain ⟨x0, x1, x2, x3, x4⟩ := in5_cells bX2
  generalize s1.need (k1 == 2) = s2 at *
  go_wp2_with fail
  refine (takes_any x.c h2).mono ?_
  rintro e w3 ⟨rfl, hl3⟩
  have bX3 := hl3.row bX2 hL hK hO
  have u3 := u2.trans hl3.2
  have h3 := hl3.1
  clear hl3 h2 u2
  clear x0 x1 x2 x3 x4
  obtain ⟨x0, x1, x2, x3, x4⟩ := in5_cells bX3
  generalize (s2.takes x.c).2 = s3 at *
  generalize (s2.takes x.c).1 = k3 at *
  go_wp2_with fail
  refine (takes_any x.k h3).mono ?_
  rintro e w4 ⟨rfl, hl4⟩
  have bX4 := hl4.row bX3 hL hK hO
  have u4 := u3.trans hl4.2
  have h4 := hl4.1
  clear hl4 h3 u3
  clear x0 x1 x2 x3 x4
  obtain ⟨x0, x1, x2, x3, x4⟩ := in5_cells bX4
  generalize (s3.takes x.k).2 = s4 at *
  generalize (s3.takes x.k).1 = k4 at *
  go_wp2_with fail
  refine (need_any _ h4).mono ?_
  rintro e w5 ⟨rfl, hl5⟩
  have bX5 := hl5.row bX4 hL hK hO
  have u5 := u4.trans hl5.2
  have h5 := hl5.1
  clear hl5 h4 u4
  clear x0 x1 x2 x3 x4
  obtain ⟨x0, x1, x2, x3, x4⟩ := in5_cells bX5
  generalize s4.need (k4 == k3) = s5 at *
  go_wp2_with fail
  refine (gives_any x.a k3 h5).mono ?_
  rintro e w6 ⟨rfl, hl6⟩
  go_wp2_with fail
  go_end0
  exact ⟨rfl, by rw [HR.out]; exact hl6.1, u5.trans hl6.2⟩
end Go.Proofs.Ytbjaejgechadpaa
