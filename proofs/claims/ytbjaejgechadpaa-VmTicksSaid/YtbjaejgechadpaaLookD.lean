/-
  The looker looks at an instruction, op by op (those that draw their order).
-/
import Derived.Test.YtbjaejgechadpaaLookB
import Derived.Test.YtbjaejgechadpaaArithOps
import Derived.Deep.RegionHeld3
namespace Go.Proofs.Ytbjaejgechadpaa
open Go.RowKit Vf
set_option maxRecDepth 100000 in
set_option maxHeartbeats 4000000 in
theorem instr_3 {w : World} {B L K O : Nat} {p : Pg} {vi vo vc vd : Value} {s : LS} (i : Int) (x : In5) (h : Lk w B L K O p vi vo vc vd s) (hop : x.op = 3) :
    Calls Try.prog 90 #[.pointer (some ⟨L, 0, none⟩), .int .i64 i, in5V x] w fun e w' => e = .returned (.tuple #[]) ∧ Left w B L K O p vi vo vc vd (s.instr p i x) w' := by
  have hL : w.heap.size ≠ L := by have := h.row.lt; omega
  have hK : w.heap.size ≠ K := by have := h.kinds.lt; omega
  have hO : w.heap.size ≠ O := by have := h.outs.lt; omega
  have bX := Row.new w #[.int .i64 x.op, .int .i64 x.a, .int .i64 x.b, .int .i64 x.c, .int .i64 x.k] 30
  have h0 := h.alloc (.cells #[.int .i64 x.op, .int .i64 x.a, .int .i64 x.b, .int .i64 x.c, .int .i64 x.k] 30)
  have u0 : Upd (lkX L K O) w (w.alloc (.cells #[.int .i64 x.op, .int .i64 x.a, .int .i64 x.b, .int .i64 x.c, .int .i64 x.k] 30)) := (Upd.refl _ _).alloc _
  have hX : w.heap.size < (w.alloc (.cells #[.int .i64 x.op, .int .i64 x.a, .int .i64 x.b, .int .i64 x.c, .int .i64 x.k] 30)).heap.size := by simp
  have sg : Ar.signB x.op = false := by simp [Ar.signB]; omega
  have o1 : (x.op == 1) = false := by rw [beq_eq_false_iff_ne]; omega
  have o2 : (x.op == 2) = false := by rw [beq_eq_false_iff_ne]; omega
  have o3 : (x.op == 3) = true := by rw [beq_iff_eq]; omega
  have HR := Lib.hid (show s.instr p i x = (s.takes x.b).2.gives x.a (s.takes x.b).1 by unfold LS.instr; rw [if_neg (by omega : ¬ (5 ≤ x.op ∧ x.op ≤ 20)), if_neg (by omega : ¬ x.op = 1), if_neg (by omega : ¬ x.op = 2), if_pos hop])
  clear h hop
  go_enter Try.func90, Try.ntmps90
  go_wp2_with fail
  refine (Ar.sign_any x.op _).mono ?_
  rintro e w' ⟨rfl, rfl⟩
  rw [sg]
  generalize Ar.signIn x.op = si at *
  generalize Ar.signOut x.op = so at *
  clear sg
  generalize w.alloc (.cells #[.int .i64 x.op, .int .i64 x.a, .int .i64 x.b, .int .i64 x.c, .int .i64 x.k] 30) = W at *
  obtain ⟨x0, x1, x2, x3, x4⟩ := in5_cells bX
  go_wp2_with fail
  go_region_held3 (fun w' => w'.cell? ⟨w.heap.size, 0, none⟩ = some (.int .i64 x.op) ∧ w'.cell? ⟨w.heap.size, 1, none⟩ = some (.int .i64 x.a) ∧ w'.cell? ⟨w.heap.size, 2, none⟩ = some (.int .i64 x.b) ∧ w'.cell? ⟨w.heap.size, 3, none⟩ = some (.int .i64 x.c) ∧ w'.cell? ⟨w.heap.size, 4, none⟩ = some (.int .i64 x.k))
    (first | go_keep | exact in5_cells bX1 | exact in5_cells bX2)
    (first | (go_at_call 120; refine (takes_any x.b (by first | exact h0 | exact h0.drew)).mono ?_; rintro e w1 ⟨rfl, hl1⟩; have bX1 := hl1.row (by first | exact bX | exact bX.drew) hL hK hO; have u1 := u0.drew.trans hl1.2; have h1 := hl1.1) | (go_at_call 118; refine (gives_any x.a _ (by first | exact h1 | exact h1.drew)).mono ?_; rintro e w2 ⟨rfl, hl2⟩; have bX2 := hl2.row bX1 hL hK hO))
  go_goals
  all_goals
    go_wp2_with fail
    go_end0
    exact ⟨rfl, by rw [HR.out]; exact hl2.1, u1.trans hl2.2⟩
end Go.Proofs.Ytbjaejgechadpaa
