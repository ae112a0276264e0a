/-
  The looker looks at an instruction that reckons; and at whatever instruction.
-/
import Derived.Test.YtbjaejgechadpaaLookC
import Derived.Test.YtbjaejgechadpaaLookD
import Derived.Test.YtbjaejgechadpaaLookE
import Derived.Test.YtbjaejgechadpaaLookF
import Derived.Test.YtbjaejgechadpaaLookG
namespace Go.Proofs.Ytbjaejgechadpaa
open Go.RowKit Vf
set_option maxRecDepth 100000 in
set_option maxHeartbeats 4000000 in
theorem instr_5 {w : World} {B L K O : Nat} {p : Pg} {vi vo vc vd : Value} {s : LS} (i : Int) (x : In5) (h : Lk w B L K O p vi vo vc vd s) (hop : 5 ≤ x.op ∧ x.op ≤ 20) :
    Calls Try.prog 90 #[.pointer (some ⟨L, 0, none⟩), .int .i64 i, in5V x] w fun e w' => e = .returned (.tuple #[]) ∧ Left w B L K O p vi vo vc vd (s.instr p i x) w' := by
  have hL : w.heap.size ≠ L := by have := h.row.lt; omega
  have hK : w.heap.size ≠ K := by have := h.kinds.lt; omega
  have hO : w.heap.size ≠ O := by have := h.outs.lt; omega
  have bX := Row.new w #[.int .i64 x.op, .int .i64 x.a, .int .i64 x.b, .int .i64 x.c, .int .i64 x.k] 30
  have h0 := h.alloc (.cells #[.int .i64 x.op, .int .i64 x.a, .int .i64 x.b, .int .i64 x.c, .int .i64 x.k] 30)
  have u0 : Upd (lkX L K O) w (w.alloc (.cells #[.int .i64 x.op, .int .i64 x.a, .int .i64 x.b, .int .i64 x.c, .int .i64 x.k] 30)) := (Upd.refl _ _).alloc _
  have sg : Ar.signB x.op = true := by simp [Ar.signB]; omega
  have HR := Lib.hid (show s.instr p i x = s.reckons x (Ar.signIn x.op) (Ar.signOut x.op) by unfold LS.instr; rw [if_pos hop]; rfl)
  clear h hop
  go_enter Try.func90, Try.ntmps90
  go_wp2_with fail
  refine (Ar.sign_any x.op _).mono ?_
  rintro e w' ⟨rfl, rfl⟩
  rw [sg]
  generalize Ar.signIn x.op = si at *
  generalize Ar.signOut x.op = so at *
  clear sg
  go_wp2_with fail
  refine (reckons_any x si so h0).mono ?_
  rintro e w1 ⟨rfl, hl1⟩
  go_wp2_with fail
  exact bodyPost_ret (results_none rfl _ _ _) rfl ⟨rfl, by rw [HR.out]; exact hl1.1, u0.trans hl1.2⟩
/-- the ops that code.May lets by -/
def opOk (o : Int) : Prop := (1 ≤ o ∧ o ≤ 3) ∨ (5 ≤ o ∧ o ≤ 21) ∨ (27 ≤ o ∧ o ≤ 32)
theorem instr_any {w : World} {B L K O : Nat} {p : Pg} {vi vo vc vd : Value} {s : LS} (i : Int) (x : In5) (h : Lk w B L K O p vi vo vc vd s) (hop : opOk x.op) (hol : s.outs.length = p.outs.length) (hi0 : 0 ≤ i) (hi1 : i < p.code.length) (hcl : p.code.length ≤ 2048) (hk : Wf x.k) (h3T : (s.takes x.a).1 = 0 ∨ (s.takes x.a).1 = 1 ∨ (s.takes x.a).1 = 2) :
    Calls Try.prog 90 #[.pointer (some ⟨L, 0, none⟩), .int .i64 i, in5V x] w fun e w' => e = .returned (.tuple #[]) ∧ Left w B L K O p vi vo vc vd (s.instr p i x) w' := by
  by_cases c5 : 5 ≤ x.op ∧ x.op ≤ 20
  · exact instr_5 i x h c5
  by_cases c1 : x.op = 1
  · exact instr_1 i x h c1
  by_cases c2 : x.op = 2
  · exact instr_2 i x h c2
  by_cases c3 : x.op = 3
  · exact instr_3 i x h c3
  by_cases c21 : x.op = 21
  · exact instr_21 i x h c21
  by_cases c27 : x.op = 27
  · exact instr_27 i x h c27
  by_cases c28 : x.op = 28
  · exact instr_28 i x h c28
  by_cases c29 : x.op = 29
  · exact instr_29 i x h c29 hol
  by_cases c32 : x.op = 32
  · exact instr_32 i x h c32
  have c30 : x.op = 30 ∨ x.op = 31 := by unfold opOk at hop; omega
  exact instr_30 i x h c30 hi0 hi1 hcl hk h3T
end Go.Proofs.Ytbjaejgechadpaa
