/-
  The same sources: the contract of tree.Equal and what it calls.
-/
import Derived.Test.YtolabbnchmmckaaRfUz
namespace Go.Proofs.Ytolabbnchmmckaa
open Go.RowKit
attribute [local go_sem ↓] Go.wp_at_zero Go.wp_at_succ
set_option maxRecDepth 100000 in
set_option maxHeartbeats 1000000 in
theorem varc_any (x : Vr) (X1 : Option Addr) (j1 : Nat) (y : Vr) (X2 : Option Addr) (j2 : Nat) (w : World) (ok : VrOk x) (ok2 : VrOk y) (h1 : x.clock.length ≤ j1) (m1 : j1 ≤ maxLen) (s1 : Sl w w.heap.size 2 isLit X1 x.clock) (h2 : y.clock.length ≤ j2) (m2 : j2 ≤ maxLen) (s2 : Sl w w.heap.size 2 isLit X2 y.clock) :
    Calls Try.prog 138 #[.agg (vrArr x X1 j1), .agg (vrArr y X2 j2)] w fun r w' => (∃ b : Bool, r = .returned (.bool b) ∧ Hid (x = y → b = true)) ∧ Below w.heap.size w w' := by
  have HOK := Lib.hid (And.intro ok ok2)
  have rn := (Row.new w (vrArr x X1 j1) 64).alloc (.cells (vrArr y X2 j2) 64)
  have ru := rowNew2 w (.cells (vrArr x X1 j1) 64) (vrArr y X2 j2) 64
  have b1 : Below w.heap.size w ((w.alloc (.cells (vrArr x X1 j1) 64)).alloc (.cells (vrArr y X2 j2) 64)) := (by repeat (first | (with_reducible assumption) | (with_reducible exact Below.refl _ _) | (with_reducible refine Below.drew ?_) | (with_reducible refine below_drewN' ?_ _) | (with_reducible refine Below.alloc ?_ (by first | assumption | omega | (simp; omega) | simp | (simp [World.setCell]; omega) | simp [World.setCell]) _) | (with_reducible refine Below.setCell ?_ (by first | assumption | omega | (simp; omega) | simp | (simp [World.setCell]; omega) | simp [World.setCell]) _)))
  have HC : Hid (∀ W, Below w.heap.size w W → Calls Try.prog 102 #[.slice X1 x.clock.length j1, .slice X2 y.clock.length j2] W fun r w' => r = .returned (.bool (cB (x.clock = y.clock))) ∧ Below W.heap.size W w') := fun W hW =>
    (eqLits_any x.clock y.clock X1 X2 j1 j2 W.heap.size W h1 m1 (lits_keep s1 (keeps_of hW) hW.size) h2 m2 (lits_keep s2 (keeps_of hW) hW.size)).mono fun r w' h => ⟨h.1, by obtain ⟨_, n, rfl⟩ := h; exact below_drewN' (Below.refl _ _) n⟩
  clear ok ok2 h1 m1 s1 h2 m2 s2
  go_enter Try.func138, Try.ntmps138
  go_upto_region 1 with (fail)
  generalize (w.alloc (.cells (vrArr x X1 j1) 64)).alloc (.cells (vrArr y X2 j2) 64) = W1 at *
  have hs1 := b1.size
  obtain ⟨d0, d1, d2, d3, d4⟩ := rn.vr
  obtain ⟨f0, f1, f2, f3, f4⟩ := ru.vr
  by_cases hn : x.name = y.name
  rotate_left 1
  · have e1 := beq_no hn
    have HE : Hid (x = y → false = true) := fun g => absurd (by rw [g]) hn
    clear hn
    go_wp2_with fail
    go_ret
    exact ⟨⟨false, rfl, HE⟩, b1⟩
  have e1 := beq_yes hn
  clear hn
  by_cases ht : x.ty = y.ty
  rotate_left 1
  · have e2 := ne_beq ht
    have HE : Hid (x = y → false = true) := fun g => absurd (by rw [g]) ht
    clear ht
    go_wp2_with fail
    go_ret
    exact ⟨⟨false, rfl, HE⟩, b1⟩
  have e2 := eq_beq ht
  clear ht
  go_wp2_with fail
  refine (HC.out W1 b1).mono ?_
  rintro r w2 ⟨rfl, hb2⟩
  have HE : Hid (x = y → cB (x.clock = y.clock) = true) := fun g => cB_true (by rw [g])
  generalize cB (x.clock = y.clock) = bb at *
  have hB2 := b1.trans (hb2.mono hs1)
  cases bb
  all_goals
    go_wp2_with fail
    go_ret
    exact ⟨⟨_, rfl, by first | exact HE | exact fun _ => rfl⟩, hB2⟩
set_option maxRecDepth 100000 in
set_option maxHeartbeats 1000000 in
theorem eqf_Var (l1 l2 : List Vr) (A1 A2 : Option Addr) (c1 c2 : Nat) (w : World) (g1 : l1.length ≤ c1) (m1 : c1 ≤ maxLen) (s1 : Vrs w w.heap.size A1 l1) (m2 : c2 ≤ maxLen) (s2 : Vrs w w.heap.size A2 l2) :
    Calls Try.prog 137 #[.slice A1 l1.length c1, .slice A2 l2.length c2, .func (.func 138) #[] #[]] w fun r w' => (∃ b : Bool, r = .returned (.bool b) ∧ Hid (l1 = l2 → b = true)) ∧ Below w.heap.size w w' := by
  have hF := enters_of Try.func138 (by kernel_rfl) rfl
  have H1 : Hid (∀ W, Below w.heap.size w W → Vrs W w.heap.size A1 l1) := fun W hW => vrs_keep s1 (keeps_of hW) (Nat.le_refl _)
  have H2 : Hid (∀ W, Below w.heap.size w W → Vrs W w.heap.size A2 l2) := fun W hW => vrs_keep s2 (keeps_of hW) (Nat.le_refl _)
  have m1' : c1 ≤ 9223372036854775807 := by unfold maxLen at m1; omega
  have m2' : c2 ≤ 9223372036854775807 := by unfold maxLen at m2; omega
  clear s1 s2
  by_cases hlen : l1.length = l2.length
  rotate_left 1
  · have e0 : ((l1.length : Int) != (l2.length : Int)) = true := neq_yes (by omega)
    have HE : Hid (l1 = l2 → false = true) := fun g => absurd (by rw [g]) hlen
    clear hlen
    go_enter Try.func137, Try.ntmps137
    go_wp2_with fail
    go_ret
    exact ⟨⟨false, rfl, HE⟩, Below.refl _ _⟩
  have e0 : ((l1.length : Int) != (l2.length : Int)) = false := neq_no (by omega)
  have HLEN := Lib.hid hlen
  clear hlen
  go_enter Try.func137, Try.ntmps137
  go_wp2_with fail
  go_loopw [17] (fun i wr => ∃ k : Nat, k ≤ l1.length ∧ i = .int .i64 k ∧ Below w.heap.size w wr) (fun i _ => l1.length - (intOf i).toNat)
  case atStart => exact ⟨0, Nat.zero_le _, rfl, Below.refl _ _⟩
  case round =>
    obtain ⟨k, hk, rfl, hbr⟩ := hrel
    have hszr := hbr.size
    by_cases hlt : k < l1.length
    rotate_left 1
    · obtain rfl : k = l1.length := by omega
      go_wp2_with fail
      go_ret
      exact ⟨⟨true, rfl, fun _ => rfl⟩, hbr⟩
    obtain ⟨b, off, x, X1, j1, hX, hb, hx, ok, lx1, mx1, hxs, d0, d1, d2, d3, d4⟩ := (H1.out wr hbr).vr hlt
    have hlt2 : k < l2.length := by rw [← HLEN.out]; exact hlt
    obtain ⟨b2, off2, y, X2, j2, hX2, hb2, hy, ok2, ly1, my1, hys, f0, f1, f2, f3, f4⟩ := (H2.out wr hbr).vr hlt2
    rw [hX, hX2]
    have rn := (Row.new wr (vrArr x X1 j1) 64).alloc (.cells (vrArr y X2 j2) 64)
    have ru := rowNew2 wr (.cells (vrArr x X1 j1) 64) (vrArr y X2 j2) 64
    have ba : Below wr.heap.size wr ((wr.alloc (.cells (vrArr x X1 j1) 64)).alloc (.cells (vrArr y X2 j2) 64)) := (by repeat (first | (with_reducible assumption) | (with_reducible exact Below.refl _ _) | (with_reducible refine Below.drew ?_) | (with_reducible refine below_drewN' ?_ _) | (with_reducible refine Below.alloc ?_ (by first | assumption | omega | (simp; omega) | simp | (simp [World.setCell]; omega) | simp [World.setCell]) _) | (with_reducible refine Below.setCell ?_ (by first | assumption | omega | (simp; omega) | simp | (simp [World.setCell]; omega) | simp [World.setCell]) _)))
    have HXY : Hid (∀ bb : Bool, (x = y → bb = true) → l1 = l2 → bb = true) := fun bb h g => h (Option.some.inj (by rw [← hx, ← hy, g]))
    have HC : Hid (∀ W2, Below wr.heap.size wr W2 → Calls Try.prog 138 #[.agg (vrArr x X1 j1), .agg (vrArr y X2 j2)] W2 fun r w' => (∃ b : Bool, r = .returned (.bool b) ∧ Hid (x = y → b = true)) ∧ Below W2.heap.size W2 w') := fun W2 hW => by
      have hWB : Below w.heap.size wr W2 := hW.mono hszr
      have hWs : w.heap.size ≤ W2.heap.size := Nat.le_trans hszr hW.size
      exact varc_any x X1 j1 y X2 j2 W2 ok ok2 lx1 mx1 (lits_keep hxs (keeps_of hWB) hWs) ly1 my1 (lits_keep hys (keeps_of hWB) hWs)
    have hb1' : b < wr.heap.size := by omega
    have hb2' : b2 < wr.heap.size := by omega
    have i0 : (0 : Int) ≤ (k : Int) := by omega
    have i1 : (k : Int) < (l2.length : Int) := by omega
    clear hX hX2 hx hy hxs hys ok ok2
    go_upto_region 7 with (fail)
    clear d0 d1 d2 d3 d4 f0 f1 f2 f3 f4
    generalize hW2 : (wr.alloc (.cells (vrArr x X1 j1) 64)).alloc (.cells (vrArr y X2 j2) 64) = w2 at *
    clear hW2
    have hsa := ba.size
    obtain ⟨d0, d1, d2, d3, d4⟩ := rn.vr
    obtain ⟨f0, f1, f2, f3, f4⟩ := ru.vr
    go_wp2_with fail
    refine (HC.out w2 ba).mono ?_
    rintro r w3 ⟨⟨bb, rfl, HB⟩, hb3⟩
    have hB3 := hbr.trans ((ba.trans (hb3.mono hsa)).mono hszr)
    have HBL := Lib.hid (HXY.out bb HB.out)
    cases bb
    · go_wp2_with fail
      go_ret
      exact ⟨⟨false, rfl, HBL.out⟩, hB3⟩
    · clear d0 d1 d2 d3 d4 f0 f1 f2 f3 f4
      go_wp2_with fail
      go_roundw
      case rel => exact ⟨k + 1, by omega, by go_num, hB3⟩
      case measure => first | (simp [intOf]; omega) | simp [intOf]
set_option maxRecDepth 100000 in
set_option maxHeartbeats 1000000 in
theorem varsb_any (l1 l2 : List Vr) (A1 A2 : Option Addr) (c1 c2 : Nat) (w : World) (g1 : l1.length ≤ c1) (m1 : c1 ≤ maxLen) (s1 : Vrs w w.heap.size A1 l1) (m2 : c2 ≤ maxLen) (s2 : Vrs w w.heap.size A2 l2) :
    Calls Try.prog 115 #[.slice A1 l1.length c1, .slice A2 l2.length c2] w fun r w' => (∃ b : Bool, r = .returned (.bool b) ∧ Hid (l1 = l2 → b = true)) ∧ Below w.heap.size w w' := by
  have HC := Lib.hid (eqf_Var l1 l2 A1 A2 c1 c2 w g1 m1 s1 m2 s2)
  clear g1 m1 s1 m2 s2
  go_enter Try.func115, Try.ntmps115
  go_wp2_with fail
  refine HC.out.mono ?_
  rintro r w2 ⟨⟨bb, rfl, HB⟩, hb2⟩
  go_wp2_with fail
  go_ret
  exact ⟨⟨bb, rfl, HB⟩, hb2⟩
end Go.Proofs.Ytolabbnchmmckaa
namespace Go.Proofs.Ytolabbnchmmckaa
open Go.RowKit
attribute [local go_sem ↓] Go.wp_at_zero Go.wp_at_succ
set_option maxRecDepth 100000 in
set_option maxHeartbeats 1000000 in
theorem strq_any (l1 l2 : List ByteArray) (A1 A2 : Option Addr) (c1 c2 : Nat) (w : World) (g1 : l1.length ≤ c1) (m1 : c1 ≤ maxLen) (s1 : Sl w w.heap.size 1 isStr A1 l1) (m2 : c2 ≤ maxLen) (s2 : Sl w w.heap.size 1 isStr A2 l2) :
    Calls Try.prog 118 #[.slice A1 l1.length c1, .slice A2 l2.length c2] w fun r w' => (∃ b : Bool, r = .returned (.bool b) ∧ Hid (l1 = l2 → b = true)) ∧ Below w.heap.size w w' := by
  have H1 : Hid (∀ W, Below w.heap.size w W → Sl W w.heap.size 1 isStr A1 l1) := fun W hW => strs_keep s1 (keeps_of hW) (Nat.le_refl _)
  have H2 : Hid (∀ W, Below w.heap.size w W → Sl W w.heap.size 1 isStr A2 l2) := fun W hW => strs_keep s2 (keeps_of hW) (Nat.le_refl _)
  have m1' : c1 ≤ 9223372036854775807 := by unfold maxLen at m1; omega
  have m2' : c2 ≤ 9223372036854775807 := by unfold maxLen at m2; omega
  clear s1 s2
  by_cases hlen : l1.length = l2.length
  rotate_left 1
  · have e0 : ((l1.length : Int) != (l2.length : Int)) = true := neq_yes (by omega)
    have HE : Hid (l1 = l2 → false = true) := fun g => absurd (by rw [g]) hlen
    clear hlen
    go_enter Try.func118, Try.ntmps118
    go_wp2_with fail
    go_ret
    exact ⟨⟨false, rfl, HE⟩, Below.refl _ _⟩
  have e0 : ((l1.length : Int) != (l2.length : Int)) = false := neq_no (by omega)
  have HLEN := Lib.hid hlen
  clear hlen
  go_enter Try.func118, Try.ntmps118
  go_wp2_with fail
  go_loopw [13] (fun i wr => ∃ k : Nat, k ≤ l1.length ∧ i = .int .i64 k ∧ Below w.heap.size w wr) (fun i _ => l1.length - (intOf i).toNat)
  case atStart => exact ⟨0, Nat.zero_le _, rfl, Below.refl _ _⟩
  case round =>
    obtain ⟨k, hk, rfl, hbr⟩ := hrel
    by_cases hlt : k < l1.length
    rotate_left 1
    · obtain rfl : k = l1.length := by omega
      go_wp2_with fail
      go_ret
      exact ⟨⟨true, rfl, fun _ => rfl⟩, hbr⟩
    have hlt2 : k < l2.length := by rw [← HLEN.out]; exact hlt
    obtain ⟨b, off, x, hX, hb, hx, hxn, d0⟩ := (H1.out wr hbr).str hlt
    obtain ⟨b2, off2, y, hX2, hb2, hy, hyn, f0⟩ := (H2.out wr hbr).str hlt2
    rw [hX, hX2]
    have HXY : Hid (l1 = l2 → x = y) := fun g => Option.some.inj (by rw [← hx, ← hy, g])
    have i0 : (0 : Int) ≤ (k : Int) := by omega
    have i1 : (k : Int) < (l1.length : Int) := by omega
    have i2 : (k : Int) < (l2.length : Int) := by omega
    clear hX hX2 hx hy
    go_upto_region 6 with (fail)
    by_cases hxy : x = y
    · have e1 := beq_yes hxy
      clear hxy
      go_quiet (fail)
      go_wp2_with fail
      go_roundw
      case rel => exact ⟨k + 1, by omega, by go_num, below_drewN' hbr nq⟩
      case measure => first | (simp [intOf]; omega) | simp [intOf]
    · have e1 := beq_no hxy
      have HE : Hid (l1 = l2 → false = true) := fun g => absurd (HXY.out g) hxy
      clear hxy
      go_quiet (fail)
      go_wp2_with fail
      go_ret
      exact ⟨⟨false, rfl, HE⟩, below_drewN' hbr nq⟩
/-- what tree.Same answers of an expression and any other -/
def SameC (e : Ex) : Prop := ∀ (e2 : Ex) (A1 : Option Addr) (c1 : Nat) (A2 : Option Addr) (c2 : Nat) (w : World), ExOk e → ExOk e2 → e.args.length ≤ c1 → c1 ≤ maxLen → IsExs w w.heap.size A1 e.args → e2.args.length ≤ c2 → c2 ≤ maxLen → IsExs w w.heap.size A2 e2.args →
  Calls Try.prog 119 #[.agg (exA e A1 c1), .agg (exA e2 A2 c2)] w fun r w' => (∃ b : Bool, r = .returned (.bool b) ∧ Hid (e = e2 → b = true)) ∧ Below w.heap.size w w'
set_option maxRecDepth 100000 in
set_option maxHeartbeats 1000000 in
theorem eqf_Expr (l1 l2 : List Ex) (A1 A2 : Option Addr) (c1 c2 : Nat) (w : World) (hi : ∀ x ∈ l1, SameC x) (g1 : l1.length ≤ c1) (m1 : c1 ≤ maxLen) (s1 : IsExs w w.heap.size A1 l1) (m2 : c2 ≤ maxLen) (s2 : IsExs w w.heap.size A2 l2) :
    Calls Try.prog 139 #[.slice A1 l1.length c1, .slice A2 l2.length c2, .func (.func 119) #[] #[]] w fun r w' => (∃ b : Bool, r = .returned (.bool b) ∧ Hid (l1 = l2 → b = true)) ∧ Below w.heap.size w w' := by
  have hF := enters_of Try.func119 (by kernel_rfl) rfl
  have H1 : Hid (∀ W, Below w.heap.size w W → IsExs W w.heap.size A1 l1) := fun W hW => exs_keep s1 (keeps_of hW) (Nat.le_refl _)
  have H2 : Hid (∀ W, Below w.heap.size w W → IsExs W w.heap.size A2 l2) := fun W hW => exs_keep s2 (keeps_of hW) (Nat.le_refl _)
  have m1' : c1 ≤ 9223372036854775807 := by unfold maxLen at m1; omega
  have m2' : c2 ≤ 9223372036854775807 := by unfold maxLen at m2; omega
  have HI := Lib.hid hi
  clear s1 s2 hi
  by_cases hlen : l1.length = l2.length
  rotate_left 1
  · have e0 : ((l1.length : Int) != (l2.length : Int)) = true := neq_yes (by omega)
    have HE : Hid (l1 = l2 → false = true) := fun g => absurd (by rw [g]) hlen
    clear hlen
    go_enter Try.func139, Try.ntmps139
    go_wp2_with fail
    go_ret
    exact ⟨⟨false, rfl, HE⟩, Below.refl _ _⟩
  have e0 : ((l1.length : Int) != (l2.length : Int)) = false := neq_no (by omega)
  have HLEN := Lib.hid hlen
  clear hlen
  go_enter Try.func139, Try.ntmps139
  go_wp2_with fail
  go_loopw [17] (fun i wr => ∃ k : Nat, k ≤ l1.length ∧ i = .int .i64 k ∧ Below w.heap.size w wr) (fun i _ => l1.length - (intOf i).toNat)
  case atStart => exact ⟨0, Nat.zero_le _, rfl, Below.refl _ _⟩
  case round =>
    obtain ⟨k, hk, rfl, hbr⟩ := hrel
    have hszr := hbr.size
    by_cases hlt : k < l1.length
    rotate_left 1
    · obtain rfl : k = l1.length := by omega
      go_wp2_with fail
      go_ret
      exact ⟨⟨true, rfl, fun _ => rfl⟩, hbr⟩
    obtain ⟨b, off, x, X1, j1, hX, hb, hx, hxm, ok, lx1, mx1, hxs, d0, d1, d2, d3, d4, d5⟩ := (H1.out wr hbr).at_ hlt
    have hlt2 : k < l2.length := by rw [← HLEN.out]; exact hlt
    obtain ⟨b2, off2, y, X2, j2, hX2, hb2, hy, hym, ok2, ly1, my1, hys, f0, f1, f2, f3, f4, f5⟩ := (H2.out wr hbr).at_ hlt2
    rw [hX, hX2]
    have rn := (Row.new wr (exA x X1 j1) 26).alloc (.cells (exA y X2 j2) 26)
    have ru := rowNew2 wr (.cells (exA x X1 j1) 26) (exA y X2 j2) 26
    have ba : Below wr.heap.size wr ((wr.alloc (.cells (exA x X1 j1) 26)).alloc (.cells (exA y X2 j2) 26)) := (by repeat (first | (with_reducible assumption) | (with_reducible exact Below.refl _ _) | (with_reducible refine Below.drew ?_) | (with_reducible refine below_drewN' ?_ _) | (with_reducible refine Below.alloc ?_ (by first | assumption | omega | (simp; omega) | simp | (simp [World.setCell]; omega) | simp [World.setCell]) _) | (with_reducible refine Below.setCell ?_ (by first | assumption | omega | (simp; omega) | simp | (simp [World.setCell]; omega) | simp [World.setCell]) _)))
    have HXY : Hid (∀ bb : Bool, (x = y → bb = true) → l1 = l2 → bb = true) := fun bb h g => h (Option.some.inj (by rw [← hx, ← hy, g]))
    have HC : Hid (∀ W2, Below wr.heap.size wr W2 → Calls Try.prog 119 #[.agg (exA x X1 j1), .agg (exA y X2 j2)] W2 fun r w' => (∃ b : Bool, r = .returned (.bool b) ∧ Hid (x = y → b = true)) ∧ Below W2.heap.size W2 w') := fun W2 hW => by
      have hWB : Below w.heap.size wr W2 := hW.mono hszr
      have hWs : w.heap.size ≤ W2.heap.size := Nat.le_trans hszr hW.size
      exact HI.out x hxm y X1 j1 X2 j2 W2 ok ok2 lx1 mx1 (exs_keep hxs (keeps_of hWB) hWs) ly1 my1 (exs_keep hys (keeps_of hWB) hWs)
    have hb1' : b < wr.heap.size := by omega
    have hb2' : b2 < wr.heap.size := by omega
    have i0 : (0 : Int) ≤ (k : Int) := by omega
    have i1 : (k : Int) < (l2.length : Int) := by omega
    clear hX hX2 hx hy hxs hys ok ok2 hxm hym
    go_upto_region 7 with (fail)
    clear d0 d1 d2 d3 d4 d5 f0 f1 f2 f3 f4 f5
    generalize hW2 : (wr.alloc (.cells (exA x X1 j1) 26)).alloc (.cells (exA y X2 j2) 26) = w2 at *
    clear hW2
    have hsa := ba.size
    obtain ⟨d0, d1, d2, d3, d4, d5⟩ := rn.ex6
    obtain ⟨f0, f1, f2, f3, f4, f5⟩ := ru.ex6
    go_wp2_with fail
    refine (HC.out w2 ba).mono ?_
    rintro r w3 ⟨⟨bb, rfl, HB⟩, hb3⟩
    have hB3 := hbr.trans ((ba.trans (hb3.mono hsa)).mono hszr)
    have HBL := Lib.hid (HXY.out bb HB.out)
    cases bb
    · go_wp2_with fail
      go_ret
      exact ⟨⟨false, rfl, HBL.out⟩, hB3⟩
    · clear d0 d1 d2 d3 d4 d5 f0 f1 f2 f3 f4 f5
      go_wp2_with fail
      go_roundw
      case rel => exact ⟨k + 1, by omega, by go_num, hB3⟩
      case measure => first | (simp [intOf]; omega) | simp [intOf]
set_option maxRecDepth 100000 in
set_option maxHeartbeats 1000000 in
theorem sameb_any (e : Ex) : SameC e := by
  induction e using Ex.ind with
  | h e HI =>
  intro e2 A1 c1 A2 c2 w ok ok2 h1 m1 s1 h2 m2 s2
  have rn := (Row.new w (exA e A1 c1) 26).alloc (.cells (exA e2 A2 c2) 26)
  have ru := rowNew2 w (.cells (exA e A1 c1) 26) (exA e2 A2 c2) 26
  have b1 : Below w.heap.size w ((w.alloc (.cells (exA e A1 c1) 26)).alloc (.cells (exA e2 A2 c2) 26)) := (by repeat (first | (with_reducible assumption) | (with_reducible exact Below.refl _ _) | (with_reducible refine Below.drew ?_) | (with_reducible refine below_drewN' ?_ _) | (with_reducible refine Below.alloc ?_ (by first | assumption | omega | (simp; omega) | simp | (simp [World.setCell]; omega) | simp [World.setCell]) _) | (with_reducible refine Below.setCell ?_ (by first | assumption | omega | (simp; omega) | simp | (simp [World.setCell]; omega) | simp [World.setCell]) _)))
  have HC := Lib.hid (eqf_Expr e.args e2.args A1 A2 c1 c2 ((w.alloc (.cells (exA e A1 c1) 26)).alloc (.cells (exA e2 A2 c2) 26)) HI h1 m1 (exs_keep s1 (keeps_of b1) b1.size) m2 (exs_keep s2 (keeps_of b1) b1.size))
  clear ok ok2 h1 m1 s1 h2 m2 s2 HI
  go_enter Try.func119, Try.ntmps119
  go_upto_region 1 with (fail)
  generalize (w.alloc (.cells (exA e A1 c1) 26)).alloc (.cells (exA e2 A2 c2) 26) = W1 at *
  have hs1 := b1.size
  obtain ⟨d0, d1, d2, d3, d4, d5⟩ := rn.ex6
  obtain ⟨f0, f1, f2, f3, f4, f5⟩ := ru.ex6
  by_cases ho : e.op = e2.op
  rotate_left 1
  · have e1 := ne_beq ho
    have HE : Hid (e = e2 → false = true) := fun g => absurd (by rw [g]) ho
    clear ho
    go_wp2_with fail
    go_ret
    exact ⟨⟨false, rfl, HE⟩, b1⟩
  have e1 := eq_beq ho
  clear ho
  by_cases hn : e.name = e2.name
  rotate_left 1
  · have e2' := beq_no hn
    have HE : Hid (e = e2 → false = true) := fun g => absurd (by rw [g]) hn
    clear hn
    go_wp2_with fail
    go_ret
    exact ⟨⟨false, rfl, HE⟩, b1⟩
  have e2' := beq_yes hn
  clear hn
  by_cases hm : e.n = e2.n
  rotate_left 1
  · have e3 := ne_beq hm
    have HE : Hid (e = e2 → false = true) := fun g => absurd (by rw [g]) hm
    clear hm
    go_wp2_with fail
    go_ret
    exact ⟨⟨false, rfl, HE⟩, b1⟩
  have e3 := eq_beq hm
  clear hm
  go_wp2_with fail
  refine HC.out.mono ?_
  rintro r w2 ⟨⟨bb, rfl, HB⟩, hb2⟩
  have HE : Hid (e = e2 → bb = true) := fun g => HB.out (by rw [g])
  have hB2 := b1.trans (hb2.mono hs1)
  clear HB
  cases bb
  all_goals
    go_wp2_with fail
    go_ret
    exact ⟨⟨_, rfl, by first | exact HE | exact fun _ => rfl⟩, hB2⟩
end Go.Proofs.Ytolabbnchmmckaa
namespace Go.Proofs.Ytolabbnchmmckaa
open Go.RowKit
attribute [local go_sem ↓] Go.wp_at_zero Go.wp_at_succ
set_option maxRecDepth 100000 in
set_option maxHeartbeats 1000000 in
theorem eqc_any (x : Eqn) (X1 : Option Addr) (j1 : Nat) (Y1 : Option Addr) (k1 : Nat) (y : Eqn) (X2 : Option Addr) (j2 : Nat) (Y2 : Option Addr) (k2 : Nat) (w : World) (ok : ExOk x.right) (ok2 : ExOk y.right)
    (h1 : x.left.length ≤ j1) (m1 : j1 ≤ maxLen) (s1 : Sl w w.heap.size 1 isStr X1 x.left) (h2 : x.right.args.length ≤ k1) (m2 : k1 ≤ maxLen) (s2 : IsExs w w.heap.size Y1 x.right.args) (h3 : y.left.length ≤ j2) (m3 : j2 ≤ maxLen) (s3 : Sl w w.heap.size 1 isStr X2 y.left) (h4 : y.right.args.length ≤ k2) (m4 : k2 ≤ maxLen) (s4 : IsExs w w.heap.size Y2 y.right.args) :
    Calls Try.prog 117 #[.agg (eqArr x X1 j1 Y1 k1), .agg (eqArr y X2 j2 Y2 k2)] w fun r w' => (∃ b : Bool, r = .returned (.bool b) ∧ Hid (x = y → b = true)) ∧ Below w.heap.size w w' := by
  have rn := (Row.new w (eqArr x X1 j1 Y1 k1) 60).alloc (.cells (eqArr y X2 j2 Y2 k2) 60)
  have ru := rowNew2 w (.cells (eqArr x X1 j1 Y1 k1) 60) (eqArr y X2 j2 Y2 k2) 60
  have b1 : Below w.heap.size w ((w.alloc (.cells (eqArr x X1 j1 Y1 k1) 60)).alloc (.cells (eqArr y X2 j2 Y2 k2) 60)) := (by repeat (first | (with_reducible assumption) | (with_reducible exact Below.refl _ _) | (with_reducible refine Below.drew ?_) | (with_reducible refine below_drewN' ?_ _) | (with_reducible refine Below.alloc ?_ (by first | assumption | omega | (simp; omega) | simp | (simp [World.setCell]; omega) | simp [World.setCell]) _) | (with_reducible refine Below.setCell ?_ (by first | assumption | omega | (simp; omega) | simp | (simp [World.setCell]; omega) | simp [World.setCell]) _)))
  have HC : Hid (∀ W, Below w.heap.size w W → Calls Try.prog 118 #[.slice X1 x.left.length j1, .slice X2 y.left.length j2] W fun r w' => (∃ b : Bool, r = .returned (.bool b) ∧ Hid (x.left = y.left → b = true)) ∧ Below W.heap.size W w') := fun W hW =>
    strq_any x.left y.left X1 X2 j1 j2 W h1 m1 (strs_keep s1 (keeps_of hW) hW.size) m3 (strs_keep s3 (keeps_of hW) hW.size)
  have HD : Hid (∀ W, Below w.heap.size w W → Calls Try.prog 119 #[.agg (exA x.right Y1 k1), .agg (exA y.right Y2 k2)] W fun r w' => (∃ b : Bool, r = .returned (.bool b) ∧ Hid (x.right = y.right → b = true)) ∧ Below W.heap.size W w') := fun W hW =>
    sameb_any x.right y.right Y1 k1 Y2 k2 W ok ok2 h2 m2 (exs_keep s2 (keeps_of hW) hW.size) h4 m4 (exs_keep s4 (keeps_of hW) hW.size)
  have HH := Lib.hid (And.intro h1 h3)
  clear ok ok2 h1 m1 s1 h2 m2 s2 h3 m3 s3 h4 m4 s4
  go_enter Try.func117, Try.ntmps117
  go_upto_region 1 with (fail)
  generalize (w.alloc (.cells (eqArr x X1 j1 Y1 k1) 60)).alloc (.cells (eqArr y X2 j2 Y2 k2) 60) = W1 at *
  have hs1 := b1.size
  obtain ⟨d0, d1, d2, d3, d4, d5, d6, d7, d8⟩ := rn.eqn
  obtain ⟨f0, f1, f2, f3, f4, f5, f6, f7, f8⟩ := ru.eqn
  go_wp2_with fail
  refine (HC.out W1 b1).mono ?_
  rintro r w2 ⟨⟨bb, rfl, HB⟩, hb2⟩
  have HE1 : Hid (x = y → bb = true) := fun g => HB.out (by rw [g])
  have hB2 := b1.trans (hb2.mono hs1)
  have hs2 := hB2.size
  have rn2 := rn.below hb2 rn.lt
  have ru2 := ru.below hb2 ru.lt
  clear HB d0 d1 d2 d3 d4 d5 d6 d7 d8 f0 f1 f2 f3 f4 f5 f6 f7 f8
  cases bb
  · go_wp2_with fail
    go_ret
    exact ⟨⟨_, rfl, HE1⟩, hB2⟩
  obtain ⟨d0, d1, d2, d3, d4, d5, d6, d7, d8⟩ := rn2.eqn
  obtain ⟨f0, f1, f2, f3, f4, f5, f6, f7, f8⟩ := ru2.eqn
  go_wp2_with fail
  refine (HD.out w2 hB2).mono ?_
  rintro r w3 ⟨⟨bb, rfl, HB⟩, hb3⟩
  have HE2 : Hid (x = y → bb = true) := fun g => HB.out (by rw [g])
  have hB3 := hB2.trans (hb3.mono hs2)
  clear HB
  cases bb
  all_goals
    go_wp2_with fail
    go_ret
    exact ⟨⟨_, rfl, by first | exact HE2 | exact fun _ => rfl⟩, hB3⟩
set_option maxRecDepth 100000 in
set_option maxHeartbeats 1000000 in
theorem eqf_Eqn (l1 l2 : List Eqn) (A1 A2 : Option Addr) (c1 c2 : Nat) (w : World) (g1 : l1.length ≤ c1) (m1 : c1 ≤ maxLen) (s1 : Eqs w w.heap.size A1 l1) (m2 : c2 ≤ maxLen) (s2 : Eqs w w.heap.size A2 l2) :
    Calls Try.prog 116 #[.slice A1 l1.length c1, .slice A2 l2.length c2, .func (.func 117) #[] #[]] w fun r w' => (∃ b : Bool, r = .returned (.bool b) ∧ Hid (l1 = l2 → b = true)) ∧ Below w.heap.size w w' := by
  have hF := enters_of Try.func117 (by kernel_rfl) rfl
  have H1 : Hid (∀ W, Below w.heap.size w W → Eqs W w.heap.size A1 l1) := fun W hW => eqs_keep s1 (keeps_of hW) (Nat.le_refl _)
  have H2 : Hid (∀ W, Below w.heap.size w W → Eqs W w.heap.size A2 l2) := fun W hW => eqs_keep s2 (keeps_of hW) (Nat.le_refl _)
  have m1' : c1 ≤ 9223372036854775807 := by unfold maxLen at m1; omega
  have m2' : c2 ≤ 9223372036854775807 := by unfold maxLen at m2; omega
  clear s1 s2
  by_cases hlen : l1.length = l2.length
  rotate_left 1
  · have e0 : ((l1.length : Int) != (l2.length : Int)) = true := neq_yes (by omega)
    have HE : Hid (l1 = l2 → false = true) := fun g => absurd (by rw [g]) hlen
    clear hlen
    go_enter Try.func116, Try.ntmps116
    go_wp2_with fail
    go_ret
    exact ⟨⟨false, rfl, HE⟩, Below.refl _ _⟩
  have e0 : ((l1.length : Int) != (l2.length : Int)) = false := neq_no (by omega)
  have HLEN := Lib.hid hlen
  clear hlen
  go_enter Try.func116, Try.ntmps116
  go_wp2_with fail
  go_loopw [17] (fun i wr => ∃ k : Nat, k ≤ l1.length ∧ i = .int .i64 k ∧ Below w.heap.size w wr) (fun i _ => l1.length - (intOf i).toNat)
  case atStart => exact ⟨0, Nat.zero_le _, rfl, Below.refl _ _⟩
  case round =>
    obtain ⟨k, hk, rfl, hbr⟩ := hrel
    have hszr := hbr.size
    by_cases hlt : k < l1.length
    rotate_left 1
    · obtain rfl : k = l1.length := by omega
      go_wp2_with fail
      go_ret
      exact ⟨⟨true, rfl, fun _ => rfl⟩, hbr⟩
    obtain ⟨b, off, x, X1, j1, Y1, k1, hX, hb, hx, ok, lx1, mx1, sx1, lx2, mx2, sx2, d0, d1, d2, d3, d4, d5, d6, d7, d8⟩ := (H1.out wr hbr).eqn hlt
    have hlt2 : k < l2.length := by rw [← HLEN.out]; exact hlt
    obtain ⟨b2, off2, y, X2, j2, Y2, k2, hX2, hb2, hy, ok2, ly1, my1, sy1, ly2, my2, sy2, f0, f1, f2, f3, f4, f5, f6, f7, f8⟩ := (H2.out wr hbr).eqn hlt2
    rw [hX, hX2]
    have rn := (Row.new wr (eqArr x X1 j1 Y1 k1) 60).alloc (.cells (eqArr y X2 j2 Y2 k2) 60)
    have ru := rowNew2 wr (.cells (eqArr x X1 j1 Y1 k1) 60) (eqArr y X2 j2 Y2 k2) 60
    have ba : Below wr.heap.size wr ((wr.alloc (.cells (eqArr x X1 j1 Y1 k1) 60)).alloc (.cells (eqArr y X2 j2 Y2 k2) 60)) := (by repeat (first | (with_reducible assumption) | (with_reducible exact Below.refl _ _) | (with_reducible refine Below.drew ?_) | (with_reducible refine below_drewN' ?_ _) | (with_reducible refine Below.alloc ?_ (by first | assumption | omega | (simp; omega) | simp | (simp [World.setCell]; omega) | simp [World.setCell]) _) | (with_reducible refine Below.setCell ?_ (by first | assumption | omega | (simp; omega) | simp | (simp [World.setCell]; omega) | simp [World.setCell]) _)))
    have HXY : Hid (∀ bb : Bool, (x = y → bb = true) → l1 = l2 → bb = true) := fun bb h g => h (Option.some.inj (by rw [← hx, ← hy, g]))
    have HC : Hid (∀ W2, Below wr.heap.size wr W2 → Calls Try.prog 117 #[.agg (eqArr x X1 j1 Y1 k1), .agg (eqArr y X2 j2 Y2 k2)] W2 fun r w' => (∃ b : Bool, r = .returned (.bool b) ∧ Hid (x = y → b = true)) ∧ Below W2.heap.size W2 w') := fun W2 hW => by
      have hWB : Below w.heap.size wr W2 := hW.mono hszr
      have hWs : w.heap.size ≤ W2.heap.size := Nat.le_trans hszr hW.size
      exact eqc_any x X1 j1 Y1 k1 y X2 j2 Y2 k2 W2 ok.right ok2.right lx1 mx1 (strs_keep sx1 (keeps_of hWB) hWs) lx2 mx2 (exs_keep sx2 (keeps_of hWB) hWs) ly1 my1 (strs_keep sy1 (keeps_of hWB) hWs) ly2 my2 (exs_keep sy2 (keeps_of hWB) hWs)
    have hb1' : b < wr.heap.size := by omega
    have hb2' : b2 < wr.heap.size := by omega
    have i0 : (0 : Int) ≤ (k : Int) := by omega
    have i1 : (k : Int) < (l2.length : Int) := by omega
    clear hX hX2 hx hy sx1 sx2 sy1 sy2 ok ok2
    go_upto_region 7 with (fail)
    clear d0 d1 d2 d3 d4 d5 d6 d7 d8 f0 f1 f2 f3 f4 f5 f6 f7 f8
    generalize hW2 : (wr.alloc (.cells (eqArr x X1 j1 Y1 k1) 60)).alloc (.cells (eqArr y X2 j2 Y2 k2) 60) = w2 at *
    clear hW2
    have hsa := ba.size
    obtain ⟨d0, d1, d2, d3, d4, d5, d6, d7, d8⟩ := rn.eqn
    obtain ⟨f0, f1, f2, f3, f4, f5, f6, f7, f8⟩ := ru.eqn
    go_wp2_with fail
    refine (HC.out w2 ba).mono ?_
    rintro r w3 ⟨⟨bb, rfl, HB⟩, hb3⟩
    have hB3 := hbr.trans ((ba.trans (hb3.mono hsa)).mono hszr)
    have HBL := Lib.hid (HXY.out bb HB.out)
    cases bb
    · go_wp2_with fail
      go_ret
      exact ⟨⟨false, rfl, HBL.out⟩, hB3⟩
    · clear d0 d1 d2 d3 d4 d5 d6 d7 d8 f0 f1 f2 f3 f4 f5 f6 f7 f8
      go_wp2_with fail
      go_roundw
      case rel => exact ⟨k + 1, by omega, by go_num, hB3⟩
      case measure => first | (simp [intOf]; omega) | simp [intOf]
set_option maxRecDepth 100000 in
set_option maxHeartbeats 1000000 in
theorem nodec_any (x : Nd) (a1 : NdA) (y : Nd) (a2 : NdA) (w : World) (hx : NdAt w w.heap.size x a1) (hy : NdAt w w.heap.size y a2) :
    Calls Try.prog 114 #[.agg (ndArr x a1), .agg (ndArr y a2)] w fun r w' => (∃ b : Bool, r = .returned (.bool b) ∧ Hid (x = y → b = true)) ∧ Below w.heap.size w w' := by
  have hF := enters_of Try.func117 (by kernel_rfl) rfl
  have rn1 := (Row.new w (ndArr x a1) 40).alloc (.cells (ndArr y a2) 40)
  have ru1 := rowNew2 w (.cells (ndArr x a1) 40) (ndArr y a2) 40
  have b1 : Below w.heap.size w ((w.alloc (.cells (ndArr x a1) 40)).alloc (.cells (ndArr y a2) 40)) := (by repeat (first | (with_reducible assumption) | (with_reducible exact Below.refl _ _) | (with_reducible refine Below.drew ?_) | (with_reducible refine below_drewN' ?_ _) | (with_reducible refine Below.alloc ?_ (by first | assumption | omega | (simp; omega) | simp | (simp [World.setCell]; omega) | simp [World.setCell]) _) | (with_reducible refine Below.setCell ?_ (by first | assumption | omega | (simp; omega) | simp | (simp [World.setCell]; omega) | simp [World.setCell]) _)))
  have HX : Hid (∀ W, Below w.heap.size w W → NdAt W W.heap.size x a1) := fun W hW => (hx.below hW).more hW.size
  have HY : Hid (∀ W, Below w.heap.size w W → NdAt W W.heap.size y a2) := fun W hW => (hy.below hW).more hW.size
  clear hx hy
  go_enter Try.func114, Try.ntmps114
  go_upto_region 1 with (fail)
  generalize (w.alloc (.cells (ndArr x a1) 40)).alloc (.cells (ndArr y a2) 40) = w1 at *
  have hs1 := b1.size
  obtain ⟨d0, d1, d2, d3, d4, d5, d6⟩ := rn1.nd
  obtain ⟨f0, f1, f2, f3, f4, f5, f6⟩ := ru1.nd
  by_cases hn : x.name = y.name
  rotate_left 1
  · have e1 := beq_no hn
    have HE : Hid (x = y → false = true) := fun g => absurd (by rw [g]) hn
    clear hn
    go_wp2_with fail
    go_ret
    exact ⟨⟨false, rfl, HE⟩, b1⟩
  have e1 := beq_yes hn
  clear hn
  have HC1 := Lib.hid (varsb_any x.ins y.ins a1.ai a2.ai a1.ci a2.ci w1 (HX.out w1 b1).li (HX.out w1 b1).mi (HX.out w1 b1).si (HY.out w1 b1).mi (HY.out w1 b1).si)
  go_wp2_with fail
  refine HC1.out.mono ?_
  rintro r w2 ⟨⟨bb, rfl, HB⟩, hb⟩
  have HE1 : Hid (x = y → bb = true) := fun g => HB.out (by rw [g])
  have b2 := b1.trans (hb.mono hs1)
  have hs2 := b2.size
  have rn2 := rn1.below hb rn1.lt
  have ru2 := ru1.below hb ru1.lt
  clear HB HC1 d0 d1 d2 d3 d4 d5 d6 f0 f1 f2 f3 f4 f5 f6
  cases bb
  · go_wp2_with fail
    go_ret
    exact ⟨⟨_, rfl, HE1⟩, b2⟩
  obtain ⟨d0, d1, d2, d3, d4, d5, d6⟩ := rn2.nd
  obtain ⟨f0, f1, f2, f3, f4, f5, f6⟩ := ru2.nd
  have HC2 := Lib.hid (varsb_any x.outs y.outs a1.ao a2.ao a1.co a2.co w2 (HX.out w2 b2).lo (HX.out w2 b2).mo (HX.out w2 b2).so (HY.out w2 b2).mo (HY.out w2 b2).so)
  go_wp2_with fail
  refine HC2.out.mono ?_
  rintro r w3 ⟨⟨bb, rfl, HB⟩, hb⟩
  have HE2 : Hid (x = y → bb = true) := fun g => HB.out (by rw [g])
  have b3 := b2.trans (hb.mono hs2)
  have hs3 := b3.size
  have rn3 := rn2.below hb rn2.lt
  have ru3 := ru2.below hb ru2.lt
  clear HB HC2 d0 d1 d2 d3 d4 d5 d6 f0 f1 f2 f3 f4 f5 f6
  cases bb
  · go_wp2_with fail
    go_ret
    exact ⟨⟨_, rfl, HE2⟩, b3⟩
  obtain ⟨d0, d1, d2, d3, d4, d5, d6⟩ := rn3.nd
  obtain ⟨f0, f1, f2, f3, f4, f5, f6⟩ := ru3.nd
  have HC3 := Lib.hid (varsb_any x.vars y.vars a1.av a2.av a1.cv a2.cv w3 (HX.out w3 b3).lv (HX.out w3 b3).mv (HX.out w3 b3).sv (HY.out w3 b3).mv (HY.out w3 b3).sv)
  go_wp2_with fail
  refine HC3.out.mono ?_
  rintro r w4 ⟨⟨bb, rfl, HB⟩, hb⟩
  have HE3 : Hid (x = y → bb = true) := fun g => HB.out (by rw [g])
  have b4 := b3.trans (hb.mono hs3)
  have hs4 := b4.size
  have rn4 := rn3.below hb rn3.lt
  have ru4 := ru3.below hb ru3.lt
  clear HB HC3 d0 d1 d2 d3 d4 d5 d6 f0 f1 f2 f3 f4 f5 f6
  cases bb
  · go_wp2_with fail
    go_ret
    exact ⟨⟨_, rfl, HE3⟩, b4⟩
  obtain ⟨d0, d1, d2, d3, d4, d5, d6⟩ := rn4.nd
  obtain ⟨f0, f1, f2, f3, f4, f5, f6⟩ := ru4.nd
  have HC4 := Lib.hid (eqf_Eqn x.eqs y.eqs a1.aq a2.aq a1.cq a2.cq w4 (HX.out w4 b4).lq (HX.out w4 b4).mq (HX.out w4 b4).sq (HY.out w4 b4).mq (HY.out w4 b4).sq)
  go_wp2_with fail
  refine HC4.out.mono ?_
  rintro r w5 ⟨⟨bb, rfl, HB⟩, hb⟩
  have HE4 : Hid (x = y → bb = true) := fun g => HB.out (by rw [g])
  have b5 := b4.trans (hb.mono hs4)
  have hs5 := b5.size
  have rn5 := rn4.below hb rn4.lt
  have ru5 := ru4.below hb ru4.lt
  clear HB HC4 d0 d1 d2 d3 d4 d5 d6 f0 f1 f2 f3 f4 f5 f6
  cases bb
  all_goals
    go_wp2_with fail
    go_ret
    exact ⟨⟨_, rfl, by first | exact HE4 | exact fun _ => rfl⟩, b5⟩
set_option maxRecDepth 100000 in
set_option maxHeartbeats 1000000 in
theorem eqf_Node (l1 l2 : List Nd) (A1 A2 : Option Addr) (c1 c2 : Nat) (w : World) (g1 : l1.length ≤ c1) (m1 : c1 ≤ maxLen) (s1 : Nds w w.heap.size A1 l1) (m2 : c2 ≤ maxLen) (s2 : Nds w w.heap.size A2 l2) :
    Calls Try.prog 113 #[.slice A1 l1.length c1, .slice A2 l2.length c2, .func (.func 114) #[] #[]] w fun r w' => (∃ b : Bool, r = .returned (.bool b) ∧ Hid (l1 = l2 → b = true)) ∧ Below w.heap.size w w' := by
  have hF := enters_of Try.func114 (by kernel_rfl) rfl
  have H1 : Hid (∀ W, Below w.heap.size w W → Nds W w.heap.size A1 l1) := fun W hW => nds_keep s1 (keeps_of hW) (Nat.le_refl _)
  have H2 : Hid (∀ W, Below w.heap.size w W → Nds W w.heap.size A2 l2) := fun W hW => nds_keep s2 (keeps_of hW) (Nat.le_refl _)
  have m1' : c1 ≤ 9223372036854775807 := by unfold maxLen at m1; omega
  have m2' : c2 ≤ 9223372036854775807 := by unfold maxLen at m2; omega
  clear s1 s2
  by_cases hlen : l1.length = l2.length
  rotate_left 1
  · have e0 : ((l1.length : Int) != (l2.length : Int)) = true := neq_yes (by omega)
    have HE : Hid (l1 = l2 → false = true) := fun g => absurd (by rw [g]) hlen
    clear hlen
    go_enter Try.func113, Try.ntmps113
    go_wp2_with fail
    go_ret
    exact ⟨⟨false, rfl, HE⟩, Below.refl _ _⟩
  have e0 : ((l1.length : Int) != (l2.length : Int)) = false := neq_no (by omega)
  have HLEN := Lib.hid hlen
  clear hlen
  go_enter Try.func113, Try.ntmps113
  go_wp2_with fail
  go_loopw [17] (fun i wr => ∃ k : Nat, k ≤ l1.length ∧ i = .int .i64 k ∧ Below w.heap.size w wr) (fun i _ => l1.length - (intOf i).toNat)
  case atStart => exact ⟨0, Nat.zero_le _, rfl, Below.refl _ _⟩
  case round =>
    obtain ⟨k, hk, rfl, hbr⟩ := hrel
    have hszr := hbr.size
    by_cases hlt : k < l1.length
    rotate_left 1
    · obtain rfl : k = l1.length := by omega
      go_wp2_with fail
      go_ret
      exact ⟨⟨true, rfl, fun _ => rfl⟩, hbr⟩
    obtain ⟨b, off, x, a1, hX, hb, hx, hat, d0, d1, d2, d3, d4, d5, d6⟩ := (H1.out wr hbr).nd hlt
    have hlt2 : k < l2.length := by rw [← HLEN.out]; exact hlt
    obtain ⟨b2, off2, y, a2, hX2, hb2, hy, hat2, f0, f1, f2, f3, f4, f5, f6⟩ := (H2.out wr hbr).nd hlt2
    rw [hX, hX2]
    have rn := (Row.new wr (ndArr x a1) 40).alloc (.cells (ndArr y a2) 40)
    have ru := rowNew2 wr (.cells (ndArr x a1) 40) (ndArr y a2) 40
    have ba : Below wr.heap.size wr ((wr.alloc (.cells (ndArr x a1) 40)).alloc (.cells (ndArr y a2) 40)) := (by repeat (first | (with_reducible assumption) | (with_reducible exact Below.refl _ _) | (with_reducible refine Below.drew ?_) | (with_reducible refine below_drewN' ?_ _) | (with_reducible refine Below.alloc ?_ (by first | assumption | omega | (simp; omega) | simp | (simp [World.setCell]; omega) | simp [World.setCell]) _) | (with_reducible refine Below.setCell ?_ (by first | assumption | omega | (simp; omega) | simp | (simp [World.setCell]; omega) | simp [World.setCell]) _)))
    have HXY : Hid (∀ bb : Bool, (x = y → bb = true) → l1 = l2 → bb = true) := fun bb h g => h (Option.some.inj (by rw [← hx, ← hy, g]))
    have HC : Hid (∀ W2, Below wr.heap.size wr W2 → Calls Try.prog 114 #[.agg (ndArr x a1), .agg (ndArr y a2)] W2 fun r w' => (∃ b : Bool, r = .returned (.bool b) ∧ Hid (x = y → b = true)) ∧ Below W2.heap.size W2 w') := fun W2 hW => by
      have hWB : Below w.heap.size wr W2 := hW.mono hszr
      have hWs : w.heap.size ≤ W2.heap.size := Nat.le_trans hszr hW.size
      exact nodec_any x a1 y a2 W2 ((hat.below hWB).more hWs) ((hat2.below hWB).more hWs)
    have hb1' : b < wr.heap.size := by omega
    have hb2' : b2 < wr.heap.size := by omega
    have i0 : (0 : Int) ≤ (k : Int) := by omega
    have i1 : (k : Int) < (l2.length : Int) := by omega
    clear hX hX2 hx hy hat hat2
    go_upto_region 7 with (fail)
    clear d0 d1 d2 d3 d4 d5 d6 f0 f1 f2 f3 f4 f5 f6
    generalize hW2 : (wr.alloc (.cells (ndArr x a1) 40)).alloc (.cells (ndArr y a2) 40) = w2 at *
    clear hW2
    have hsa := ba.size
    obtain ⟨d0, d1, d2, d3, d4, d5, d6⟩ := rn.nd
    obtain ⟨f0, f1, f2, f3, f4, f5, f6⟩ := ru.nd
    go_wp2_with fail
    refine (HC.out w2 ba).mono ?_
    rintro r w3 ⟨⟨bb, rfl, HB⟩, hb3⟩
    have hB3 := hbr.trans ((ba.trans (hb3.mono hsa)).mono hszr)
    have HBL := Lib.hid (HXY.out bb HB.out)
    cases bb
    · go_wp2_with fail
      go_ret
      exact ⟨⟨false, rfl, HBL.out⟩, hB3⟩
    · clear d0 d1 d2 d3 d4 d5 d6 f0 f1 f2 f3 f4 f5 f6
      go_wp2_with fail
      go_roundw
      case rel => exact ⟨k + 1, by omega, by go_num, hB3⟩
      case measure => first | (simp [intOf]; omega) | simp [intOf]
set_option maxRecDepth 100000 in
set_option maxHeartbeats 1000000 in
theorem equalb_any (l1 l2 : List Nd) (n1 n2 : Nat) (A1 A2 : Option Addr) (c1 c2 : Nat) (w : World) (hn1 : l1.length = n1) (hn2 : l2.length = n2) (g1 : n1 ≤ c1) (m1 : c1 ≤ maxLen) (s1 : Nds w w.heap.size A1 l1) (m2 : c2 ≤ maxLen) (s2 : Nds w w.heap.size A2 l2) :
    Calls Try.prog 86 #[.agg #[.slice A1 n1 c1], .agg #[.slice A2 n2 c2]] w fun r w' => (∃ b : Bool, r = .returned (.bool b) ∧ Hid (l1 = l2 → b = true)) ∧ Below w.heap.size w w' := by
  subst hn1
  subst hn2
  have hF := enters_of Try.func114 (by kernel_rfl) rfl
  have ra1 := (Row.new w #[.slice A1 l1.length c1] 45).alloc (.cells #[.slice A2 l2.length c2] 45)
  have rb1 := rowNew2 w (.cells #[.slice A1 l1.length c1] 45) #[.slice A2 l2.length c2] 45
  have b1 : Below w.heap.size w ((w.alloc (.cells #[.slice A1 l1.length c1] 45)).alloc (.cells #[.slice A2 l2.length c2] 45)) := (by repeat (first | (with_reducible assumption) | (with_reducible exact Below.refl _ _) | (with_reducible refine Below.drew ?_) | (with_reducible refine below_drewN' ?_ _) | (with_reducible refine Below.alloc ?_ (by first | assumption | omega | (simp; omega) | simp | (simp [World.setCell]; omega) | simp [World.setCell]) _) | (with_reducible refine Below.setCell ?_ (by first | assumption | omega | (simp; omega) | simp | (simp [World.setCell]; omega) | simp [World.setCell]) _)))
  have HC := Lib.hid (eqf_Node l1 l2 A1 A2 c1 c2 _ g1 m1 (nds_keep s1 (keeps_of b1) b1.size) m2 (nds_keep s2 (keeps_of b1) b1.size))
  clear g1 m1 s1 m2 s2
  go_enter Try.func86, Try.ntmps86
  go_upto_region 1 with (fail)
  generalize (w.alloc (.cells #[.slice A1 l1.length c1] 45)).alloc (.cells #[.slice A2 l2.length c2] 45) = W1 at *
  have x0 := ra1.src
  have y0 := rb1.src
  go_wp2_with fail
  refine HC.out.mono ?_
  rintro r w2 ⟨⟨bb, rfl, HB⟩, hb2⟩
  have hB2 := b1.trans (hb2.mono b1.size)
  go_wp2_with fail
  go_ret
  exact ⟨⟨bb, rfl, HB⟩, hB2⟩
end Go.Proofs.Ytolabbnchmmckaa
