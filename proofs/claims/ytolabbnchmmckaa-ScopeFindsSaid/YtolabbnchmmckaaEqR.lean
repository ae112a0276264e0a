/-
  What is one with itself, wherever it lies: the contracts of tompionref12.Texts, sameVars, Same and Equal.
-/
import Derived.Test.YtolabbnchmmckaaScQ
namespace Go.Proofs.Ytolabbnchmmckaa
open Go.RowKit
attribute [local go_sem ↓] Go.wp_at_zero Go.wp_at_succ
theorem same_some {α : Type} {l : List α} {k : Nat} {x y : α} (h : l[k]? = some x) (h' : l[k]? = some y) : y = x := by rw [h] at h'; injection h' with h'; exact h'.symm
set_option maxRecDepth 100000 in
set_option maxHeartbeats 1000000 in
theorem texts_self (l : List ByteArray) (m : Nat) (A1 A2 : Option Addr) (c1 c2 : Nat) (w : World) (hm : l.length = m) (h1 : m ≤ c1) (m1 : c1 ≤ maxLen) (s1 : Sl w w.heap.size 1 isStr A1 l) (h2 : m ≤ c2) (m2 : c2 ≤ maxLen) (s2 : Sl w w.heap.size 1 isStr A2 l) :
    Calls Try.prog 73 #[.slice A1 m c1, .slice A2 m c2] w fun r w' => r = .returned (.bool true) ∧ ∃ n, w' = w.drewN n := by
  subst hm
  have H1 := Lib.hid s1
  have H2 := Lib.hid s2
  have m1' : c1 ≤ 9223372036854775807 := by unfold maxLen at m1; omega
  have m2' : c2 ≤ 9223372036854775807 := by unfold maxLen at m2; omega
  have e0 : ((l.length : Int) != (l.length : Int)) = false := neq_no rfl
  clear s1 s2
  go_enter Try.func73, Try.ntmps73
  go_wp2_with fail
  go_loopw [5] (fun i wr => ∃ k : Nat, k ≤ l.length ∧ i = .int .i64 k ∧ ∃ n, wr = w.drewN n) (fun i _ => l.length - (intOf i).toNat)
  case atStart => exact ⟨0, Nat.zero_le _, rfl, 0, rfl⟩
  case round =>
    obtain ⟨k, hk, rfl, nn, hwr⟩ := hrel
    by_cases hlt : k < l.length
    · have K1 : Sl wr w.heap.size 1 isStr A1 l := by rw [hwr]; exact H1.out
      have K2 : Sl wr w.heap.size 1 isStr A2 l := by rw [hwr]; exact H2.out
      obtain ⟨b, off, x, rfl, hb, hx, hsx, c0⟩ := K1.str hlt
      obtain ⟨b', off', y, rfl, hb', hy, hsy, d0⟩ := K2.str hlt
      obtain rfl := same_some hx hy
      have i0 : (0 : Int) ≤ (k : Int) := by omega
      have i1 : (k : Int) < (l.length : Int) := by omega
      have HW := Lib.hid hwr
      clear hx hy hwr K1 K2
      go_wp2_with fail
      go_quiet (fail)
      go_wp2_with fail
      go_roundw
      case rel => exact ⟨k + 1, by omega, by go_num, by rw [HW.out, World.drewN_drewN]; exact ⟨_, rfl⟩⟩
      case measure => first | (simp [intOf]; omega) | simp [intOf]
    · obtain rfl : k = l.length := by omega
      have HW := Lib.hid hwr
      clear hwr
      go_wp2_with fail
      go_ret
      exact ⟨rfl, nn, HW.out⟩
set_option maxRecDepth 100000 in
set_option maxHeartbeats 1000000 in
theorem svars_self (l : List Vr) (m : Nat) (A1 A2 : Option Addr) (c1 c2 : Nat) (w : World) (hm : l.length = m) (h1 : m ≤ c1) (m1 : c1 ≤ maxLen) (s1 : Vrs w w.heap.size A1 l) (h2 : m ≤ c2) (m2 : c2 ≤ maxLen) (s2 : Vrs w w.heap.size A2 l) :
    Calls Try.prog 72 #[.slice A1 m c1, .slice A2 m c2] w fun r w' => r = .returned (.bool true) ∧ Below w.heap.size w w' := by
  subst hm
  have H1 := Lib.hid s1
  have H2 := Lib.hid s2
  have m1' : c1 ≤ 9223372036854775807 := by unfold maxLen at m1; omega
  have m2' : c2 ≤ 9223372036854775807 := by unfold maxLen at m2; omega
  have e0 : ((l.length : Int) != (l.length : Int)) = false := neq_no rfl
  clear s1 s2
  go_enter Try.func72, Try.ntmps72
  go_wp2_with fail
  go_loopw [5] (fun i wr => ∃ k : Nat, k ≤ l.length ∧ i = .int .i64 k ∧ Below w.heap.size w wr) (fun i _ => l.length - (intOf i).toNat)
  case atStart => exact ⟨0, Nat.zero_le _, rfl, Below.refl _ _⟩
  case round =>
    obtain ⟨k, hk, rfl, hbr⟩ := hrel
    have hszr := hbr.size
    by_cases hlt : k < l.length
    · obtain ⟨b, off, x, A', cap', hA, hb, hx, ok, g1, g2, hxs, c0, cc1, cc2, c3, c4⟩ := (vrs_keep H1.out (keeps_of hbr) (Nat.le_refl _)).vr hlt
      obtain ⟨b', off', y, A3, cap3, hA', hb', hy, ok', g3, g4, hys, d0, d1, d2, d3, d4⟩ := (vrs_keep H2.out (keeps_of hbr) (Nat.le_refl _)).vr hlt
      obtain rfl := same_some hx hy
      subst hA
      subst hA'
      have HE : Hid (∀ W (nn : Nat), Below wr.heap.size wr W → Calls Try.prog 26 #[.slice A' y.clock.length cap', .slice A3 y.clock.length cap3] (W.drewN nn) fun e w' => e = .returned (.bool true) ∧ ∃ n, w' = (W.drewN nn).drewN n) := fun W nn hW => by
        have h := rlits_any y.clock y.clock A' A3 cap' cap3 w.heap.size (W.drewN nn) g1 g2 (lits_keep hxs (keeps_of (below_drewN' (hW.mono hszr) nn)) (Nat.le_refl _)) g3 g4 (lits_keep hys (keeps_of (below_drewN' (hW.mono hszr) nn)) (Nat.le_refl _))
        rw [cB_true rfl] at h
        exact h
      have i0 : (0 : Int) ≤ (k : Int) := by omega
      have i1 : (k : Int) < (l.length : Int) := by omega
      have t1 : (y.ty != y.ty) = false := neq_no rfl
      have n1 := beq_yes (rfl : y.name = y.name)
      clear hx hy ok ok' hxs hys
      have HK : Hid (∀ W, Below wr.heap.size wr W → (W.cell? ⟨b, off + k * 5, none⟩ = some (.string y.name) ∧ W.cell? ⟨b, off + k * 5 + 1, none⟩ = some (.int .i64 y.ty) ∧ W.cell? ⟨b, off + k * 5 + 2, none⟩ = some (.slice A' y.clock.length cap')) ∧ (W.cell? ⟨b', off' + k * 5, none⟩ = some (.string y.name) ∧ W.cell? ⟨b', off' + k * 5 + 1, none⟩ = some (.int .i64 y.ty) ∧ W.cell? ⟨b', off' + k * 5 + 2, none⟩ = some (.slice A3 y.clock.length cap3))) := fun W hW => ⟨⟨old_cell hW c0, old_cell hW cc1, old_cell hW cc2⟩, old_cell hW d0, old_cell hW d1, old_cell hW d2⟩
      go_upto_region 6 with (fail)
      go_cut [54] (fun v54 W => v54 = .bool false ∧ Below wr.heap.size wr W)
      case first =>
        go_region_held3 (fun W => (W.cell? ⟨b, off + k * 5, none⟩ = some (.string y.name) ∧ W.cell? ⟨b, off + k * 5 + 1, none⟩ = some (.int .i64 y.ty) ∧ W.cell? ⟨b, off + k * 5 + 2, none⟩ = some (.slice A' y.clock.length cap')) ∧ (W.cell? ⟨b', off' + k * 5, none⟩ = some (.string y.name) ∧ W.cell? ⟨b', off' + k * 5 + 1, none⟩ = some (.int .i64 y.ty) ∧ W.cell? ⟨b', off' + k * 5 + 2, none⟩ = some (.slice A3 y.clock.length cap3))) (first | (with_reducible exact HK.out _ (by repeat (first | (with_reducible assumption) | (with_reducible exact Below.refl _ _) | (with_reducible refine Below.drew ?_) | (with_reducible refine below_drewN' ?_ _) | (with_reducible refine Below.alloc ?_ (by first | assumption | omega | (simp; omega) | simp | (simp [World.setCell]; omega) | simp [World.setCell]) _) | (with_reducible refine Below.setCell ?_ (by first | assumption | omega | (simp; omega) | simp | (simp [World.setCell]; omega) | simp [World.setCell]) _)))) | go_keep)
          (first
            | ((go_at_call 26); (refine (by first | exact HE.out wr 0 (Below.refl _ _) | exact HE.out wr 1 (Below.refl _ _) : Calls _ _ _ _ _).mono ?_); rintro e w5 ⟨rfl, nn, rfl⟩))
        all_goals
          go_wp2_with fail
          go_meet
          exact ⟨rfl, (by repeat (first | (with_reducible assumption) | (with_reducible exact Below.refl _ _) | (with_reducible refine Below.drew ?_) | (with_reducible refine below_drewN' ?_ _) | (with_reducible refine Below.alloc ?_ (by first | assumption | omega | (simp; omega) | simp | (simp [World.setCell]; omega) | simp [World.setCell]) _) | (with_reducible refine Below.setCell ?_ (by first | assumption | omega | (simp; omega) | simp | (simp [World.setCell]; omega) | simp [World.setCell]) _)))⟩
      case rest =>
        obtain ⟨rfl, hbc⟩ := hcut
        go_wp2_with fail
        go_roundw
        case rel => exact ⟨k + 1, by omega, by go_num, hbr.trans (hbc.mono hszr)⟩
        case measure => first | (simp [intOf]; omega) | simp [intOf]
    · obtain rfl : k = l.length := by omega
      go_wp2_with fail
      go_ret
      exact ⟨rfl, hbr⟩
set_option maxRecDepth 100000 in
set_option maxHeartbeats 1000000 in
theorem same_self (e : Ex) : ∀ (A1 A2 : Option Addr) (c1 c2 : Nat) (w : World), e.args.length ≤ c1 → c1 ≤ maxLen → IsExs w w.heap.size A1 e.args → e.args.length ≤ c2 → c2 ≤ maxLen → IsExs w w.heap.size A2 e.args →
    Calls Try.prog 74 #[exV e A1 c1, exV e A2 c2] w fun r w' => r = .returned (.bool true) ∧ Below w.heap.size w w' := by
  induction e using Ex.ind with
  | h e ih =>
    intro A1 A2 c1 c2 w h1 m1 s1 h2 m2 s2
    have HI := Lib.hid ih
    have ra1 := (Row.new w (exA e A1 c1) 26).alloc (.cells (exA e A2 c2) 26)
    have rb1 := rowNew2 w (.cells (exA e A1 c1) 26) (exA e A2 c2) 26
    have b1 : Below w.heap.size w ((w.alloc (.cells (exA e A1 c1) 26)).alloc (.cells (exA e A2 c2) 26)) := (by repeat (first | (with_reducible assumption) | (with_reducible exact Below.refl _ _) | (with_reducible refine Below.drew ?_) | (with_reducible refine below_drewN' ?_ _) | (with_reducible refine Below.alloc ?_ (by first | assumption | omega | (simp; omega) | simp | (simp [World.setCell]; omega) | simp [World.setCell]) _) | (with_reducible refine Below.setCell ?_ (by first | assumption | omega | (simp; omega) | simp | (simp [World.setCell]; omega) | simp [World.setCell]) _)))
    have H1 : Hid (∀ W, Below w.heap.size w W → IsExs W w.heap.size A1 e.args) := fun W hW => exs_keep s1 (keeps_of hW) (Nat.le_refl _)
    have H2 : Hid (∀ W, Below w.heap.size w W → IsExs W w.heap.size A2 e.args) := fun W hW => exs_keep s2 (keeps_of hW) (Nat.le_refl _)
    have m1' : c1 ≤ 9223372036854775807 := by unfold maxLen at m1; omega
    have m2' : c2 ≤ 9223372036854775807 := by unfold maxLen at m2; omega
    have e0 : ((e.args.length : Int) != (e.args.length : Int)) = false := neq_no rfl
    have e1 : (e.op != e.op) = false := neq_no rfl
    have e2 : (e.n != e.n) = false := neq_no rfl
    have e3 := beq_yes (rfl : e.name = e.name)
    clear s1 s2 ih
    go_enter Try.func74, Try.ntmps74
    go_upto_region 1 with (fail)
    generalize (w.alloc (.cells (exA e A1 c1) 26)).alloc (.cells (exA e A2 c2) 26) = W1 at *
    have hs1 := b1.size
    obtain ⟨x0, x1, x2, x3, x4, x5⟩ := ra1.ex6
    obtain ⟨y0, y1, y2, y3, y4, y5⟩ := rb1.ex6
    go_wp2_with fail
    clear x0 x1 x2 x3 x4 x5 y0 y1 y2 y3 y4 y5
    go_loopw [5] (fun i wr => ∃ k : Nat, k ≤ e.args.length ∧ i = .int .i64 k ∧ Below W1.heap.size W1 wr) (fun i _ => e.args.length - (intOf i).toNat)
    case atStart => exact ⟨0, Nat.zero_le _, rfl, Below.refl _ _⟩
    case round =>
      obtain ⟨k, hk, rfl, hbr⟩ := hrel
      have hszr := hbr.size
      have ra := ra1.below hbr ra1.lt
      have rb := rb1.below hbr rb1.lt
      have hB := b1.trans (hbr.mono hs1)
      have hsB := hB.size
      obtain ⟨x0, x1, x2, x3, x4, x5⟩ := ra.ex6
      obtain ⟨y0, y1, y2, y3, y4, y5⟩ := rb.ex6
      by_cases hlt : k < e.args.length
      · obtain ⟨b, off, x, A', cap', hA, hb, hxk, hxm, hok', hcap', hmax', hx', d0, d1, d2, d3, d4, d5⟩ := (H1.out wr hB).at_ hlt
        obtain ⟨b2, off2, y, A3, cap3, hA2, hb2, hyk, hym, hok3, hcap3, hmax3, hy', f0, f1, f2, f3, f4, f5⟩ := (H2.out wr hB).at_ hlt
        obtain rfl := same_some hxk hyk
        subst hA
        subst hA2
        have HC : Hid (∀ W, Below wr.heap.size wr W → Calls Try.prog 74 #[exV y A' cap', exV y A3 cap3] W fun r w' => r = .returned (.bool true) ∧ Below W.heap.size W w') := fun W hW => by
          have hWB := hB.trans (hW.mono hsB)
          exact HI.out y hym A' A3 cap' cap3 W hcap' hmax' (exs_keep hx' (keeps_of (hW.mono hsB)) hWB.size) hcap3 hmax3 (exs_keep hy' (keeps_of (hW.mono hsB)) hWB.size)
        have i0 : (0 : Int) ≤ (k : Int) := by omega
        have i1 : (k : Int) < (e.args.length : Int) := by omega
        clear hxk hyk hxm hym hok' hok3 hx' hy'
        go_upto_region 6 with (fail)
        have HK : Hid (∀ W, Below wr.heap.size wr W → W.cell? ⟨w.heap.size, 3, none⟩ = some (.slice (some ⟨b, off, none⟩) e.args.length c1) ∧ W.cell? ⟨w.heap.size + 1, 3, none⟩ = some (.slice (some ⟨b2, off2, none⟩) e.args.length c2) ∧ (W.cell? ⟨b, off + k * 6, none⟩ = some (.int .i64 y.op) ∧ W.cell? ⟨b, off + k * 6 + 1, none⟩ = some (.string y.name) ∧ W.cell? ⟨b, off + k * 6 + 2, none⟩ = some (.int .i64 y.n) ∧ W.cell? ⟨b, off + k * 6 + 3, none⟩ = some (.slice A' y.args.length cap') ∧ W.cell? ⟨b, off + k * 6 + 4, none⟩ = some (.int .i64 y.line) ∧ W.cell? ⟨b, off + k * 6 + 5, none⟩ = some (.int .i64 y.col)) ∧ (W.cell? ⟨b2, off2 + k * 6, none⟩ = some (.int .i64 y.op) ∧ W.cell? ⟨b2, off2 + k * 6 + 1, none⟩ = some (.string y.name) ∧ W.cell? ⟨b2, off2 + k * 6 + 2, none⟩ = some (.int .i64 y.n) ∧ W.cell? ⟨b2, off2 + k * 6 + 3, none⟩ = some (.slice A3 y.args.length cap3) ∧ W.cell? ⟨b2, off2 + k * 6 + 4, none⟩ = some (.int .i64 y.line) ∧ W.cell? ⟨b2, off2 + k * 6 + 5, none⟩ = some (.int .i64 y.col))) := fun W hW => ⟨old_cell hW x3, old_cell hW y3, ⟨old_cell hW d0, old_cell hW d1, old_cell hW d2, old_cell hW d3, old_cell hW d4, old_cell hW d5⟩, old_cell hW f0, old_cell hW f1, old_cell hW f2, old_cell hW f3, old_cell hW f4, old_cell hW f5⟩
        go_cut [52] (fun v52 W => v52 = .bool false ∧ Below wr.heap.size wr W)
        case first =>
          go_region_held3 (fun W => W.cell? ⟨w.heap.size, 3, none⟩ = some (.slice (some ⟨b, off, none⟩) e.args.length c1) ∧ W.cell? ⟨w.heap.size + 1, 3, none⟩ = some (.slice (some ⟨b2, off2, none⟩) e.args.length c2) ∧ (W.cell? ⟨b, off + k * 6, none⟩ = some (.int .i64 y.op) ∧ W.cell? ⟨b, off + k * 6 + 1, none⟩ = some (.string y.name) ∧ W.cell? ⟨b, off + k * 6 + 2, none⟩ = some (.int .i64 y.n) ∧ W.cell? ⟨b, off + k * 6 + 3, none⟩ = some (.slice A' y.args.length cap') ∧ W.cell? ⟨b, off + k * 6 + 4, none⟩ = some (.int .i64 y.line) ∧ W.cell? ⟨b, off + k * 6 + 5, none⟩ = some (.int .i64 y.col)) ∧ (W.cell? ⟨b2, off2 + k * 6, none⟩ = some (.int .i64 y.op) ∧ W.cell? ⟨b2, off2 + k * 6 + 1, none⟩ = some (.string y.name) ∧ W.cell? ⟨b2, off2 + k * 6 + 2, none⟩ = some (.int .i64 y.n) ∧ W.cell? ⟨b2, off2 + k * 6 + 3, none⟩ = some (.slice A3 y.args.length cap3) ∧ W.cell? ⟨b2, off2 + k * 6 + 4, none⟩ = some (.int .i64 y.line) ∧ W.cell? ⟨b2, off2 + k * 6 + 5, none⟩ = some (.int .i64 y.col))) (first | (with_reducible exact HK.out _ (by repeat (first | (with_reducible assumption) | (with_reducible exact Below.refl _ _) | (with_reducible refine Below.drew ?_) | (with_reducible refine below_drewN' ?_ _) | (with_reducible refine Below.alloc ?_ (by first | assumption | omega | (simp; omega) | simp | (simp [World.setCell]; omega) | simp [World.setCell]) _) | (with_reducible refine Below.setCell ?_ (by first | assumption | omega | (simp; omega) | simp | (simp [World.setCell]; omega) | simp [World.setCell]) _)))) | go_keep)
            (first | ((go_at_call 74); (refine (HC.out _ (by repeat (first | (with_reducible assumption) | (with_reducible exact Below.refl _ _) | (with_reducible refine Below.drew ?_) | (with_reducible refine below_drewN' ?_ _) | (with_reducible refine Below.alloc ?_ (by first | assumption | omega | (simp; omega) | simp | (simp [World.setCell]; omega) | simp [World.setCell]) _) | (with_reducible refine Below.setCell ?_ (by first | assumption | omega | (simp; omega) | simp | (simp [World.setCell]; omega) | simp [World.setCell]) _)))).mono ?_); rintro e w3 ⟨rfl, hb3⟩; (have hb4 : Below wr.heap.size wr w3 := Below.trans (by repeat (first | (with_reducible assumption) | (with_reducible exact Below.refl _ _) | (with_reducible refine Below.drew ?_) | (with_reducible refine below_drewN' ?_ _) | (with_reducible refine Below.alloc ?_ (by first | assumption | omega | (simp; omega) | simp | (simp [World.setCell]; omega) | simp [World.setCell]) _) | (with_reducible refine Below.setCell ?_ (by first | assumption | omega | (simp; omega) | simp | (simp [World.setCell]; omega) | simp [World.setCell]) _))) (hb3.mono (by first | exact Nat.le_refl _ | simp | (simp; omega) | omega))); (have hs4 := hb4.size)))
          all_goals
            go_wp2_with fail
            go_meet
            exact ⟨by first | rfl | simp, (by repeat (first | (with_reducible assumption) | (with_reducible exact Below.refl _ _) | (with_reducible refine Below.drew ?_) | (with_reducible refine below_drewN' ?_ _) | (with_reducible refine Below.alloc ?_ (by first | assumption | omega | (simp; omega) | simp | (simp [World.setCell]; omega) | simp [World.setCell]) _) | (with_reducible refine Below.setCell ?_ (by first | assumption | omega | (simp; omega) | simp | (simp [World.setCell]; omega) | simp [World.setCell]) _)))⟩
        case rest =>
          obtain ⟨rfl, hbc⟩ := hcut
          go_wp2_with fail
          go_roundw
          case rel => exact ⟨k + 1, by omega, by go_num, hbr.trans (hbc.mono hszr)⟩
          case measure => first | (simp [intOf]; omega) | simp [intOf]
      · obtain rfl : k = e.args.length := by omega
        go_wp2_with fail
        go_ret
        exact ⟨rfl, hB⟩
end Go.Proofs.Ytolabbnchmmckaa
