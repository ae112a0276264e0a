/-
  A source is one with itself, wherever it lies: the contract of tompionref12.Equal.
-/
import Derived.Test.YtolabbnchmmckaaEqR
namespace Go.Proofs.Ytolabbnchmmckaa
open Go.RowKit
attribute [local go_sem ↓] Go.wp_at_zero Go.wp_at_succ
set_option maxRecDepth 100000 in
set_option maxHeartbeats 1000000 in
theorem requal_self (l : List Nd) (m : Nat) (A1 A2 : Option Addr) (c1 c2 : Nat) (w : World) (hm : l.length = m) (h1 : m ≤ c1) (m1 : c1 ≤ maxLen) (s1 : Nds w w.heap.size A1 l) (h2 : m ≤ c2) (m2 : c2 ≤ maxLen) (s2 : Nds w w.heap.size A2 l) :
    Calls Try.prog 37 #[.agg #[.slice A1 m c1], .agg #[.slice A2 m c2]] w fun r w' => r = .returned (.bool true) ∧ Below w.heap.size w w' := by
  subst hm
  have ra1 := (Row.new w #[.slice A1 l.length c1] 45).alloc (.cells #[.slice A2 l.length c2] 45)
  have rb1 := rowNew2 w (.cells #[.slice A1 l.length c1] 45) #[.slice A2 l.length c2] 45
  have b1 : Below w.heap.size w ((w.alloc (.cells #[.slice A1 l.length c1] 45)).alloc (.cells #[.slice A2 l.length c2] 45)) := (by repeat (first | (with_reducible assumption) | (with_reducible exact Below.refl _ _) | (with_reducible refine Below.drew ?_) | (with_reducible refine below_drewN' ?_ _) | (with_reducible refine Below.alloc ?_ (by first | assumption | omega | (simp; omega) | simp | (simp [World.setCell]; omega) | simp [World.setCell]) _) | (with_reducible refine Below.setCell ?_ (by first | assumption | omega | (simp; omega) | simp | (simp [World.setCell]; omega) | simp [World.setCell]) _)))
  have H1 : Hid (∀ W, Below w.heap.size w W → Nds W w.heap.size A1 l) := fun W hW => nds_keep s1 (keeps_of hW) (Nat.le_refl _)
  have H2 : Hid (∀ W, Below w.heap.size w W → Nds W w.heap.size A2 l) := fun W hW => nds_keep s2 (keeps_of hW) (Nat.le_refl _)
  have m1' : c1 ≤ 9223372036854775807 := by unfold maxLen at m1; omega
  have m2' : c2 ≤ 9223372036854775807 := by unfold maxLen at m2; omega
  have e0 : ((l.length : Int) != (l.length : Int)) = false := neq_no rfl
  clear s1 s2
  go_enter Try.func37, Try.ntmps37
  go_upto_region 1 with (fail)
  generalize (w.alloc (.cells #[.slice A1 l.length c1] 45)).alloc (.cells #[.slice A2 l.length c2] 45) = W1 at *
  have hs1 := b1.size
  have x0 := ra1.src
  have y0 := rb1.src
  go_wp2_with fail
  clear x0 y0
  go_loopw [5] (fun i wr => ∃ k : Nat, k ≤ l.length ∧ i = .int .i64 k ∧ Below W1.heap.size W1 wr) (fun i _ => l.length - (intOf i).toNat)
  case atStart => exact ⟨0, Nat.zero_le _, rfl, Below.refl _ _⟩
  case round =>
    obtain ⟨k, hk, rfl, hbr⟩ := hrel
    have hszr := hbr.size
    have ra := ra1.below hbr ra1.lt
    have rb := rb1.below hbr rb1.lt
    have hB := b1.trans (hbr.mono hs1)
    have hsB := hB.size
    have x0 := ra.src
    have y0 := rb.src
    by_cases hlt : k < l.length
    · obtain ⟨b, off, n, a, hA, hb, hn, hat, d0, d1, d2, d3, d4, d5, d6⟩ := (H1.out wr hB).nd hlt
      obtain ⟨b2, off2, n', a', hA2, hb2, hn', hat', f0, f1, f2, f3, f4, f5, f6⟩ := (H2.out wr hB).nd hlt
      obtain rfl := same_some hn hn'
      subst hA
      subst hA2
      have HAT : Hid (∀ W, Below wr.heap.size wr W → NdAt W W.heap.size n' a) := fun W hW => (hat.below (hW.mono hsB)).more (Nat.le_trans hsB hW.size)
      have HAU : Hid (∀ W, Below wr.heap.size wr W → NdAt W W.heap.size n' a') := fun W hW => (hat'.below (hW.mono hsB)).more (Nat.le_trans hsB hW.size)
      have gq := hat.mq
      have gq2 := hat'.mq
      have lq := hat.lq
      have lq2 := hat'.lq
      have gq' : a.cq ≤ 9223372036854775807 := by unfold maxLen at gq; omega
      have gq2' : a'.cq ≤ 9223372036854775807 := by unfold maxLen at gq2; omega
      have rn := (Row.new wr (ndArr n' a) 40).alloc (.cells (ndArr n' a') 40)
      have ru := rowNew2 wr (.cells (ndArr n' a) 40) (ndArr n' a') 40
      have ba : Below wr.heap.size wr ((wr.alloc (.cells (ndArr n' a) 40)).alloc (.cells (ndArr n' a') 40)) := (by repeat (first | (with_reducible assumption) | (with_reducible exact Below.refl _ _) | (with_reducible refine Below.drew ?_) | (with_reducible refine below_drewN' ?_ _) | (with_reducible refine Below.alloc ?_ (by first | assumption | omega | (simp; omega) | simp | (simp [World.setCell]; omega) | simp [World.setCell]) _) | (with_reducible refine Below.setCell ?_ (by first | assumption | omega | (simp; omega) | simp | (simp [World.setCell]; omega) | simp [World.setCell]) _)))
      clear hn hn' hat hat'
      have hla := ra.lt
      have hlb := rb.lt
      have hb1' : b < wr.heap.size := by omega
      have hb2' : b2 < wr.heap.size := by omega
      go_upto_region 8 with (fail)
      clear d0 d1 d2 d3 d4 d5 d6 f0 f1 f2 f3 f4 f5 f6 x0 y0
      generalize hW2 : (wr.alloc (.cells (ndArr n' a) 40)).alloc (.cells (ndArr n' a') 40) = w2 at *
      clear hW2
      have hsa := ba.size
      have q0 : ((n'.eqs.length : Int) != (n'.eqs.length : Int)) = false := neq_no rfl
      have q1 := beq_yes (rfl : n'.name = n'.name)
      obtain ⟨d0, d1, d2, d3, d4, d5, d6⟩ := rn.nd
      obtain ⟨f0, f1, f2, f3, f4, f5, f6⟩ := ru.nd
      have K2 := HAT.out w2 ba
      have L2 := HAU.out w2 ba
      have HSI := Lib.hid (svars_self n'.ins n'.ins.length a.ai a'.ai a.ci a'.ci w2 rfl K2.li K2.mi K2.si L2.li L2.mi L2.si)
      clear K2 L2
      go_wp2_with fail
      refine HSI.out.mono ?_
      rintro r w3 ⟨rfl, hb3⟩
      have rn3 := rn.below hb3 rn.lt
      have ru3 := ru.below hb3 ru.lt
      have b03 := ba.trans (hb3.mono hsa)
      clear d0 d1 d2 d3 d4 d5 d6 f0 f1 f2 f3 f4 f5 f6
      obtain ⟨d0, d1, d2, d3, d4, d5, d6⟩ := rn3.nd
      obtain ⟨f0, f1, f2, f3, f4, f5, f6⟩ := ru3.nd
      have K2 := HAT.out w3 b03
      have L2 := HAU.out w3 b03
      have HSO := Lib.hid (svars_self n'.outs n'.outs.length a.ao a'.ao a.co a'.co w3 rfl K2.lo K2.mo K2.so L2.lo L2.mo L2.so)
      clear K2 L2
      go_wp2_with fail
      refine HSO.out.mono ?_
      rintro r w4 ⟨rfl, hb4⟩
      have rn4 := rn3.below hb4 rn3.lt
      have ru4 := ru3.below hb4 ru3.lt
      have b04 := b03.trans (hb4.mono b03.size)
      clear d0 d1 d2 d3 d4 d5 d6 f0 f1 f2 f3 f4 f5 f6
      obtain ⟨d0, d1, d2, d3, d4, d5, d6⟩ := rn4.nd
      obtain ⟨f0, f1, f2, f3, f4, f5, f6⟩ := ru4.nd
      have K2 := HAT.out w4 b04
      have L2 := HAU.out w4 b04
      have HSV := Lib.hid (svars_self n'.vars n'.vars.length a.av a'.av a.cv a'.cv w4 rfl K2.lv K2.mv K2.sv L2.lv L2.mv L2.sv)
      clear K2 L2
      go_wp2_with fail
      refine HSV.out.mono ?_
      rintro r w5 ⟨rfl, hb5⟩
      have rn5 := rn4.below hb5 rn4.lt
      have ru5 := ru4.below hb5 ru4.lt
      have b05 := b04.trans (hb5.mono b04.size)
      have hs05 := b05.size
      clear d0 d1 d2 d3 d4 d5 d6 f0 f1 f2 f3 f4 f5 f6
      obtain ⟨d0, d1, d2, d3, d4, d5, d6⟩ := rn5.nd
      obtain ⟨f0, f1, f2, f3, f4, f5, f6⟩ := ru5.nd
      clear HSI HSO HSV hb3 hb4 hb5 rn3 ru3 rn4 ru4 b03 b04 rn ru
      obtain ⟨wo, rfl⟩ : ∃ wo : World, wo = wr := ⟨_, rfl⟩
      go_wp2_with fail
      clear d0 d1 d2 d3 d4 d5 d6 f0 f1 f2 f3 f4 f5 f6
      go_loopw [8] (fun i wr => ∃ p : Nat, p ≤ n'.eqs.length ∧ i = .int .i64 p ∧ Below w5.heap.size w5 wr) (fun i _ => n'.eqs.length - (intOf i).toNat)
      case atStart => exact ⟨0, Nat.zero_le _, rfl, Below.refl _ _⟩
      case round =>
        obtain ⟨p, hp, rfl, hbq⟩ := hrel
        have hszq := hbq.size
        have rn6 := rn5.below hbq rn5.lt
        have ru6 := ru5.below hbq ru5.lt
        have b06 := b05.trans (hbq.mono hs05)
        have hs06 := b06.size
        obtain ⟨d0, d1, d2, d3, d4, d5, d6⟩ := rn6.nd
        obtain ⟨f0, f1, f2, f3, f4, f5, f6⟩ := ru6.nd
        by_cases hlp : p < n'.eqs.length
        · obtain ⟨b3, off3, q, X1, j1, X2, j2, hX, hb3, hq, ok, lx1, mx1, sx1, lx2, mx2, sx2, x0, x1, x2, x3, x4, x5, x6, x7, x8⟩ := (HAT.out wr b06).sq.eqn hlp
          obtain ⟨b4, off4, q', Y1, i1, Y2, i2, hY, hb4, hq', ok', ly1, my1, sy1, ly2, my2, sy2, y0, y1, y2, y3, y4, y5, y6, y7, y8⟩ := (HAU.out wr b06).sq.eqn hlp
          obtain rfl := same_some hq hq'
          rw [hX] at d4
          rw [hY] at f4
          have HT : Hid (∀ W (nn : Nat), Below wr.heap.size wr W → Calls Try.prog 73 #[.slice X1 q'.left.length j1, .slice Y1 q'.left.length i1] (W.drewN nn) fun r w' => r = .returned (.bool true) ∧ ∃ n, w' = (W.drewN nn).drewN n) := fun W nn hW =>
            texts_self q'.left q'.left.length X1 Y1 j1 i1 (W.drewN nn) rfl lx1 mx1 (strs_keep sx1 (keeps_of (below_drewN' hW nn)) hW.size) ly1 my1 (strs_keep sy1 (keeps_of (below_drewN' hW nn)) hW.size)
          have HSm : Hid (∀ W, Below wr.heap.size wr W → Calls Try.prog 74 #[exV q'.right X2 j2, exV q'.right Y2 i2] W fun r w' => r = .returned (.bool true) ∧ Below W.heap.size W w') := fun W hW =>
            same_self q'.right X2 Y2 j2 i2 W lx2 mx2 (exs_keep sx2 (keeps_of hW) hW.size) ly2 my2 (exs_keep sy2 (keeps_of hW) hW.size)
          have z0 : (0 : Int) ≤ (p : Int) := by omega
          have z1 : (p : Int) < (n'.eqs.length : Int) := by omega
          clear hX hY hq hq' ok ok' sx1 sx2 sy1 sy2
          have HK : Hid (∀ W, Below wr.heap.size wr W → W.cell? ⟨wo.heap.size, 4, none⟩ = some (.slice (some ⟨b3, off3, none⟩) n'.eqs.length a.cq) ∧ W.cell? ⟨wo.heap.size + 1, 4, none⟩ = some (.slice (some ⟨b4, off4, none⟩) n'.eqs.length a'.cq) ∧ (W.cell? ⟨b3, off3 + p * 9, none⟩ = some (.slice X1 q'.left.length j1) ∧ W.cell? ⟨b3, off3 + p * 9 + 1, none⟩ = some (.int .i64 q'.right.op) ∧ W.cell? ⟨b3, off3 + p * 9 + 2, none⟩ = some (.string q'.right.name) ∧ W.cell? ⟨b3, off3 + p * 9 + 3, none⟩ = some (.int .i64 q'.right.n) ∧ W.cell? ⟨b3, off3 + p * 9 + 4, none⟩ = some (.slice X2 q'.right.args.length j2) ∧ W.cell? ⟨b3, off3 + p * 9 + 5, none⟩ = some (.int .i64 q'.right.line) ∧ W.cell? ⟨b3, off3 + p * 9 + 6, none⟩ = some (.int .i64 q'.right.col)) ∧ (W.cell? ⟨b4, off4 + p * 9, none⟩ = some (.slice Y1 q'.left.length i1) ∧ W.cell? ⟨b4, off4 + p * 9 + 1, none⟩ = some (.int .i64 q'.right.op) ∧ W.cell? ⟨b4, off4 + p * 9 + 2, none⟩ = some (.string q'.right.name) ∧ W.cell? ⟨b4, off4 + p * 9 + 3, none⟩ = some (.int .i64 q'.right.n) ∧ W.cell? ⟨b4, off4 + p * 9 + 4, none⟩ = some (.slice Y2 q'.right.args.length i2) ∧ W.cell? ⟨b4, off4 + p * 9 + 5, none⟩ = some (.int .i64 q'.right.line) ∧ W.cell? ⟨b4, off4 + p * 9 + 6, none⟩ = some (.int .i64 q'.right.col))) := fun W hW => ⟨old_cell hW d4, old_cell hW f4, ⟨old_cell hW x0, old_cell hW x1, old_cell hW x2, old_cell hW x3, old_cell hW x4, old_cell hW x5, old_cell hW x6⟩, old_cell hW y0, old_cell hW y1, old_cell hW y2, old_cell hW y3, old_cell hW y4, old_cell hW y5, old_cell hW y6⟩
          have hbw := Below.refl wr.heap.size wr
          go_upto_region 13 with (fail)
          go_cut [107] (fun v107 W => v107 = .bool false ∧ Below wr.heap.size wr W)
          case first =>
            go_region_held3 (fun W => W.cell? ⟨wo.heap.size, 4, none⟩ = some (.slice (some ⟨b3, off3, none⟩) n'.eqs.length a.cq) ∧ W.cell? ⟨wo.heap.size + 1, 4, none⟩ = some (.slice (some ⟨b4, off4, none⟩) n'.eqs.length a'.cq) ∧ (W.cell? ⟨b3, off3 + p * 9, none⟩ = some (.slice X1 q'.left.length j1) ∧ W.cell? ⟨b3, off3 + p * 9 + 1, none⟩ = some (.int .i64 q'.right.op) ∧ W.cell? ⟨b3, off3 + p * 9 + 2, none⟩ = some (.string q'.right.name) ∧ W.cell? ⟨b3, off3 + p * 9 + 3, none⟩ = some (.int .i64 q'.right.n) ∧ W.cell? ⟨b3, off3 + p * 9 + 4, none⟩ = some (.slice X2 q'.right.args.length j2) ∧ W.cell? ⟨b3, off3 + p * 9 + 5, none⟩ = some (.int .i64 q'.right.line) ∧ W.cell? ⟨b3, off3 + p * 9 + 6, none⟩ = some (.int .i64 q'.right.col)) ∧ (W.cell? ⟨b4, off4 + p * 9, none⟩ = some (.slice Y1 q'.left.length i1) ∧ W.cell? ⟨b4, off4 + p * 9 + 1, none⟩ = some (.int .i64 q'.right.op) ∧ W.cell? ⟨b4, off4 + p * 9 + 2, none⟩ = some (.string q'.right.name) ∧ W.cell? ⟨b4, off4 + p * 9 + 3, none⟩ = some (.int .i64 q'.right.n) ∧ W.cell? ⟨b4, off4 + p * 9 + 4, none⟩ = some (.slice Y2 q'.right.args.length i2) ∧ W.cell? ⟨b4, off4 + p * 9 + 5, none⟩ = some (.int .i64 q'.right.line) ∧ W.cell? ⟨b4, off4 + p * 9 + 6, none⟩ = some (.int .i64 q'.right.col))) (first | (with_reducible exact HK.out _ (by repeat (first | (with_reducible assumption) | (with_reducible exact Below.refl _ _) | (with_reducible refine Below.drew ?_) | (with_reducible refine below_drewN' ?_ _) | (with_reducible refine Below.alloc ?_ (by first | assumption | omega | (simp; omega) | simp | (simp [World.setCell]; omega) | simp [World.setCell]) _) | (with_reducible refine Below.setCell ?_ (by first | assumption | omega | (simp; omega) | simp | (simp [World.setCell]; omega) | simp [World.setCell]) _)))) | go_keep)
              (first
                | ((go_at_call 73); (refine (by first | exact HT.out _ 0 hbw | exact HT.out _ 1 hbw : Calls _ _ _ _ _).mono ?_); rintro e w7 ⟨rfl, nn, rfl⟩)
                | ((go_at_call 74); (refine (HSm.out _ (by repeat (first | (with_reducible assumption) | (with_reducible exact Below.refl _ _) | (with_reducible refine Below.drew ?_) | (with_reducible refine below_drewN' ?_ _) | (with_reducible refine Below.alloc ?_ (by first | assumption | omega | (simp; omega) | simp | (simp [World.setCell]; omega) | simp [World.setCell]) _) | (with_reducible refine Below.setCell ?_ (by first | assumption | omega | (simp; omega) | simp | (simp [World.setCell]; omega) | simp [World.setCell]) _)))).mono ?_); rintro e w8 ⟨rfl, hb8⟩; (have hb9 : Below wr.heap.size wr w8 := Below.trans (by repeat (first | (with_reducible assumption) | (with_reducible exact Below.refl _ _) | (with_reducible refine Below.drew ?_) | (with_reducible refine below_drewN' ?_ _) | (with_reducible refine Below.alloc ?_ (by first | assumption | omega | (simp; omega) | simp | (simp [World.setCell]; omega) | simp [World.setCell]) _) | (with_reducible refine Below.setCell ?_ (by first | assumption | omega | (simp; omega) | simp | (simp [World.setCell]; omega) | simp [World.setCell]) _))) (hb8.mono (by first | exact Nat.le_refl _ | simp | (simp; omega) | omega))); clear hb8))
            all_goals
              go_wp2_with fail
              go_meet
              exact ⟨rfl, (by repeat (first | (with_reducible assumption) | (with_reducible exact Below.refl _ _) | (with_reducible refine Below.drew ?_) | (with_reducible refine below_drewN' ?_ _) | (with_reducible refine Below.alloc ?_ (by first | assumption | omega | (simp; omega) | simp | (simp [World.setCell]; omega) | simp [World.setCell]) _) | (with_reducible refine Below.setCell ?_ (by first | assumption | omega | (simp; omega) | simp | (simp [World.setCell]; omega) | simp [World.setCell]) _)))⟩
          case rest =>
            obtain ⟨rfl, hbc⟩ := hcut
            go_wp2_with fail
            go_roundw
            case rel => exact ⟨p + 1, by omega, by go_num, hbq.trans (hbc.mono hszq)⟩
            case measure => first | (simp [intOf]; omega) | simp [intOf]
        · obtain rfl : p = n'.eqs.length := by omega
          go_wp2_with fail
          go_roundw
          case rel => exact ⟨k + 1, by omega, by go_num, hbr.trans (b06.mono hszr)⟩
          case measure => first | (simp [intOf]; omega) | simp [intOf]
    · obtain rfl : k = l.length := by omega
      go_wp2_with fail
      go_ret
      exact ⟨rfl, hB⟩
end Go.Proofs.Ytolabbnchmmckaa
