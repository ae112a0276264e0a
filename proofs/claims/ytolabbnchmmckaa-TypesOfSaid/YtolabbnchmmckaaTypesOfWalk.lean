/-
  TypesOf: the walk.
-/
import Derived.Test.YtolabbnchmmckaaTyO
import Derived.Test.YtolabbnchmmckaaTyV
import Derived.Test.YtolabbnchmmckaaRfUz
import Derived.Test.YtolabbnchmmckaaOpenN
import Derived.Deep.RegionHeld3
namespace Go.Proofs.Ytolabbnchmmckaa.typesOf
open Go.RowKit
attribute [local go_sem ↓] Go.wp_at_zero Go.wp_at_succ
theorem byte_of {x : Int} (h : (Lit.int .u8 x).wf = true) : 0 ≤ x ∧ x ≤ 255 := by
  simpa [Lit.wf, IntKind.min, IntKind.max, IntKind.signed, IntKind.bits] using h
theorem rem_at {x : Int} {m : Nat} (h : 0 ≤ x ∧ x ≤ 255) (hm : 0 < m) : ∃ k : Nat, x.tmod (m : Int) = (k : Int) ∧ k < m ∧ k ≤ 255 := by
  obtain ⟨a, rfl⟩ : ∃ a : Nat, x = (a : Int) := ⟨x.toNat, by omega⟩
  refine ⟨a % m, by rw [← Int.ofNat_tmod], Nat.mod_lt _ hm, ?_⟩
  have := Nat.mod_le a m
  omega
set_option linter.unusedSimpArgs false in
set_option maxRecDepth 100000 in
set_option maxHeartbeats 4000000 in
theorem walk (s : List Nd) (v : Value) (x : Int) (e : Ex) (A2 : Option Addr) (c2 : Nat) (w : World) (h : SrcIs w s v) (hx8 : (Lit.int .u8 x).wf = true) (ok : ExOk e) (hl2 : e.args.length ≤ c2) (hm2 : c2 ≤ maxLen) (hxe : IsExs w w.heap.size A2 e.args) :
    Calls Try.prog 12 #[v, .int .u8 x, exV e A2 c2] w fun r w' => r = .returned (.bool true) ∧ Below w.heap.size w w' := by
  obtain ⟨A, cap, rfl, h1, h2, hn⟩ := h
  have hx9 := byte_of hx8
  have rs1 := (Row.new w #[.slice A s.length cap] 45).alloc (.cells (exA e A2 c2) 26)
  have re1 := rowNew2 w (.cells #[.slice A s.length cap] 45) (exA e A2 c2) 26
  have b1 : Below w.heap.size w ((w.alloc (.cells #[.slice A s.length cap] 45)).alloc (.cells (exA e A2 c2) 26)) := (by repeat (first | (with_reducible assumption) | (with_reducible exact Below.refl _ _) | (with_reducible refine Below.drew ?_) | (with_reducible refine below_drewN' ?_ _) | (with_reducible refine Below.alloc ?_ (by first | assumption | omega | (simp; omega) | simp | (simp [World.setCell]; omega) | simp [World.setCell]) _) | (with_reducible refine Below.setCell ?_ (by first | assumption | omega | (simp; omega) | simp | (simp [World.setCell]; omega) | simp [World.setCell]) _)))
  have HS : Hid (∀ W, Below w.heap.size w W → Nds W w.heap.size A s) := fun W hW => nds_keep hn (keeps_of hW) (Nat.le_refl _)
  have HSW : Hid (∀ W, Below w.heap.size w W → Nds W W.heap.size A s) := fun W hW => nds_keep hn (keeps_of hW) hW.size
  have HX : Hid (∀ W, Below w.heap.size w W → IsExs W W.heap.size A2 e.args) := fun W hW => (hxe.below hW).more hW.size
  have HOK := Lib.hid ok
  have HL2 := Lib.hid hl2
  have HM2 := Lib.hid hm2
  have h2' : cap ≤ 9223372036854775807 := by unfold maxLen at h2; omega
  have hm2' : c2 ≤ 9223372036854775807 := by unfold maxLen at hm2; omega
  clear hn hxe ok hl2 hm2 hx8
  go_enter Try.func12, Try.ntmps12
  go_upto_region 1 with (fail)
  generalize (w.alloc (.cells #[.slice A s.length cap] 45)).alloc (.cells (exA e A2 c2) 26) = W1 at *
  have hs1 := b1.size
  go_wp2_with fail
  refine (awake16_any W1).mono ?_
  rintro r w2 ⟨rfl, hb2⟩
  have rs2 := rs1.below hb2 rs1.lt
  have re2 := re1.below hb2 re1.lt
  have hB2 := b1.trans (hb2.mono hs1)
  have hs2 := hB2.size
  have c0 := rs2.src
  go_wp2_with fail
  refine (fewNodes_any s A cap w2 h1 h2 (HSW.out w2 hB2)).mono ?_
  rintro r w3 ⟨⟨bf, rfl, HFN⟩, hb3⟩
  have rs3 := rs2.below hb3 rs2.lt
  have re3 := re2.below hb3 re2.lt
  have hB3 := hB2.trans (hb3.mono hs2)
  have hs3 := hB3.size
  clear c0 rs1 rs2 re1 re2 b1 hb2 hb3 hB2 hs1 hs2
  cases bf
  · go_wp2_with fail
    go_ret
    exact ⟨rfl, hB3⟩
  have HSM : Hid (SrcSm s) := HFN.out (by first | rfl | trivial)
  clear HFN
  obtain ⟨x0, x1, x2, x3, x4, x5⟩ := re3.ex6
  have HFE := Lib.hid (few_any e A2 c2 w3 HOK.out HL2.out HM2.out (HX.out w3 hB3))
  obtain ⟨bw, HBW⟩ : ∃ b, Hid (fewB e = b) := ⟨_, rfl⟩
  rw [HBW.out] at HFE
  go_wp2_with fail
  refine HFE.out.mono ?_
  rintro r w4 ⟨rfl, hb4⟩
  have rs4 := rs3.below hb4 rs3.lt
  have re4 := re3.below hb4 re3.lt
  have hB4 := hB3.trans (hb4.mono hs3)
  have hs4 := hB4.size
  clear x0 x1 x2 x3 x4 x5 rs3 re3 HFE hb4 hB3 hs3
  cases bw
  · go_wp2_with fail
    go_ret
    exact ⟨rfl, hB4⟩
  have HSZ : Hid (Small e ∧ exSize e ≤ 200) := few_small HBW.out
  have c0 := rs4.src
  by_cases hlen : s.length = 0
  · have e0 : ((s.length : Int) == 0) = true := eq_beq (by omega)
    clear hlen
    go_wp2_with fail
    go_ret
    exact ⟨rfl, hB4⟩
  have e0 : ((s.length : Int) == 0) = false := ne_beq (by omega)
  have hp0 : 0 < s.length := by omega
  clear hlen
  obtain ⟨k, hkr, hkl, hk5⟩ := rem_at hx9 hp0
  obtain ⟨b, off, n, a, hA, hb, hnk, hat, d0, d1, d2, d3, d4, d5, d6⟩ := (HS.out w4 hB4).nd hkl
  subst hA
  have HNK := Lib.hid hnk
  have HAT : Hid (∀ W, Below w4.heap.size w4 W → NdAt W W.heap.size n a) := fun W hW => (hat.below (hW.mono hs4)).more (Nat.le_trans hs4 hW.size)
  have u0 : IntKind.i64.wrap x = x := IntWalk.i64_in _ (by omega)
  have u1 : IntKind.i64.wrap (k : Int) = (k : Int) := IntWalk.i64_in _ (by omega)
  have u2 : ((s.length : Int) == 0) = false := e0
  have i0 : (0 : Int) ≤ (k : Int) := by omega
  have i1 : (k : Int) < (s.length : Int) := by omega
  have i2 : ¬ ((s.length : Int) = 0) := by omega
  have i3 : ¬ (s = []) := fun g => by rw [g] at hp0; exact absurd hp0 (by simp)
  clear hnk hat
  have HK : Hid (∀ W, Below w4.heap.size w4 W → W.cell? ⟨w.heap.size, 0, none⟩ = some (.slice (some ⟨b, off, none⟩) s.length cap) ∧ (W.cell? ⟨b, off + k * 7, none⟩ = some (.string n.name) ∧ W.cell? ⟨b, off + k * 7 + 1, none⟩ = some (.slice a.ai n.ins.length a.ci) ∧ W.cell? ⟨b, off + k * 7 + 2, none⟩ = some (.slice a.ao n.outs.length a.co) ∧ W.cell? ⟨b, off + k * 7 + 3, none⟩ = some (.slice a.av n.vars.length a.cv) ∧ W.cell? ⟨b, off + k * 7 + 4, none⟩ = some (.slice a.aq n.eqs.length a.cq) ∧ W.cell? ⟨b, off + k * 7 + 5, none⟩ = some (.int .i64 n.line) ∧ W.cell? ⟨b, off + k * 7 + 6, none⟩ = some (.int .i64 n.col))) := fun W hW => ⟨old_cell hW c0, old_cell hW d0, old_cell hW d1, old_cell hW d2, old_cell hW d3, old_cell hW d4, old_cell hW d5, old_cell hW d6⟩
  go_upto_region 5 with (fail)
  go_cut [7] (fun v7 W => ∃ gn : Nat, v7 = .pointer (some ⟨gn, 0, none⟩) ∧ w4.heap.size ≤ gn ∧ Row W gn (ndArr n a) 40 ∧ Below w4.heap.size w4 W)
  case first =>
    refine wp_region_held_drew (S := fun W => W.cell? ⟨w.heap.size, 0, none⟩ = some (.slice (some ⟨b, off, none⟩) s.length cap) ∧ (W.cell? ⟨b, off + k * 7, none⟩ = some (.string n.name) ∧ W.cell? ⟨b, off + k * 7 + 1, none⟩ = some (.slice a.ai n.ins.length a.ci) ∧ W.cell? ⟨b, off + k * 7 + 2, none⟩ = some (.slice a.ao n.outs.length a.co) ∧ W.cell? ⟨b, off + k * 7 + 3, none⟩ = some (.slice a.av n.vars.length a.cv) ∧ W.cell? ⟨b, off + k * 7 + 4, none⟩ = some (.slice a.aq n.eqs.length a.cq) ∧ W.cell? ⟨b, off + k * 7 + 5, none⟩ = some (.int .i64 n.line) ∧ W.cell? ⟨b, off + k * 7 + 6, none⟩ = some (.int .i64 n.col))) (by kernel_rfl) ?_ (fun hHeld => ?_)
    · (try dsimp only); (first | (with_reducible exact HK.out _ (by repeat (first | (with_reducible assumption) | (with_reducible exact Below.refl _ _) | (with_reducible refine Below.drew ?_) | (with_reducible refine below_drewN' ?_ _) | (with_reducible refine Below.alloc ?_ (by first | assumption | omega | (simp; omega) | simp | (simp [World.setCell]; omega) | simp [World.setCell]) _) | (with_reducible refine Below.setCell ?_ (by first | assumption | omega | (simp; omega) | simp | (simp [World.setCell]; omega) | simp [World.setCell]) _)))) | go_keep)
    refine wpAnyH_take (i := 0) (oi := { dst := some 28, op := _, type := _, pos := _, after := _, guard := _ }) (v := ?_) rfl (by kernel_rfl) (by kernel_rfl) (by kernel_rfl) (fun _ _ _ h => h) (Or.inl ⟨by kernel_rfl, ?_⟩) (by first | assumption | trivial) ?_
    rotate_left 1
    · intro w hSw; (try dsimp only at hSw); go_simp; (try with_reducible rfl)
    try simp only [Act.put, List.setIfInBounds_toArray, List.set_cons_zero, List.set_cons_succ]
    refine wpAnyH_take (i := 1) (oi := { dst := some 29, op := _, type := _, pos := _, after := _, guard := _ }) (v := ?_) rfl (by kernel_rfl) (by kernel_rfl) (by kernel_rfl) (fun _ _ _ h => h) (Or.inl ⟨by kernel_rfl, ?_⟩) (by first | assumption | trivial) ?_
    rotate_left 1
    · intro w hSw; (try dsimp only at hSw); go_simp; (try with_reducible rfl)
    try simp only [Act.put, List.setIfInBounds_toArray, List.set_cons_zero, List.set_cons_succ]
    refine wpAnyH_take (i := 2) (oi := { dst := some 30, op := _, type := _, pos := _, after := _, guard := _ }) (v := ?_) rfl (by kernel_rfl) (by kernel_rfl) (by kernel_rfl) (fun _ _ _ h => h) (Or.inl ⟨by kernel_rfl, ?_⟩) (by first | assumption | trivial) ?_
    rotate_left 1
    · intro w hSw; (try dsimp only at hSw); go_simp; (try with_reducible rfl)
    try simp only [Act.put, List.setIfInBounds_toArray, List.set_cons_zero, List.set_cons_succ]
    refine wpAnyH_take (i := 3) (oi := { dst := some 31, op := _, type := _, pos := _, after := _, guard := _ }) (v := ?_) rfl (by kernel_rfl) (by kernel_rfl) (by kernel_rfl) (fun _ _ _ h => h) (Or.inl ⟨by kernel_rfl, ?_⟩) (by first | assumption | trivial) ?_
    rotate_left 1
    · intro w hSw; (try dsimp only at hSw); go_simp; (try with_reducible rfl)
    try simp only [Act.put, List.setIfInBounds_toArray, List.set_cons_zero, List.set_cons_succ]
    refine wpAnyH_take (i := 4) (oi := { dst := some 32, op := _, type := _, pos := _, after := _, guard := _ }) (v := ?_) rfl (by kernel_rfl) (by kernel_rfl) (by kernel_rfl) (fun _ _ _ h => h) (Or.inl ⟨by kernel_rfl, ?_⟩) (by first | assumption | trivial) ?_
    rotate_left 1
    · intro w hSw; (try dsimp only at hSw); go_simp; (try with_reducible rfl)
    try simp only [Act.put, List.setIfInBounds_toArray, List.set_cons_zero, List.set_cons_succ]
    refine wpAnyH_take (i := 5) (oi := { dst := some 33, op := _, type := _, pos := _, after := _, guard := _ }) (v := ?_) rfl (by kernel_rfl) (by kernel_rfl) (by kernel_rfl) (fun _ _ _ h => h) (Or.inl ⟨by kernel_rfl, ?_⟩) (by first | assumption | trivial) ?_
    rotate_left 1
    · intro w hSw; (try dsimp only at hSw); go_simp; (try with_reducible rfl)
    try simp only [Act.put, List.setIfInBounds_toArray, List.set_cons_zero, List.set_cons_succ]
    refine wpAnyH_take (i := 6) (oi := { dst := some 34, op := _, type := _, pos := _, after := _, guard := _ }) (v := ?_) rfl (by kernel_rfl) (by kernel_rfl) (by kernel_rfl) (fun _ _ _ h => h) (Or.inl ⟨by kernel_rfl, ?_⟩) (by first | assumption | trivial) ?_
    rotate_left 1
    · intro w hSw; (try dsimp only at hSw); go_simp; (try with_reducible rfl)
    try simp only [Act.put, List.setIfInBounds_toArray, List.set_cons_zero, List.set_cons_succ]
    refine wpAnyH_take (i := 7) (oi := { dst := some 35, op := _, type := _, pos := _, after := _, guard := _ }) (v := ?_) rfl (by kernel_rfl) (by kernel_rfl) (by kernel_rfl) (fun _ _ _ h => h) (Or.inl ⟨by kernel_rfl, ?_⟩) (by first | assumption | trivial) ?_
    rotate_left 1
    · intro w hSw; (try dsimp only at hSw); go_simp; (try with_reducible rfl)
    try simp only [Act.put, List.setIfInBounds_toArray, List.set_cons_zero, List.set_cons_succ]
    refine wpAnyH_take (i := 8) (oi := { dst := some 36, op := _, type := _, pos := _, after := _, guard := _ }) (v := ?_) rfl (by kernel_rfl) (by kernel_rfl) (by kernel_rfl) (fun _ _ _ h => h) (Or.inl ⟨by kernel_rfl, ?_⟩) (by first | assumption | trivial) ?_
    rotate_left 1
    · intro w hSw; (try dsimp only at hSw); go_simp; (try with_reducible rfl)
    try simp only [Act.put, List.setIfInBounds_toArray, List.set_cons_zero, List.set_cons_succ]
    refine wpAnyH_take (i := 9) (oi := { dst := some 37, op := _, type := _, pos := _, after := _, guard := _ }) (v := ?_) rfl (by kernel_rfl) (by kernel_rfl) (by kernel_rfl) (fun _ _ _ h => h) (Or.inl ⟨by kernel_rfl, ?_⟩) (by first | assumption | trivial) ?_
    rotate_left 1
    · intro w hSw; (try dsimp only at hSw); go_simp; (try with_reducible rfl)
    try simp only [Act.put, List.setIfInBounds_toArray, List.set_cons_zero, List.set_cons_succ]
    refine wpAnyH_ready (rs := [10]) (by kernel_rfl) (by simp) ?_
    refine AllReadyH.cons (o := { dst := some 7, op := _, type := _, pos := _, after := _, guard := _ }) rfl (fun KK hKK => ?_) AllReadyH.nil
    go_simp
    refine hKK.out _ _ ?_ (fun hHeld => ?_)
    · (try dsimp only); (first | (with_reducible exact HK.out _ (by repeat (first | (with_reducible assumption) | (with_reducible exact Below.refl _ _) | (with_reducible refine Below.drew ?_) | (with_reducible refine below_drewN' ?_ _) | (with_reducible refine Below.alloc ?_ (by first | assumption | omega | (simp; omega) | simp | (simp [World.setCell]; omega) | simp [World.setCell]) _) | (with_reducible refine Below.setCell ?_ (by first | assumption | omega | (simp; omega) | simp | (simp [World.setCell]; omega) | simp [World.setCell]) _)))) | go_keep)
    clear hKK KK
    try simp only [Act.put, List.setIfInBounds_toArray, List.set_cons_zero, List.set_cons_succ]
    refine wpAnyH_ready (rs := [11]) (by kernel_rfl) (by simp) ?_
    refine AllReadyH.cons (o := { dst := none, op := _, type := _, pos := _, after := _, guard := _ }) rfl (fun KK hKK => ?_) AllReadyH.nil
    go_simp
    refine hKK.out _ _ ?_ (fun hHeld => ?_)
    · (try dsimp only); (first | (with_reducible exact HK.out _ (by repeat (first | (with_reducible assumption) | (with_reducible exact Below.refl _ _) | (with_reducible refine Below.drew ?_) | (with_reducible refine below_drewN' ?_ _) | (with_reducible refine Below.alloc ?_ (by first | assumption | omega | (simp; omega) | simp | (simp [World.setCell]; omega) | simp [World.setCell]) _) | (with_reducible refine Below.setCell ?_ (by first | assumption | omega | (simp; omega) | simp | (simp [World.setCell]; omega) | simp [World.setCell]) _)))) | go_keep)
    clear hKK KK
    try simp only [Act.put, List.setIfInBounds_toArray, List.set_cons_zero, List.set_cons_succ]
    refine wpAnyH_done (by kernel_rfl) ?_ _
    go_wp2_with fail
    go_meet
    exact ⟨_, rfl, by first | exact Nat.le_refl _ | simp, by first | (with_reducible exact Row.new _ _ _) | exact Row.new _ _ _, (by repeat (first | (with_reducible assumption) | (with_reducible exact Below.refl _ _) | (with_reducible refine Below.drew ?_) | (with_reducible refine below_drewN' ?_ _) | (with_reducible refine Below.alloc ?_ (by first | assumption | omega | (simp; omega) | simp | (simp [World.setCell]; omega) | simp [World.setCell]) _) | (with_reducible refine Below.setCell ?_ (by first | assumption | omega | (simp; omega) | simp | (simp [World.setCell]; omega) | simp [World.setCell]) _)))⟩
  case rest =>
    obtain ⟨gn, rfl, hgn, rn5, hbc⟩ := hcut
    obtain ⟨w5, rfl⟩ : ∃ w5 : World, w5 = wc := ⟨_, rfl⟩
    have rs5 := rs4.below hbc rs4.lt
    have re5 := re4.below hbc re4.lt
    have hB5 := hB4.trans (hbc.mono hs4)
    have hs5 := hB5.size
    clear c0 d0 d1 d2 d3 d4 d5 d6 HK u0 u1 u2 hkr i2 i3 rs4 re4
    have c0 := rs5.src
    obtain ⟨d0, d1, d2, d3, d4, d5, d6⟩ := rn5.nd
    obtain ⟨x0, x1, x2, x3, x4, x5⟩ := re5.ex6
    have HOF := Lib.hid (of_top s (some ⟨b, off, none⟩) cap n a e A2 c2 k w5 HSM.out h1 h2 HNK.out (HSW.out w5 hB5) (HAT.out w5 hbc) HOK.out HL2.out HM2.out (by have := HSZ.out.2; omega) (HX.out w5 hB5))
    go_wp2_with fail
    refine HOF.out.mono ?_
    rintro r w6 ⟨⟨kk, f, rfl, HKF⟩, hb6⟩
    have rs6 := rs5.below hb6 rs5.lt
    have re6 := re5.below hb6 re5.lt
    have rn6 := rn5.below hb6 rn5.lt
    have hB6 := hB5.trans (hb6.mono hs5)
    have hs6 := hB6.size
    have hbc6 := hbc.trans (hb6.mono hbc.size)
    clear c0 d0 d1 d2 d3 d4 d5 d6 x0 x1 x2 x3 x4 x5 HOF
    have bt : Below w6.heap.size w6 (w6.alloc (.cells (ftC f) 31)) := (by repeat (first | (with_reducible assumption) | (with_reducible exact Below.refl _ _) | (with_reducible refine Below.drew ?_) | (with_reducible refine below_drewN' ?_ _) | (with_reducible refine Below.alloc ?_ (by first | assumption | omega | (simp; omega) | simp | (simp [World.setCell]; omega) | simp [World.setCell]) _) | (with_reducible refine Below.setCell ?_ (by first | assumption | omega | (simp; omega) | simp | (simp [World.setCell]; omega) | simp [World.setCell]) _)))
    have rf7 := Row.new w6 (ftC f) 31
    go_upto_region 7 with (fail)
    generalize hW7 : w6.alloc (.cells (ftC f) 31) = w7 at *
    clear hW7
    have rs7 := rs6.below bt rs6.lt
    have re7 := re6.below bt re6.lt
    have rn7 := rn6.below bt rn6.lt
    have hB7 := hB6.trans (bt.mono hs6)
    have hs7 := hB7.size
    have hbc7 := hbc6.trans (bt.mono hbc6.size)
    have c0 := rs7.src
    have HCK := Lib.hid (rcheck15_any s (some ⟨b, off, none⟩) cap w7 HSM.out h1 h2 (HSW.out w7 hB7))
    obtain ⟨f0, HF0⟩ : ∃ f, Hid (scopeF s = f) := ⟨_, rfl⟩
    rw [HF0.out] at HCK
    have fe := field_flt f0
    go_wp2_with fail
    refine HCK.out.mono ?_
    rintro r w8 ⟨rfl, hb8⟩
    have rs8 := rs7.below hb8 rs7.lt
    have re8 := re7.below hb8 re7.lt
    have rn8 := rn7.below hb8 rn7.lt
    have rf8 := rf7.below hb8 rf7.lt
    have hB8 := hB7.trans (hb8.mono hs7)
    have hs8 := hB8.size
    have hbc8 := hbc7.trans (hb8.mono hbc7.size)
    clear c0 HCK rs7 re7 rn7 rf7
    have hz0 : ((0 : Int) == 0) = true := rfl
    have hz2 : ((2 : Int) == 2) = true := rfl
    by_cases hf : f0.err = 0
    rotate_left 1
    · have hf1 : (f0.err != 0) = true := neq_yes hf
      obtain ⟨rfl, rfl⟩ := HKF.out.1 (fun g => hf (by rw [← HF0.out]; exact g.1))
      obtain ⟨⟨y0, y1, y2⟩, -⟩ := rf8.three
      clear hf
      go_wp2_with fail
      go_ret
      exact ⟨by first | rfl | simp, hB8⟩
    have hf1 : (f0.err != 0) = false := neq_no hf
    have HZ : Hid ((scopeF s).err = 0) := by show _ = _; rw [HF0.out]; exact hf
    clear hf
    obtain ⟨x0, x1, x2, x3, x4, x5⟩ := re8.ex6
    have HCR := Lib.hid (rright_any e A2 c2 w8 HOK.out HL2.out HM2.out (HX.out w8 hB8) HSZ.out.1)
    obtain ⟨br, HBR⟩ : ∃ b, Hid (exRight e = b) := ⟨_, rfl⟩
    rw [HBR.out] at HCR
    go_wp2_with fail
    refine HCR.out.mono ?_
    rintro r w9 ⟨rfl, hb9⟩
    have rs9 := rs8.below hb9 rs8.lt
    have re9 := re8.below hb9 re8.lt
    have rn9 := rn8.below hb9 rn8.lt
    have rf9 := rf8.below hb9 rf8.lt
    have hB9 := hB8.trans (hb9.mono hs8)
    have hs9 := hB9.size
    have hbc9 := hbc8.trans (hb9.mono hbc8.size)
    clear x0 x1 x2 x3 x4 x5 HCR rs8 re8 rn8 rf8
    cases br
    · obtain ⟨rfl, rfl⟩ := HKF.out.1 (fun g => Bool.noConfusion (HBR.out.symm.trans g.2.1))
      obtain ⟨⟨y0, y1, y2⟩, -⟩ := rf9.three
      go_wp2_with fail
      go_ret
      exact ⟨by first | rfl | simp, hB9⟩
    have c0 := rs9.src
    obtain ⟨d0, d1, d2, d3, d4, d5, d6⟩ := rn9.nd
    obtain ⟨x0, x1, x2, x3, x4, x5⟩ := re9.ex6
    have HL : Hid ((vrs n).length ≤ 10000) := by have := (HSM.out.all n (List.mem_of_getElem? HNK.out)).len; show _ ≤ _; omega
    have HCK := Lib.hid (rknows_any s (some ⟨b, off, none⟩) cap n a e A2 c2 w9 h1 h2 HL.out HOK.out HL2.out HM2.out (by have := HSZ.out.2; omega) (HSW.out w9 hB9) (HAT.out w9 hbc9) (HX.out w9 hB9))
    obtain ⟨bk, HBK⟩ : ∃ b, Hid (cB (KnowsP s n e) = b) := ⟨_, rfl⟩
    rw [HBK.out] at HCK
    go_wp2_with fail
    refine HCK.out.mono ?_
    rintro r w10 ⟨rfl, hb10⟩
    have rs10 := rs9.below hb10 rs9.lt
    have re10 := re9.below hb10 re9.lt
    have rn10 := rn9.below hb10 rn9.lt
    have rf10 := rf9.below hb10 rf9.lt
    have hB10 := hB9.trans (hb10.mono hs9)
    have hs10 := hB10.size
    have hbc10 := hbc9.trans (hb10.mono hbc9.size)
    clear c0 d0 d1 d2 d3 d4 d5 d6 x0 x1 x2 x3 x4 x5 HCK rs9 re9 rn9 rf9
    cases bk
    · obtain ⟨rfl, rfl⟩ := HKF.out.1 (fun g => cB_not.1 HBK.out g.2.2)
      obtain ⟨⟨y0, y1, y2⟩, -⟩ := rf10.three
      go_wp2_with fail
      go_ret
      exact ⟨by first | rfl | simp, hB10⟩
    have HYES : Hid (OfOk s n e) := ⟨HZ.out, HBR.out, cB_iff.1 HBK.out⟩
    obtain ⟨hfe, hke, hk0⟩ := HKF.out.2 HYES.out
    have HTK := Lib.hid (knows_ty (scope_rt HZ.out) HBR.out (cB_iff.1 HBK.out))
    have c0 := rs10.src
    obtain ⟨d0, d1, d2, d3, d4, d5, d6⟩ := rn10.nd
    obtain ⟨x0, x1, x2, x3, x4, x5⟩ := re10.ex6
    have HEX : Hid (Calls Try.prog 50 #[srcV s (some ⟨b, off, none⟩) cap, ndV n a, exV e A2 c2] w10 fun r w' => r = .returned (.tuple #[.int .i64 kk, ftV f]) ∧ Below w10.heap.size w10 w') := by
      refine (rtyx_any s (some ⟨b, off, none⟩) cap n a h1 h2 HL.out e A2 c2 w10 (HSW.out w10 hB10) (HAT.out w10 hbc10) HOK.out HL2.out HM2.out (HX.out w10 hB10) HTK.out).mono ?_
      rintro r w' ⟨⟨k2, rfl, HK2⟩, hb⟩
      refine ⟨?_, hb⟩
      have : k2 = kk := by
        by_cases g0 : (tyF s n e).err = 0
        · rw [HK2.out.1 g0, hke (by rw [hfe]; exact g0)]
        · rw [HK2.out.2 g0, hk0 (by rw [hfe]; exact g0)]
      rw [this, hfe]
    clear hfe hke hk0 HKF
    have e1 : (f.err == f.err) = true := by simp
    have e2 : (f.line == f.line) = true := by simp
    have e3 : (f.col == f.col) = true := by simp
    have e4 : (kk == kk) = true := by simp
    go_wp2_with fail
    refine HEX.out.mono ?_
    rintro r w11 ⟨rfl, hb11⟩
    have rf11 := rf10.below hb11 rf10.lt
    have hq11 := rf11.lt
    have hB11 := hB10.trans (hb11.mono hs10)
    have hs11 := hB11.size
    clear c0 d0 d1 d2 d3 d4 d5 d6 x0 x1 x2 x3 x4 x5 HEX
    obtain ⟨⟨y0, y1, y2⟩, -⟩ := rf11.three
    go_wp2_with fail
    go_ret
    exact ⟨by first | rfl | simp, hB11.alloc hs11 _⟩
end Go.Proofs.Ytolabbnchmmckaa.typesOf
