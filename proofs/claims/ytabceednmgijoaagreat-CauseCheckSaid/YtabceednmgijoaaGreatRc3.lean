/-
  Does a variable hang on itself, by the document: the contract of tompionref20.Round.
-/
import Derived.Test.YtabceednmgijoaaGreatRc2
namespace Go.Proofs.YtabceednmgijoaaGreat
open Go.RowKit
attribute [local go_sem ↓] Go.wp_at_zero Go.wp_at_succ
theorem rise_vars {n : Nd} (sm : NdSm n) {L : List ByteArray} (h : Rising L) (hs : ∀ x ∈ L, x ∈ nms (vrs n)) : L.length ≤ 150 := by
  have := nodup_len h.nodup hs
  rw [List.length_map] at this
  have := sm.len
  omega
section
variable {n : Nd} (hV : ∀ x, ∀ y ∈ hangsF n x, y ∈ nms (vrs n))
include hV
theorem stp_vars (nm : ByteArray) (i : Nat) : Rising (stp (hangsF n) nm i) ∧ ∀ x ∈ stp (hangsF n) nm i, x ∈ nms (vrs n) :=
  ⟨stp_rising (hangsF_rising n nm) i, fun _ hx => hg_sub hV (stp_hg i _ hx)⟩
theorem rnd_vars (nm : ByteArray) (i j : Nat) : Rising (rndTo (hangsF n) (stp (hangsF n) nm i) j (stp (hangsF n) nm i)) ∧ ∀ x ∈ rndTo (hangsF n) (stp (hangsF n) nm i) j (stp (hangsF n) nm i), x ∈ nms (vrs n) :=
  ⟨rndTo_rising (stp_vars hV nm i).1, fun x hx => by
    rcases rndTo_mem.1 hx with g | ⟨y, _, g⟩
    · exact (stp_vars hV nm i).2 x g
    · exact hV y x g⟩
end
set_option maxRecDepth 100000 in
set_option maxHeartbeats 1000000 in
theorem rround_any (n : Nd) (a : NdA) (nm : ByteArray) (w : World) (sm : NdSm n) (hn : NdAt w w.heap.size n a) (hV : ∀ x, ∀ y ∈ hangsF n x, y ∈ nms (vrs n)) :
    Calls Tryz.prog 26 #[ndV n a, .string nm] w fun r w' => r = .returned (.bool (cB (Hg (hangsF n) nm nm))) ∧ Below w.heap.size w w' := by
  have HIF : Hid (nm ∈ stp (hangsF n) nm (vrs n).length ↔ Hg (hangsF n) nm nm) := stp_iff (V := nms (vrs n)) hV (hangsF_rising n nm) (by simp)
  have HN : Hid (∀ W, Below w.heap.size w W → NdAt W W.heap.size n a) := fun W hW => (hn.below hW).more hW.size
  have HSM := Lib.hid sm
  have HV := Lib.hid hV
  have hvl := sm.len
  have HH : Hid (∀ W y, Below w.heap.size w W → Calls Tryz.prog 56 #[ndV n a, .string y] W fun r w' => (∃ v, r = .returned v ∧ SlV w' w'.heap.size 1 isStr v (hangsF n y)) ∧ Below W.heap.size W w') := fun W y hW => rhangs20_any n a y W HSM.out (HN.out W hW)
  have rn1 := Row.new w (ndArr n a) 36
  have b1 : Below w.heap.size w (w.alloc (.cells (ndArr n a) 36)) := bE
  clear hn sm hV
  go_enter Tryz.func26, Tryz.ntmps26
  go_upto_region 1 with (fail)
  generalize w.alloc (.cells (ndArr n a) 36) = W1 at *
  have hs1 := b1.size
  obtain ⟨c0, c1, cc2, c3, c4, c5, c6⟩ := rn1.nd
  go_wp2_with fail
  refine (HH.out W1 nm b1).mono ?_
  rintro r w2 ⟨⟨v2, rfl, hv2⟩, hb2⟩
  have rn2 := rn1.below hb2 rn1.lt
  have hB2 := b1.trans (hb2.mono hs1)
  have hs2 := hB2.size
  clear c0 c1 cc2 c3 c4 c5 c6 rn1 b1 hb2 hs1
  go_wp2_with fail
  go_loopw [5, 6] (fun o t wr => ∃ i : Nat, i ≤ (vrs n).length ∧ t = .int .i64 i ∧ SlV wr wr.heap.size 1 isStr o (stp (hangsF n) nm i) ∧ Below w2.heap.size w2 wr) (fun _ t _ => (vrs n).length - (intOf t).toNat)
  case atStart => exact ⟨0, Nat.zero_le _, rfl, hv2, Below.refl _ _⟩
  case round =>
    clear hv2
    obtain ⟨i, hi, rfl, hv, hb3⟩ := hrel
    have hB3 := hB2.trans (hb3.mono hs2)
    have hs3 := hB3.size
    have hs23 := hb3.size
    have rn3 := rn2.below hb3 rn2.lt
    obtain ⟨c0, c1, cc2, c3, c4, c5, c6⟩ := rn3.nd
    have HVR := Lib.hid (rvars_any wr.heap.size n a wr (Nat.le_refl _) (HN.out wr hB3) (by omega))
    go_wp2_with fail
    refine HVR.out.mono ?_
    rintro r w4 ⟨⟨v4, rfl, hv4⟩, hb4⟩
    obtain ⟨A4, c4', rfl, _, _, _⟩ := hv4.sl
    have rn4 := rn3.below hb4 rn3.lt
    have hB4 := hB3.trans (hb4.mono hs3)
    have hs4 := hB4.size
    have hv5 := (hv.below hb4).more hb4.size
    have hb24 := hb3.trans (hb4.mono hs23)
    have hs24 := hb24.size
    clear c0 c1 cc2 c3 c4 c5 c6 HVR hv4 hv
    by_cases hlt : i < (vrs n).length
    rotate_left 1
    · obtain rfl : i = (vrs n).length := by omega
      obtain ⟨A5, c5, rfl, g1, g2, g3⟩ := hv5
      have HI := Lib.hid (in_str _ nm A5 c5 _ w4 g1 g2 g3)
      clear g3
      go_wp2_with fail
      refine HI.out.mono ?_
      rintro r w5 ⟨rfl, rfl⟩
      go_wp2_with fail
      go_ret
      exact ⟨congrArg (fun b => Ending.returned (.bool b)) (cB_congr HIF.out), hB4⟩
    have i0 : (0 : Int) ≤ (i : Int) := by omega
    have i1 : (i : Int) < ((vrs n).length : Int) := by omega
    have hll := rise_vars HSM.out (stp_vars HV.out nm i).1 (stp_vars HV.out nm i).2
    obtain ⟨l, HL⟩ : ∃ l, Hid (stp (hangsF n) nm i = l) := ⟨_, rfl⟩
    rw [HL.out] at hv5 hll
    obtain ⟨A3, c3, rfl, g1, g2, g3⟩ := hv5
    have HL4 : Hid (∀ W, Below w4.heap.size w4 W → Sl W w4.heap.size 1 isStr A3 l) := fun W hW => g3.below hW
    have g2' : c3 ≤ 9223372036854775807 := by unfold maxLen at g2; omega
    go_wp2_with fail
    go_loopw [5, 8] (fun o t wr => ∃ j : Nat, j ≤ l.length ∧ t = .int .i64 j ∧ SlV wr wr.heap.size 1 isStr o (rndTo (hangsF n) l j l) ∧ Below w4.heap.size w4 wr) (fun _ t _ => l.length - (intOf t).toNat)
    case atStart => exact ⟨0, Nat.zero_le _, rfl, by rw [rndTo_zero]; exact ⟨A3, c3, rfl, g1, g2, g3⟩, Below.refl _ _⟩
    case round =>
      clear g3
      obtain ⟨j, hj, rfl, hv, hb5⟩ := hrel
      have hB5 := hB4.trans (hb5.mono hs4)
      have hs5 := hB5.size
      have hs45 := hb5.size
      by_cases hlj : j < l.length
      rotate_left 1
      · obtain rfl : j = l.length := by omega
        have HE : Hid (rndTo (hangsF n) l l.length l = stp (hangsF n) nm (i + 1)) := by show _ = _; rw [rndTo_end, ← HL.out]; rfl
        rw [HE.out] at hv
        go_wp2_with fail
        go_roundw
        case rel => exact ⟨i + 1, by omega, by go_num, hv, hb24.trans (hb5.mono hs24)⟩
        case measure => first | (simp [intOf]; omega) | simp [intOf]
      obtain ⟨b3, off3, x, hA3, hb3', hx, hsx, e0⟩ := (HL4.out wr hb5).str hlj
      rw [hA3]
      have HX := Lib.hid hx
      have HXM : Hid (x ∈ nms (vrs n)) := by
        show _ ∈ _
        have := List.mem_of_getElem? hx
        rw [← HL.out] at this
        exact (stp_vars HV.out nm i).2 x this
      have hul := rise_vars HSM.out (hangsF_rising n x) (HV.out x)
      have hrl := rnd_vars HV.out nm i j
      rw [HL.out] at hrl
      have hrl := rise_vars HSM.out hrl.1 hrl.2
      obtain ⟨A6, c6, rfl, q1, q2, q3⟩ := hv
      have HQ3 : Hid (∀ W, Below wr.heap.size wr W → Sl W W.heap.size 1 isStr A6 (rndTo (hangsF n) l j l)) := fun W hW => (q3.below hW).more hW.size
      have j2 : (0 : Int) ≤ (j : Int) := by omega
      have j3 : (j : Int) < (l.length : Int) := by omega
      have rn5 := rn4.below hb5 rn4.lt
      have HK : Hid (∀ W, Below wr.heap.size wr W → W.cell? ⟨b3, off3 + j, none⟩ = some (.string x) ∧ (W.cell? ⟨w.heap.size, 0, none⟩ = some (.string n.name) ∧ W.cell? ⟨w.heap.size, 1, none⟩ = some (.slice a.ai n.ins.length a.ci) ∧ W.cell? ⟨w.heap.size, 2, none⟩ = some (.slice a.ao n.outs.length a.co) ∧ W.cell? ⟨w.heap.size, 3, none⟩ = some (.slice a.av n.vars.length a.cv) ∧ W.cell? ⟨w.heap.size, 4, none⟩ = some (.slice a.aq n.eqs.length a.cq) ∧ W.cell? ⟨w.heap.size, 5, none⟩ = some (.int .i64 n.line) ∧ W.cell? ⟨w.heap.size, 6, none⟩ = some (.int .i64 n.col))) := fun W hW => ⟨old_cell hW e0, (rn5.below hW rn5.lt).nd⟩
      clear hx q3 hA3 e0
      go_upto_region 9 with (fail)
      refine wp_region_held_drew (S := fun W => W.cell? ⟨b3, off3 + j, none⟩ = some (.string x) ∧ (W.cell? ⟨w.heap.size, 0, none⟩ = some (.string n.name) ∧ W.cell? ⟨w.heap.size, 1, none⟩ = some (.slice a.ai n.ins.length a.ci) ∧ W.cell? ⟨w.heap.size, 2, none⟩ = some (.slice a.ao n.outs.length a.co) ∧ W.cell? ⟨w.heap.size, 3, none⟩ = some (.slice a.av n.vars.length a.cv) ∧ W.cell? ⟨w.heap.size, 4, none⟩ = some (.slice a.aq n.eqs.length a.cq) ∧ W.cell? ⟨w.heap.size, 5, none⟩ = some (.int .i64 n.line) ∧ W.cell? ⟨w.heap.size, 6, none⟩ = some (.int .i64 n.col))) (by kernel_rfl) ?_ (fun hHeld => ?_)
      · (try dsimp only); (first | (with_reducible exact HK.out _ bE) | exact hHeld | assumption | trivial)
      refine tk 0 (some 26) rfl ?_
      refine tk 1 (some 27) rfl ?_
      refine tk 2 (some 28) rfl ?_
      refine tk 3 (some 29) rfl ?_
      refine tk 4 (some 30) rfl ?_
      refine tk 5 (some 31) rfl ?_
      refine rd1 6 (some 32) rfl (fun KK hKK => ?_)
      go_simp
      (go_at_call 56; refine Calls.mono (HH.out _ x (hB5.trans (Below.mono (B := wr.heap.size) bE hs5))) ?_; rintro e w7 ⟨⟨v7, rfl, hv7⟩, hb7⟩; (have hb8 : Below wr.heap.size wr w7 := Below.trans bE (hb7.mono lE)); (have hs8 := hb8.size); (obtain ⟨A7, c7, rfl, u1, u2, u3⟩ := hv7))
      (try go_wp2_with fail)
      refine hKK.out _ _ ?_ (fun hHeld => ?_)
      · (try dsimp only); (first | (with_reducible exact HK.out _ bE) | exact hHeld | assumption | trivial)
      clear hKK KK
      try simp only [Act.put, List.setIfInBounds_toArray, List.set_cons_zero, List.set_cons_succ]
      refine rd1 7 (some 33) rfl (fun KK hKK => ?_)
      go_simp
      (go_at_call 58; refine Calls.mono (rall_any _ _ _ _ A6 A7 c6 c7 _ rfl rfl q1 q2 u1 u2 (by omega) (HQ3.out _ bE) u3) ?_; rintro e w9 ⟨⟨v9, rfl, hv9⟩, hb9⟩; (have hb10 : Below wr.heap.size wr w9 := Below.trans bE (hb9.mono (by first | exact hs8 | (simp; exact hs8)))))
      (try go_wp2_with fail)
      refine hKK.out _ _ ?_ (fun hHeld => ?_)
      · (try dsimp only); (first | (with_reducible exact HK.out _ bE) | exact hHeld | assumption | trivial)
      clear hKK KK
      try simp only [Act.put, List.setIfInBounds_toArray, List.set_cons_zero, List.set_cons_succ]
      refine tk 8 (some 5) rfl ?_
      refine wpAnyH_done (by kernel_rfl) ?_ _
      have hv10 : SlV w9 w9.heap.size 1 isStr v9 (rndTo (hangsF n) l (j + 1) l) := by rw [rndTo_succ HX.out]; exact hv9
      go_wp2_with fail
      go_roundw
      case rel => exact ⟨j + 1, by omega, by go_num, hv10, by first | exact hb5.trans (hb10.mono hs45) | exact (hb5.trans (hb10.mono hs45)).drew⟩
      case measure => first | (simp [intOf]; omega) | simp [intOf]
end Go.Proofs.YtabceednmgijoaaGreat
