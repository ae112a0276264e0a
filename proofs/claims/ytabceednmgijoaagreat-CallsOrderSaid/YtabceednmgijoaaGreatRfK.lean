/-
  Which node hangs on itself first, by the document: the contract of tompionref17.Check.
-/
import Derived.Test.YtabceednmgijoaaGreatRfH
import Derived.Test.YtabceednmgijoaaGreatCalC
namespace Go.Proofs.YtabceednmgijoaaGreat
open Go.RowKit
attribute [local go_sem ↓] Go.wp_at_zero Go.wp_at_succ
set_option maxRecDepth 100000 in
set_option maxHeartbeats 1000000 in
theorem rcheck17_any (s : List Nd) (A : Option Addr) (cap : Nat) (w : World) (sm : SrcSm s) (h1 : s.length ≤ cap) (h2 : cap ≤ maxLen) (h : Nds w w.heap.size A s) :
    Calls Tryz.prog 15 #[srcV s A cap] w fun r w' => r = .returned (ftV (callsF s)) ∧ Below w.heap.size w w' := by
  have rf1 := rowNew2 w (.cells #[.slice A s.length cap] 24) ftC0 31
  have rs1 := (Row.new w #[.slice A s.length cap] 24).alloc (.cells ftC0 31)
  have b1 : Below w.heap.size w ((w.alloc (.cells #[.slice A s.length cap] 24)).alloc (.cells ftC0 31)) := bE
  have HS : Hid (∀ W, Below w.heap.size w W → Nds W w.heap.size A s) := fun W hW => nds_keep h (keeps_of hW) (Nat.le_refl _)
  have HSM := Lib.hid sm
  have h2' : cap ≤ 9223372036854775807 := by unfold maxLen at h2; omega
  clear h sm
  go_enter Tryz.func15, Tryz.ntmps15
  go_upto_region 1 with (fail)
  generalize (w.alloc (.cells #[.slice A s.length cap] 24)).alloc (.cells ftC0 31) = W1 at *
  have hs1 := b1.size
  have c0 := rs1.src
  go_wp2_with fail
  refine (rcheck15_any s A cap W1 HSM.out h1 h2 (nds_keep (HS.out W1 b1) (fun _ _ _ h => h) hs1)).mono ?_
  rintro r w2 ⟨rfl, hb2⟩
  have rs2 := rs1.below hb2 rs1.lt
  have rf2 := rf1.below hb2 rf1.lt
  have hB2 := b1.trans (hb2.mono hs1)
  have hs2 := hB2.size
  have hl2 := rf2.lt
  clear c0 rs1 rf1 b1 hb2 hs1
  obtain ⟨f, HFN⟩ : ∃ f, Hid (scopeF s = f) := ⟨_, rfl⟩
  have HF0 : Hid (callsF s = ft2 f (fstL (calF s) s)) := by show _ = _; rw [← HFN.out]; rfl
  rw [HFN.out]
  by_cases hf : f.err = 0
  rotate_left 1
  · have hf1 : (f.err != 0) = true := neq_yes hf
    have HF : Hid (callsF s = f) := by show _ = _; rw [HF0.out, ft2_1 hf]
    clear hf
    obtain ⟨⟨k0, k1, k2⟩, g0, g1, g2⟩ := rf2.three
    go_wp2_with fail
    exact bodyPost_ret (res1 rfl Tryz.underlying31 rfl (by kernel_rfl) rfl ((rf2.set3 _ _ _).alloc _)) rfl ⟨(congrArg (fun f => Ending.returned (ftV f)) HF.out).symm, (below_set3 hB2 (by first | omega | (simp; omega) | simp) _ _ _).alloc (by first | (simp [World.setCell]; omega) | simp [World.setCell]) _⟩
  have hf1 : (f.err != 0) = false := neq_no hf
  have HF1 : Hid (callsF s = fstL (calF s) s) := by show _ = _; rw [HF0.out, ft2_0 hf]
  have H0 : Hid ((scopeF s).err = 0) := by show _ = _; rw [HFN.out]; exact hf
  clear hf
  have ba : Below w2.heap.size w2 (w2.alloc (.cells (ftC f) 31)) := bE
  go_upto_region 4 with (fail)
  generalize hW4 : w2.alloc (.cells (ftC f) 31) = w4 at *
  clear hW4
  have rs4 := rs2.below ba rs2.lt
  have rf4 := rf2.below ba rf2.lt
  have hB4 := hB2.trans (ba.mono hs2)
  have hs4 := hB4.size
  have c0 := rs4.src
  clear rs2 rf2 hB2 hs2 ba hl2 HF0 HFN
  have rs5 := rs4
  have rf5 := rf4
  have hB5 := hB4
  have hs5 := hs4
  obtain ⟨w5, rfl⟩ : ∃ w5 : World, w5 = w4 := ⟨_, rfl⟩
  clear c0 rs4 rf4 hB4 hs4
  go_wp2_with fail
  go_loopw [4] (fun i wr => ∃ k : Nat, k ≤ s.length ∧ i = .int .i64 k ∧ Hid (∀ j, j < k → ∀ x, s[j]? = some x → (calF s j x).err = 0) ∧ Below w5.heap.size w5 wr) (fun i _ => s.length - (intOf i).toNat)
  case atStart => exact ⟨0, Nat.zero_le _, rfl, fun j h => absurd h (by omega), Below.refl _ _⟩
  case round =>
    obtain ⟨k, hk, rfl, HN, hbr⟩ := hrel
    have rf := rf5.below hbr rf5.lt
    have hB := hB5.trans (hbr.mono hs5)
    have rs := rs5.below hbr rs5.lt
    have c0 := rs.src
    have hsB := hB.size
    have hszr := hbr.size
    by_cases hlt : k < s.length
    rotate_left 1
    · obtain rfl : k = s.length := by omega
      have HF : Hid (callsF s = ft0) := HF1.out.trans (fstL_end HN.out)
      obtain ⟨⟨k0, k1, k2⟩, g0, g1, g2⟩ := rf.three
      go_wp2_with fail
      exact bodyPost_ret (res1 rfl Tryz.underlying31 rfl (by kernel_rfl) rfl (rf.set3 _ _ _)) rfl ⟨(congrArg (fun f => Ending.returned (ftV f)) HF.out).symm, below_set3 hB (by first | omega | (simp; omega) | simp) _ _ _⟩
    obtain ⟨b, off, n, a, hA, hb, hn, hat, d0, d1, d2, d3, d4, d5, d6⟩ := (HS.out wr hB).nd hlt
    subst hA
    have HX := Lib.hid hn
    have hnm := hat.name
    have i0 : (0 : Int) ≤ (k : Int) := by omega
    have i1 : (k : Int) < (s.length : Int) := by omega
    have rn1 := Row.new wr (ndArr n a) 36
    have ba : Below wr.heap.size wr (wr.alloc (.cells (ndArr n a) 36)) := bE
    obtain ⟨P, HPB⟩ : ∃ P : Bool, Hid (cB (Hg (usesAt s) n.name n.name) = P) := ⟨_, rfl⟩
    have HMEM := Lib.hid (List.mem_map_of_mem (f := Nd.name) (List.mem_of_getElem? hn))
    clear hn hat
    go_upto_region 8 with (fail)
    clear d0 d1 d2 d3 d4 d5 d6
    generalize hW6 : wr.alloc (.cells (ndArr n a) 36) = w6 at *
    clear hW6
    have hsa := ba.size
    have rf6 := rf.below ba rf.lt
    have hB6 := hB.trans (ba.mono hsB)
    have hs6 := hB6.size
    have rs6 := rs.below ba rs.lt
    have HSX : Hid (∀ W, Below w6.heap.size w6 W → Nds W W.heap.size (some ⟨b, off, none⟩) s) := fun W hW => nds_keep (HS.out W (hB6.trans (hW.mono hs6))) (fun _ _ _ h => h) (hB6.trans (hW.mono hs6)).size
    have HK : Hid (∀ W, Below w6.heap.size w6 W → W.cell? ⟨w.heap.size, 0, none⟩ = some (.slice (some ⟨b, off, none⟩) s.length cap) ∧ (W.cell? ⟨wr.heap.size, 0, none⟩ = some (.string n.name) ∧ W.cell? ⟨wr.heap.size, 1, none⟩ = some (.slice a.ai n.ins.length a.ci) ∧ W.cell? ⟨wr.heap.size, 2, none⟩ = some (.slice a.ao n.outs.length a.co) ∧ W.cell? ⟨wr.heap.size, 3, none⟩ = some (.slice a.av n.vars.length a.cv) ∧ W.cell? ⟨wr.heap.size, 4, none⟩ = some (.slice a.aq n.eqs.length a.cq) ∧ W.cell? ⟨wr.heap.size, 5, none⟩ = some (.int .i64 n.line) ∧ W.cell? ⟨wr.heap.size, 6, none⟩ = some (.int .i64 n.col))) := fun W hW => ⟨(rs6.below hW rs6.lt).src, (rn1.below hW rn1.lt).nd⟩
    have HIF : Hid (n.name ∈ stp (usesAt s) n.name s.length ↔ Hg (usesAt s) n.name n.name) := stp_iff (V := s.map Nd.name) (uses_V H0.out) (usesAt_rising s _) (by simp)
    clear c0
    go_cut [30] (fun v30 W => v30 = .bool P ∧ Below w6.heap.size w6 W)
    case first =>
      refine wp_region_held_drew (S := fun W => W.cell? ⟨w.heap.size, 0, none⟩ = some (.slice (some ⟨b, off, none⟩) s.length cap) ∧ (W.cell? ⟨wr.heap.size, 0, none⟩ = some (.string n.name) ∧ W.cell? ⟨wr.heap.size, 1, none⟩ = some (.slice a.ai n.ins.length a.ci) ∧ W.cell? ⟨wr.heap.size, 2, none⟩ = some (.slice a.ao n.outs.length a.co) ∧ W.cell? ⟨wr.heap.size, 3, none⟩ = some (.slice a.av n.vars.length a.cv) ∧ W.cell? ⟨wr.heap.size, 4, none⟩ = some (.slice a.aq n.eqs.length a.cq) ∧ W.cell? ⟨wr.heap.size, 5, none⟩ = some (.int .i64 n.line) ∧ W.cell? ⟨wr.heap.size, 6, none⟩ = some (.int .i64 n.col))) (by kernel_rfl) ?_ (fun hHeld => ?_)
      · (try dsimp only); (first | (with_reducible exact HK.out _ bE) | exact hHeld | assumption | trivial)
      refine tk 0 (some 24) rfl ?_
      refine tk 1 (some 25) rfl ?_
      refine tk 2 (some 26) rfl ?_
      refine tk 4 (some 28) rfl ?_
      refine tk 5 (some 29) rfl ?_
      refine rd1 3 (some 27) rfl (fun KK hKK => ?_)
      go_simp
      (go_at_call 36; refine Calls.mono (rhangs_any s (some ⟨b, off, none⟩) cap n.name _ H0.out HSM.out h1 h2 (HSX.out _ bE) HMEM.out) ?_; rintro e w7 ⟨⟨v7, rfl, hv7⟩, hb7⟩; (have hb8 : Below w6.heap.size w6 w7 := Below.trans bE (hb7.mono lE)); (obtain ⟨A7, c7, rfl, g1, g2, g3⟩ := hv7))
      (try go_wp2_with fail)
      refine hKK.out _ _ ?_ (fun hHeld => ?_)
      · (try dsimp only); (first | (with_reducible exact HK.out _ bE) | exact hHeld | assumption | trivial)
      clear hKK KK
      try simp only [Act.put, List.setIfInBounds_toArray, List.set_cons_zero, List.set_cons_succ]
      refine rd1 6 (some 30) rfl (fun KK hKK => ?_)
      go_simp
      (go_at_call 35; refine Calls.mono (in_str _ n.name A7 c7 _ _ g1 g2 g3) ?_; rintro e w9 ⟨rfl, rfl⟩)
      (try go_wp2_with fail)
      refine hKK.out _ _ ?_ (fun hHeld => ?_)
      · (try dsimp only); (first | (with_reducible exact HK.out _ bE) | exact hHeld | assumption | trivial)
      clear hKK KK
      try simp only [Act.put, List.setIfInBounds_toArray, List.set_cons_zero, List.set_cons_succ]
      refine wpAnyH_done (by kernel_rfl) ?_ _
      go_wp2_with fail
      go_meet
      exact ⟨congrArg Value.bool ((cB_congr HIF.out).trans HPB.out), by first | exact hb8 | exact hb8.drew⟩
    case rest =>
      obtain ⟨rfl, hbc⟩ := hcut
      have rf7 := rf6.below hbc rf6.lt
      have hB7 := hB6.trans (hbc.mono hs6)
      have rn7 := rn1.below hbc rn1.lt
      obtain ⟨e0, e1, e2, e3, e4, e5, e6⟩ := rn7.nd
      cases P
      · have hq := cB_not.1 HPB.out
        have HN' := Lib.hid (step_uptoI (P := fun j x => (calF s j x).err = 0) HN.out HX.out (by rw [calF_no hq]))
        clear hq
        go_wp2_with fail
        go_roundw
        case rel => exact ⟨k + 1, by omega, by go_num, HN', hbr.trans ((ba.trans (hbc.mono hsa)).mono hszr)⟩
        case measure => first | (simp [intOf]; omega) | simp [intOf]
      · have hq := cB_iff.1 HPB.out
        have HF : Hid (callsF s = ⟨29, n.line, n.col⟩) := by
          have e : calF s k n = ⟨29, n.line, n.col⟩ := calF_yes hq
          show _ = _
          rw [HF1.out, fstL_stop (f := calF s) HN.out HX.out (by rw [e]; show (29 : Int) ≠ 0; decide), e]
        clear hq
        obtain ⟨⟨k0, k1, k2⟩, g0, g1, g2⟩ := rf7.three
        go_wp2_with fail
        exact bodyPost_ret (res1 rfl Tryz.underlying31 rfl (by kernel_rfl) rfl (rf7.set3 _ _ _)) rfl ⟨(congrArg (fun f => Ending.returned (ftV f)) HF.out).symm, below_set3 hB7 (by first | omega | (simp; omega) | simp) _ _ _⟩
end Go.Proofs.YtabceednmgijoaaGreat
