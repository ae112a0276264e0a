/-
  Which name hangs on itself first, by the document: the contract of tompionref20.Check.
-/
import Derived.Test.YtabceednmgijoaaGreatRc3
import Derived.Test.YtabceednmgijoaaGreatCauD
namespace Go.Proofs.YtabceednmgijoaaGreat
open Go.RowKit
attribute [local go_sem ↓] Go.wp_at_zero Go.wp_at_succ
set_option maxRecDepth 100000 in
set_option maxHeartbeats 1000000 in
theorem rcheck20_any (s : List Nd) (A : Option Addr) (cap : Nat) (w : World) (sm : SrcSm s) (h1 : s.length ≤ cap) (h2 : cap ≤ maxLen) (h : Nds w w.heap.size A s) :
    Calls Tryz.prog 9 #[srcV s A cap] w fun r w' => r = .returned (ftV (causeF s)) ∧ Below w.heap.size w w' := by
  have rf1 := rowNew2 w (.cells #[.slice A s.length cap] 24) ftC0 31
  have rs1 := (Row.new w #[.slice A s.length cap] 24).alloc (.cells ftC0 31)
  have b1 : Below w.heap.size w ((w.alloc (.cells #[.slice A s.length cap] 24)).alloc (.cells ftC0 31)) := bE
  have HS : Hid (∀ W, Below w.heap.size w W → Nds W w.heap.size A s) := fun W hW => nds_keep h (keeps_of hW) (Nat.le_refl _)
  have HSM := Lib.hid sm
  have h2' : cap ≤ 9223372036854775807 := by unfold maxLen at h2; omega
  clear h sm
  go_enter Tryz.func9, Tryz.ntmps9
  go_upto_region 1 with (fail)
  generalize (w.alloc (.cells #[.slice A s.length cap] 24)).alloc (.cells ftC0 31) = W1 at *
  have hs1 := b1.size
  have c0 := rs1.src
  go_wp2_with fail
  refine (rcheck15_any s A cap W1 HSM.out h1 h2 (nds_keep (HS.out W1 b1) (fun _ _ _ h => h) hs1)).mono ?_
  rintro r w2 ⟨rfl, hb2⟩
  have rs2 := rs1.below hb2 rs1.lt
  have rf2 := rf1.below hb2 rf1.lt
  have hB2 := b1.trans (hb2.mono hs1)
  have hs2 := hB2.size
  have hl2 := rf2.lt
  clear c0 rs1 rf1 b1 hb2 hs1
  obtain ⟨f, HFN⟩ : ∃ f, Hid (scopeF s = f) := ⟨_, rfl⟩
  have HF0 : Hid (causeF s = ft2 f (fstL cauNF s)) := by show _ = _; rw [← HFN.out]; rfl
  rw [HFN.out]
  by_cases hf : f.err = 0
  rotate_left 1
  · have hf1 : (f.err != 0) = true := neq_yes hf
    have HF : Hid (causeF s = f) := by show _ = _; rw [HF0.out, ft2_1 hf]
    clear hf
    obtain ⟨⟨k0, k1, k2⟩, g0, g1, g2⟩ := rf2.three
    go_wp2_with fail
    exact bodyPost_ret (res1 rfl Tryz.underlying31 rfl (by kernel_rfl) rfl ((rf2.set3 _ _ _).alloc _)) rfl ⟨(congrArg (fun f => Ending.returned (ftV f)) HF.out).symm, (below_set3 hB2 (by first | omega | (simp; omega) | simp) _ _ _).alloc (by first | (simp [World.setCell]; omega) | simp [World.setCell]) _⟩
  have hf1 : (f.err != 0) = false := neq_no hf
  have HF1 : Hid (causeF s = fstL cauNF s) := by show _ = _; rw [HF0.out, ft2_0 hf]
  have H0 : Hid ((scopeF s).err = 0) := by show _ = _; rw [HFN.out]; exact hf
  clear hf
  have ba : Below w2.heap.size w2 (w2.alloc (.cells (ftC f) 31)) := bE
  go_upto_region 4 with (fail)
  generalize hW4 : w2.alloc (.cells (ftC f) 31) = w4 at *
  clear hW4
  have rs4 := rs2.below ba rs2.lt
  have rf4 := rf2.below ba rf2.lt
  have hB4 := hB2.trans (ba.mono hs2)
  have hs4 := hB4.size
  have c0 := rs4.src
  clear rs2 rf2 hB2 hs2 ba hl2 HF0 HFN
  go_wp2_with fail
  clear c0
  go_loopw [4] (fun i wr => ∃ k : Nat, k ≤ s.length ∧ i = .int .i64 k ∧ Hid (∀ j, j < k → ∀ x, s[j]? = some x → (cauNF j x).err = 0) ∧ Below w4.heap.size w4 wr) (fun i _ => s.length - (intOf i).toNat)
  case atStart => exact ⟨0, Nat.zero_le _, rfl, fun j h => absurd h (by omega), Below.refl _ _⟩
  case round =>
    obtain ⟨k, hk, rfl, HK, hbr⟩ := hrel
    have rf := rf4.below hbr rf4.lt
    have rs := rs4.below hbr rs4.lt
    have c0 := rs.src
    have hB := hB4.trans (hbr.mono hs4)
    have hsB := hB.size
    have hszr := hbr.size
    by_cases hlt : k < s.length
    rotate_left 1
    · obtain rfl : k = s.length := by omega
      have HF : Hid (causeF s = ft0) := HF1.out.trans (fstL_end HK.out)
      obtain ⟨⟨k0, k1, k2⟩, g0, g1, g2⟩ := rf.three
      go_wp2_with fail
      exact bodyPost_ret (res1 rfl Tryz.underlying31 rfl (by kernel_rfl) rfl (rf.set3 _ _ _)) rfl ⟨(congrArg (fun f => Ending.returned (ftV f)) HF.out).symm, below_set3 hB (by first | omega | (simp; omega) | simp) _ _ _⟩
    obtain ⟨b, off, n, a, hA, hb, hn, hat, d0, d1, d2, d3, d4, d5, d6⟩ := (HS.out wr hB).nd hlt
    subst hA
    have HX := Lib.hid hn
    have hnm := List.mem_of_getElem? hn
    have HNS := Lib.hid (HSM.out.all n hnm)
    have HV := Lib.hid (hangs_V H0.out hnm)
    have lq := hat.lq
    have gq := hat.mq
    have gq' : a.cq ≤ 9223372036854775807 := by unfold maxLen at gq; omega
    have HAT : Hid (∀ W, Below wr.heap.size wr W → NdAt W w.heap.size n a) := fun W hW => hat.below (hW.mono hsB)
    have i0 : (0 : Int) ≤ (k : Int) := by omega
    have i1 : (k : Int) < (s.length : Int) := by omega
    have HFn : Hid ((cauNF k n).err ≠ 0 → causeF s = cauNF k n) := fun g => by
      rw [HF1.out, fstL_stop (f := cauNF) HK.out HX.out g]
    have rn1 := Row.new wr (ndArr n a) 36
    have ba : Below wr.heap.size wr (wr.alloc (.cells (ndArr n a) 36)) := bE
    clear hn hat hnm
    go_upto_region 8 with (fail)
    clear d0 d1 d2 d3 d4 d5 d6 c0
    generalize hW6 : wr.alloc (.cells (ndArr n a) 36) = w6 at *
    clear hW6
    have hsa := ba.size
    have rf6 := rf.below ba rf.lt
    have hB6 := hB.trans (ba.mono hsB)
    have hs6 := hB6.size
    obtain ⟨wo, rfl⟩ : ∃ wo : World, wo = wr := ⟨_, rfl⟩
    go_wp2_with fail
    go_loopw [6] (fun i wr => ∃ p : Nat, p ≤ n.eqs.length ∧ i = .int .i64 p ∧ Hid (∀ j, j < p → ∀ x, n.eqs[j]? = some x → (cauQF n j x).err = 0) ∧ Below w6.heap.size w6 wr) (fun i _ => n.eqs.length - (intOf i).toNat)
    case atStart => exact ⟨0, Nat.zero_le _, rfl, fun j h => absurd h (by omega), Below.refl _ _⟩
    case round =>
      obtain ⟨p, hp, rfl, HP, hbq⟩ := hrel
      have hszq := hbq.size
      have rn7 := rn1.below hbq rn1.lt
      have rf7 := rf6.below hbq rf6.lt
      have hB7 := hB6.trans (hbq.mono hs6)
      have hsB7 := hB7.size
      have b07 := ba.trans (hbq.mono hsa)
      obtain ⟨c0, c1, cc2, c3, c4, c5, c6⟩ := rn7.nd
      by_cases hlp : p < n.eqs.length
      rotate_left 1
      · obtain rfl : p = n.eqs.length := by omega
        have e : cauNF k n = ft0 := fstL_end HP.out
        have HK' := Lib.hid (step_uptoI (P := fun j x => (cauNF j x).err = 0) HK.out HX.out (by rw [e]))
        clear e
        go_wp2_with fail
        go_roundw
        case rel => exact ⟨k + 1, by omega, by go_num, HK', hbr.trans (b07.mono hszr)⟩
        case measure => first | (simp [intOf]; omega) | simp [intOf]
      obtain ⟨b', off', q, A1, k1, A2, k2, hA', hb', hq, ok, lq1, mq1, sl1, lq2, mq2, sl2, d0, d1, d2, d3, d4, d5, d6, d7, d8⟩ := (HAT.out wr b07).sq.eqn hlp
      have HA' := Lib.hid hA'
      have HQX := Lib.hid hq
      have HSQ := Lib.hid (HNS.out.eq q (List.mem_of_getElem? hq))
      have HS1 : Hid (∀ W, Below wr.heap.size wr W → Sl W w.heap.size 1 isStr A1 q.left) := fun W hW => strs_keep sl1 (keeps_of (hW.mono hsB7)) (Nat.le_refl _)
      have j0 : (0 : Int) ≤ (p : Int) := by omega
      have j1 : (p : Int) < (n.eqs.length : Int) := by omega
      have HFq : Hid ((cauQF n p q).err ≠ 0 → causeF s = cauQF n p q) := fun g => by
        have e2 : cauNF k n = cauQF n p q := by unfold cauNF; rw [fstL_stop (f := cauQF n) HP.out HQX.out g]
        exact (HFn.out (by rw [e2]; exact g)).trans e2
      have mq1' : k1 ≤ 9223372036854775807 := by unfold maxLen at mq1; omega
      have HE : Hid (∀ W, Below wr.heap.size wr W → W.cell? ⟨b', off' + p * 9, none⟩ = some (.slice A1 q.left.length k1) ∧ W.cell? ⟨b', off' + p * 9 + 7, none⟩ = some (.int .i64 q.line) ∧ W.cell? ⟨b', off' + p * 9 + 8, none⟩ = some (.int .i64 q.col)) := fun W hW => ⟨old_cell hW d0, old_cell hW d7, old_cell hW d8⟩
      have HND : Hid (∀ W, Below wr.heap.size wr W → (W.cell? ⟨wo.heap.size, 0, none⟩ = some (.string n.name) ∧ W.cell? ⟨wo.heap.size, 1, none⟩ = some (.slice a.ai n.ins.length a.ci) ∧ W.cell? ⟨wo.heap.size, 2, none⟩ = some (.slice a.ao n.outs.length a.co) ∧ W.cell? ⟨wo.heap.size, 3, none⟩ = some (.slice a.av n.vars.length a.cv) ∧ W.cell? ⟨wo.heap.size, 4, none⟩ = some (.slice (some ⟨b', off', none⟩) n.eqs.length a.cq) ∧ W.cell? ⟨wo.heap.size, 5, none⟩ = some (.int .i64 n.line) ∧ W.cell? ⟨wo.heap.size, 6, none⟩ = some (.int .i64 n.col))) := fun W hW => by
        have h := (rn7.below hW rn7.lt).nd
        rw [HA'.out] at h
        exact h
      rw [hA'] at c4
      clear hA' hq ok sl1 sl2 d0 d1 d2 d3 d4 d5 d6 d7 d8
      obtain ⟨wp, rfl⟩ : ∃ wp : World, wp = wr := ⟨_, rfl⟩
      go_wp2_with fail
      clear c0 c1 cc2 c3 c4 c5 c6
      go_loopw [7] (fun i wr => ∃ m : Nat, m ≤ q.left.length ∧ i = .int .i64 m ∧ Hid (∀ j, j < m → ∀ x, q.left[j]? = some x → (cauF n q j x).err = 0) ∧ Below wp.heap.size wp wr) (fun i _ => q.left.length - (intOf i).toNat)
      case atStart => exact ⟨0, Nat.zero_le _, rfl, fun j h => absurd h (by omega), Below.refl _ _⟩
      case round =>
        obtain ⟨m, hm, rfl, HM, hbm⟩ := hrel
        have hszm := hbm.size
        have rf10 := rf7.below hbm rf7.lt
        have hB10 := hB7.trans (hbm.mono hsB7)
        have hsB10 := hB10.size
        obtain ⟨c0, c1, cc2, c3, c4, c5, c6⟩ := HND.out wr hbm
        obtain ⟨e0, e7, e8⟩ := HE.out wr hbm
        by_cases hlm : m < q.left.length
        rotate_left 1
        · obtain rfl : m = q.left.length := by omega
          have e : cauQF n p q = ft0 := fstL_end HM.out
          have HP' := Lib.hid (step_uptoI (P := fun j x => (cauQF n j x).err = 0) HP.out HQX.out (by rw [e]))
          clear e
          go_wp2_with fail
          go_roundw
          case rel => exact ⟨p + 1, by omega, by go_num, HP', hbq.trans (hbm.mono hszq)⟩
          case measure => first | (simp [intOf]; omega) | simp [intOf]
        obtain ⟨bs, offs, x, hAs, hbs, hx, hsx, f0⟩ := (HS1.out wr hbm).str hlm
        subst hAs
        have HXL := Lib.hid hx
        have i2 : (0 : Int) ≤ (m : Int) := by omega
        have i3 : (m : Int) < (q.left.length : Int) := by omega
        obtain ⟨P, HPB⟩ : ∃ P : Bool, Hid (cB (Hg (hangsF n) x x) = P) := ⟨_, rfl⟩
        have HR : Hid (∀ W, Below wr.heap.size wr W → Calls Tryz.prog 26 #[.agg #[.string n.name, .slice a.ai n.ins.length a.ci, .slice a.ao n.outs.length a.co, .slice a.av n.vars.length a.cv, .slice (some ⟨b', off', none⟩) n.eqs.length a.cq, .int .i64 n.line, .int .i64 n.col], .string x] W fun r w' => r = .returned (.bool P) ∧ Below W.heap.size W w') := fun W hW => by
          rw [← HA'.out, ← HPB.out]
          have hb := hbm.trans (hW.mono hszm)
          exact rround_any n a x W HNS.out ((HAT.out W (b07.trans (hb.mono b07.size))).more (hB10.trans (hW.mono hsB10)).size) HV.out
        have HK14 : Hid (∀ W, Below wr.heap.size wr W → (W.cell? ⟨wo.heap.size, 0, none⟩ = some (.string n.name) ∧ W.cell? ⟨wo.heap.size, 1, none⟩ = some (.slice a.ai n.ins.length a.ci) ∧ W.cell? ⟨wo.heap.size, 2, none⟩ = some (.slice a.ao n.outs.length a.co) ∧ W.cell? ⟨wo.heap.size, 3, none⟩ = some (.slice a.av n.vars.length a.cv) ∧ W.cell? ⟨wo.heap.size, 4, none⟩ = some (.slice (some ⟨b', off', none⟩) n.eqs.length a.cq) ∧ W.cell? ⟨wo.heap.size, 5, none⟩ = some (.int .i64 n.line) ∧ W.cell? ⟨wo.heap.size, 6, none⟩ = some (.int .i64 n.col)) ∧ W.cell? ⟨b', off' + p * 9, none⟩ = some (.slice (some ⟨bs, offs, none⟩) q.left.length k1) ∧ W.cell? ⟨bs, offs + m, none⟩ = some (.string x)) := fun W hW => ⟨HND.out W (hbm.trans (hW.mono hszm)), (HE.out W (hbm.trans (hW.mono hszm))).1, old_cell hW f0⟩
        clear hx
        go_upto_region 14 with (fail)
        go_cut [54] (fun v54 W => v54 = .bool P ∧ Below wr.heap.size wr W)
        case first =>
          refine wp_region_held_drew (S := fun W => (W.cell? ⟨wo.heap.size, 0, none⟩ = some (.string n.name) ∧ W.cell? ⟨wo.heap.size, 1, none⟩ = some (.slice a.ai n.ins.length a.ci) ∧ W.cell? ⟨wo.heap.size, 2, none⟩ = some (.slice a.ao n.outs.length a.co) ∧ W.cell? ⟨wo.heap.size, 3, none⟩ = some (.slice a.av n.vars.length a.cv) ∧ W.cell? ⟨wo.heap.size, 4, none⟩ = some (.slice (some ⟨b', off', none⟩) n.eqs.length a.cq) ∧ W.cell? ⟨wo.heap.size, 5, none⟩ = some (.int .i64 n.line) ∧ W.cell? ⟨wo.heap.size, 6, none⟩ = some (.int .i64 n.col)) ∧ W.cell? ⟨b', off' + p * 9, none⟩ = some (.slice (some ⟨bs, offs, none⟩) q.left.length k1) ∧ W.cell? ⟨bs, offs + m, none⟩ = some (.string x)) (by kernel_rfl) ?_ (fun hHeld => ?_)
          · (try dsimp only); (first | (with_reducible exact HK14.out _ bE) | exact hHeld | assumption | trivial)
          refine tk 0 (some 44) rfl ?_
          refine tk 1 (some 45) rfl ?_
          refine tk 2 (some 46) rfl ?_
          refine tk 3 (some 47) rfl ?_
          refine tk 4 (some 48) rfl ?_
          refine tk 5 (some 49) rfl ?_
          refine tk 6 (some 50) rfl ?_
          refine tk 7 (some 51) rfl ?_
          refine tk 8 (some 52) rfl ?_
          refine tk 9 (some 53) rfl ?_
          refine rd1 10 (some 54) rfl (fun KK hKK => ?_)
          go_simp
          go_at_call 26; refine Calls.mono (HR.out _ bE) ?_; rintro e w11 ⟨rfl, hb11⟩; (have hb12 : Below wr.heap.size wr w11 := Below.trans bE (hb11.mono lE))
          (try go_wp2_with fail)
          refine hKK.out _ _ ?_ (fun hHeld => ?_)
          · (try dsimp only); (first | (with_reducible exact HK14.out _ bE) | exact hHeld | assumption | trivial)
          clear hKK KK
          try simp only [Act.put, List.setIfInBounds_toArray, List.set_cons_zero, List.set_cons_succ]
          refine wpAnyH_done (by kernel_rfl) ?_ _
          go_wp2_with fail
          go_meet
          exact ⟨rfl, by first | exact hb12 | exact hb12.drew⟩
        case rest =>
          obtain ⟨rfl, hbc⟩ := hcut
          have rf11 := rf10.below hbc rf10.lt
          have hB11 := hB10.trans (hbc.mono hsB10)
          have hbm' := hbm.trans (hbc.mono hszm)
          clear c0 c1 cc2 c3 c4 c5 c6 e0 e7 e8 f0
          cases P
          · have hq := cB_not.1 HPB.out
            have HM' := Lib.hid (step_uptoI (P := fun j x => (cauF n q j x).err = 0) HM.out HXL.out (by rw [cauF_no hq]))
            clear hq
            go_wp2_with fail
            go_roundw
            case rel => exact ⟨m + 1, by omega, by go_num, HM', hbm'⟩
            case measure => first | (simp [intOf]; omega) | simp [intOf]
          · have hq := cB_iff.1 HPB.out
            have HF : Hid (causeF s = ⟨32, q.line, q.col⟩) := by
              have e : cauF n q m x = ⟨32, q.line, q.col⟩ := cauF_yes hq
              have e1 : cauQF n p q = ⟨32, q.line, q.col⟩ := by unfold cauQF; rw [fstL_stop (f := cauF n q) HM.out HXL.out (by rw [e]; show (32 : Int) ≠ 0; decide), e]
              exact (HFq.out (by rw [e1]; show (32 : Int) ≠ 0; decide)).trans e1
            clear hq
            obtain ⟨c0, c1, cc2, c3, c4, c5, c6⟩ := HND.out wc hbm'
            obtain ⟨e0, e7, e8⟩ := HE.out wc hbm'
            obtain ⟨⟨k0, k1', k2'⟩, g0, g1, g2⟩ := rf11.three
            go_wp2_with fail
            exact bodyPost_ret (res1 rfl Tryz.underlying31 rfl (by kernel_rfl) rfl (rf11.set3 _ _ _)) rfl ⟨(congrArg (fun f => Ending.returned (ftV f)) HF.out).symm, below_set3 hB11 (by first | omega | (simp; omega) | simp) _ _ _⟩
end Go.Proofs.YtabceednmgijoaaGreat
