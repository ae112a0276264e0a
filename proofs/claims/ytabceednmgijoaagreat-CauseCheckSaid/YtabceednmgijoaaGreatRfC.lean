/-
  What is wrong first with a source's names, by the document: the contract of tompionref15.Check.
-/
import Derived.Test.YtabceednmgijoaaGreatRfN
namespace Go.Proofs.YtabceednmgijoaaGreat
open Go.RowKit
attribute [local go_sem ↓] Go.wp_at_zero Go.wp_at_succ
theorem scopeF_2 {s : List Nd} (h : ¬ SrcRt s) : scopeF s = ⟨2, 0, 0⟩ := if_pos h
theorem scopeF_rt {s : List Nd} (h : SrcRt s) : scopeF s = ft2 (fstL (nameF s) s) (ft2 (fstL (nodeF s) s) (mainF s)) := if_neg (fun g => g h)
set_option maxRecDepth 100000 in
set_option maxHeartbeats 1000000 in
theorem rcheck15_any (s : List Nd) (A : Option Addr) (cap : Nat) (w : World) (sm : SrcSm s) (h1 : s.length ≤ cap) (h2 : cap ≤ maxLen) (h : Nds w w.heap.size A s) :
    Calls Tryz.prog 25 #[srcV s A cap] w fun r w' => r = .returned (ftV (scopeF s)) ∧ Below w.heap.size w w' := by
  have rf1 := rowNew2 w (.cells #[.slice A s.length cap] 24) ftC0 31
  have rs1 := (Row.new w #[.slice A s.length cap] 24).alloc (.cells ftC0 31)
  have b1 : Below w.heap.size w ((w.alloc (.cells #[.slice A s.length cap] 24)).alloc (.cells ftC0 31)) := bE
  have HS : Hid (∀ W, Below w.heap.size w W → Nds W w.heap.size A s) := fun W hW => nds_keep h (keeps_of hW) (Nat.le_refl _)
  have HSM := Lib.hid sm
  have h2' : cap ≤ 9223372036854775807 := by unfold maxLen at h2; omega
  clear h sm
  go_enter Tryz.func25, Tryz.ntmps25
  go_upto_region 1 with (fail)
  generalize (w.alloc (.cells #[.slice A s.length cap] 24)).alloc (.cells ftC0 31) = W1 at *
  have hs1 := b1.size
  have c0 := rs1.src
  go_wp2_with fail
  refine (rsource_any s A cap W1 HSM.out h1 h2 (nds_keep (HS.out W1 b1) (fun _ _ _ h => h) hs1)).mono ?_
  rintro r w2 ⟨rfl, hb2⟩
  have rs2 := rs1.below hb2 rs1.lt
  have rf2 := rf1.below hb2 rf1.lt
  have hB2 := b1.trans (hb2.mono hs1)
  have hs2 := hB2.size
  clear c0 rs1 rf1 b1 hb2 hs1
  have c0 := rs2.src
  by_cases hP : SrcRt s
  rotate_left 1
  · have HF := Lib.hid (scopeF_2 hP)
    rw [cB_false hP]
    clear hP
    go_wp2_with fail
    refine (rwrong_at _ _ _ _).mono ?_
    rintro r w9 ⟨rfl, hb9⟩
    have q9 : Below w2.heap.size w2 w9 := Below.trans bE (hb9.mono lE)
    have rf9 := rf2.below q9 rf2.lt
    have b9 := Below.trans hB2 (q9.mono (Below.size hB2))
    obtain ⟨⟨k0, k1, k2⟩, h0, h1, h2⟩ := rf9.three
    go_wp2_with fail
    exact bodyPost_ret (res1 rfl Tryz.underlying31 rfl (by kernel_rfl) rfl (rf9.set3 _ _ _)) rfl ⟨(congrArg (fun f => Ending.returned (ftV f)) HF.out).symm, below_set3 b9 (by first | omega | (simp; omega) | simp) _ _ _⟩
  have HF0 := Lib.hid (scopeF_rt hP)
  rw [cB_true hP]
  clear hP
  go_wp2_with fail
  clear c0
  go_loopw [3] (fun i wr => ∃ k : Nat, k ≤ s.length ∧ i = .int .i64 k ∧ Hid (∀ j, j < k → ∀ x, s[j]? = some x → (nameF s j x).err = 0) ∧ Below w2.heap.size w2 wr) (fun i _ => s.length - (intOf i).toNat)
  case atStart => exact ⟨0, Nat.zero_le _, rfl, fun j h => absurd h (by omega), Below.refl _ _⟩
  case round =>
    obtain ⟨k, hk, rfl, HN, hbr⟩ := hrel
    have hszr := hbr.size
    have rs := rs2.below hbr rs2.lt
    have rf := rf2.below hbr rf2.lt
    have hB := hB2.trans (hbr.mono hs2)
    have hsB := hB.size
    have c0 := rs.src
    by_cases hlt : k < s.length
    · obtain ⟨b, off, n, a, hA, hb, hn, hat, d0, d1, d2, d3, d4, d5, d6⟩ := (HS.out wr hB).nd hlt
      subst hA
      have HX := Lib.hid hn
      have HXM : Hid (0 ≤ nodeIdx s n.name) := node_mem.2 (List.mem_map_of_mem (List.mem_of_getElem? hn))
      have HVX : Hid (∀ W, Below w.heap.size w W → Calls Tryz.prog 54 #[srcV s (some ⟨b, off, none⟩) cap, .string n.name] W fun r w' => r = .returned (.int .i64 (nodeIdx s n.name)) ∧ Below W.heap.size W w') := fun W hW => rnode_any s _ cap n.name W h1 h2 (nds_keep (HS.out W hW) (fun _ _ _ h => h) hW.size)
      have i0 : (0 : Int) ≤ (k : Int) := by omega
      have i1 : (k : Int) < (s.length : Int) := by omega
      clear hn hat
      by_cases hP : n.name ∈ (s.map Nd.name).take k
      · have hv : decide (nodeIdx s n.name < (k : Int)) = true := dec_yes ((idx_lt HXM.out).2 hP)
        have HF : Hid (scopeF s = ⟨23, n.line, n.col⟩) := by
          have e : nameF s k n = ⟨23, n.line, n.col⟩ := by unfold nameF; rw [if_pos hP]
          have h := fstL_stop HN.out HX.out (by rw [e]; show (23 : Int) ≠ 0; decide)
          show _ = _
          rw [HF0.out, h, e]; rfl
        clear hP HXM
        generalize nodeIdx s n.name = v at *
        go_upto_region 6 with (fail)
        have HK : Hid (∀ W, Below wr.heap.size wr W → W.cell? ⟨w.heap.size, 0, none⟩ = some (.slice (some ⟨b, off, none⟩) s.length cap) ∧ W.cell? ⟨b, off + k * 7, none⟩ = some (.string n.name)) := fun W hW => ⟨old_cell hW c0, old_cell hW d0⟩
        go_cut [27] (fun v27 W => v27 = .bool true ∧ Below wr.heap.size wr W)
        case first =>
          go_region_held3 (fun W => W.cell? ⟨w.heap.size, 0, none⟩ = some (.slice (some ⟨b, off, none⟩) s.length cap) ∧ W.cell? ⟨b, off + k * 7, none⟩ = some (.string n.name)) (first | (with_reducible exact HK.out _ bE) | go_keep)
            (first | ((go_at_call 54); (refine (HVX.out _ (hB.trans (Below.mono (B := wr.heap.size) bE hsB))).mono ?_); rintro e w3 ⟨rfl, hb3⟩; (have hb4 : Below wr.heap.size wr w3 := Below.trans bE (hb3.mono lE)); (have hs4 := hb4.size)))
          all_goals
            go_wp2_with fail
            go_meet
            exact ⟨rfl, bE⟩
        case rest =>
          obtain ⟨rfl, hbc⟩ := hcut
          have rf3 := rf.below hbc rf.lt
          have hB3 := hB.trans (hbc.mono hsB)
          have e0 := old_cell hbc c0
          have e5 := old_cell hbc d5
          have e6 := old_cell hbc d6
          clear c0 d0 d1 d2 d3 d4 d5 d6 HK
          go_wp2_with fail
          refine (rwrong_at _ _ _ _).mono ?_
          rintro r w9 ⟨rfl, hb9⟩
          have q9 : Below wc.heap.size wc w9 := Below.trans bE (hb9.mono lE)
          have rf9 := rf3.below q9 rf3.lt
          have b9 := Below.trans hB3 (q9.mono (Below.size hB3))
          obtain ⟨⟨k0, k1, k2⟩, h0, h1, h2⟩ := rf9.three
          go_wp2_with fail
          exact bodyPost_ret (res1 rfl Tryz.underlying31 rfl (by kernel_rfl) rfl (rf9.set3 _ _ _)) rfl ⟨(congrArg (fun f => Ending.returned (ftV f)) HF.out).symm, below_set3 b9 (by first | omega | (simp; omega) | simp) _ _ _⟩
      have hv : decide (nodeIdx s n.name < (k : Int)) = false := dec_no (fun g => hP ((idx_lt HXM.out).1 g))
      have HN' := Lib.hid (step_uptoI (P := fun j x => (nameF s j x).err = 0) HN.out HX.out (by unfold nameF; rw [if_neg hP]))
      clear hP HXM
      generalize nodeIdx s n.name = v at *
      go_upto_region 6 with (fail)
      have HK : Hid (∀ W, Below wr.heap.size wr W → W.cell? ⟨w.heap.size, 0, none⟩ = some (.slice (some ⟨b, off, none⟩) s.length cap) ∧ W.cell? ⟨b, off + k * 7, none⟩ = some (.string n.name)) := fun W hW => ⟨old_cell hW c0, old_cell hW d0⟩
      go_cut [27] (fun v27 W => v27 = .bool false ∧ Below wr.heap.size wr W)
      case first =>
        go_region_held3 (fun W => W.cell? ⟨w.heap.size, 0, none⟩ = some (.slice (some ⟨b, off, none⟩) s.length cap) ∧ W.cell? ⟨b, off + k * 7, none⟩ = some (.string n.name)) (first | (with_reducible exact HK.out _ bE) | go_keep)
          (first | ((go_at_call 54); (refine (HVX.out _ (hB.trans (Below.mono (B := wr.heap.size) bE hsB))).mono ?_); rintro e w3 ⟨rfl, hb3⟩; (have hb4 : Below wr.heap.size wr w3 := Below.trans bE (hb3.mono lE)); (have hs4 := hb4.size)))
        all_goals
          go_wp2_with fail
          go_meet
          exact ⟨rfl, bE⟩
      case rest =>
        obtain ⟨rfl, hbc⟩ := hcut
        go_wp2_with fail
        go_roundw
        case rel => exact ⟨k + 1, by omega, by go_num, HN', hbr.trans (hbc.mono hszr)⟩
        case measure => first | (simp [intOf]; omega) | simp [intOf]
    · obtain rfl : k = s.length := by omega
      have HF1 : Hid (scopeF s = ft2 (fstL (nodeF s) s) (mainF s)) := by
        show _ = _
        rw [HF0.out, fstL_end HN.out, ft2_0 (a := ft0) rfl]
      clear HN HF0
      obtain ⟨w3, rfl⟩ : ∃ w3 : World, w3 = wr := ⟨_, rfl⟩
      go_wp2_with fail
      clear c0
      go_loopw [4] (fun i wr => ∃ k : Nat, k ≤ s.length ∧ i = .int .i64 k ∧ Hid (∀ j, j < k → ∀ x, s[j]? = some x → (nodeF s j x).err = 0) ∧ Below w3.heap.size w3 wr) (fun i _ => s.length - (intOf i).toNat)
      case atStart => exact ⟨0, Nat.zero_le _, rfl, fun j h => absurd h (by omega), Below.refl _ _⟩
      case round =>
        obtain ⟨k, hk, rfl, HN, hbr⟩ := hrel
        have hszr := hbr.size
        have rs4 := rs.below hbr rs.lt
        have rf4 := rf.below hbr rf.lt
        have hB4 := hB.trans (hbr.mono hsB)
        have hsB4 := hB4.size
        have c0 := rs4.src
        by_cases hlt : k < s.length
        · obtain ⟨b, off, n, a, hA, hb, hn, hat, d0, d1, d2, d3, d4, d5, d6⟩ := (HS.out wr hB4).nd hlt
          subst hA
          have HX := Lib.hid hn
          obtain ⟨f, HFX⟩ : ∃ f, Hid (nodeF s 0 n = f) := ⟨_, rfl⟩
          have HVX : Hid (∀ W, Below wr.heap.size wr W → Calls Tryz.prog 55 #[srcV s (some ⟨b, off, none⟩) cap, ndV n a] W fun r w' => r = .returned (ftV f) ∧ Below W.heap.size W w') := fun W hW => by
            have hWB := hB4.trans (hW.mono hsB4)
            rw [← HFX.out]
            exact rnode_check s _ cap n a W h1 h2 (HSM.out.all n (List.mem_of_getElem? hn)) (nds_keep (HS.out W hWB) (fun _ _ _ h => h) hWB.size) ((hat.below (hW.mono hsB4)).more hWB.size)
          have i0 : (0 : Int) ≤ (k : Int) := by omega
          have i1 : (k : Int) < (s.length : Int) := by omega
          clear hn hat
          go_upto_region 11 with (fail)
          have HK : Hid (∀ W, Below wr.heap.size wr W → W.cell? ⟨w.heap.size, 0, none⟩ = some (.slice (some ⟨b, off, none⟩) s.length cap) ∧ (W.cell? ⟨b, off + k * 7, none⟩ = some (.string n.name) ∧ W.cell? ⟨b, off + k * 7 + 1, none⟩ = some (.slice a.ai n.ins.length a.ci) ∧ W.cell? ⟨b, off + k * 7 + 2, none⟩ = some (.slice a.ao n.outs.length a.co) ∧ W.cell? ⟨b, off + k * 7 + 3, none⟩ = some (.slice a.av n.vars.length a.cv) ∧ W.cell? ⟨b, off + k * 7 + 4, none⟩ = some (.slice a.aq n.eqs.length a.cq) ∧ W.cell? ⟨b, off + k * 7 + 5, none⟩ = some (.int .i64 n.line) ∧ W.cell? ⟨b, off + k * 7 + 6, none⟩ = some (.int .i64 n.col))) := fun W hW => ⟨old_cell hW c0, old_cell hW d0, old_cell hW d1, old_cell hW d2, old_cell hW d3, old_cell hW d4, old_cell hW d5, old_cell hW d6⟩
          go_cut [5] (fun v5 W => ∃ g, v5 = .pointer (some ⟨g, 0, none⟩) ∧ wr.heap.size ≤ g ∧ Row W g (ftC f) 31 ∧ Below wr.heap.size wr W)
          case first =>
            go_region_held3 (fun W => W.cell? ⟨w.heap.size, 0, none⟩ = some (.slice (some ⟨b, off, none⟩) s.length cap) ∧ (W.cell? ⟨b, off + k * 7, none⟩ = some (.string n.name) ∧ W.cell? ⟨b, off + k * 7 + 1, none⟩ = some (.slice a.ai n.ins.length a.ci) ∧ W.cell? ⟨b, off + k * 7 + 2, none⟩ = some (.slice a.ao n.outs.length a.co) ∧ W.cell? ⟨b, off + k * 7 + 3, none⟩ = some (.slice a.av n.vars.length a.cv) ∧ W.cell? ⟨b, off + k * 7 + 4, none⟩ = some (.slice a.aq n.eqs.length a.cq) ∧ W.cell? ⟨b, off + k * 7 + 5, none⟩ = some (.int .i64 n.line) ∧ W.cell? ⟨b, off + k * 7 + 6, none⟩ = some (.int .i64 n.col))) (first | (with_reducible exact HK.out _ bE) | go_keep)
              (first | ((go_at_call 55); (refine (HVX.out _ bE).mono ?_); rintro e w3 ⟨rfl, hb3⟩; (try (have r5 : Row w3 wr.heap.size ftC0 31 := (by first | (with_reducible exact Row.below (Row.drew (Row.new wr ftC0 31)) hb3 (by simp)) | (with_reducible exact Row.below (Row.new wr.drew ftC0 31) hb3 (by simp))); obtain ⟨⟨x0, x1, x2⟩, g0, g1, g2⟩ := r5.three)); (have hb4 : Below wr.heap.size wr w3 := Below.trans bE (hb3.mono lE)); (have hs4 := hb4.size)))
            all_goals
              go_wp2_with fail
              go_meet
              exact ⟨_, rfl, by first | exact Nat.le_refl _ | exact hs4, by first | (with_reducible exact Row.new _ _ _) | (with_reducible exact r5.set3 _ _ _), bE⟩
          case rest =>
            obtain ⟨g, rfl, hg, rg, hbc⟩ := hcut
            have rf5 := rf4.below hbc rf4.lt
            have hB5 := hB4.trans (hbc.mono hsB4)
            clear c0 d0 d1 d2 d3 d4 d5 d6 HK HVX
            obtain ⟨⟨y0, y1, y2⟩, _⟩ := rg.three
            by_cases hf : f.err = 0
            · have hf1 : (f.err != 0) = false := neq_no hf
              have HN' := Lib.hid (step_uptoI (P := fun j x => (nodeF s j x).err = 0) HN.out HX.out (by show (nodeF s 0 n).err = 0; rw [HFX.out]; exact hf))
              clear hf
              go_wp2_with fail
              go_roundw
              case rel => exact ⟨k + 1, by omega, by go_num, HN', hbr.trans (hbc.mono hszr)⟩
              case measure => first | (simp [intOf]; omega) | simp [intOf]
            · have hf1 : (f.err != 0) = true := neq_yes hf
              have HF : Hid (scopeF s = f) := by
                have e : nodeF s k n = f := HFX.out
                have h := fstL_stop (f := nodeF s) HN.out HX.out (by rw [e]; exact hf)
                show _ = _
                rw [HF1.out, h, e, ft2_1 hf]
              clear hf
              obtain ⟨⟨k0, k1, k2⟩, g0, g1, g2⟩ := rf5.three
              go_wp2_with fail
              exact bodyPost_ret (res1 rfl Tryz.underlying31 rfl (by kernel_rfl) rfl (rf5.set3 _ _ _)) rfl ⟨(congrArg (fun f => Ending.returned (ftV f)) HF.out).symm, below_set3 hB5 (by first | omega | (simp; omega) | simp) _ _ _⟩
        · obtain rfl : k = s.length := by omega
          have HF2 : Hid (scopeF s = mainF s) := by
            show _ = _
            rw [HF1.out, fstL_end HN.out, ft2_0 (a := ft0) rfl]
          have HR := Lib.hid (rnode_any s A cap mainNm wr h1 h2 (nds_keep (HS.out wr hB4) (fun _ _ _ h => h) hsB4))
          have hm := node_mem (s := s) (nm := mainNm)
          by_cases hP : mainNm ∈ s.map Nd.name
          · have hv : decide (nodeIdx s mainNm < 0) = false := dec_no (by have := hm.2 hP; omega)
            have HF : Hid (scopeF s = ft0) := by show _ = _; rw [HF2.out]; unfold mainF; rw [if_neg (fun g => g hP)]
            clear hm hP
            generalize nodeIdx s mainNm = v at *
            go_wp2_with fail
            refine HR.out.mono ?_
            rintro r w5 ⟨rfl, hb5⟩
            have rf5 := rf4.below hb5 rf4.lt
            have hB5 := hB4.trans (hb5.mono hsB4)
            obtain ⟨⟨k0, k1, k2⟩, g0, g1, g2⟩ := rf5.three
            go_wp2_with fail
            exact bodyPost_ret (res1 rfl Tryz.underlying31 rfl (by kernel_rfl) rfl (rf5.set3 _ _ _)) rfl ⟨(congrArg (fun f => Ending.returned (ftV f)) HF.out).symm, below_set3 hB5 (by first | omega | (simp; omega) | simp) _ _ _⟩
          · have hv : decide (nodeIdx s mainNm < 0) = true := dec_yes (by have := mt hm.1 hP; omega)
            have HF : Hid (scopeF s = ⟨27, 0, 0⟩) := by show _ = _; rw [HF2.out]; unfold mainF; rw [if_pos hP]
            clear hm hP
            generalize nodeIdx s mainNm = v at *
            go_wp2_with fail
            refine HR.out.mono ?_
            rintro r w5 ⟨rfl, hb5⟩
            have rf5 := rf4.below hb5 rf4.lt
            have hB5 := hB4.trans (hb5.mono hsB4)
            go_wp2_with fail
            refine (rwrong_at _ _ _ _).mono ?_
            rintro r w9 ⟨rfl, hb9⟩
            have q9 : Below w5.heap.size w5 w9 := Below.trans bE (hb9.mono lE)
            have rf9 := rf5.below q9 rf5.lt
            have b9 := Below.trans hB5 (q9.mono (Below.size hB5))
            obtain ⟨⟨k0, k1, k2⟩, h0, h1, h2⟩ := rf9.three
            go_wp2_with fail
            exact bodyPost_ret (res1 rfl Tryz.underlying31 rfl (by kernel_rfl) rfl (rf9.set3 _ _ _)) rfl ⟨(congrArg (fun f => Ending.returned (ftV f)) HF.out).symm, below_set3 b9 (by first | omega | (simp; omega) | simp) _ _ _⟩
end Go.Proofs.YtabceednmgijoaaGreat
