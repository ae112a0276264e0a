/-
  What is wrong first with a source's names: the contract of scope.Check.
-/
import Derived.Test.YtabceednmgijoaaGreatScK
namespace Go.Proofs.YtabceednmgijoaaGreat
open Go.RowKit
theorem chk1_any (n : Nd) (a : NdA) (b1 : Nat) (w : World) (sm : NdSm n) (hn : NdAt w w.heap.size n a) (r1 : Row w b1 (ndArr n a) 36) :
    Calls Tryz.prog 46 #[.pointer (some ⟨b1, 0, none⟩)] w fun r w' => r = .returned (ftV (variablesF n)) ∧ Below w.heap.size w w' := by
  have b0 : Below w.heap.size w (w.alloc (.cells ftC0 31)) := bE
  have rf := Row.new w ftC0 31
  have r1' := r1.below b0 r1.lt
  have HN := Lib.hid (hn.next b0)
  clear hn r1
  go_enter Tryz.func46, Tryz.ntmps46
  go_upto_region 1 with (fail)
  generalize w.alloc (.cells ftC0 31) = W1 at *
  obtain ⟨c0, c1, cc2, c3, c4, c5, c6⟩ := r1'.nd
  go_wp2_with fail
  refine (variables_any n a W1 sm HN.out).mono ?_
  rintro r w2 ⟨rfl, hb2⟩
  have rf2 := rf.below hb2 rf.lt
  have hB2 := b0.trans (hb2.mono b0.size)
  obtain ⟨⟨k0, k1', k2'⟩, g0, g1, g2⟩ := rf2.three
  go_wp2_with fail
  exact bodyPost_ret (res1 rfl Tryz.underlying31 rfl (by kernel_rfl) rfl (rf2.set3 _ _ _)) rfl ⟨rfl, below_set3 hB2 (Nat.le_refl _) _ _ _⟩
theorem chk2_any (s : List Nd) (A : Option Addr) (cap : Nat) (n : Nd) (a : NdA) (b1 b2 : Nat) (w : World) (h1 : s.length ≤ cap) (h2 : cap ≤ maxLen) (sm : NdSm n) (hs : Nds w w.heap.size A s) (hn : NdAt w w.heap.size n a) (r1 : Row w b1 #[.slice A s.length cap] 24) (r2 : Row w b2 (ndArr n a) 36) :
    Calls Tryz.prog 48 #[.pointer (some ⟨b1, 0, none⟩), .pointer (some ⟨b2, 0, none⟩)] w fun r w' => r = .returned (ftV (equationsF s n)) ∧ Below w.heap.size w w' := by
  have b0 : Below w.heap.size w (w.alloc (.cells ftC0 31)) := bE
  have rf := Row.new w ftC0 31
  have r1' := r1.below b0 r1.lt
  have r2' := r2.below b0 r2.lt
  have HS := Lib.hid (nds_keep hs (keeps_of b0) b0.size)
  have HN := Lib.hid (hn.next b0)
  clear hn hs r1 r2
  go_enter Tryz.func48, Tryz.ntmps48
  go_upto_region 1 with (fail)
  generalize w.alloc (.cells ftC0 31) = W1 at *
  have z0 := r1'.src
  obtain ⟨c0, c1, cc2, c3, c4, c5, c6⟩ := r2'.nd
  go_wp2_with fail
  refine (equations_any s A cap n a W1 h1 h2 sm HS.out HN.out).mono ?_
  rintro r w2 ⟨rfl, hb2⟩
  have rf2 := rf.below hb2 rf.lt
  have hB2 := b0.trans (hb2.mono b0.size)
  obtain ⟨⟨k0, k1', k2'⟩, g0, g1, g2⟩ := rf2.three
  go_wp2_with fail
  exact bodyPost_ret (res1 rfl Tryz.underlying31 rfl (by kernel_rfl) rfl (rf2.set3 _ _ _)) rfl ⟨rfl, below_set3 hB2 (Nat.le_refl _) _ _ _⟩
theorem equationsF_zero {s : List Nd} {n : Nd} (h : (equationsF s n).err = 0) : equationsF s n = ft0 := by
  unfold equationsF at h ⊢
  obtain ⟨h1, h2⟩ := ft2_ok h
  rw [ft2_0 h1]
  exact fstL_zero h2
set_option maxRecDepth 100000 in
set_option maxHeartbeats 1000000 in
theorem check15_any (s : List Nd) (A : Option Addr) (cap : Nat) (w : World) (sm : SrcSm s) (h1 : s.length ≤ cap) (h2 : cap ≤ maxLen) (h : Nds w w.heap.size A s) :
    Calls Tryz.prog 23 #[srcV s A cap] w fun r w' => r = .returned (ftV (scopeF s)) ∧ Below w.heap.size w w' := by
  have rf1 := rowNew2 w (.cells #[.slice A s.length cap] 24) ftC0 31
  have rs1 := (Row.new w #[.slice A s.length cap] 24).alloc (.cells ftC0 31)
  have b1 : Below w.heap.size w ((w.alloc (.cells #[.slice A s.length cap] 24)).alloc (.cells ftC0 31)) := bE
  have HS : Hid (∀ W, Below w.heap.size w W → Nds W w.heap.size A s) := fun W hW => nds_keep h (keeps_of hW) (Nat.le_refl _)
  have HSM := Lib.hid sm
  have h2' : cap ≤ 9223372036854775807 := by unfold maxLen at h2; omega
  clear h sm
  go_enter Tryz.func23, Tryz.ntmps23
  go_upto_region 1 with (fail)
  generalize (w.alloc (.cells #[.slice A s.length cap] 24)).alloc (.cells ftC0 31) = W1 at *
  have hs1 := b1.size
  have c0 := rs1.src
  go_wp2_with fail
  refine (source_any s A cap W1 HSM.out h1 h2 (nds_keep (HS.out W1 b1) (fun _ _ _ h => h) hs1)).mono ?_
  rintro r w2 ⟨rfl, hb2⟩
  have rs2 := rs1.below hb2 rs1.lt
  have rf2 := rf1.below hb2 rf1.lt
  have hB2 := b1.trans (hb2.mono hs1)
  have hs2 := hB2.size
  clear c0 rs1 rf1 b1 hb2 hs1
  have c0 := rs2.src
  by_cases hP : SrcRt s
  rotate_left 1
  · have HF := Lib.hid (scopeF_2 hP)
    rw [cB_false hP]
    clear hP
    go_wp2_with fail
    refine (fault_any _ _ _ _).mono ?_
    rintro r w9 ⟨rfl, hb9⟩
    have q9 : Below w2.heap.size w2 w9 := Below.trans bE (hb9.mono lE)
    have rf9 := rf2.below q9 rf2.lt
    have b9 := Below.trans hB2 (q9.mono (Below.size hB2))
    obtain ⟨⟨k0, k1, k2⟩, h0, h1, h2⟩ := rf9.three
    go_wp2_with fail
    exact bodyPost_ret (res1 rfl Tryz.underlying31 rfl (by kernel_rfl) rfl (rf9.set3 _ _ _)) rfl ⟨(congrArg (fun f => Ending.returned (ftV f)) HF.out).symm, below_set3 b9 (by first | omega | (simp; omega) | simp) _ _ _⟩
  have HF0 := Lib.hid (scopeF_rt hP)
  rw [cB_true hP]
  clear hP
  go_wp2_with fail
  refine (names_scope s A cap w2 h1 h2 (nds_keep (HS.out w2 hB2) (fun _ _ _ h => h) hs2)).mono ?_
  rintro r w3 ⟨rfl, hb3⟩
  have rs3 := rs2.below hb3 rs2.lt
  have rf3 := rf2.below hb3 rf2.lt
  have hB3 := hB2.trans (hb3.mono hs2)
  have hs3 := hB3.size
  have hl3 := rf3.lt
  clear c0 rs2 rf2 hB2 hb3 hs2
  obtain ⟨f, HFN⟩ : ∃ f, Hid (fstL (nameF s) s = f) := ⟨_, rfl⟩
  rw [HFN.out] at HF0 ⊢
  by_cases hf : f.err = 0
  rotate_left 1
  · have hf1 : (f.err != 0) = true := neq_yes hf
    have HF : Hid (scopeF s = f) := by show _ = _; rw [HF0.out, ft2_1 hf]
    clear hf
    obtain ⟨⟨k0, k1, k2⟩, g0, g1, g2⟩ := rf3.three
    go_wp2_with fail
    exact bodyPost_ret (res1 rfl Tryz.underlying31 rfl (by kernel_rfl) rfl ((rf3.set3 _ _ _).alloc _)) rfl ⟨(congrArg (fun f => Ending.returned (ftV f)) HF.out).symm, (below_set3 hB3 (by first | omega | (simp; omega) | simp) _ _ _).alloc (by first | (simp [World.setCell]; omega) | simp [World.setCell]) _⟩
  have hf1 : (f.err != 0) = false := neq_no hf
  have HF1 : Hid (scopeF s = ft2 (fstL (nodeF s) s) (mainF s)) := by show _ = _; rw [HF0.out, ft2_0 hf]
  clear hf
  have c0 := rs3.src
  have ba : Below w3.heap.size w3 (w3.alloc (.cells (ftC f) 31)) := bE
  go_upto_region 6 with (fail)
  generalize hW4 : w3.alloc (.cells (ftC f) 31) = w4 at *
  clear hW4
  have rs4 := rs3.below ba rs3.lt
  have rf4 := rf3.below ba rf3.lt
  have hB4 := hB3.trans (ba.mono hs3)
  have hs4 := hB4.size
  clear c0 rs3 rf3 hB3 hs3 ba hl3 HF0
  have c0 := rs4.src
  go_wp2_with fail
  clear c0
  go_loopw [23] (fun i wr => ∃ k : Nat, k ≤ s.length ∧ i = .int .i64 k ∧ Hid (∀ j, j < k → ∀ x, s[j]? = some x → (nodeF s j x).err = 0) ∧ Below w4.heap.size w4 wr) (fun i _ => s.length - (intOf i).toNat)
  case atStart => exact ⟨0, Nat.zero_le _, rfl, fun j h => absurd h (by omega), Below.refl _ _⟩
  case round =>
    obtain ⟨k, hk, rfl, HN, hbr⟩ := hrel
    have hszr := hbr.size
    have rs := rs4.below hbr rs4.lt
    have rf := rf4.below hbr rf4.lt
    have hB := hB4.trans (hbr.mono hs4)
    have hsB := hB.size
    by_cases hlt : k < s.length
    · obtain ⟨b, off, n, a, hA, hb, hn, hat, d0, d1, d2, d3, d4, d5, d6⟩ := (HS.out wr hB).nd hlt
      rw [hA]
      have HA := Lib.hid hA
      have HX := Lib.hid hn
      have HSN := Lib.hid (HSM.out.all n (List.mem_of_getElem? hn))
      have HAT : Hid (∀ W, Below wr.heap.size wr W → NdAt W W.heap.size n a) := fun W hW => (hat.below (hW.mono hsB)).more (Nat.le_trans hsB hW.size)
      have HSW : Hid (∀ W, Below wr.heap.size wr W → Nds W W.heap.size A s) := fun W hW => nds_keep (HS.out W (hB.trans (hW.mono hsB))) (fun _ _ _ h => h) (Nat.le_trans hsB hW.size)
      obtain ⟨f1, HV1⟩ : ∃ f, Hid (variablesF n = f) := ⟨_, rfl⟩
      obtain ⟨f2, HV2⟩ : ∃ f, Hid (equationsF s n = f) := ⟨_, rfl⟩
      have HZ2 : Hid (f2.err = 0 → f2 = ft0) := fun g => by
        rw [← HV2.out] at g ⊢
        exact equationsF_zero g
      have HEQ : Hid (nodeF s k n = ft2 f1 f2) := by show _ = _; rw [← HV1.out, ← HV2.out]; rfl
      have rn := Row.new wr (ndArr n a) 36
      have ba : Below wr.heap.size wr (wr.alloc (.cells (ndArr n a) 36)) := bE
      clear hA hn hat
      go_upto_region 9 with (fail)
      clear d0 d1 d2 d3 d4 d5 d6
      generalize hW6 : wr.alloc (.cells (ndArr n a) 36) = w6 at *
      clear hW6
      have hsa := ba.size
      have bb : Below w6.heap.size w6 (w6.alloc (.cells #[.func (.func 46) #[] #[.pointer (some ⟨wr.heap.size, 0, none⟩)], .func (.func 48) #[] #[.pointer (some ⟨w.heap.size, 0, none⟩), .pointer (some ⟨wr.heap.size, 0, none⟩)]] 85)) := bE
      have rc := Row.new w6 #[.func (.func 46) #[] #[.pointer (some ⟨wr.heap.size, 0, none⟩)], .func (.func 48) #[] #[.pointer (some ⟨w.heap.size, 0, none⟩), .pointer (some ⟨wr.heap.size, 0, none⟩)]] 85
      have b67 := ba.trans (bb.mono hsa)
      go_wp2_with fail
      generalize hW7 : w6.alloc (.cells #[.func (.func 46) #[] #[.pointer (some ⟨wr.heap.size, 0, none⟩)], .func (.func 48) #[] #[.pointer (some ⟨w.heap.size, 0, none⟩), .pointer (some ⟨wr.heap.size, 0, none⟩)]] 85) = w7 at *
      clear hW7
      have rs7 := rs.below b67 rs.lt
      have rn7 := rn.below bb rn.lt
      have rf7 := rf.below b67 rf.lt
      have hB7 := hB.trans (b67.mono hsB)
      have hs7 := b67.size
      refine (first_two 46 48 _ _ w6.heap.size w7 (fun _ => False) f1 f2 (fun _ => True) (fun _ => True) 85 (enters_of Tryz.func46 (by kernel_rfl) rfl) (enters_of Tryz.func48 (by kernel_rfl) rfl) rc (fun g => g)
        (fun W o h => h) (fun W o h => h) (fun W g y0 y1 y2 hg h => h) ?f1 ?f2 (fun k hk => hk.elim) HZ2.out).mono ?_
      case f1 =>
        intro W hW
        refine (chk1_any n a _ W HSN.out (HAT.out W (b67.trans (hW.mono hs7))) (rn7.below hW rn7.lt)).mono fun r W' hr => ?_
        obtain ⟨g1, g2⟩ := hr
        rw [HV1.out] at g1
        exact ⟨g1, Upd.of_below g2, fun _ => trivial⟩
      case f2 =>
        intro W hW hR
        have hW' : Below w7.heap.size w7 W := Upd.below hW (fun k hk => hk.elim) (Nat.le_refl _)
        have hW2 := b67.trans (hW'.mono hs7)
        refine (chk2_any s A cap n a _ _ W h1 h2 HSN.out (HSW.out W hW2) (HAT.out W hW2) (rs7.below hW' rs7.lt) (rn7.below hW' rn7.lt)).mono fun r W' hr => ?_
        obtain ⟨g1, g2⟩ := hr
        rw [HV2.out] at g1
        exact ⟨g1, Upd.of_below g2, fun _ => trivial⟩
      rintro r w8 ⟨rfl, hu8, _⟩
      have hb8 : Below w7.heap.size w7 w8 := Upd.below hu8 (fun k hk => hk.elim) (Nat.le_refl _)
      have rf8 := rf7.below hb8 rf7.lt
      have hB8 := hB7.trans (hb8.mono hB7.size)
      have hsB8 := hB8.size
      have hs8 := hb8.size
      have hl8 := rf8.lt
      obtain ⟨f', HF'⟩ : ∃ f, Hid (ft2 f1 f2 = f) := ⟨_, rfl⟩
      rw [HF'.out]
      by_cases hf : f'.err = 0
      · have hf1 : (f'.err != 0) = false := neq_no hf
        have HN' := Lib.hid (step_uptoI (P := fun j x => (nodeF s j x).err = 0) HN.out HX.out (by rw [HEQ.out, HF'.out]; exact hf))
        have b9 : Below w4.heap.size w4 (w8.alloc (.cells (ftC f') 31)) := ((hbr.trans (b67.mono hszr)).trans (hb8.mono (by omega))).alloc (by omega) _
        clear hf
        go_wp2_with fail
        go_roundw
        case rel => exact ⟨k + 1, by omega, by go_num, HN', b9⟩
        case measure => first | (simp [intOf]; omega) | simp [intOf]
      · have hf1 : (f'.err != 0) = true := neq_yes hf
        have HF : Hid (scopeF s = f') := by
          have e : nodeF s k n = f' := by rw [HEQ.out, HF'.out]
          have h := fstL_stop (f := nodeF s) HN.out HX.out (by rw [e]; exact hf)
          show _ = _
          rw [HF1.out, h, e, ft2_1 hf]
        clear hf
        obtain ⟨⟨k0, k1, k2⟩, g0, g1, g2⟩ := rf8.three
        go_wp2_with fail
        exact bodyPost_ret (res1 rfl Tryz.underlying31 rfl (by kernel_rfl) rfl ((rf8.set3 _ _ _).alloc _)) rfl ⟨(congrArg (fun f => Ending.returned (ftV f)) HF.out).symm, (below_set3 hB8 (by first | omega | (simp; omega) | simp) _ _ _).alloc (by first | (simp [World.setCell]; omega) | simp [World.setCell]) _⟩
    · obtain rfl : k = s.length := by omega
      have HF2 : Hid (scopeF s = mainF s) := by
        show _ = _
        rw [HF1.out, fstL_end HN.out, ft2_0 (a := ft0) rfl]
      have HR := Lib.hid (find_any s s.length A cap mainNm wr rfl h1 h2 (nds_keep (HS.out wr hB) (fun _ _ _ h => h) hsB))
      have c0 := rs.src
      by_cases hP : mainNm ∈ s.map Nd.name
      · have HC := Lib.hid (cB_true hP)
        have HF : Hid (scopeF s = ft0) := by show _ = _; rw [HF2.out]; unfold mainF; rw [if_neg (fun g => g hP)]
        clear hP
        go_wp2_with fail
        refine HR.out.mono ?_
        rintro r w5 ⟨⟨m, am, rfl, hm1, hm0⟩, hb5⟩
        rw [HC.out]
        have rf5 := rf.below hb5 rf.lt
        have hB5 := hB.trans (hb5.mono hsB)
        have hsB5 := hB5.size
        have hl5 := rf5.lt
        obtain ⟨⟨k0, k1, k2⟩, g0, g1, g2⟩ := rf5.three
        go_wp2_with fail
        exact bodyPost_ret (res1 rfl Tryz.underlying31 rfl (by kernel_rfl) rfl ((rf5.set3 _ _ _).alloc _)) rfl ⟨(congrArg (fun f => Ending.returned (ftV f)) HF.out).symm, (below_set3 hB5 (by first | omega | (simp; omega) | simp) _ _ _).alloc (by first | (simp [World.setCell]; omega) | simp [World.setCell]) _⟩
      · have HC := Lib.hid (cB_false hP)
        have HF : Hid (scopeF s = ⟨27, 0, 0⟩) := by show _ = _; rw [HF2.out]; unfold mainF; rw [if_pos hP]
        clear hP
        go_wp2_with fail
        refine HR.out.mono ?_
        rintro r w5 ⟨⟨m, am, rfl, hm1, hm0⟩, hb5⟩
        rw [HC.out]
        have rf5 := rf.below hb5 rf.lt
        have hB5 := hB.trans (hb5.mono hsB)
        have hsB5 := hB5.size
        have hl5 := rf5.lt
        go_wp2_with fail
        refine (fault_any _ _ _ _).mono ?_
        rintro r w9 ⟨rfl, hb9⟩
        have q9 : Below w5.heap.size w5 w9 := Below.trans bE (hb9.mono lE)
        have rf9 := rf5.below q9 rf5.lt
        have b9 := Below.trans hB5 (q9.mono (Below.size hB5))
        obtain ⟨⟨k0, k1, k2⟩, h0, h1, h2⟩ := rf9.three
        go_wp2_with fail
        exact bodyPost_ret (res1 rfl Tryz.underlying31 rfl (by kernel_rfl) rfl (rf9.set3 _ _ _)) rfl ⟨(congrArg (fun f => Ending.returned (ftV f)) HF.out).symm, below_set3 b9 (by first | omega | (simp; omega) | simp) _ _ _⟩
end Go.Proofs.YtabceednmgijoaaGreat
