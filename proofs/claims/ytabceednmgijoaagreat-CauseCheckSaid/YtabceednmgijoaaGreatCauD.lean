/-
  Which name hangs on itself first: the contracts of cause.round, Wants and Check.
-/
import Derived.Test.YtabceednmgijoaaGreatCauC
namespace Go.Proofs.YtabceednmgijoaaGreat
open Go.RowKit
attribute [local go_sem ↓] Go.wp_at_zero Go.wp_at_succ
theorem rowAt4 (w : World) (o1 o2 o3 : Obj) (cs : Array Value) (t : TypeId) : Row ((((w.alloc o1).alloc o2).alloc o3).alloc (.cells cs t)) (w.heap.size + 3) cs t := by
  have h := Row.new (((w.alloc o1).alloc o2).alloc o3) cs t
  simpa using h
theorem met_val {w : World} {b : Nat} {l : List ByteArray} (h : MetS w b l) {nm : ByteArray} (hs : nm.size ≤ maxLen) {P : Bool} (hP : P = true ↔ nm ∈ l) : (Instr.lookup 58 (.map (some b)) (.string nm) false).run Tryz.prog w = .ok (.int .i64 (bif P then 1 else 0)) w := by
  cases P
  · exact (h.look hs).2 (fun g => by have := hP.2 g; cases this)
  · exact (h.look hs).1 (hP.1 rfl)
theorem cauF_yes {n : Nd} {q : Eqn} {j : Nat} {nm : ByteArray} (h : Hg (hangsF n) nm nm) : cauF n q j nm = ⟨32, q.line, q.col⟩ := if_pos h
theorem cauF_no {n : Nd} {q : Eqn} {j : Nat} {nm : ByteArray} (h : ¬ Hg (hangsF n) nm nm) : cauF n q j nm = ft0 := if_neg h
set_option maxRecDepth 100000 in
set_option maxHeartbeats 1000000 in
theorem cround_any (n : Nd) (a : NdA) (nm : ByteArray) (w : World) (sm : NdSm n) (hn : NdAt w w.heap.size n a) (hV : ∀ x, ∀ y ∈ hangsF n x, y ∈ nms (vrs n)) (hs : nm.size ≤ maxLen) :
    Calls Tryz.prog 24 #[ndV n a, .string nm] w fun r w' => r = .returned (.bool (cB (Hg (hangsF n) nm nm))) ∧ Below w.heap.size w w' := by
  obtain ⟨P, HPB⟩ : ∃ P : Bool, Hid (cB (Hg (hangsF n) nm nm) = P) := ⟨_, rfl⟩
  rw [HPB.out]
  have hmm := @run_makeMap Tryz.prog
  have HN : Hid (∀ W, Below w.heap.size w W → NdAt W W.heap.size n a) := fun W hW => (hn.below hW).more hW.size
  have HSM := Lib.hid sm
  have HV := Lib.hid hV
  obtain ⟨W4, hW4⟩ : ∃ W4, (((w.alloc (.cells (ndArr n a) 36)).alloc (.map #[] 0)).alloc (.cells #[.map (some (w.heap.size + 1))] 58)).alloc (.cells #[rF w.heap.size (w.heap.size + 2) (w.heap.size + 3)] 89) = W4 := ⟨_, rfl⟩
  have b4 : Below w.heap.size w W4 := by rw [← hW4]; exact bE
  have rn4 : Row W4 w.heap.size (ndArr n a) 36 := by rw [← hW4]; exact (((Row.new w _ _).alloc _).alloc _).alloc _
  have rp4 : Row W4 (w.heap.size + 2) #[.map (some (w.heap.size + 1))] 58 := by rw [← hW4]; exact (rowNew3 w _ _ _ _).alloc _
  have rf4 : Row W4 (w.heap.size + 3) #[rF w.heap.size (w.heap.size + 2) (w.heap.size + 3)] 89 := by rw [← hW4]; exact rowAt4 w _ _ _ _ _
  have m4 : MetS W4 (w.heap.size + 1) [] := by
    have h := mets_made (w.alloc (.cells (ndArr n a) 36))
    rw [World.size_alloc] at h
    rw [← hW4]
    exact (h.alloc _).alloc _
  have hF : ∀ args w, (callFunc 51 args).run Tryz.prog w = .ok (.enter 51 args) w := enters_of Tryz.func51 (by kernel_rfl) rfl
  clear hn sm hV
  go_enter Tryz.func24, Tryz.ntmps24
  go_upto_region 4 with (fail)
  clear hW4
  have hs4 := b4.size
  have f4 : W4.cell? ⟨w.heap.size + 1 + 1 + 1, 0, none⟩ = some (rF w.heap.size (w.heap.size + 1 + 1) (w.heap.size + 1 + 1 + 1)) := (rf4.cell 0).trans rfl
  go_wp2_with fail
  refine (round1_any n a w.heap.size (w.heap.size + 2) (w.heap.size + 3) (w.heap.size + 1) 89 HSM.out HV.out _ nm [] W4 (Nat.le_refl _) (fun y hy => by cases hy) (HN.out W4 b4) rn4 rp4 rf4 m4).mono ?_
  rintro r w5 ⟨rfl, ⟨L5, m5, HD⟩, u5⟩
  have rp5 := mupd_row u5 m4 rp4
  have p5 : w5.cell? ⟨w.heap.size + 1 + 1, 0, none⟩ = some (.map (some (w.heap.size + 1))) := (rp5.cell 0).trans rfl
  have hlk := met_val m5 hs (P := P) (by rw [HD.out.all, ← HPB.out]; exact cB_iff)
  have hB5 : Below w.heap.size w w5 := b4.trans (u5.below (fun k e => by omega) hs4)
  clear f4
  go_wp2_with fail
  go_ret
  exact ⟨by cases P <;> rfl, hB5⟩
set_option maxRecDepth 100000 in
set_option maxHeartbeats 1000000 in
theorem ccheck_any (s : List Nd) (A : Option Addr) (cap : Nat) (w : World) (sm : SrcSm s) (h1 : s.length ≤ cap) (h2 : cap ≤ maxLen) (h : Nds w w.heap.size A s) :
    Calls Tryz.prog 8 #[srcV s A cap] w fun r w' => r = .returned (ftV (causeF s)) ∧ Below w.heap.size w w' := by
  have rf1 := rowNew2 w (.cells #[.slice A s.length cap] 24) ftC0 31
  have rs1 := (Row.new w #[.slice A s.length cap] 24).alloc (.cells ftC0 31)
  have b1 : Below w.heap.size w ((w.alloc (.cells #[.slice A s.length cap] 24)).alloc (.cells ftC0 31)) := bE
  have HS : Hid (∀ W, Below w.heap.size w W → Nds W w.heap.size A s) := fun W hW => nds_keep h (keeps_of hW) (Nat.le_refl _)
  have HSM := Lib.hid sm
  have h2' : cap ≤ 9223372036854775807 := by unfold maxLen at h2; omega
  clear h sm
  go_enter Tryz.func8, Tryz.ntmps8
  go_upto_region 1 with (fail)
  generalize (w.alloc (.cells #[.slice A s.length cap] 24)).alloc (.cells ftC0 31) = W1 at *
  have hs1 := b1.size
  have c0 := rs1.src
  go_wp2_with fail
  refine (check15_any s A cap W1 HSM.out h1 h2 (nds_keep (HS.out W1 b1) (fun _ _ _ h => h) hs1)).mono ?_
  rintro r w2 ⟨rfl, hb2⟩
  have rs2 := rs1.below hb2 rs1.lt
  have rf2 := rf1.below hb2 rf1.lt
  have hB2 := b1.trans (hb2.mono hs1)
  have hs2 := hB2.size
  have hl2 := rf2.lt
  clear c0 rs1 rf1 b1 hb2 hs1
  obtain ⟨f, HFN⟩ : ∃ f, Hid (scopeF s = f) := ⟨_, rfl⟩
  have HF0 : Hid (causeF s = ft2 f (fstL cauNF s)) := by show _ = _; rw [← HFN.out]; rfl
  rw [HFN.out]
  by_cases hf : f.err = 0
  rotate_left 1
  · have hf1 : (f.err != 0) = true := neq_yes hf
    have HF : Hid (causeF s = f) := by show _ = _; rw [HF0.out, ft2_1 hf]
    clear hf
    obtain ⟨⟨k0, k1, k2⟩, g0, g1, g2⟩ := rf2.three
    go_wp2_with fail
    exact bodyPost_ret (res1 rfl Tryz.underlying31 rfl (by kernel_rfl) rfl ((rf2.set3 _ _ _).alloc _)) rfl ⟨(congrArg (fun f => Ending.returned (ftV f)) HF.out).symm, (below_set3 hB2 (by first | omega | (simp; omega) | simp) _ _ _).alloc (by first | (simp [World.setCell]; omega) | simp [World.setCell]) _⟩
  have hf1 : (f.err != 0) = false := neq_no hf
  have HF1 : Hid (causeF s = fstL cauNF s) := by show _ = _; rw [HF0.out, ft2_0 hf]
  have H0 : Hid ((scopeF s).err = 0) := by show _ = _; rw [HFN.out]; exact hf
  clear hf
  have ba : Below w2.heap.size w2 (w2.alloc (.cells (ftC f) 31)) := bE
  go_upto_region 4 with (fail)
  generalize hW4 : w2.alloc (.cells (ftC f) 31) = w4 at *
  clear hW4
  have rs4 := rs2.below ba rs2.lt
  have rf4 := rf2.below ba rf2.lt
  have hB4 := hB2.trans (ba.mono hs2)
  have hs4 := hB4.size
  have c0 := rs4.src
  clear rs2 rf2 hB2 hs2 ba hl2 HF0 HFN
  go_wp2_with fail
  clear c0
  go_loopw [19] (fun i wr => ∃ k : Nat, k ≤ s.length ∧ i = .int .i64 k ∧ Hid (∀ j, j < k → ∀ x, s[j]? = some x → (cauNF j x).err = 0) ∧ Below w4.heap.size w4 wr) (fun i _ => s.length - (intOf i).toNat)
  case atStart => exact ⟨0, Nat.zero_le _, rfl, fun j h => absurd h (by omega), Below.refl _ _⟩
  case round =>
    obtain ⟨k, hk, rfl, HK, hbr⟩ := hrel
    have rf := rf4.below hbr rf4.lt
    have hB := hB4.trans (hbr.mono hs4)
    have hsB := hB.size
    have hszr := hbr.size
    by_cases hlt : k < s.length
    rotate_left 1
    · obtain rfl : k = s.length := by omega
      have HF : Hid (causeF s = ft0) := HF1.out.trans (fstL_end HK.out)
      obtain ⟨⟨k0, k1, k2⟩, g0, g1, g2⟩ := rf.three
      go_wp2_with fail
      exact bodyPost_ret (res1 rfl Tryz.underlying31 rfl (by kernel_rfl) rfl (rf.set3 _ _ _)) rfl ⟨(congrArg (fun f => Ending.returned (ftV f)) HF.out).symm, below_set3 hB (by first | omega | (simp; omega) | simp) _ _ _⟩
    obtain ⟨b, off, n, a, hA, hb, hn, hat, d0, d1, d2, d3, d4, d5, d6⟩ := (HS.out wr hB).nd hlt
    subst hA
    have HX := Lib.hid hn
    have hnm := List.mem_of_getElem? hn
    have HNS := Lib.hid (HSM.out.all n hnm)
    have HV := Lib.hid (hangs_V H0.out hnm)
    have lq := hat.lq
    have gq := hat.mq
    have gq' : a.cq ≤ 9223372036854775807 := by unfold maxLen at gq; omega
    have HAT : Hid (∀ W, Below wr.heap.size wr W → NdAt W w.heap.size n a) := fun W hW => hat.below (hW.mono hsB)
    have i0 : (0 : Int) ≤ (k : Int) := by omega
    have i1 : (k : Int) < (s.length : Int) := by omega
    have HFn : Hid ((cauNF k n).err ≠ 0 → causeF s = cauNF k n) := fun g => by
      rw [HF1.out, fstL_stop (f := cauNF) HK.out HX.out g]
    have rn1 := Row.new wr (ndArr n a) 36
    have ba : Below wr.heap.size wr (wr.alloc (.cells (ndArr n a) 36)) := bE
    clear hn hat hnm
    go_upto_region 7 with (fail)
    clear d0 d1 d2 d3 d4 d5 d6
    generalize hW6 : wr.alloc (.cells (ndArr n a) 36) = w6 at *
    clear hW6
    have hsa := ba.size
    have rf6 := rf.below ba rf.lt
    have hB6 := hB.trans (ba.mono hsB)
    have hs6 := hB6.size
    obtain ⟨wo, rfl⟩ : ∃ wo : World, wo = wr := ⟨_, rfl⟩
    obtain ⟨c0, c1, cc2, c3, c4, c5, c6⟩ := rn1.nd
    go_wp2_with fail
    clear c0 c1 cc2 c3 c4 c5 c6
    go_loopw [26] (fun i wr => ∃ p : Nat, p ≤ n.eqs.length ∧ i = .int .i64 p ∧ Hid (∀ j, j < p → ∀ x, n.eqs[j]? = some x → (cauQF n j x).err = 0) ∧ Below w6.heap.size w6 wr) (fun i _ => n.eqs.length - (intOf i).toNat)
    case atStart => exact ⟨0, Nat.zero_le _, rfl, fun j h => absurd h (by omega), Below.refl _ _⟩
    case round =>
      obtain ⟨p, hp, rfl, HP, hbq⟩ := hrel
      have hszq := hbq.size
      have rn7 := rn1.below hbq rn1.lt
      have rf7 := rf6.below hbq rf6.lt
      have hB7 := hB6.trans (hbq.mono hs6)
      have hsB7 := hB7.size
      have b07 := ba.trans (hbq.mono hsa)
      by_cases hlp : p < n.eqs.length
      rotate_left 1
      · obtain rfl : p = n.eqs.length := by omega
        have e : cauNF k n = ft0 := fstL_end HP.out
        have HK' := Lib.hid (step_uptoI (P := fun j x => (cauNF j x).err = 0) HK.out HX.out (by rw [e]))
        clear e
        go_wp2_with fail
        go_roundw
        case rel => exact ⟨k + 1, by omega, by go_num, HK', hbr.trans (b07.mono hszr)⟩
        case measure => first | (simp [intOf]; omega) | simp [intOf]
      obtain ⟨b', off', q, A1, k1, A2, k2, hA', hb', hq, ok, lq1, mq1, sl1, lq2, mq2, sl2, d0, d1, d2, d3, d4, d5, d6, d7, d8⟩ := (HAT.out wr b07).sq.eqn hlp
      rw [hA']
      have HQX := Lib.hid hq
      have HSQ := Lib.hid (HNS.out.eq q (List.mem_of_getElem? hq))
      have HS1 : Hid (∀ W, Below wr.heap.size wr W → Sl W w.heap.size 1 isStr A1 q.left) := fun W hW => strs_keep sl1 (keeps_of (hW.mono hsB7)) (Nat.le_refl _)
      have j0 : (0 : Int) ≤ (p : Int) := by omega
      have j1 : (p : Int) < (n.eqs.length : Int) := by omega
      have HFq : Hid ((cauQF n p q).err ≠ 0 → causeF s = cauQF n p q) := fun g => by
        have e2 : cauNF k n = cauQF n p q := by unfold cauNF; rw [fstL_stop (f := cauQF n) HP.out HQX.out g]
        exact (HFn.out (by rw [e2]; exact g)).trans e2
      have mq1' : k1 ≤ 9223372036854775807 := by unfold maxLen at mq1; omega
      have re := Row.new wr (eqArr q A1 k1 A2 k2) 51
      have bq : Below wr.heap.size wr (wr.alloc (.cells (eqArr q A1 k1 A2 k2) 51)) := bE
      clear hA' hq ok sl1 sl2
      go_upto_region 10 with (fail)
      clear d0 d1 d2 d3 d4 d5 d6 d7 d8
      generalize hW9 : wr.alloc (.cells (eqArr q A1 k1 A2 k2) 51) = w9 at *
      clear hW9
      have hsq := bq.size
      have rn9 := rn7.below bq rn7.lt
      have rf9 := rf7.below bq rf7.lt
      have hB9 := hB7.trans (bq.mono hsB7)
      have hs9 := hB9.size
      obtain ⟨wp, rfl⟩ : ∃ wp : World, wp = wr := ⟨_, rfl⟩
      obtain ⟨d0, d1, d2, d3, d4, d5, d6, d7, d8⟩ := re.eqn
      go_wp2_with fail
      clear d0 d1 d2 d3 d4 d5 d6 d7 d8
      go_loopw [33] (fun i wr => ∃ m : Nat, m ≤ q.left.length ∧ i = .int .i64 m ∧ Hid (∀ j, j < m → ∀ x, q.left[j]? = some x → (cauF n q j x).err = 0) ∧ Below w9.heap.size w9 wr) (fun i _ => q.left.length - (intOf i).toNat)
      case atStart => exact ⟨0, Nat.zero_le _, rfl, fun j h => absurd h (by omega), Below.refl _ _⟩
      case round =>
        obtain ⟨m, hm, rfl, HM, hbm⟩ := hrel
        have hszm := hbm.size
        have rn10 := rn9.below hbm rn9.lt
        have rf10 := rf9.below hbm rf9.lt
        have re10 := re.below hbm re.lt
        have hB10 := hB9.trans (hbm.mono hs9)
        have hsB10 := hB10.size
        have b10 := bq.trans (hbm.mono hsq)
        by_cases hlm : m < q.left.length
        rotate_left 1
        · obtain rfl : m = q.left.length := by omega
          have e : cauQF n p q = ft0 := fstL_end HM.out
          have HP' := Lib.hid (step_uptoI (P := fun j x => (cauQF n j x).err = 0) HP.out HQX.out (by rw [e]))
          clear e
          go_wp2_with fail
          go_roundw
          case rel => exact ⟨p + 1, by omega, by go_num, HP', hbq.trans (b10.mono hszq)⟩
          case measure => first | (simp [intOf]; omega) | simp [intOf]
        obtain ⟨bs, offs, x, hAs, hbs, hx, hsx, e0⟩ := (HS1.out wr b10).str hlm
        subst hAs
        have HXL := Lib.hid hx
        have i2 : (0 : Int) ≤ (m : Int) := by omega
        have i3 : (m : Int) < (q.left.length : Int) := by omega
        have HR := Lib.hid (cround_any n a x wr HNS.out (((HAT.out wr (b07.trans (b10.mono b07.size)))).more hsB10) HV.out hsx)
        obtain ⟨P, HPB⟩ : ∃ P : Bool, Hid (cB (Hg (hangsF n) x x) = P) := ⟨_, rfl⟩
        rw [HPB.out] at HR
        obtain ⟨c0, c1, cc2, c3, c4, c5, c6⟩ := rn10.nd
        clear hx
        go_wp2_with fail
        refine HR.out.mono ?_
        rintro r w11 ⟨rfl, hb11⟩
        have rf11 := rf10.below hb11 rf10.lt
        have re11 := re10.below hb11 re10.lt
        have hB11 := hB10.trans (hb11.mono hsB10)
        clear c0 c1 cc2 c3 c4 c5 c6 e0
        cases P
        · have hq := cB_not.1 HPB.out
          have HM' := Lib.hid (step_uptoI (P := fun j x => (cauF n q j x).err = 0) HM.out HXL.out (by rw [cauF_no hq]))
          clear hq
          go_wp2_with fail
          go_roundw
          case rel => exact ⟨m + 1, by omega, by go_num, HM', hbm.trans (hb11.mono hszm)⟩
          case measure => first | (simp [intOf]; omega) | simp [intOf]
        · have hq := cB_iff.1 HPB.out
          have HF : Hid (causeF s = ⟨32, q.line, q.col⟩) := by
            have e : cauF n q m x = ⟨32, q.line, q.col⟩ := cauF_yes hq
            have e1 : cauQF n p q = ⟨32, q.line, q.col⟩ := by unfold cauQF; rw [fstL_stop (f := cauF n q) HM.out HXL.out (by rw [e]; show (32 : Int) ≠ 0; decide), e]
            exact (HFq.out (by rw [e1]; show (32 : Int) ≠ 0; decide)).trans e1
          clear hq
          obtain ⟨d0, d1, d2, d3, d4, d5, d6, d7, d8⟩ := re11.eqn
          obtain ⟨⟨k0, k1', k2'⟩, g0, g1, g2⟩ := rf11.three
          go_wp2_with fail
          exact bodyPost_ret (res1 rfl Tryz.underlying31 rfl (by kernel_rfl) rfl (rf11.set3 _ _ _)) rfl ⟨(congrArg (fun f => Ending.returned (ftV f)) HF.out).symm, below_set3 hB11 (by first | omega | (simp; omega) | simp) _ _ _⟩
end Go.Proofs.YtabceednmgijoaaGreat
