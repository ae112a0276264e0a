/-
  TypesWhole: the walk.
-/
import Derived.Test.YtolabbnchmmckaaWhT
import Derived.Test.YtolabbnchmmckaaTyV
import Derived.Test.YtolabbnchmmckaaOpenN
import Derived.Deep.RegionHeld3
namespace Go.Proofs.Ytolabbnchmmckaa.typesWhole
open Go.RowKit
attribute [local go_sem ↓] Go.wp_at_zero Go.wp_at_succ
set_option linter.unusedSimpArgs false in
set_option maxRecDepth 100000 in
set_option maxHeartbeats 4000000 in
theorem walk (s : List Nd) (v : Value) (w : World) (h : SrcIs w s v) :
    Calls Try.prog 13 #[v] w fun r w' => r = .returned (.bool true) ∧ Below w.heap.size w w' := by
  obtain ⟨A, cap, rfl, h1, h2, hn⟩ := h
  have rs1 := Row.new w #[.slice A s.length cap] 45
  have b1 : Below w.heap.size w (w.alloc (.cells #[.slice A s.length cap] 45)) := (by repeat (first | (with_reducible assumption) | (with_reducible exact Below.refl _ _) | (with_reducible refine Below.drew ?_) | (with_reducible refine below_drewN' ?_ _) | (with_reducible refine Below.alloc ?_ (by first | assumption | omega | (simp; omega) | simp | (simp [World.setCell]; omega) | simp [World.setCell]) _) | (with_reducible refine Below.setCell ?_ (by first | assumption | omega | (simp; omega) | simp | (simp [World.setCell]; omega) | simp [World.setCell]) _)))
  have HS : Hid (∀ W, Below w.heap.size w W → Nds W w.heap.size A s) := fun W hW => nds_keep hn (keeps_of hW) (Nat.le_refl _)
  have HSW : Hid (∀ W, Below w.heap.size w W → Nds W W.heap.size A s) := fun W hW => nds_keep hn (keeps_of hW) hW.size
  have h2' : cap ≤ 9223372036854775807 := by unfold maxLen at h2; omega
  clear hn
  go_enter Try.func13, Try.ntmps13
  go_upto_region 1 with (fail)
  generalize w.alloc (.cells #[.slice A s.length cap] 45) = W1 at *
  have hs1 := b1.size
  go_wp2_with fail
  refine (awake16_any W1).mono ?_
  rintro r w2 ⟨rfl, hb2⟩
  have rs2 := rs1.below hb2 rs1.lt
  have hB2 := b1.trans (hb2.mono hs1)
  have hs2 := hB2.size
  have c0 := rs2.src
  go_wp2_with fail
  refine (fewNodes_any s A cap w2 h1 h2 (HSW.out w2 hB2)).mono ?_
  rintro r w3 ⟨⟨bf, rfl, HFN⟩, hb3⟩
  have rs3 := rs2.below hb3 rs2.lt
  have hB3 := hB2.trans (hb3.mono hs2)
  have hs3 := hB3.size
  clear c0 rs1 rs2 b1 hb2 hb3 hB2 hs1 hs2
  cases bf
  · go_wp2_with fail
    go_ret
    exact ⟨rfl, hB3⟩
  have HSM : Hid (SrcSm s) := HFN.out (by first | rfl | trivial)
  clear HFN
  have c0 := rs3.src
  have HR := Lib.hid (tcheck_any s A cap w3 HSM.out h1 h2 (HSW.out w3 hB3))
  obtain ⟨f, HFX⟩ : ∃ f, Hid (typesF s = f) := ⟨_, rfl⟩
  rw [HFX.out] at HR
  have fe := field_flt f
  go_wp2_with fail
  refine HR.out.mono ?_
  rintro r w4 ⟨rfl, hb4⟩
  have rs4 := rs3.below hb4 rs3.lt
  have hB4 := hB3.trans (hb4.mono hs3)
  have hs4 := hB4.size
  clear c0 rs3 hb4 hB3 hs3
  by_cases hf : f.err = 0
  rotate_left 1
  · have hf1 : (f.err != 0) = true := neq_yes hf
    clear hf
    go_wp2_with fail
    go_ret
    exact ⟨rfl, hB4⟩
  have hf1 : (f.err != 0) = false := neq_no hf
  have HZ : Hid ((typesF s).err = 0) := by show _ = _; rw [HFX.out]; exact hf
  clear hf
  have c0 := rs4.src
  go_wp2_with fail
  clear c0 fe hf1
  have hz0 : ((0 : Int) != 0) = false := rfl
  go_loopw [35] (fun i wr => ∃ k : Nat, k ≤ s.length ∧ i = .int .i64 k ∧ Below w4.heap.size w4 wr) (fun i _ => s.length - (intOf i).toNat)
  case atStart => exact ⟨0, Nat.zero_le _, rfl, Below.refl _ _⟩
  case round =>
    obtain ⟨k, hk, rfl, hbr⟩ := hrel
    have hszr := hbr.size
    have rs := rs4.below hbr rs4.lt
    have hB := hB4.trans (hbr.mono hs4)
    have hsB := hB.size
    by_cases hlt : k < s.length
    rotate_left 1
    · obtain rfl : k = s.length := by omega
      go_wp2_with fail
      go_ret
      exact ⟨rfl, hB⟩
    obtain ⟨b, off, n, a, hA, hb, hn, hat, d0, d1, d2, d3, d4, d5, d6⟩ := (HS.out wr hB).nd hlt
    rw [hA]
    have HA := Lib.hid hA
    have hnm := List.mem_of_getElem? hn
    have HNK := Lib.hid hn
    have HNM := Lib.hid hnm
    have HNS := Lib.hid (HSM.out.all n hnm)
    have HL := Lib.hid (show (vrs n).length ≤ 10000 by have := HNS.out.len; omega)
    have HAT : Hid (∀ W, Below wr.heap.size wr W → NdAt W w.heap.size n a) := fun W hW => hat.below (hW.mono hsB)
    have HAW : Hid (∀ W, Below wr.heap.size wr W → NdAt W W.heap.size n a) := fun W hW => (hat.below (hW.mono hsB)).more (Nat.le_trans hsB hW.size)
    have gq := hat.mq
    have lq := hat.lq
    have gq' : a.cq ≤ 9223372036854775807 := by unfold maxLen at gq; omega
    have rn1 := Row.new wr (ndArr n a) 40
    have ba : Below wr.heap.size wr (wr.alloc (.cells (ndArr n a) 40)) := (by repeat (first | (with_reducible assumption) | (with_reducible exact Below.refl _ _) | (with_reducible refine Below.drew ?_) | (with_reducible refine below_drewN' ?_ _) | (with_reducible refine Below.alloc ?_ (by first | assumption | omega | (simp; omega) | simp | (simp [World.setCell]; omega) | simp [World.setCell]) _) | (with_reducible refine Below.setCell ?_ (by first | assumption | omega | (simp; omega) | simp | (simp [World.setCell]; omega) | simp [World.setCell]) _)))
    clear hA hn hat hnm
    go_upto_region 8 with (fail)
    clear d0 d1 d2 d3 d4 d5 d6
    generalize hW6 : wr.alloc (.cells (ndArr n a) 40) = w6 at *
    clear hW6
    have hsa := ba.size
    have rs6 := rs.below ba rs.lt
    have hB6 := hB.trans (ba.mono hsB)
    have hs6 := hB6.size
    obtain ⟨wo, rfl⟩ : ∃ wo : World, wo = wr := ⟨_, rfl⟩
    obtain ⟨c0, c1, cc2, c3, c4, c5, c6⟩ := rn1.nd
    go_wp2_with fail
    clear c0 c1 cc2 c3 c4 c5 c6
    go_loopw [42] (fun i wr => ∃ p : Nat, p ≤ n.eqs.length ∧ i = .int .i64 p ∧ Below w6.heap.size w6 wr) (fun i _ => n.eqs.length - (intOf i).toNat)
    case atStart => exact ⟨0, Nat.zero_le _, rfl, Below.refl _ _⟩
    case round =>
      obtain ⟨p, hp, rfl, hbq⟩ := hrel
      have hszq := hbq.size
      have rn7 := rn1.below hbq rn1.lt
      have rs7 := rs6.below hbq rs6.lt
      have hB7 := hB6.trans (hbq.mono hs6)
      have hsB7 := hB7.size
      have b07 := ba.trans (hbq.mono hsa)
      by_cases hlp : p < n.eqs.length
      rotate_left 1
      · obtain rfl : p = n.eqs.length := by omega
        go_wp2_with fail
        go_roundw
        case rel => exact ⟨k + 1, by omega, by go_num, hbr.trans (b07.mono hszr)⟩
        case measure => first | (simp [intOf]; omega) | simp [intOf]
      obtain ⟨b', off', q, A1, k1, A2, k2, hAq, hb', hq, ok, lq1, mq1, sl1, lq2, mq2, sl2, d0, d1, d2, d3, d4, d5, d6, d7, d8⟩ := (HAT.out wr b07).sq.eqn hlp
      rw [hAq]
      have HAq := Lib.hid hAq
      have hqm := List.mem_of_getElem? hq
      have HQM := Lib.hid hqm
      have HSQ := Lib.hid (HNS.out.eq q hqm)
      have hqz := HSQ.out.right.size
      have HOK := Lib.hid ok.right
      have HLQ2 := Lib.hid lq2
      have HMQ2 := Lib.hid mq2
      have HS1 : Hid (∀ W, Below wr.heap.size wr W → Sl W w.heap.size 1 isStr A1 q.left) := fun W hW => strs_keep sl1 (keeps_of (hW.mono hsB7)) (Nat.le_refl _)
      have HS2 : Hid (∀ W, Below wr.heap.size wr W → IsExs W w.heap.size A2 q.right.args) := fun W hW => exs_keep sl2 (keeps_of (hW.mono hsB7)) (Nat.le_refl _)
      have mq1' : k1 ≤ 9223372036854775807 := by unfold maxLen at mq1; omega
      have re := Row.new wr (eqArr q A1 k1 A2 k2) 60
      have bq : Below wr.heap.size wr (wr.alloc (.cells (eqArr q A1 k1 A2 k2) 60)) := (by repeat (first | (with_reducible assumption) | (with_reducible exact Below.refl _ _) | (with_reducible refine Below.drew ?_) | (with_reducible refine below_drewN' ?_ _) | (with_reducible refine Below.alloc ?_ (by first | assumption | omega | (simp; omega) | simp | (simp [World.setCell]; omega) | simp [World.setCell]) _) | (with_reducible refine Below.setCell ?_ (by first | assumption | omega | (simp; omega) | simp | (simp [World.setCell]; omega) | simp [World.setCell]) _)))
      clear hAq hq ok sl1 sl2 hqm
      go_upto_region 11 with (fail)
      clear d0 d1 d2 d3 d4 d5 d6 d7 d8
      generalize hW9 : wr.alloc (.cells (eqArr q A1 k1 A2 k2) 60) = w9 at *
      clear hW9
      have hsq := bq.size
      have rn9 := rn7.below bq rn7.lt
      have rs9 := rs7.below bq rs7.lt
      have hB9 := hB7.trans (bq.mono hsB7)
      have hs9 := hB9.size
      have b09 := b07.trans (bq.mono b07.size)
      obtain ⟨d0, d1, d2, d3, d4, d5, d6, d7, d8⟩ := re.eqn
      obtain ⟨wp, rfl⟩ : ∃ wp : World, wp = wr := ⟨_, rfl⟩
      go_wp2_with fail
      refine (list_any w.heap.size q.right A2 k2 w9 HOK.out HLQ2.out HMQ2.out hs9 (HS2.out w9 bq) (by omega)).mono ?_
      rintro r w10 ⟨vl, css, rfl, hown, hare, hb10⟩
      obtain ⟨AL, cL, rfl, hnL, lL, mL, hxL⟩ := own_exs hown hare (by have := hb10.size; omega)
      have HXL := Lib.hid hxL
      have mL' : cL ≤ 9223372036854775807 := by unfold maxLen at mL; omega
      have rn10 := rn9.below hb10 rn9.lt
      have rs10 := rs9.below hb10 rs9.lt
      have re10 := re.below hb10 re.lt
      have hB10 := hB9.trans (hb10.mono hs9)
      have hs10 := hB10.size
      have b010 := b09.trans (hb10.mono b09.size)
      have bq10 := bq.trans (hb10.mono hsq)
      clear hown hare hnL hxL d0 d1 d2 d3 d4 d5 d6 d7 d8
      obtain ⟨L, HLL⟩ : ∃ L, Hid (exList q.right = L) := ⟨_, rfl⟩
      rw [HLL.out] at lL HXL ⊢
      go_wp2_with fail
      go_loopw [50] (fun i wr => ∃ j : Nat, j ≤ L.length ∧ i = .int .i64 j ∧ Below w10.heap.size w10 wr) (fun i _ => L.length - (intOf i).toNat)
      case atStart => exact ⟨0, Nat.zero_le _, rfl, Below.refl _ _⟩
      case round =>
        obtain ⟨j, hj, rfl, hbj⟩ := hrel
        have hszj := hbj.size
        have rs11 := rs10.below hbj rs10.lt
        have rn11 := rn10.below hbj rn10.lt
        have hB11 := hB10.trans (hbj.mono hs10)
        have hsB11 := hB11.size
        have b011 := b010.trans (hbj.mono b010.size)
        by_cases hlj : j < L.length
        rotate_left 1
        · obtain rfl : j = L.length := by omega
          have re11 := re10.below hbj re10.lt
          have bq11 := bq10.trans (hbj.mono bq10.size)
          obtain ⟨b3, off3, nm, hA3, hb3, hn0, hnsz, f0⟩ := (HS1.out wr bq11).str (k := 0) (by have := (come_len (types_scope HZ.out).1 HNM.out HQM.out).2; omega)
          rw [Nat.add_zero] at f0
          have HTL := Lib.hid (left_ty HZ.out HNM.out HQM.out hn0)
          have hkn := scope_kn (types_scope HZ.out).1 n HNM.out
          have hnv := hkn.lefts q HQM.out nm (List.mem_of_getElem? hn0)
          have hl0 : 0 < q.left.length := (List.getElem?_eq_some_iff.1 hn0).1
          obtain ⟨kv, xv, hki, hkx, hxn⟩ | hneg := var_cases n nm
          rotate_left 1
          · exact absurd hnv (var_neg.1 (by omega))
          have HXT : Hid (xv.ty = tyK s n q.right) := by show _ = _; rw [← HTL.out]; exact (ty_at hki hkx).symm
          have hkl := (List.getElem?_eq_some_iff.1 hkx).1
          have HKX := Lib.hid hkx
          have HKI := Lib.hid hki
          obtain ⟨M, HLM⟩ : ∃ M, Hid ((vrs n).length = M) := ⟨_, rfl⟩
          have hkl2 : kv < M := by rw [← HLM.out]; exact hkl
          have HG := Lib.hid (of_good s A cap n a q q.right A2 k2 k wr HZ.out HQM.out (exList_self _) HSM.out h1 h2 HNK.out (HSW.out wr hB11) (HAW.out wr b011) HOK.out HLQ2.out HMQ2.out (exs_keep (HS2.out wr bq11) (fun _ _ _ h => h) hsB11))
          obtain ⟨tk, HTK⟩ : ∃ tk, Hid (tyK s n q.right = tk) := ⟨_, rfl⟩
          rw [HTK.out] at HG
          rw [HTK.out] at HXT
          have z0 := rs11.src
          rw [HA.out] at z0 HG
          obtain ⟨c0, c1, cc2, c3, c4, c5, c6⟩ := rn11.nd
          obtain ⟨d0, d1, d2, d3, d4, d5, d6, d7, d8⟩ := re11.eqn
          clear hn0 hkn hnv hki hkx hxn
          go_wp2_with fail
          refine HG.out.mono ?_
          rintro r w12 ⟨rfl, hb12⟩
          have rn12 := rn11.below hb12 rn11.lt
          have re12 := re11.below hb12 re11.lt
          have f012 := old_cell hb12 f0
          have hB12 := hB11.trans (hb12.mono hsB11)
          have hs12 := hB12.size
          have b012 := b011.trans (hb12.mono b011.size)
          clear z0 c0 c1 cc2 c3 c4 c5 c6 d0 d1 d2 d3 d4 d5 d6 d7 d8 f0
          have bt : Below w12.heap.size w12 (w12.alloc (.cells ftC0 31)) := (by repeat (first | (with_reducible assumption) | (with_reducible exact Below.refl _ _) | (with_reducible refine Below.drew ?_) | (with_reducible refine below_drewN' ?_ _) | (with_reducible refine Below.alloc ?_ (by first | assumption | omega | (simp; omega) | simp | (simp [World.setCell]; omega) | simp [World.setCell]) _) | (with_reducible refine Below.setCell ?_ (by first | assumption | omega | (simp; omega) | simp | (simp [World.setCell]; omega) | simp [World.setCell]) _)))
          have rf13 := Row.new w12 ftC0 31
          go_upto_region 28 with (fail)
          generalize hW13 : w12.alloc (.cells ftC0 31) = w13 at *
          clear hW13
          have rn13 := rn12.below bt rn12.lt
          have re13 := re12.below bt re12.lt
          have f013 := old_cell bt f012
          have hB13 := hB12.trans (bt.mono hs12)
          have hs13 := hB13.size
          have b013 := b012.trans (bt.mono b012.size)
          obtain ⟨c0, c1, cc2, c3, c4, c5, c6⟩ := rn13.nd
          obtain ⟨d0, d1, d2, d3, d4, d5, d6, d7, d8⟩ := re13.eqn
          rw [hA3] at d0
          have HV : Hid (∀ W, Below w13.heap.size w13 W → Calls Try.prog 34 #[ndV n a] W fun e w' => (∃ (b3 off3 cap3 : Nat) (Ax : Option Addr) (cx : Nat), e = .returned (.slice (some ⟨b3, off3, none⟩) M cap3) ∧ w'.cell? ⟨b3, off3 + kv * 5, none⟩ = some (.string xv.name) ∧ w'.cell? ⟨b3, off3 + kv * 5 + 1, none⟩ = some (.int .i64 xv.ty) ∧ w'.cell? ⟨b3, off3 + kv * 5 + 2, none⟩ = some (.slice Ax xv.clock.length cx) ∧ w'.cell? ⟨b3, off3 + kv * 5 + 3, none⟩ = some (.int .i64 xv.line) ∧ w'.cell? ⟨b3, off3 + kv * 5 + 4, none⟩ = some (.int .i64 xv.col)) ∧ Below W.heap.size W w') := fun W hW => by
            refine (rvars_any W.heap.size n a W (Nat.le_refl _) (HAW.out W (b013.trans (hW.mono b013.size))) HL.out).mono ?_
            rintro e w' ⟨⟨v, rfl, ho⟩, hb⟩
            obtain ⟨A3, c3, rfl, _, _, hsl⟩ := ho.sl
            obtain ⟨b3, off3, y, A4, c4, rfl, _, hy, _, _, _, _, y0, y1, y2, y3, y4⟩ := hsl.vr hkl
            obtain rfl : xv = y := Option.some.inj (HKX.out.symm.trans hy)
            rw [HLM.out]
            exact ⟨⟨b3, off3, c3, A4, c4, rfl, y0, y1, y2, y3, y4⟩, hb⟩
          have HM : Hid (∀ W, Below w13.heap.size w13 W → Calls Try.prog 25 #[ndV n a, .string nm] W fun e w' => e = .returned (.int .i64 (kv : Int)) ∧ Below W.heap.size W w') := fun W hW => by
            have := rvar_any n a nm W (HAW.out W (b013.trans (hW.mono b013.size))) HL.out
            rw [HKI.out] at this
            exact this
          have i0 : (0 : Int) ≤ (kv : Int) := by omega
          have i1 : (kv : Int) < (M : Int) := by omega
          have i2 : (0 : Int) < (q.left.length : Int) := by omega
          have HK : Hid (∀ W, Below w13.heap.size w13 W → (W.cell? ⟨wo.heap.size, 0, none⟩ = some (.string n.name) ∧ W.cell? ⟨wo.heap.size, 1, none⟩ = some (.slice a.ai n.ins.length a.ci) ∧ W.cell? ⟨wo.heap.size, 2, none⟩ = some (.slice a.ao n.outs.length a.co) ∧ W.cell? ⟨wo.heap.size, 3, none⟩ = some (.slice a.av n.vars.length a.cv) ∧ W.cell? ⟨wo.heap.size, 4, none⟩ = some (.slice a.aq n.eqs.length a.cq) ∧ W.cell? ⟨wo.heap.size, 5, none⟩ = some (.int .i64 n.line) ∧ W.cell? ⟨wo.heap.size, 6, none⟩ = some (.int .i64 n.col)) ∧ W.cell? ⟨wp.heap.size, 0, none⟩ = some (.slice (some ⟨b3, off3, none⟩) q.left.length k1) ∧ W.cell? ⟨b3, off3, none⟩ = some (.string nm)) := fun W hW => ⟨(rn13.below hW rn13.lt).nd, old_cell hW d0, old_cell hW f013⟩
          go_cut [20] (fun v20 W => ∃ (gv : Nat) (Ax : Option Addr) (cx : Nat), v20 = .pointer (some ⟨gv, 0, none⟩) ∧ Row W gv (vrArr xv Ax cx) 64 ∧ Below w13.heap.size w13 W)
          case first =>
            refine wp_region_held_drew (S := fun W => (W.cell? ⟨wo.heap.size, 0, none⟩ = some (.string n.name) ∧ W.cell? ⟨wo.heap.size, 1, none⟩ = some (.slice a.ai n.ins.length a.ci) ∧ W.cell? ⟨wo.heap.size, 2, none⟩ = some (.slice a.ao n.outs.length a.co) ∧ W.cell? ⟨wo.heap.size, 3, none⟩ = some (.slice a.av n.vars.length a.cv) ∧ W.cell? ⟨wo.heap.size, 4, none⟩ = some (.slice a.aq n.eqs.length a.cq) ∧ W.cell? ⟨wo.heap.size, 5, none⟩ = some (.int .i64 n.line) ∧ W.cell? ⟨wo.heap.size, 6, none⟩ = some (.int .i64 n.col)) ∧ W.cell? ⟨wp.heap.size, 0, none⟩ = some (.slice (some ⟨b3, off3, none⟩) q.left.length k1) ∧ W.cell? ⟨b3, off3, none⟩ = some (.string nm)) (by kernel_rfl) ?_ (fun hHeld => ?_)
            · (try dsimp only); (first | (with_reducible exact HK.out _ (by repeat (first | (with_reducible assumption) | (with_reducible exact Below.refl _ _) | (with_reducible refine Below.drew ?_) | (with_reducible refine below_drewN' ?_ _) | (with_reducible refine Below.alloc ?_ (by first | assumption | omega | (simp; omega) | simp | (simp [World.setCell]; omega) | simp [World.setCell]) _) | (with_reducible refine Below.setCell ?_ (by first | assumption | omega | (simp; omega) | simp | (simp [World.setCell]; omega) | simp [World.setCell]) _)))) | go_keep)
            refine wpAnyH_take (i := 0) (oi := { dst := some 114, op := _, type := _, pos := _, after := _, guard := _ }) (v := ?_) rfl (by kernel_rfl) (by kernel_rfl) (by kernel_rfl) (fun _ _ _ h => h) (Or.inl ⟨by kernel_rfl, ?_⟩) (by first | assumption | trivial) ?_
            rotate_left 1
            · intro w hSw; (try dsimp only at hSw); go_simp; (try with_reducible rfl)
            try simp only [Act.put, List.setIfInBounds_toArray, List.set_cons_zero, List.set_cons_succ]
            refine wpAnyH_take (i := 2) (oi := { dst := some 116, op := _, type := _, pos := _, after := _, guard := _ }) (v := ?_) rfl (by kernel_rfl) (by kernel_rfl) (by kernel_rfl) (fun _ _ _ h => h) (Or.inl ⟨by kernel_rfl, ?_⟩) (by first | assumption | trivial) ?_
            rotate_left 1
            · intro w hSw; (try dsimp only at hSw); go_simp; (try with_reducible rfl)
            try simp only [Act.put, List.setIfInBounds_toArray, List.set_cons_zero, List.set_cons_succ]
            refine wpAnyH_take (i := 3) (oi := { dst := some 117, op := _, type := _, pos := _, after := _, guard := _ }) (v := ?_) rfl (by kernel_rfl) (by kernel_rfl) (by kernel_rfl) (fun _ _ _ h => h) (Or.inl ⟨by kernel_rfl, ?_⟩) (by first | assumption | trivial) ?_
            rotate_left 1
            · intro w hSw; (try dsimp only at hSw); go_simp; (try with_reducible rfl)
            try simp only [Act.put, List.setIfInBounds_toArray, List.set_cons_zero, List.set_cons_succ]
            refine wpAnyH_take (i := 4) (oi := { dst := some 118, op := _, type := _, pos := _, after := _, guard := _ }) (v := ?_) rfl (by kernel_rfl) (by kernel_rfl) (by kernel_rfl) (fun _ _ _ h => h) (Or.inl ⟨by kernel_rfl, ?_⟩) (by first | assumption | trivial) ?_
            rotate_left 1
            · intro w hSw; (try dsimp only at hSw); go_simp; (try with_reducible rfl)
            try simp only [Act.put, List.setIfInBounds_toArray, List.set_cons_zero, List.set_cons_succ]
            refine wpAnyH_take (i := 5) (oi := { dst := some 119, op := _, type := _, pos := _, after := _, guard := _ }) (v := ?_) rfl (by kernel_rfl) (by kernel_rfl) (by kernel_rfl) (fun _ _ _ h => h) (Or.inl ⟨by kernel_rfl, ?_⟩) (by first | assumption | trivial) ?_
            rotate_left 1
            · intro w hSw; (try dsimp only at hSw); go_simp; (try with_reducible rfl)
            try simp only [Act.put, List.setIfInBounds_toArray, List.set_cons_zero, List.set_cons_succ]
            refine wpAnyH_take (i := 6) (oi := { dst := some 120, op := _, type := _, pos := _, after := _, guard := _ }) (v := ?_) rfl (by kernel_rfl) (by kernel_rfl) (by kernel_rfl) (fun _ _ _ h => h) (Or.inl ⟨by kernel_rfl, ?_⟩) (by first | assumption | trivial) ?_
            rotate_left 1
            · intro w hSw; (try dsimp only at hSw); go_simp; (try with_reducible rfl)
            try simp only [Act.put, List.setIfInBounds_toArray, List.set_cons_zero, List.set_cons_succ]
            refine wpAnyH_ready (rs := [1, 10]) (by kernel_rfl) (by simp) ?_
            refine AllReadyH.cons (o := { dst := some 115, op := _, type := _, pos := _, after := _, guard := _ }) rfl (fun KK hKK => ?_) (AllReadyH.cons (o := { dst := some 20, op := _, type := _, pos := _, after := _, guard := _ }) rfl (fun KK hKK => ?_) AllReadyH.nil)
            · go_simp
              first | (go_at_call 34; (refine (HV.out _ (by repeat (first | (with_reducible assumption) | (with_reducible exact Below.refl _ _) | (with_reducible refine Below.drew ?_) | (with_reducible refine below_drewN' ?_ _) | (with_reducible refine Below.alloc ?_ (by first | assumption | omega | (simp; omega) | simp | (simp [World.setCell]; omega) | simp [World.setCell]) _) | (with_reducible refine Below.setCell ?_ (by first | assumption | omega | (simp; omega) | simp | (simp [World.setCell]; omega) | simp [World.setCell]) _)))).mono ?_); rintro e w3 ⟨⟨b4, off4, cap4, Ax, cx, rfl, y0, y1, y2, y3, y4⟩, hb3⟩; (have hb4 : Below w13.heap.size w13 w3 := Below.trans (by repeat (first | (with_reducible assumption) | (with_reducible exact Below.refl _ _) | (with_reducible refine Below.drew ?_) | (with_reducible refine below_drewN' ?_ _) | (with_reducible refine Below.alloc ?_ (by first | assumption | omega | (simp; omega) | simp | (simp [World.setCell]; omega) | simp [World.setCell]) _) | (with_reducible refine Below.setCell ?_ (by first | assumption | omega | (simp; omega) | simp | (simp [World.setCell]; omega) | simp [World.setCell]) _))) (hb3.mono (by first | exact Nat.le_refl _ | omega | (simp; omega) | simp))); (have hs4 := hb4.size); (have hlb := block_lt_of_cell y0); (try (have r5 : Row w3 _ vrZ 64 := (by first | exact Row.below (Row.drew (Row.new w13 vrZ 64)) hb3 (by simp) | exact Row.below (Row.new w13.drew vrZ 64) hb3 (by simp) | exact Row.below r5 hb3 r5.lt); obtain ⟨⟨x0, x1, x2, x3, x4⟩, g0, g1, g2, g3, g4⟩ := r5.five))) | (go_at_call 25; (refine (HM.out _ (by repeat (first | (with_reducible assumption) | (with_reducible exact Below.refl _ _) | (with_reducible refine Below.drew ?_) | (with_reducible refine below_drewN' ?_ _) | (with_reducible refine Below.alloc ?_ (by first | assumption | omega | (simp; omega) | simp | (simp [World.setCell]; omega) | simp [World.setCell]) _) | (with_reducible refine Below.setCell ?_ (by first | assumption | omega | (simp; omega) | simp | (simp [World.setCell]; omega) | simp [World.setCell]) _)))).mono ?_); rintro e w5 ⟨rfl, hb3⟩; (have y0 := (by first | exact old_cell hb3 y0 | exact old_cell hb3 (old_cell (Below.alloc (Below.refl _ _) (Nat.le_refl _) _) y0))); (have y1 := (by first | exact old_cell hb3 y1 | exact old_cell hb3 (old_cell (Below.alloc (Below.refl _ _) (Nat.le_refl _) _) y1))); (have y2 := (by first | exact old_cell hb3 y2 | exact old_cell hb3 (old_cell (Below.alloc (Below.refl _ _) (Nat.le_refl _) _) y2))); (have y3 := (by first | exact old_cell hb3 y3 | exact old_cell hb3 (old_cell (Below.alloc (Below.refl _ _) (Nat.le_refl _) _) y3))); (have y4 := (by first | exact old_cell hb3 y4 | exact old_cell hb3 (old_cell (Below.alloc (Below.refl _ _) (Nat.le_refl _) _) y4))); (have hb4 : Below w13.heap.size w13 w5 := Below.trans (by repeat (first | (with_reducible assumption) | (with_reducible exact Below.refl _ _) | (with_reducible refine Below.drew ?_) | (with_reducible refine below_drewN' ?_ _) | (with_reducible refine Below.alloc ?_ (by first | assumption | omega | (simp; omega) | simp | (simp [World.setCell]; omega) | simp [World.setCell]) _) | (with_reducible refine Below.setCell ?_ (by first | assumption | omega | (simp; omega) | simp | (simp [World.setCell]; omega) | simp [World.setCell]) _))) (hb3.mono (by first | exact Nat.le_refl _ | omega | (simp; omega) | simp))); (have hs4 := hb4.size); (have hlb := block_lt_of_cell y0); (try (have r5 : Row w5 _ vrZ 64 := (by first | exact Row.below (Row.drew (Row.new w13 vrZ 64)) hb3 (by simp) | exact Row.below (Row.new w13.drew vrZ 64) hb3 (by simp) | exact Row.below r5 hb3 r5.lt | exact Row.below (Row.new w3 vrZ 64) hb3 (by simp)); obtain ⟨⟨x0, x1, x2, x3, x4⟩, g0, g1, g2, g3, g4⟩ := r5.five)))
              (try go_wp2_with fail)
              refine hKK.out _ _ ?_ (fun hHeld => ?_)
              · (try dsimp only); (first | (with_reducible exact HK.out _ (by repeat (first | (with_reducible assumption) | (with_reducible exact Below.refl _ _) | (with_reducible refine Below.drew ?_) | (with_reducible refine below_drewN' ?_ _) | (with_reducible refine Below.alloc ?_ (by first | assumption | omega | (simp; omega) | simp | (simp [World.setCell]; omega) | simp [World.setCell]) _) | (with_reducible refine Below.setCell ?_ (by first | assumption | omega | (simp; omega) | simp | (simp [World.setCell]; omega) | simp [World.setCell]) _)))) | go_keep)
              clear hKK KK
              try simp only [Act.put, List.setIfInBounds_toArray, List.set_cons_zero, List.set_cons_succ]
              refine wpAnyH_ready (rs := [7, 10]) (by kernel_rfl) (by simp) ?_
              refine AllReadyH.cons (o := { dst := some 121, op := _, type := _, pos := _, after := _, guard := _ }) rfl (fun KK hKK => ?_) (AllReadyH.cons (o := { dst := some 20, op := _, type := _, pos := _, after := _, guard := _ }) rfl (fun KK hKK => ?_) AllReadyH.nil)
              · go_simp
                first | (go_at_call 34; (refine (HV.out _ (by repeat (first | (with_reducible assumption) | (with_reducible exact Below.refl _ _) | (with_reducible refine Below.drew ?_) | (with_reducible refine below_drewN' ?_ _) | (with_reducible refine Below.alloc ?_ (by first | assumption | omega | (simp; omega) | simp | (simp [World.setCell]; omega) | simp [World.setCell]) _) | (with_reducible refine Below.setCell ?_ (by first | assumption | omega | (simp; omega) | simp | (simp [World.setCell]; omega) | simp [World.setCell]) _)))).mono ?_); rintro e w3 ⟨⟨b4, off4, cap4, Ax, cx, rfl, y0, y1, y2, y3, y4⟩, hb3⟩; (have hb4 : Below w13.heap.size w13 w3 := Below.trans (by repeat (first | (with_reducible assumption) | (with_reducible exact Below.refl _ _) | (with_reducible refine Below.drew ?_) | (with_reducible refine below_drewN' ?_ _) | (with_reducible refine Below.alloc ?_ (by first | assumption | omega | (simp; omega) | simp | (simp [World.setCell]; omega) | simp [World.setCell]) _) | (with_reducible refine Below.setCell ?_ (by first | assumption | omega | (simp; omega) | simp | (simp [World.setCell]; omega) | simp [World.setCell]) _))) (hb3.mono (by first | exact Nat.le_refl _ | omega | (simp; omega) | simp))); (have hs4 := hb4.size); (have hlb := block_lt_of_cell y0); (try (have r5 : Row w3 _ vrZ 64 := (by first | exact Row.below (Row.drew (Row.new w13 vrZ 64)) hb3 (by simp) | exact Row.below (Row.new w13.drew vrZ 64) hb3 (by simp) | exact Row.below r5 hb3 r5.lt); obtain ⟨⟨x0, x1, x2, x3, x4⟩, g0, g1, g2, g3, g4⟩ := r5.five))) | (go_at_call 25; (refine (HM.out _ (by repeat (first | (with_reducible assumption) | (with_reducible exact Below.refl _ _) | (with_reducible refine Below.drew ?_) | (with_reducible refine below_drewN' ?_ _) | (with_reducible refine Below.alloc ?_ (by first | assumption | omega | (simp; omega) | simp | (simp [World.setCell]; omega) | simp [World.setCell]) _) | (with_reducible refine Below.setCell ?_ (by first | assumption | omega | (simp; omega) | simp | (simp [World.setCell]; omega) | simp [World.setCell]) _)))).mono ?_); rintro e w5 ⟨rfl, hb3⟩; (have y0 := (by first | exact old_cell hb3 y0 | exact old_cell hb3 (old_cell (Below.alloc (Below.refl _ _) (Nat.le_refl _) _) y0))); (have y1 := (by first | exact old_cell hb3 y1 | exact old_cell hb3 (old_cell (Below.alloc (Below.refl _ _) (Nat.le_refl _) _) y1))); (have y2 := (by first | exact old_cell hb3 y2 | exact old_cell hb3 (old_cell (Below.alloc (Below.refl _ _) (Nat.le_refl _) _) y2))); (have y3 := (by first | exact old_cell hb3 y3 | exact old_cell hb3 (old_cell (Below.alloc (Below.refl _ _) (Nat.le_refl _) _) y3))); (have y4 := (by first | exact old_cell hb3 y4 | exact old_cell hb3 (old_cell (Below.alloc (Below.refl _ _) (Nat.le_refl _) _) y4))); (have hb4 : Below w13.heap.size w13 w5 := Below.trans (by repeat (first | (with_reducible assumption) | (with_reducible exact Below.refl _ _) | (with_reducible refine Below.drew ?_) | (with_reducible refine below_drewN' ?_ _) | (with_reducible refine Below.alloc ?_ (by first | assumption | omega | (simp; omega) | simp | (simp [World.setCell]; omega) | simp [World.setCell]) _) | (with_reducible refine Below.setCell ?_ (by first | assumption | omega | (simp; omega) | simp | (simp [World.setCell]; omega) | simp [World.setCell]) _))) (hb3.mono (by first | exact Nat.le_refl _ | omega | (simp; omega) | simp))); (have hs4 := hb4.size); (have hlb := block_lt_of_cell y0); (try (have r5 : Row w5 _ vrZ 64 := (by first | exact Row.below (Row.drew (Row.new w13 vrZ 64)) hb3 (by simp) | exact Row.below (Row.new w13.drew vrZ 64) hb3 (by simp) | exact Row.below r5 hb3 r5.lt | exact Row.below (Row.new w3 vrZ 64) hb3 (by simp)); obtain ⟨⟨x0, x1, x2, x3, x4⟩, g0, g1, g2, g3, g4⟩ := r5.five)))
                (try go_wp2_with fail)
                refine hKK.out _ _ ?_ (fun hHeld => ?_)
                · (try dsimp only); (first | (with_reducible exact HK.out _ (by repeat (first | (with_reducible assumption) | (with_reducible exact Below.refl _ _) | (with_reducible refine Below.drew ?_) | (with_reducible refine below_drewN' ?_ _) | (with_reducible refine Below.alloc ?_ (by first | assumption | omega | (simp; omega) | simp | (simp [World.setCell]; omega) | simp [World.setCell]) _) | (with_reducible refine Below.setCell ?_ (by first | assumption | omega | (simp; omega) | simp | (simp [World.setCell]; omega) | simp [World.setCell]) _)))) | go_keep)
                clear hKK KK
                try simp only [Act.put, List.setIfInBounds_toArray, List.set_cons_zero, List.set_cons_succ]
                refine wpAnyH_take (i := 8) (oi := { dst := some 122, op := _, type := _, pos := _, after := _, guard := _ }) (v := ?_) rfl (by kernel_rfl) (by kernel_rfl) (by kernel_rfl) (fun _ _ _ h => h) (Or.inl ⟨by kernel_rfl, ?_⟩) (by first | assumption | trivial) ?_
                rotate_left 1
                · intro w hSw; (try dsimp only at hSw); go_simp; (try with_reducible rfl)
                try simp only [Act.put, List.setIfInBounds_toArray, List.set_cons_zero, List.set_cons_succ]
                refine wpAnyH_ready (rs := [9, 10]) (by kernel_rfl) (by simp) ?_
                refine AllReadyH.cons (o := { dst := some 123, op := _, type := _, pos := _, after := _, guard := _ }) rfl (fun KK hKK => ?_) (AllReadyH.cons (o := { dst := some 20, op := _, type := _, pos := _, after := _, guard := _ }) rfl (fun KK hKK => ?_) AllReadyH.nil)
                · go_simp
                  refine hKK.out _ _ ?_ (fun hHeld => ?_)
                  · (try dsimp only); (first | (with_reducible exact HK.out _ (by repeat (first | (with_reducible assumption) | (with_reducible exact Below.refl _ _) | (with_reducible refine Below.drew ?_) | (with_reducible refine below_drewN' ?_ _) | (with_reducible refine Below.alloc ?_ (by first | assumption | omega | (simp; omega) | simp | (simp [World.setCell]; omega) | simp [World.setCell]) _) | (with_reducible refine Below.setCell ?_ (by first | assumption | omega | (simp; omega) | simp | (simp [World.setCell]; omega) | simp [World.setCell]) _)))) | go_keep)
                  clear hKK KK
                  try simp only [Act.put, List.setIfInBounds_toArray, List.set_cons_zero, List.set_cons_succ]
                  refine wpAnyH_ready (rs := [10]) (by kernel_rfl) (by simp) ?_
                  refine AllReadyH.cons (o := { dst := some 20, op := _, type := _, pos := _, after := _, guard := _ }) rfl (fun KK hKK => ?_) AllReadyH.nil
                  go_simp
                  refine hKK.out _ _ ?_ (fun hHeld => ?_)
                  · (try dsimp only); (first | (with_reducible exact HK.out _ (by repeat (first | (with_reducible assumption) | (with_reducible exact Below.refl _ _) | (with_reducible refine Below.drew ?_) | (with_reducible refine below_drewN' ?_ _) | (with_reducible refine Below.alloc ?_ (by first | assumption | omega | (simp; omega) | simp | (simp [World.setCell]; omega) | simp [World.setCell]) _) | (with_reducible refine Below.setCell ?_ (by first | assumption | omega | (simp; omega) | simp | (simp [World.setCell]; omega) | simp [World.setCell]) _)))) | go_keep)
                  clear hKK KK
                  try simp only [Act.put, List.setIfInBounds_toArray, List.set_cons_zero, List.set_cons_succ]
                  skip
                  refine wpAnyH_ready (rs := [11]) (by kernel_rfl) (by simp) ?_
                  refine AllReadyH.cons (o := { dst := none, op := _, type := _, pos := _, after := _, guard := _ }) rfl (fun KK hKK => ?_) AllReadyH.nil
                  go_simp
                  refine hKK.out _ _ ?_ (fun hHeld => ?_)
                  · (try dsimp only); (first | (with_reducible exact HK.out _ (by repeat (first | (with_reducible assumption) | (with_reducible exact Below.refl _ _) | (with_reducible refine Below.drew ?_) | (with_reducible refine below_drewN' ?_ _) | (with_reducible refine Below.alloc ?_ (by first | assumption | omega | (simp; omega) | simp | (simp [World.setCell]; omega) | simp [World.setCell]) _) | (with_reducible refine Below.setCell ?_ (by first | assumption | omega | (simp; omega) | simp | (simp [World.setCell]; omega) | simp [World.setCell]) _)))) | go_keep)
                  clear hKK KK
                  try simp only [Act.put, List.setIfInBounds_toArray, List.set_cons_zero, List.set_cons_succ]
                  refine wpAnyH_done (by kernel_rfl) ?_ _
                  go_wp2_with fail
                  go_meet
                  exact ⟨_, Ax, cx, rfl, by first | (with_reducible exact Row.new _ _ _) | (with_reducible exact r5.set5 _ _ _ _ _) | exact (r5.set5 _ _ _ _ _), (by repeat (first | (with_reducible assumption) | (with_reducible exact Below.refl _ _) | (with_reducible refine Below.drew ?_) | (with_reducible refine below_drewN' ?_ _) | (with_reducible refine Below.alloc ?_ (by first | assumption | omega | (simp; omega) | simp | (simp [World.setCell]; omega) | simp [World.setCell]) _) | (with_reducible refine Below.setCell ?_ (by first | assumption | omega | (simp; omega) | simp | (simp [World.setCell]; omega) | simp [World.setCell]) _)))⟩
                · go_simp
                  refine hKK.out _ _ ?_ (fun hHeld => ?_)
                  · (try dsimp only); (first | (with_reducible exact HK.out _ (by repeat (first | (with_reducible assumption) | (with_reducible exact Below.refl _ _) | (with_reducible refine Below.drew ?_) | (with_reducible refine below_drewN' ?_ _) | (with_reducible refine Below.alloc ?_ (by first | assumption | omega | (simp; omega) | simp | (simp [World.setCell]; omega) | simp [World.setCell]) _) | (with_reducible refine Below.setCell ?_ (by first | assumption | omega | (simp; omega) | simp | (simp [World.setCell]; omega) | simp [World.setCell]) _)))) | go_keep)
                  clear hKK KK
                  try simp only [Act.put, List.setIfInBounds_toArray, List.set_cons_zero, List.set_cons_succ]
                  skip
                  refine wpAnyH_ready (rs := [9]) (by kernel_rfl) (by simp) ?_
                  refine AllReadyH.cons (o := { dst := some 123, op := _, type := _, pos := _, after := _, guard := _ }) rfl (fun KK hKK => ?_) AllReadyH.nil
                  go_simp
                  refine hKK.out _ _ ?_ (fun hHeld => ?_)
                  · (try dsimp only); (first | (with_reducible exact HK.out _ (by repeat (first | (with_reducible assumption) | (with_reducible exact Below.refl _ _) | (with_reducible refine Below.drew ?_) | (with_reducible refine below_drewN' ?_ _) | (with_reducible refine Below.alloc ?_ (by first | assumption | omega | (simp; omega) | simp | (simp [World.setCell]; omega) | simp [World.setCell]) _) | (with_reducible refine Below.setCell ?_ (by first | assumption | omega | (simp; omega) | simp | (simp [World.setCell]; omega) | simp [World.setCell]) _)))) | go_keep)
                  clear hKK KK
                  try simp only [Act.put, List.setIfInBounds_toArray, List.set_cons_zero, List.set_cons_succ]
                  refine wpAnyH_ready (rs := [11]) (by kernel_rfl) (by simp) ?_
                  refine AllReadyH.cons (o := { dst := none, op := _, type := _, pos := _, after := _, guard := _ }) rfl (fun KK hKK => ?_) AllReadyH.nil
                  go_simp
                  refine hKK.out _ _ ?_ (fun hHeld => ?_)
                  · (try dsimp only); (first | (with_reducible exact HK.out _ (by repeat (first | (with_reducible assumption) | (with_reducible exact Below.refl _ _) | (with_reducible refine Below.drew ?_) | (with_reducible refine below_drewN' ?_ _) | (with_reducible refine Below.alloc ?_ (by first | assumption | omega | (simp; omega) | simp | (simp [World.setCell]; omega) | simp [World.setCell]) _) | (with_reducible refine Below.setCell ?_ (by first | assumption | omega | (simp; omega) | simp | (simp [World.setCell]; omega) | simp [World.setCell]) _)))) | go_keep)
                  clear hKK KK
                  try simp only [Act.put, List.setIfInBounds_toArray, List.set_cons_zero, List.set_cons_succ]
                  refine wpAnyH_done (by kernel_rfl) ?_ _
                  go_wp2_with fail
                  go_meet
                  exact ⟨_, Ax, cx, rfl, by first | (with_reducible exact Row.new _ _ _) | (with_reducible exact r5.set5 _ _ _ _ _) | exact (r5.set5 _ _ _ _ _), (by repeat (first | (with_reducible assumption) | (with_reducible exact Below.refl _ _) | (with_reducible refine Below.drew ?_) | (with_reducible refine below_drewN' ?_ _) | (with_reducible refine Below.alloc ?_ (by first | assumption | omega | (simp; omega) | simp | (simp [World.setCell]; omega) | simp [World.setCell]) _) | (with_reducible refine Below.setCell ?_ (by first | assumption | omega | (simp; omega) | simp | (simp [World.setCell]; omega) | simp [World.setCell]) _)))⟩
              · go_simp
                refine hKK.out _ _ ?_ (fun hHeld => ?_)
                · (try dsimp only); (first | (with_reducible exact HK.out _ (by repeat (first | (with_reducible assumption) | (with_reducible exact Below.refl _ _) | (with_reducible refine Below.drew ?_) | (with_reducible refine below_drewN' ?_ _) | (with_reducible refine Below.alloc ?_ (by first | assumption | omega | (simp; omega) | simp | (simp [World.setCell]; omega) | simp [World.setCell]) _) | (with_reducible refine Below.setCell ?_ (by first | assumption | omega | (simp; omega) | simp | (simp [World.setCell]; omega) | simp [World.setCell]) _)))) | go_keep)
                clear hKK KK
                try simp only [Act.put, List.setIfInBounds_toArray, List.set_cons_zero, List.set_cons_succ]
                skip
                refine wpAnyH_ready (rs := [7]) (by kernel_rfl) (by simp) ?_
                refine AllReadyH.cons (o := { dst := some 121, op := _, type := _, pos := _, after := _, guard := _ }) rfl (fun KK hKK => ?_) AllReadyH.nil
                go_simp
                first | (go_at_call 34; (refine (HV.out _ (by repeat (first | (with_reducible assumption) | (with_reducible exact Below.refl _ _) | (with_reducible refine Below.drew ?_) | (with_reducible refine below_drewN' ?_ _) | (with_reducible refine Below.alloc ?_ (by first | assumption | omega | (simp; omega) | simp | (simp [World.setCell]; omega) | simp [World.setCell]) _) | (with_reducible refine Below.setCell ?_ (by first | assumption | omega | (simp; omega) | simp | (simp [World.setCell]; omega) | simp [World.setCell]) _)))).mono ?_); rintro e w3 ⟨⟨b4, off4, cap4, Ax, cx, rfl, y0, y1, y2, y3, y4⟩, hb3⟩; (have hb4 : Below w13.heap.size w13 w3 := Below.trans (by repeat (first | (with_reducible assumption) | (with_reducible exact Below.refl _ _) | (with_reducible refine Below.drew ?_) | (with_reducible refine below_drewN' ?_ _) | (with_reducible refine Below.alloc ?_ (by first | assumption | omega | (simp; omega) | simp | (simp [World.setCell]; omega) | simp [World.setCell]) _) | (with_reducible refine Below.setCell ?_ (by first | assumption | omega | (simp; omega) | simp | (simp [World.setCell]; omega) | simp [World.setCell]) _))) (hb3.mono (by first | exact Nat.le_refl _ | omega | (simp; omega) | simp))); (have hs4 := hb4.size); (have hlb := block_lt_of_cell y0); (try (have r5 : Row w3 _ vrZ 64 := (by first | exact Row.below (Row.drew (Row.new w13 vrZ 64)) hb3 (by simp) | exact Row.below (Row.new w13.drew vrZ 64) hb3 (by simp) | exact Row.below r5 hb3 r5.lt); obtain ⟨⟨x0, x1, x2, x3, x4⟩, g0, g1, g2, g3, g4⟩ := r5.five))) | (go_at_call 25; (refine (HM.out _ (by repeat (first | (with_reducible assumption) | (with_reducible exact Below.refl _ _) | (with_reducible refine Below.drew ?_) | (with_reducible refine below_drewN' ?_ _) | (with_reducible refine Below.alloc ?_ (by first | assumption | omega | (simp; omega) | simp | (simp [World.setCell]; omega) | simp [World.setCell]) _) | (with_reducible refine Below.setCell ?_ (by first | assumption | omega | (simp; omega) | simp | (simp [World.setCell]; omega) | simp [World.setCell]) _)))).mono ?_); rintro e w5 ⟨rfl, hb3⟩; (have y0 := (by first | exact old_cell hb3 y0 | exact old_cell hb3 (old_cell (Below.alloc (Below.refl _ _) (Nat.le_refl _) _) y0))); (have y1 := (by first | exact old_cell hb3 y1 | exact old_cell hb3 (old_cell (Below.alloc (Below.refl _ _) (Nat.le_refl _) _) y1))); (have y2 := (by first | exact old_cell hb3 y2 | exact old_cell hb3 (old_cell (Below.alloc (Below.refl _ _) (Nat.le_refl _) _) y2))); (have y3 := (by first | exact old_cell hb3 y3 | exact old_cell hb3 (old_cell (Below.alloc (Below.refl _ _) (Nat.le_refl _) _) y3))); (have y4 := (by first | exact old_cell hb3 y4 | exact old_cell hb3 (old_cell (Below.alloc (Below.refl _ _) (Nat.le_refl _) _) y4))); (have hb4 : Below w13.heap.size w13 w5 := Below.trans (by repeat (first | (with_reducible assumption) | (with_reducible exact Below.refl _ _) | (with_reducible refine Below.drew ?_) | (with_reducible refine below_drewN' ?_ _) | (with_reducible refine Below.alloc ?_ (by first | assumption | omega | (simp; omega) | simp | (simp [World.setCell]; omega) | simp [World.setCell]) _) | (with_reducible refine Below.setCell ?_ (by first | assumption | omega | (simp; omega) | simp | (simp [World.setCell]; omega) | simp [World.setCell]) _))) (hb3.mono (by first | exact Nat.le_refl _ | omega | (simp; omega) | simp))); (have hs4 := hb4.size); (have hlb := block_lt_of_cell y0); (try (have r5 : Row w5 _ vrZ 64 := (by first | exact Row.below (Row.drew (Row.new w13 vrZ 64)) hb3 (by simp) | exact Row.below (Row.new w13.drew vrZ 64) hb3 (by simp) | exact Row.below r5 hb3 r5.lt | exact Row.below (Row.new w3 vrZ 64) hb3 (by simp)); obtain ⟨⟨x0, x1, x2, x3, x4⟩, g0, g1, g2, g3, g4⟩ := r5.five)))
                (try go_wp2_with fail)
                refine hKK.out _ _ ?_ (fun hHeld => ?_)
                · (try dsimp only); (first | (with_reducible exact HK.out _ (by repeat (first | (with_reducible assumption) | (with_reducible exact Below.refl _ _) | (with_reducible refine Below.drew ?_) | (with_reducible refine below_drewN' ?_ _) | (with_reducible refine Below.alloc ?_ (by first | assumption | omega | (simp; omega) | simp | (simp [World.setCell]; omega) | simp [World.setCell]) _) | (with_reducible refine Below.setCell ?_ (by first | assumption | omega | (simp; omega) | simp | (simp [World.setCell]; omega) | simp [World.setCell]) _)))) | go_keep)
                clear hKK KK
                try simp only [Act.put, List.setIfInBounds_toArray, List.set_cons_zero, List.set_cons_succ]
                refine wpAnyH_take (i := 8) (oi := { dst := some 122, op := _, type := _, pos := _, after := _, guard := _ }) (v := ?_) rfl (by kernel_rfl) (by kernel_rfl) (by kernel_rfl) (fun _ _ _ h => h) (Or.inl ⟨by kernel_rfl, ?_⟩) (by first | assumption | trivial) ?_
                rotate_left 1
                · intro w hSw; (try dsimp only at hSw); go_simp; (try with_reducible rfl)
                try simp only [Act.put, List.setIfInBounds_toArray, List.set_cons_zero, List.set_cons_succ]
                refine wpAnyH_ready (rs := [9]) (by kernel_rfl) (by simp) ?_
                refine AllReadyH.cons (o := { dst := some 123, op := _, type := _, pos := _, after := _, guard := _ }) rfl (fun KK hKK => ?_) AllReadyH.nil
                go_simp
                refine hKK.out _ _ ?_ (fun hHeld => ?_)
                · (try dsimp only); (first | (with_reducible exact HK.out _ (by repeat (first | (with_reducible assumption) | (with_reducible exact Below.refl _ _) | (with_reducible refine Below.drew ?_) | (with_reducible refine below_drewN' ?_ _) | (with_reducible refine Below.alloc ?_ (by first | assumption | omega | (simp; omega) | simp | (simp [World.setCell]; omega) | simp [World.setCell]) _) | (with_reducible refine Below.setCell ?_ (by first | assumption | omega | (simp; omega) | simp | (simp [World.setCell]; omega) | simp [World.setCell]) _)))) | go_keep)
                clear hKK KK
                try simp only [Act.put, List.setIfInBounds_toArray, List.set_cons_zero, List.set_cons_succ]
                refine wpAnyH_ready (rs := [11]) (by kernel_rfl) (by simp) ?_
                refine AllReadyH.cons (o := { dst := none, op := _, type := _, pos := _, after := _, guard := _ }) rfl (fun KK hKK => ?_) AllReadyH.nil
                go_simp
                refine hKK.out _ _ ?_ (fun hHeld => ?_)
                · (try dsimp only); (first | (with_reducible exact HK.out _ (by repeat (first | (with_reducible assumption) | (with_reducible exact Below.refl _ _) | (with_reducible refine Below.drew ?_) | (with_reducible refine below_drewN' ?_ _) | (with_reducible refine Below.alloc ?_ (by first | assumption | omega | (simp; omega) | simp | (simp [World.setCell]; omega) | simp [World.setCell]) _) | (with_reducible refine Below.setCell ?_ (by first | assumption | omega | (simp; omega) | simp | (simp [World.setCell]; omega) | simp [World.setCell]) _)))) | go_keep)
                clear hKK KK
                try simp only [Act.put, List.setIfInBounds_toArray, List.set_cons_zero, List.set_cons_succ]
                refine wpAnyH_done (by kernel_rfl) ?_ _
                go_wp2_with fail
                go_meet
                exact ⟨_, Ax, cx, rfl, by first | (with_reducible exact Row.new _ _ _) | (with_reducible exact r5.set5 _ _ _ _ _) | exact (r5.set5 _ _ _ _ _), (by repeat (first | (with_reducible assumption) | (with_reducible exact Below.refl _ _) | (with_reducible refine Below.drew ?_) | (with_reducible refine below_drewN' ?_ _) | (with_reducible refine Below.alloc ?_ (by first | assumption | omega | (simp; omega) | simp | (simp [World.setCell]; omega) | simp [World.setCell]) _) | (with_reducible refine Below.setCell ?_ (by first | assumption | omega | (simp; omega) | simp | (simp [World.setCell]; omega) | simp [World.setCell]) _)))⟩
            · go_simp
              refine hKK.out _ _ ?_ (fun hHeld => ?_)
              · (try dsimp only); (first | (with_reducible exact HK.out _ (by repeat (first | (with_reducible assumption) | (with_reducible exact Below.refl _ _) | (with_reducible refine Below.drew ?_) | (with_reducible refine below_drewN' ?_ _) | (with_reducible refine Below.alloc ?_ (by first | assumption | omega | (simp; omega) | simp | (simp [World.setCell]; omega) | simp [World.setCell]) _) | (with_reducible refine Below.setCell ?_ (by first | assumption | omega | (simp; omega) | simp | (simp [World.setCell]; omega) | simp [World.setCell]) _)))) | go_keep)
              clear hKK KK
              try simp only [Act.put, List.setIfInBounds_toArray, List.set_cons_zero, List.set_cons_succ]
              skip
              refine wpAnyH_ready (rs := [1]) (by kernel_rfl) (by simp) ?_
              refine AllReadyH.cons (o := { dst := some 115, op := _, type := _, pos := _, after := _, guard := _ }) rfl (fun KK hKK => ?_) AllReadyH.nil
              go_simp
              first | (go_at_call 34; (refine (HV.out _ (by repeat (first | (with_reducible assumption) | (with_reducible exact Below.refl _ _) | (with_reducible refine Below.drew ?_) | (with_reducible refine below_drewN' ?_ _) | (with_reducible refine Below.alloc ?_ (by first | assumption | omega | (simp; omega) | simp | (simp [World.setCell]; omega) | simp [World.setCell]) _) | (with_reducible refine Below.setCell ?_ (by first | assumption | omega | (simp; omega) | simp | (simp [World.setCell]; omega) | simp [World.setCell]) _)))).mono ?_); rintro e w3 ⟨⟨b4, off4, cap4, Ax, cx, rfl, y0, y1, y2, y3, y4⟩, hb3⟩; (have hb4 : Below w13.heap.size w13 w3 := Below.trans (by repeat (first | (with_reducible assumption) | (with_reducible exact Below.refl _ _) | (with_reducible refine Below.drew ?_) | (with_reducible refine below_drewN' ?_ _) | (with_reducible refine Below.alloc ?_ (by first | assumption | omega | (simp; omega) | simp | (simp [World.setCell]; omega) | simp [World.setCell]) _) | (with_reducible refine Below.setCell ?_ (by first | assumption | omega | (simp; omega) | simp | (simp [World.setCell]; omega) | simp [World.setCell]) _))) (hb3.mono (by first | exact Nat.le_refl _ | omega | (simp; omega) | simp))); (have hs4 := hb4.size); (have hlb := block_lt_of_cell y0); (try (have r5 : Row w3 _ vrZ 64 := (by first | exact Row.below (Row.drew (Row.new w13 vrZ 64)) hb3 (by simp) | exact Row.below (Row.new w13.drew vrZ 64) hb3 (by simp) | exact Row.below r5 hb3 r5.lt); obtain ⟨⟨x0, x1, x2, x3, x4⟩, g0, g1, g2, g3, g4⟩ := r5.five))) | (go_at_call 25; (refine (HM.out _ (by repeat (first | (with_reducible assumption) | (with_reducible exact Below.refl _ _) | (with_reducible refine Below.drew ?_) | (with_reducible refine below_drewN' ?_ _) | (with_reducible refine Below.alloc ?_ (by first | assumption | omega | (simp; omega) | simp | (simp [World.setCell]; omega) | simp [World.setCell]) _) | (with_reducible refine Below.setCell ?_ (by first | assumption | omega | (simp; omega) | simp | (simp [World.setCell]; omega) | simp [World.setCell]) _)))).mono ?_); rintro e w5 ⟨rfl, hb3⟩; (have y0 := (by first | exact old_cell hb3 y0 | exact old_cell hb3 (old_cell (Below.alloc (Below.refl _ _) (Nat.le_refl _) _) y0))); (have y1 := (by first | exact old_cell hb3 y1 | exact old_cell hb3 (old_cell (Below.alloc (Below.refl _ _) (Nat.le_refl _) _) y1))); (have y2 := (by first | exact old_cell hb3 y2 | exact old_cell hb3 (old_cell (Below.alloc (Below.refl _ _) (Nat.le_refl _) _) y2))); (have y3 := (by first | exact old_cell hb3 y3 | exact old_cell hb3 (old_cell (Below.alloc (Below.refl _ _) (Nat.le_refl _) _) y3))); (have y4 := (by first | exact old_cell hb3 y4 | exact old_cell hb3 (old_cell (Below.alloc (Below.refl _ _) (Nat.le_refl _) _) y4))); (have hb4 : Below w13.heap.size w13 w5 := Below.trans (by repeat (first | (with_reducible assumption) | (with_reducible exact Below.refl _ _) | (with_reducible refine Below.drew ?_) | (with_reducible refine below_drewN' ?_ _) | (with_reducible refine Below.alloc ?_ (by first | assumption | omega | (simp; omega) | simp | (simp [World.setCell]; omega) | simp [World.setCell]) _) | (with_reducible refine Below.setCell ?_ (by first | assumption | omega | (simp; omega) | simp | (simp [World.setCell]; omega) | simp [World.setCell]) _))) (hb3.mono (by first | exact Nat.le_refl _ | omega | (simp; omega) | simp))); (have hs4 := hb4.size); (have hlb := block_lt_of_cell y0); (try (have r5 : Row w5 _ vrZ 64 := (by first | exact Row.below (Row.drew (Row.new w13 vrZ 64)) hb3 (by simp) | exact Row.below (Row.new w13.drew vrZ 64) hb3 (by simp) | exact Row.below r5 hb3 r5.lt | exact Row.below (Row.new w3 vrZ 64) hb3 (by simp)); obtain ⟨⟨x0, x1, x2, x3, x4⟩, g0, g1, g2, g3, g4⟩ := r5.five)))
              (try go_wp2_with fail)
              refine hKK.out _ _ ?_ (fun hHeld => ?_)
              · (try dsimp only); (first | (with_reducible exact HK.out _ (by repeat (first | (with_reducible assumption) | (with_reducible exact Below.refl _ _) | (with_reducible refine Below.drew ?_) | (with_reducible refine below_drewN' ?_ _) | (with_reducible refine Below.alloc ?_ (by first | assumption | omega | (simp; omega) | simp | (simp [World.setCell]; omega) | simp [World.setCell]) _) | (with_reducible refine Below.setCell ?_ (by first | assumption | omega | (simp; omega) | simp | (simp [World.setCell]; omega) | simp [World.setCell]) _)))) | go_keep)
              clear hKK KK
              try simp only [Act.put, List.setIfInBounds_toArray, List.set_cons_zero, List.set_cons_succ]
              refine wpAnyH_ready (rs := [7]) (by kernel_rfl) (by simp) ?_
              refine AllReadyH.cons (o := { dst := some 121, op := _, type := _, pos := _, after := _, guard := _ }) rfl (fun KK hKK => ?_) AllReadyH.nil
              go_simp
              first | (go_at_call 34; (refine (HV.out _ (by repeat (first | (with_reducible assumption) | (with_reducible exact Below.refl _ _) | (with_reducible refine Below.drew ?_) | (with_reducible refine below_drewN' ?_ _) | (with_reducible refine Below.alloc ?_ (by first | assumption | omega | (simp; omega) | simp | (simp [World.setCell]; omega) | simp [World.setCell]) _) | (with_reducible refine Below.setCell ?_ (by first | assumption | omega | (simp; omega) | simp | (simp [World.setCell]; omega) | simp [World.setCell]) _)))).mono ?_); rintro e w3 ⟨⟨b4, off4, cap4, Ax, cx, rfl, y0, y1, y2, y3, y4⟩, hb3⟩; (have hb4 : Below w13.heap.size w13 w3 := Below.trans (by repeat (first | (with_reducible assumption) | (with_reducible exact Below.refl _ _) | (with_reducible refine Below.drew ?_) | (with_reducible refine below_drewN' ?_ _) | (with_reducible refine Below.alloc ?_ (by first | assumption | omega | (simp; omega) | simp | (simp [World.setCell]; omega) | simp [World.setCell]) _) | (with_reducible refine Below.setCell ?_ (by first | assumption | omega | (simp; omega) | simp | (simp [World.setCell]; omega) | simp [World.setCell]) _))) (hb3.mono (by first | exact Nat.le_refl _ | omega | (simp; omega) | simp))); (have hs4 := hb4.size); (have hlb := block_lt_of_cell y0); (try (have r5 : Row w3 _ vrZ 64 := (by first | exact Row.below (Row.drew (Row.new w13 vrZ 64)) hb3 (by simp) | exact Row.below (Row.new w13.drew vrZ 64) hb3 (by simp) | exact Row.below r5 hb3 r5.lt); obtain ⟨⟨x0, x1, x2, x3, x4⟩, g0, g1, g2, g3, g4⟩ := r5.five))) | (go_at_call 25; (refine (HM.out _ (by repeat (first | (with_reducible assumption) | (with_reducible exact Below.refl _ _) | (with_reducible refine Below.drew ?_) | (with_reducible refine below_drewN' ?_ _) | (with_reducible refine Below.alloc ?_ (by first | assumption | omega | (simp; omega) | simp | (simp [World.setCell]; omega) | simp [World.setCell]) _) | (with_reducible refine Below.setCell ?_ (by first | assumption | omega | (simp; omega) | simp | (simp [World.setCell]; omega) | simp [World.setCell]) _)))).mono ?_); rintro e w5 ⟨rfl, hb3⟩; (have y0 := (by first | exact old_cell hb3 y0 | exact old_cell hb3 (old_cell (Below.alloc (Below.refl _ _) (Nat.le_refl _) _) y0))); (have y1 := (by first | exact old_cell hb3 y1 | exact old_cell hb3 (old_cell (Below.alloc (Below.refl _ _) (Nat.le_refl _) _) y1))); (have y2 := (by first | exact old_cell hb3 y2 | exact old_cell hb3 (old_cell (Below.alloc (Below.refl _ _) (Nat.le_refl _) _) y2))); (have y3 := (by first | exact old_cell hb3 y3 | exact old_cell hb3 (old_cell (Below.alloc (Below.refl _ _) (Nat.le_refl _) _) y3))); (have y4 := (by first | exact old_cell hb3 y4 | exact old_cell hb3 (old_cell (Below.alloc (Below.refl _ _) (Nat.le_refl _) _) y4))); (have hb4 : Below w13.heap.size w13 w5 := Below.trans (by repeat (first | (with_reducible assumption) | (with_reducible exact Below.refl _ _) | (with_reducible refine Below.drew ?_) | (with_reducible refine below_drewN' ?_ _) | (with_reducible refine Below.alloc ?_ (by first | assumption | omega | (simp; omega) | simp | (simp [World.setCell]; omega) | simp [World.setCell]) _) | (with_reducible refine Below.setCell ?_ (by first | assumption | omega | (simp; omega) | simp | (simp [World.setCell]; omega) | simp [World.setCell]) _))) (hb3.mono (by first | exact Nat.le_refl _ | omega | (simp; omega) | simp))); (have hs4 := hb4.size); (have hlb := block_lt_of_cell y0); (try (have r5 : Row w5 _ vrZ 64 := (by first | exact Row.below (Row.drew (Row.new w13 vrZ 64)) hb3 (by simp) | exact Row.below (Row.new w13.drew vrZ 64) hb3 (by simp) | exact Row.below r5 hb3 r5.lt | exact Row.below (Row.new w3 vrZ 64) hb3 (by simp)); obtain ⟨⟨x0, x1, x2, x3, x4⟩, g0, g1, g2, g3, g4⟩ := r5.five)))
              (try go_wp2_with fail)
              refine hKK.out _ _ ?_ (fun hHeld => ?_)
              · (try dsimp only); (first | (with_reducible exact HK.out _ (by repeat (first | (with_reducible assumption) | (with_reducible exact Below.refl _ _) | (with_reducible refine Below.drew ?_) | (with_reducible refine below_drewN' ?_ _) | (with_reducible refine Below.alloc ?_ (by first | assumption | omega | (simp; omega) | simp | (simp [World.setCell]; omega) | simp [World.setCell]) _) | (with_reducible refine Below.setCell ?_ (by first | assumption | omega | (simp; omega) | simp | (simp [World.setCell]; omega) | simp [World.setCell]) _)))) | go_keep)
              clear hKK KK
              try simp only [Act.put, List.setIfInBounds_toArray, List.set_cons_zero, List.set_cons_succ]
              refine wpAnyH_take (i := 8) (oi := { dst := some 122, op := _, type := _, pos := _, after := _, guard := _ }) (v := ?_) rfl (by kernel_rfl) (by kernel_rfl) (by kernel_rfl) (fun _ _ _ h => h) (Or.inl ⟨by kernel_rfl, ?_⟩) (by first | assumption | trivial) ?_
              rotate_left 1
              · intro w hSw; (try dsimp only at hSw); go_simp; (try with_reducible rfl)
              try simp only [Act.put, List.setIfInBounds_toArray, List.set_cons_zero, List.set_cons_succ]
              refine wpAnyH_ready (rs := [9]) (by kernel_rfl) (by simp) ?_
              refine AllReadyH.cons (o := { dst := some 123, op := _, type := _, pos := _, after := _, guard := _ }) rfl (fun KK hKK => ?_) AllReadyH.nil
              go_simp
              refine hKK.out _ _ ?_ (fun hHeld => ?_)
              · (try dsimp only); (first | (with_reducible exact HK.out _ (by repeat (first | (with_reducible assumption) | (with_reducible exact Below.refl _ _) | (with_reducible refine Below.drew ?_) | (with_reducible refine below_drewN' ?_ _) | (with_reducible refine Below.alloc ?_ (by first | assumption | omega | (simp; omega) | simp | (simp [World.setCell]; omega) | simp [World.setCell]) _) | (with_reducible refine Below.setCell ?_ (by first | assumption | omega | (simp; omega) | simp | (simp [World.setCell]; omega) | simp [World.setCell]) _)))) | go_keep)
              clear hKK KK
              try simp only [Act.put, List.setIfInBounds_toArray, List.set_cons_zero, List.set_cons_succ]
              refine wpAnyH_ready (rs := [11]) (by kernel_rfl) (by simp) ?_
              refine AllReadyH.cons (o := { dst := none, op := _, type := _, pos := _, after := _, guard := _ }) rfl (fun KK hKK => ?_) AllReadyH.nil
              go_simp
              refine hKK.out _ _ ?_ (fun hHeld => ?_)
              · (try dsimp only); (first | (with_reducible exact HK.out _ (by repeat (first | (with_reducible assumption) | (with_reducible exact Below.refl _ _) | (with_reducible refine Below.drew ?_) | (with_reducible refine below_drewN' ?_ _) | (with_reducible refine Below.alloc ?_ (by first | assumption | omega | (simp; omega) | simp | (simp [World.setCell]; omega) | simp [World.setCell]) _) | (with_reducible refine Below.setCell ?_ (by first | assumption | omega | (simp; omega) | simp | (simp [World.setCell]; omega) | simp [World.setCell]) _)))) | go_keep)
              clear hKK KK
              try simp only [Act.put, List.setIfInBounds_toArray, List.set_cons_zero, List.set_cons_succ]
              refine wpAnyH_done (by kernel_rfl) ?_ _
              go_wp2_with fail
              go_meet
              exact ⟨_, Ax, cx, rfl, by first | (with_reducible exact Row.new _ _ _) | (with_reducible exact r5.set5 _ _ _ _ _) | exact (r5.set5 _ _ _ _ _), (by repeat (first | (with_reducible assumption) | (with_reducible exact Below.refl _ _) | (with_reducible refine Below.drew ?_) | (with_reducible refine below_drewN' ?_ _) | (with_reducible refine Below.alloc ?_ (by first | assumption | omega | (simp; omega) | simp | (simp [World.setCell]; omega) | simp [World.setCell]) _) | (with_reducible refine Below.setCell ?_ (by first | assumption | omega | (simp; omega) | simp | (simp [World.setCell]; omega) | simp [World.setCell]) _)))⟩
          case rest =>
            obtain ⟨gv, Ax, cx, rfl, rv, hbc⟩ := hcut
            have rf14 := rf13.below hbc rf13.lt
            obtain ⟨⟨y0, y1, y2⟩, -⟩ := rf14.three
            obtain ⟨z0, z1, z2, z3, z4⟩ := rv.vr
            have e1 : (tk != xv.ty) = false := neq_no HXT.out.symm
            have b014 := b013.trans (hbc.mono b013.size)
            clear c0 c1 cc2 c3 c4 c5 c6 d0 d1 d2 d3 d4 d5 d6 d7 d8 HK
            have hsp := b07.size
            have b9w : Below wp.heap.size wp wc := (bq11.trans (hb12.mono bq11.size)).trans ((bt.trans (hbc.mono bt.size)).mono (Nat.le_trans bq11.size hb12.size))
            go_wp2_with fail
            go_roundw
            case rel => exact ⟨p + 1, by omega, by go_num, hbq.trans (b9w.mono hszq)⟩
            case measure => first | (simp [intOf]; omega) | simp [intOf]
        obtain ⟨b3, off3, x, A3, cap3, hA3, hb3, hxk, hxm, hok3, hcap3, hmax3, hx3, e0, e1, e2, e3, e4, e5⟩ := (HXL.out.below hbj).at_ hlj
        subst hA3
        have HXM : Hid (x ∈ exList q.right) := by
          show _ ∈ _
          rw [HLL.out]
          exact hxm
        have HXA : Hid (∀ W, Below wr.heap.size wr W → IsExs W W.heap.size A3 x.args) := fun W hW => (hx3.below (hW.mono hszj)).more (Nat.le_trans hszj hW.size)
        have HXO := Lib.hid hok3
        have HC3 := Lib.hid hcap3
        have HM3 := Lib.hid hmax3
        have hmax3' : cap3 ≤ 9223372036854775807 := by unfold maxLen at hmax3; omega
        have rx := Row.new wr (exA x A3 cap3) 26
        have bx : Below wr.heap.size wr (wr.alloc (.cells (exA x A3 cap3) 26)) := (by repeat (first | (with_reducible assumption) | (with_reducible exact Below.refl _ _) | (with_reducible refine Below.drew ?_) | (with_reducible refine below_drewN' ?_ _) | (with_reducible refine Below.alloc ?_ (by first | assumption | omega | (simp; omega) | simp | (simp [World.setCell]; omega) | simp [World.setCell]) _) | (with_reducible refine Below.setCell ?_ (by first | assumption | omega | (simp; omega) | simp | (simp [World.setCell]; omega) | simp [World.setCell]) _)))
        have hb3' : b3 < wr.heap.size := by omega
        clear hxk hxm hx3 hok3
        go_upto_region 14 with (fail)
        clear e0 e1 e2 e3 e4 e5
        generalize hWx : wr.alloc (.cells (exA x A3 cap3) 26) = wx at *
        clear hWx
        have hsx := bx.size
        have rsx := rs11.below bx rs11.lt
        have rnx := rn11.below bx rn11.lt
        have hBx := hB11.trans (bx.mono hsB11)
        have hsBx := hBx.size
        have b0x := b011.trans (bx.mono b011.size)
        have hbx2 := hbj.trans (bx.mono hszj)
        obtain ⟨wl, rfl⟩ : ∃ wl : World, wl = wr := ⟨_, rfl⟩
        obtain ⟨e0, e1, e2, e3, e4, e5⟩ := rx.ex6
        go_wp2_with fail
        refine (rsign_any x.op wx).mono ?_
        rintro r w12 ⟨⟨si, so, sb, rfl, HSG⟩, hb12⟩
        have rs12 := rsx.below hb12 rsx.lt
        have rn12 := rnx.below hb12 rnx.lt
        have rx12 := rx.below hb12 rx.lt
        have hB12 := hBx.trans (hb12.mono hsBx)
        have hs12 := hB12.size
        have b012 := b0x.trans (hb12.mono b0x.size)
        have hbx12 := hbx2.trans (hb12.mono hbx2.size)
        have bxx := bx.trans (hb12.mono hsx)
        clear e0 e1 e2 e3 e4 e5
        cases sb
        · go_wp2_with fail
          go_roundw
          case rel => exact ⟨j + 1, by omega, by go_num, hbx12⟩
          case measure => first | (simp [intOf]; omega) | simp [intOf]
        obtain ⟨hop, hsi, hso⟩ := HSG.out rfl
        have HTX := Lib.hid (ty_all q.right (ft2_ok (node_eqns ((types_scope HZ.out).2 n HNM.out) q HQM.out)).1 x HXM.out)
        have HSK := Lib.hid (sign_ok HTX.out hop)
        have HG := Lib.hid (of_good s A cap n a q x A3 cap3 k w12 HZ.out HQM.out HXM.out HSM.out h1 h2 HNK.out (HSW.out w12 hB12) (HAW.out w12 b012) HXO.out HC3.out HM3.out (HXA.out w12 bxx))
        rw [HSK.out.1, ← hso] at HG
        have HARG : Hid (∀ y ∈ x.args, si = 0 ∨ tyK s n y = si) := fun y hy => by rw [hsi]; exact HSK.out.2 y hy
        have z0 := rs12.src
        rw [HA.out] at z0 HG
        obtain ⟨c0, c1, cc2, c3, c4, c5, c6⟩ := rn12.nd
        obtain ⟨e0, e1, e2, e3, e4, e5⟩ := rx12.ex6
        have q1 : (so != so) = false := neq_no rfl
        clear hop hsi hso HSG HSK
        go_wp2_with fail
        refine HG.out.mono ?_
        rintro r w13 ⟨rfl, hb13⟩
        have rs13 := rs12.below hb13 rs12.lt
        have rn13 := rn12.below hb13 rn12.lt
        have rx13 := rx12.below hb13 rx12.lt
        have hB13 := hB12.trans (hb13.mono hs12)
        have hs13 := hB13.size
        have b013 := b012.trans (hb13.mono b012.size)
        have hbx13 := hbx12.trans (hb13.mono hbx12.size)
        have bx13 := bxx.trans (hb13.mono bxx.size)
        clear z0 c0 c1 cc2 c3 c4 c5 c6 e0 e1 e2 e3 e4 e5
        have bt : Below w13.heap.size w13 (w13.alloc (.cells ftC0 31)) := (by repeat (first | (with_reducible assumption) | (with_reducible exact Below.refl _ _) | (with_reducible refine Below.drew ?_) | (with_reducible refine below_drewN' ?_ _) | (with_reducible refine Below.alloc ?_ (by first | assumption | omega | (simp; omega) | simp | (simp [World.setCell]; omega) | simp [World.setCell]) _) | (with_reducible refine Below.setCell ?_ (by first | assumption | omega | (simp; omega) | simp | (simp [World.setCell]; omega) | simp [World.setCell]) _)))
        have rf14 := Row.new w13 ftC0 31
        go_upto_region 17 with (fail)
        generalize hW14 : w13.alloc (.cells ftC0 31) = w14 at *
        clear hW14
        have rs14 := rs13.below bt rs13.lt
        have rn14 := rn13.below bt rn13.lt
        have rx14 := rx13.below bt rx13.lt
        have hB14 := hB13.trans (bt.mono hs13)
        have hs14 := hB14.size
        have b014 := b013.trans (bt.mono b013.size)
        have hbx14 := hbx13.trans (bt.mono hbx13.size)
        have bx14 := bx13.trans (bt.mono bx13.size)
        obtain ⟨⟨y0, y1, y2⟩, -⟩ := rf14.three
        obtain ⟨e0, e1, e2, e3, e4, e5⟩ := rx14.ex6
        go_wp2_with fail
        clear y0 y1 y2 e0 e1 e2 e3 e4 e5
        go_loopw [81] (fun i wr => ∃ i2 : Nat, i2 ≤ x.args.length ∧ i = .int .i64 i2 ∧ Below w14.heap.size w14 wr) (fun i _ => x.args.length - (intOf i).toNat)
        case atStart => exact ⟨0, Nat.zero_le _, rfl, Below.refl _ _⟩
        case round =>
          obtain ⟨i2, hi2, rfl, hbi⟩ := hrel
          have hszi := hbi.size
          have rs15 := rs14.below hbi rs14.lt
          have rn15 := rn14.below hbi rn14.lt
          have hB15 := hB14.trans (hbi.mono hs14)
          have hs15 := hB15.size
          have b015 := b014.trans (hbi.mono b014.size)
          have bx15 := bx14.trans (hbi.mono bx14.size)
          by_cases hli : i2 < x.args.length
          rotate_left 1
          · obtain rfl : i2 = x.args.length := by omega
            go_wp2_with fail
            go_roundw
            case rel => exact ⟨j + 1, by omega, by go_num, hbx14.trans (hbi.mono hbx14.size)⟩
            case measure => first | (simp [intOf]; omega) | simp [intOf]
          obtain ⟨b4, off4, y, A4, cap4, hA4, hb4, hyk, hym, hok4, hcap4, hmax4, hy4, e0, e1, e2, e3, e4, e5⟩ := (HXA.out wr bx15).at_ hli
          rw [hA4]
          have HYM := Lib.hid (list_arg HXM.out hym)
          have HYT := Lib.hid (HARG.out y hym)
          have HYO := Lib.hid hok4
          have HC4 := Lib.hid hcap4
          have HM4 := Lib.hid hmax4
          have HYA : Hid (∀ W, Below wr.heap.size wr W → IsExs W W.heap.size A4 y.args) := fun W hW => (hy4.below hW).more hW.size
          have ry := Row.new wr (exA y A4 cap4) 26
          have by5 : Below wr.heap.size wr (wr.alloc (.cells (exA y A4 cap4) 26)) := (by repeat (first | (with_reducible assumption) | (with_reducible exact Below.refl _ _) | (with_reducible refine Below.drew ?_) | (with_reducible refine below_drewN' ?_ _) | (with_reducible refine Below.alloc ?_ (by first | assumption | omega | (simp; omega) | simp | (simp [World.setCell]; omega) | simp [World.setCell]) _) | (with_reducible refine Below.setCell ?_ (by first | assumption | omega | (simp; omega) | simp | (simp [World.setCell]; omega) | simp [World.setCell]) _)))
          clear hA4 hyk hym hok4 hcap4 hmax4 hy4
          go_upto_region 22 with (fail)
          clear e0 e1 e2 e3 e4 e5
          generalize hWy : wr.alloc (.cells (exA y A4 cap4) 26) = wy at *
          clear hWy
          have rsy := rs15.below by5 rs15.lt
          have rny := rn15.below by5 rn15.lt
          have hBy := hB15.trans (by5.mono hs15)
          have hsy := hBy.size
          have b0y := b015.trans (by5.mono b015.size)
          have hbiy := hbi.trans (by5.mono hszi)
          obtain ⟨e0, e1, e2, e3, e4, e5⟩ := ry.ex6
          have HG := Lib.hid (of_good s A cap n a q y A4 cap4 k wy HZ.out HQM.out HYM.out HSM.out h1 h2 HNK.out (HSW.out wy hBy) (HAW.out wy b0y) HYO.out HC4.out HM4.out (HYA.out wy by5))
          obtain ⟨tk, HTK⟩ : ∃ tk, Hid (tyK s n y = tk) := ⟨_, rfl⟩
          rw [HTK.out] at HG HYT
          have z0 := rsy.src
          rw [HA.out] at z0 HG
          obtain ⟨c0, c1, cc2, c3, c4, c5, c6⟩ := rny.nd
          go_wp2_with fail
          refine HG.out.mono ?_
          rintro r w16 ⟨rfl, hb16⟩
          have hbi16 := hbiy.trans (hb16.mono hbiy.size)
          clear z0 c0 c1 cc2 c3 c4 c5 c6 e0 e1 e2 e3 e4 e5
          have bu : Below w16.heap.size w16 (w16.alloc (.cells ftC0 31)) := (by repeat (first | (with_reducible assumption) | (with_reducible exact Below.refl _ _) | (with_reducible refine Below.drew ?_) | (with_reducible refine below_drewN' ?_ _) | (with_reducible refine Below.alloc ?_ (by first | assumption | omega | (simp; omega) | simp | (simp [World.setCell]; omega) | simp [World.setCell]) _) | (with_reducible refine Below.setCell ?_ (by first | assumption | omega | (simp; omega) | simp | (simp [World.setCell]; omega) | simp [World.setCell]) _)))
          have rf17 := Row.new w16 ftC0 31
          go_upto_region 23 with (fail)
          generalize hW17 : w16.alloc (.cells ftC0 31) = w17 at *
          clear hW17
          have hbi17 := hbi16.trans (bu.mono hbi16.size)
          obtain ⟨⟨y0, y1, y2⟩, -⟩ := rf17.three
          by_cases hsi0 : si = 0
          · have s0 : (si != 0) = false := neq_no hsi0
            clear hsi0
            go_wp2_with fail
            go_roundw
            case rel => exact ⟨i2 + 1, by omega, by go_num, hbi17⟩
            case measure => first | (simp [intOf]; omega) | simp [intOf]
          · have s0 : (si != 0) = true := neq_yes hsi0
            have s1 : (tk != si) = false := neq_no (HYT.out.resolve_left hsi0)
            clear hsi0
            go_wp2_with fail
            go_roundw
            case rel => exact ⟨i2 + 1, by omega, by go_num, hbi17⟩
            case measure => first | (simp [intOf]; omega) | simp [intOf]
end Go.Proofs.Ytolabbnchmmckaa.typesWhole
