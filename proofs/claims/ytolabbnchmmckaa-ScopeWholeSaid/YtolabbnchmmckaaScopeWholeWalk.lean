/-
  ScopeWhole: the walk.
-/
import Derived.Test.YtolabbnchmmckaaWhP
import Derived.Test.YtolabbnchmmckaaWhA
import Derived.Test.YtolabbnchmmckaaNmsA
import Derived.Test.YtolabbnchmmckaaOpenN
namespace Go.Proofs.Ytolabbnchmmckaa.scopeWhole
open Go.RowKit
attribute [local go_sem ↓] Go.wp_at_zero Go.wp_at_succ
theorem field_ft (f : Ft) (W : World) : (Instr.field 31 (.agg #[.int .i64 f.err, .int .i64 f.line, .int .i64 f.col]) 0).run Try.prog W = .ok (.int .i64 f.err) W := by kernel_rfl
theorem lefts_take_succ {l : List Eqn} {k : Nat} {q : Eqn} (h : l[k]? = some q) : (lefts (l.take (k + 1))).length = (lefts (l.take k)).length + q.left.length := by
  unfold lefts
  rw [List.take_add_one, h]
  simp
set_option maxRecDepth 100000 in
set_option maxHeartbeats 1000000 in
theorem walk (s : List Nd) (v : Value) (w : World) (h : SrcIs w s v) :
    Calls Try.prog 7 #[v] w fun r w' => r = .returned (.bool true) ∧ Below w.heap.size w w' := by
  obtain ⟨A, cap, rfl, h1, h2, hn⟩ := h
  have rs1 := Row.new w #[.slice A s.length cap] 45
  have b1 : Below w.heap.size w (w.alloc (.cells #[.slice A s.length cap] 45)) := (by repeat (first | (with_reducible assumption) | (with_reducible exact Below.refl _ _) | (with_reducible refine Below.drew ?_) | (with_reducible refine below_drewN' ?_ _) | (with_reducible refine Below.alloc ?_ (by first | assumption | omega | (simp; omega) | simp | (simp [World.setCell]; omega) | simp [World.setCell]) _) | (with_reducible refine Below.setCell ?_ (by first | assumption | omega | (simp; omega) | simp | (simp [World.setCell]; omega) | simp [World.setCell]) _)))
  have HS : Hid (∀ W, Below w.heap.size w W → Nds W w.heap.size A s) := fun W hW => nds_keep hn (keeps_of hW) (Nat.le_refl _)
  have HSW : Hid (∀ W, Below w.heap.size w W → Nds W W.heap.size A s) := fun W hW => nds_keep hn (keeps_of hW) hW.size
  have h2' : cap ≤ 9223372036854775807 := by unfold maxLen at h2; omega
  clear hn
  go_enter Try.func7, Try.ntmps7
  go_upto_region 1 with (fail)
  generalize w.alloc (.cells #[.slice A s.length cap] 45) = W1 at *
  have hs1 := b1.size
  go_wp2_with fail
  refine (awake15_any W1).mono ?_
  rintro r w2 ⟨rfl, hb2⟩
  have rs2 := rs1.below hb2 rs1.lt
  have hB2 := b1.trans (hb2.mono hs1)
  have hs2 := hB2.size
  have c0 := rs2.src
  go_wp2_with fail
  refine (fewNodes_any s A cap w2 h1 h2 (HSW.out w2 hB2)).mono ?_
  rintro r w3 ⟨⟨bf, rfl, HFN⟩, hb3⟩
  have rs3 := rs2.below hb3 rs2.lt
  have hB3 := hB2.trans (hb3.mono hs2)
  have hs3 := hB3.size
  clear c0 rs1 rs2 b1 hb2 hb3 hB2 hs1 hs2
  cases bf
  · go_wp2_with fail
    go_ret
    exact ⟨rfl, hB3⟩
  have HSM : Hid (SrcSm s) := HFN.out (by first | rfl | trivial)
  clear HFN
  have c0 := rs3.src
  have HR := Lib.hid (check15_any s A cap w3 HSM.out h1 h2 (HSW.out w3 hB3))
  obtain ⟨f, HFX⟩ : ∃ f, Hid (scopeF s = f) := ⟨_, rfl⟩
  rw [HFX.out] at HR
  have fe := field_ft f
  go_wp2_with fail
  refine HR.out.mono ?_
  rintro r w4 ⟨rfl, hb4⟩
  have rs4 := rs3.below hb4 rs3.lt
  have hB4 := hB3.trans (hb4.mono hs3)
  have hs4 := hB4.size
  clear c0 rs3 hb4 hB3 hs3
  by_cases hf : f.err = 0
  rotate_left 1
  · have hf1 : (f.err != 0) = true := neq_yes hf
    clear hf
    go_wp2_with fail
    go_ret
    exact ⟨rfl, hB4⟩
  have hf1 : (f.err != 0) = false := neq_no hf
  have HZ : Hid ((scopeF s).err = 0) := by show _ = _; rw [HFX.out]; exact hf
  clear hf
  have c0 := rs4.src
  go_wp2_with fail
  clear c0 fe hf1
  go_loopw [33] (fun i wr => ∃ k : Nat, k ≤ s.length ∧ i = .int .i64 k ∧ Below w4.heap.size w4 wr) (fun i _ => s.length - (intOf i).toNat)
  case atStart => exact ⟨0, Nat.zero_le _, rfl, Below.refl _ _⟩
  case round =>
    obtain ⟨k, hk, rfl, hbr⟩ := hrel
    have hszr := hbr.size
    have rs := rs4.below hbr rs4.lt
    have hB := hB4.trans (hbr.mono hs4)
    have hsB := hB.size
    by_cases hlt : k < s.length
    rotate_left 1
    · obtain rfl : k = s.length := by omega
      have c0 := rs.src
      have HM := Lib.hid (rnode_any s A cap mainNm wr h1 h2 (HSW.out wr hB))
      have hm : decide ((0 : Int) ≤ nodeIdx s mainNm) = true := dec_yes (node_mem.2 (main_ok HZ.out))
      generalize nodeIdx s mainNm = v at *
      go_wp2_with fail
      refine HM.out.mono ?_
      rintro r w5 ⟨rfl, hb5⟩
      go_wp2_with fail
      go_ret
      exact ⟨by first | rfl | simp, hB.trans (hb5.mono hsB)⟩
    obtain ⟨b, off, n, a, hA, hb, hn, hat, d0, d1, d2, d3, d4, d5, d6⟩ := (HS.out wr hB).nd hlt
    rw [hA]
    have HA := Lib.hid hA
    have hnm := List.mem_of_getElem? hn
    have HNS := Lib.hid (HSM.out.all n hnm)
    have HK := Lib.hid (scope_kn HZ.out n hnm)
    have HV := Lib.hid (scope_nodes HZ.out n hnm).1
    have HE := Lib.hid (scope_nodes HZ.out n hnm).2
    have HCA : Hid (∀ (i : Nat) v, (vrs n)[i]? = some v → ∀ c ∈ v.clock, c.name ∈ nms (vrs n)) := fun i v hi => conds_all HZ.out hnm hi
    have HL := Lib.hid (show (vrs n).length ≤ 10000 by have := HNS.out.len; omega)
    have HAT : Hid (∀ W, Below wr.heap.size wr W → NdAt W w.heap.size n a) := fun W hW => hat.below (hW.mono hsB)
    have HAW : Hid (∀ W, Below wr.heap.size wr W → NdAt W W.heap.size n a) := fun W hW => (hat.below (hW.mono hsB)).more (Nat.le_trans hsB hW.size)
    have gi := hat.mi
    have go := hat.mo
    have gv := hat.mv
    have gq := hat.mq
    have li := hat.li
    have lo := hat.lo
    have lv := hat.lv
    have lq := hat.lq
    have gi' : a.ci ≤ 9223372036854775807 := by unfold maxLen at gi; omega
    have go' : a.co ≤ 9223372036854775807 := by unfold maxLen at go; omega
    have gv' : a.cv ≤ 9223372036854775807 := by unfold maxLen at gv; omega
    have gq' : a.cq ≤ 9223372036854775807 := by unfold maxLen at gq; omega
    have hqs := HNS.out.eqs
    have hol := HNS.out.outs
    have hvl := HNS.out.vars
    have hil := HNS.out.ins
    have rn1 := Row.new wr (ndArr n a) 40
    have ba : Below wr.heap.size wr (wr.alloc (.cells (ndArr n a) 40)) := (by repeat (first | (with_reducible assumption) | (with_reducible exact Below.refl _ _) | (with_reducible refine Below.drew ?_) | (with_reducible refine below_drewN' ?_ _) | (with_reducible refine Below.alloc ?_ (by first | assumption | omega | (simp; omega) | simp | (simp [World.setCell]; omega) | simp [World.setCell]) _) | (with_reducible refine Below.setCell ?_ (by first | assumption | omega | (simp; omega) | simp | (simp [World.setCell]; omega) | simp [World.setCell]) _)))
    clear hA hn hat hnm
    go_upto_region 8 with (fail)
    clear d0 d1 d2 d3 d4 d5 d6
    generalize hW6 : wr.alloc (.cells (ndArr n a) 40) = w6 at *
    clear hW6
    have hsa := ba.size
    have rs6 := rs.below ba rs.lt
    have hB6 := hB.trans (ba.mono hsB)
    have hs6 := hB6.size
    obtain ⟨wo, rfl⟩ : ∃ wo : World, wo = wr := ⟨_, rfl⟩
    obtain ⟨c0, c1, cc2, c3, c4, c5, c6⟩ := rn1.nd
    go_wp2_with fail
    clear c0 c1 cc2 c3 c4 c5 c6
    go_loopw [5, 40] (fun t i wr => ∃ p : Nat, p ≤ n.eqs.length ∧ i = .int .i64 p ∧ t = .int .i64 ((lefts (n.eqs.take p)).length : Nat) ∧ Below w6.heap.size w6 wr) (fun _ i _ => n.eqs.length - (intOf i).toNat)
    case atStart => exact ⟨0, Nat.zero_le _, rfl, rfl, Below.refl _ _⟩
    case round =>
      obtain ⟨p, hp, rfl, rfl, hbq⟩ := hrel
      have hszq := hbq.size
      have rn7 := rn1.below hbq rn1.lt
      have rs7 := rs6.below hbq rs6.lt
      have hB7 := hB6.trans (hbq.mono hs6)
      have hsB7 := hB7.size
      have b07 := ba.trans (hbq.mono hsa)
      have hT : (lefts (n.eqs.take p)).length ≤ 1000 := by
        have h1 := lefts_len (l := n.eqs.take p) (fun q hq => (HNS.out.eq q (List.mem_of_mem_take hq)).left)
        have h4 : (n.eqs.take p).length ≤ n.eqs.length := List.length_take_le' _ _
        omega
      by_cases hlp : p < n.eqs.length
      · obtain ⟨b', off', q, A1, k1, A2, k2, hAq, hb', hq, ok, lq1, mq1, sl1, lq2, mq2, sl2, d0, d1, d2, d3, d4, d5, d6, d7, d8⟩ := (HAT.out wr b07).sq.eqn hlp
        rw [hAq]
        have HAq := Lib.hid hAq
        have HXQ := Lib.hid hq
        have hqm := List.mem_of_getElem? hq
        have HQM := Lib.hid hqm
        have HSQ := Lib.hid (HNS.out.eq q hqm)
        have hql := HSQ.out.left
        have hqz := HSQ.out.right.size
        have HOK := Lib.hid ok.right
        have HTS := Lib.hid (lefts_take_succ hq)
        have HEX := Lib.hid (expr_ok (eqn_ok HE.out p q hq).2)
        have HS2 : Hid (∀ W, Below wr.heap.size wr W → IsExs W w.heap.size A2 q.right.args) := fun W hW => exs_keep sl2 (keeps_of (hW.mono hsB7)) (Nat.le_refl _)
        have mq1' : k1 ≤ 9223372036854775807 := by unfold maxLen at mq1; omega
        have re := Row.new wr (eqArr q A1 k1 A2 k2) 60
        have bq : Below wr.heap.size wr (wr.alloc (.cells (eqArr q A1 k1 A2 k2) 60)) := (by repeat (first | (with_reducible assumption) | (with_reducible exact Below.refl _ _) | (with_reducible refine Below.drew ?_) | (with_reducible refine below_drewN' ?_ _) | (with_reducible refine Below.alloc ?_ (by first | assumption | omega | (simp; omega) | simp | (simp [World.setCell]; omega) | simp [World.setCell]) _) | (with_reducible refine Below.setCell ?_ (by first | assumption | omega | (simp; omega) | simp | (simp [World.setCell]; omega) | simp [World.setCell]) _)))
        clear hAq hq ok sl1 sl2 hqm
        go_upto_region 12 with (fail)
        clear d0 d1 d2 d3 d4 d5 d6 d7 d8
        generalize hW9 : wr.alloc (.cells (eqArr q A1 k1 A2 k2) 60) = w9 at *
        clear hW9
        have hsq := bq.size
        have rn9 := rn7.below bq rn7.lt
        have rs9 := rs7.below bq rs7.lt
        have hB9 := hB7.trans (bq.mono hsB7)
        have hs9 := hB9.size
        have b09 := b07.trans (bq.mono b07.size)
        obtain ⟨d0, d1, d2, d3, d4, d5, d6, d7, d8⟩ := re.eqn
        obtain ⟨T, HT⟩ : ∃ T, Hid ((lefts (n.eqs.take p)).length = T) := ⟨_, rfl⟩
        rw [HT.out] at hT HTS ⊢
        obtain ⟨wp, rfl⟩ : ∃ wp : World, wp = wr := ⟨_, rfl⟩
        go_wp2_with fail
        refine (list_any w.heap.size q.right A2 k2 w9 HOK.out lq2 mq2 hs9 (HS2.out w9 bq) (by omega)).mono ?_
        rintro r w10 ⟨v, css, rfl, hown, hare, hb10⟩
        obtain ⟨AL, cL, rfl, hnL, lL, mL, hxL⟩ := own_exs hown hare (by have := hb10.size; omega)
        have HXL := Lib.hid hxL
        have mL' : cL ≤ 9223372036854775807 := by unfold maxLen at mL; omega
        have rn10 := rn9.below hb10 rn9.lt
        have rs10 := rs9.below hb10 rs9.lt
        have re10 := re.below hb10 re.lt
        have hB10 := hB9.trans (hb10.mono hs9)
        have hs10 := hB10.size
        have b010 := b09.trans (hb10.mono b09.size)
        have bq10 := bq.trans (hb10.mono hsq)
        clear hown hare hnL hxL d0 d1 d2 d3 d4 d5 d6 d7 d8
        obtain ⟨L, HLL⟩ : ∃ L, Hid (exList q.right = L) := ⟨_, rfl⟩
        rw [HLL.out] at lL HXL HEX ⊢
        go_wp2_with fail
        go_loopw [53] (fun i wr => ∃ j : Nat, j ≤ L.length ∧ i = .int .i64 j ∧ Below w10.heap.size w10 wr) (fun i _ => L.length - (intOf i).toNat)
        case atStart => exact ⟨0, Nat.zero_le _, rfl, Below.refl _ _⟩
        case round =>
          obtain ⟨j, hj, rfl, hbj⟩ := hrel
          have hszj := hbj.size
          have rs11 := rs10.below hbj rs10.lt
          have hB11 := hB10.trans (hbj.mono hs10)
          have hsB11 := hB11.size
          by_cases hlj : j < L.length
          · obtain ⟨b3, off3, x, A3, cap3, hA3, hb3, hxk, hxm, hok3, hcap3, hmax3, hx3, e0, e1, e2, e3, e4, e5⟩ := (HXL.out.below hbj).at_ hlj
            subst hA3
            have HO := Lib.hid (HEX.out j x hxk)
            have hmax3' : cap3 ≤ 9223372036854775807 := by unfold maxLen at hmax3; omega
            have rx := Row.new wr (exA x A3 cap3) 26
            have bx : Below wr.heap.size wr (wr.alloc (.cells (exA x A3 cap3) 26)) := (by repeat (first | (with_reducible assumption) | (with_reducible exact Below.refl _ _) | (with_reducible refine Below.drew ?_) | (with_reducible refine below_drewN' ?_ _) | (with_reducible refine Below.alloc ?_ (by first | assumption | omega | (simp; omega) | simp | (simp [World.setCell]; omega) | simp [World.setCell]) _) | (with_reducible refine Below.setCell ?_ (by first | assumption | omega | (simp; omega) | simp | (simp [World.setCell]; omega) | simp [World.setCell]) _)))
            clear hxk hxm hx3 hok3
            go_upto_region 16 with (fail)
            clear e0 e1 e2 e3 e4 e5
            generalize hWx : wr.alloc (.cells (exA x A3 cap3) 26) = wx at *
            clear hWx
            have hsx := bx.size
            have rsx := rs11.below bx rs11.lt
            have hBx := hB11.trans (bx.mono hsB11)
            have hsBx := hBx.size
            obtain ⟨e0, e1, e2, e3, e4, e5⟩ := rx.ex6
            by_cases h4 : x.op = 4
            · have o4 := eq_yes h4
              obtain ⟨m, hm1, hm2⟩ := call_ok HO.out h4
              have HM2 := Lib.hid hm2
              rcases node_cases s x.name with ⟨z, m', hz, hzm, _, hat'⟩ | ⟨_, hat'⟩
              rotate_left 1
              · rw [hat'] at hm1; cases hm1
              rw [hat'] at hm1
              injection hm1 with hm1
              subst hm1
              have HR := Lib.hid (rnode_any s A cap x.name wx h1 h2 (HSW.out wx hBx))
              rw [hz] at HR
              have hzl := (List.getElem?_eq_some_iff.1 hzm).1
              obtain ⟨b5, off5, m2, am, hA5, hb5, hm5, hmat, y0, y1, y2, y3, y4, y5, y6⟩ := (HS.out wx hBx).nd hzl
              rw [hzm] at hm5
              injection hm5 with hm5
              subst hm5
              have gmi := hmat.mi
              have c0 := rsx.src
              rw [hA5] at c0
              have HB5 := Lib.hid hb5
              have HA5 := Lib.hid hA5
              clear h4 hz hzm hat' hm2 hmat hb5 hA5
              go_wp2_with fail
              rw [HA5.out] at HR
              refine HR.out.mono ?_
              rintro r w12 ⟨rfl, hb12⟩
              have rs12 := rsx.below hb12 rsx.lt
              have rx12 := rx.below hb12 rx.lt
              have hB12 := hBx.trans (hb12.mono hsBx)
              have y1' := old_cell hb12 y1
              clear c0 y0 y1 y2 y3 y4 y5 y6 e0 e1 e2 e3 e4 e5
              obtain ⟨e0, e1, e2, e3, e4, e5⟩ := rx12.ex6
              have c0 := rs12.src
              rw [HA5.out] at c0
              have z0 : (0 : Int) ≤ (z : Int) := by omega
              have z1 : (z : Int) < (s.length : Int) := by omega
              have z2 : decide ((z : Int) < 0) = false := dec_no (by omega)
              have z3 : ((m'.ins.length : Int) != (x.args.length : Int)) = false := neq_no (by rw [HM2.out])
              go_wp2_with fail
              go_quiet (fail)
              go_wp2_with fail
              go_roundw
              case rel => exact ⟨j + 1, by omega, by go_num, by first | exact (hbj.trans (bx.mono hszj)).trans (hb12.mono (by omega)) | exact below_drewN' ((hbj.trans (bx.mono hszj)).trans (hb12.mono (by omega))) _⟩
              case measure => first | (simp [intOf]; omega) | simp [intOf]
            · have o4 := eq_no h4
              clear h4
              go_wp2_with fail
              go_roundw
              case rel => exact ⟨j + 1, by omega, by go_num, hbj.trans (bx.mono hszj)⟩
              case measure => first | (simp [intOf]; omega) | simp [intOf]
          · obtain rfl : j = L.length := by omega
            have re11 := re10.below hbj re10.lt
            have rn11 := rn10.below hbj rn10.lt
            have b011 := b010.trans (hbj.mono b010.size)
            have bq11 := bq10.trans (hbj.mono bq10.size)
            obtain ⟨d0, d1, d2, d3, d4, d5, d6, d7, d8⟩ := re11.eqn
            go_wp2_with fail
            refine (rnames_any q.right A2 k2 wr HOK.out lq2 mq2 (exs_keep (HS2.out wr bq11) (fun _ _ _ h => h) hsB11) (by omega)).mono ?_
            rintro r w12 ⟨⟨v, rfl, hso⟩, hb12⟩
            obtain ⟨AN, cN, rfl, lN, mN, sN⟩ := hso.sl
            have HSN := Lib.hid sN
            have mN' : cN ≤ 9223372036854775807 := by unfold maxLen at mN; omega
            have rn12 := rn11.below hb12 rn11.lt
            have hB12 := hB11.trans (hb12.mono hsB11)
            have hs12 := hB12.size
            have b012 := b011.trans (hb12.mono b011.size)
            have bz12 := hbj.trans (hb12.mono hszj)
            have HMN : Hid (∀ nm ∈ nmsOf (exList q.right), nm ∈ nms (vrs n)) := fun nm hm => by
              obtain ⟨x, hx, hb, rfl⟩ := (nms_mem _ nm).1 hm
              exact HK.out.exprs q HQM.out x hx hb
            clear hso sN d0 d1 d2 d3 d4 d5 d6 d7 d8
            obtain ⟨M, HMM⟩ : ∃ M, Hid (nmsOf (exList q.right) = M) := ⟨_, rfl⟩
            rw [HMM.out] at HMN
            rw [HMM.out] at lN HSN ⊢
            go_wp2_with fail
            obtain ⟨w11, rfl⟩ : ∃ w11 : World, w11 = wr := ⟨_, rfl⟩
            go_loopw [84] (fun i wr => ∃ j : Nat, j ≤ M.length ∧ i = .int .i64 j ∧ Below w12.heap.size w12 wr) (fun i _ => M.length - (intOf i).toNat)
            case atStart => exact ⟨0, Nat.zero_le _, rfl, Below.refl _ _⟩
            case round =>
              obtain ⟨j, hj, rfl, hbj2⟩ := hrel
              have hszj2 := hbj2.size
              have rn13 := rn12.below hbj2 rn12.lt
              have hB13 := hB12.trans (hbj2.mono hs12)
              have hsB13 := hB13.size
              have b013 := b012.trans (hbj2.mono b012.size)
              by_cases hlj : j < M.length
              · obtain ⟨b3, off3, nm, hA3, hb3, hy, ys, f0⟩ := (strs_keep HSN.out (keeps_of hbj2) (Nat.le_refl _)).str hlj
                subst hA3
                have hv : decide (varIdx n nm < 0) = false := dec_no (fun g => var_neg.1 g (HMN.out nm (List.mem_of_getElem? hy)))
                have HR := Lib.hid (rvar_any n a nm wr (HAW.out wr b013) HL.out)
                obtain ⟨c0, c1, cc2, c3, c4, c5, c6⟩ := rn13.nd
                clear hy
                generalize varIdx n nm = vz at *
                go_wp2_with fail
                refine HR.out.mono ?_
                rintro r w14 ⟨rfl, hb14⟩
                go_wp2_with fail
                go_roundw
                case rel => exact ⟨j + 1, by omega, by go_num, hbj2.trans (hb14.mono hszj2)⟩
                case measure => first | (simp [intOf]; omega) | simp [intOf]
              · obtain rfl : j = M.length := by omega
                have HT2 : Hid ((T : Int) + (q.left.length : Int) = ((lefts (n.eqs.take (p + 1))).length : Nat)) := by show _ = _; rw [HTS.out]; omega
                have bz := hbq.trans (((bq10.trans (bz12.mono bq10.size)).trans (hbj2.mono (by have := bq10.size; have := bz12.size; omega))).mono hszq)
                go_wp2_with fail
                go_roundw
                case rel => exact ⟨p + 1, by omega, by go_num, by rw [HT2.out], bz⟩
                case measure => first | (simp [intOf]; omega) | simp [intOf]
      · obtain rfl : p = n.eqs.length := by omega
        have HTI : Hid ((lefts (n.eqs.take n.eqs.length)).length = n.outs.length + n.vars.length) := by show _ = _; rw [List.take_length]; exact times_is HV.out HE.out
        rw [HTI.out]
        have t1 : (((n.outs.length + n.vars.length : Nat) : Int) != (n.outs.length : Int) + (n.vars.length : Int)) = false := neq_no (by omega)
        obtain ⟨c0, c1, cc2, c3, c4, c5, c6⟩ := rn7.nd
        go_wp2_with fail
        refine (rvars_any w.heap.size n a wr hsB7 (HAT.out wr b07) HL.out).mono ?_
        rintro r w8 ⟨⟨v, rfl, hown⟩, hb8⟩
        obtain ⟨Al, cl, rfl, ll, ml, hsl⟩ := hown.sl
        have HSL := Lib.hid hsl
        have ml' : cl ≤ 9223372036854775807 := by unfold maxLen at ml; omega
        have rn8 := rn7.below hb8 rn7.lt
        have hB8 := hB7.trans (hb8.mono hsB7)
        have hs8 := hB8.size
        have b08 := b07.trans (hb8.mono b07.size)
        have HLE := HL.out
        clear hown hsl c0 c1 cc2 c3 c4 c5 c6
        obtain ⟨L, HLL⟩ : ∃ L, Hid (vrs n = L) := ⟨_, rfl⟩
        rw [HLL.out] at ll HLE HSL ⊢
        obtain ⟨w7, rfl⟩ : ∃ w7 : World, w7 = wr := ⟨_, rfl⟩
        go_wp2_with fail
        go_loopw [106] (fun i wr => ∃ p : Nat, p ≤ L.length ∧ i = .int .i64 p ∧ Below w8.heap.size w8 wr) (fun i _ => L.length - (intOf i).toNat)
        case atStart => exact ⟨0, Nat.zero_le _, rfl, Below.refl _ _⟩
        case round =>
          obtain ⟨p, hp2, rfl, hbp⟩ := hrel
          have hszp := hbp.size
          have rn9 := rn8.below hbp rn8.lt
          have hB9 := hB8.trans (hbp.mono hs8)
          have hsB9 := hB9.size
          have b09 := b08.trans (hbp.mono b08.size)
          by_cases hlp2 : p < L.length
          · obtain ⟨b3, off3, x, A', cap', hA3, hb3, hx, ok, g1, g2, hxs, d0, d1, d2, d3, d4⟩ := (vrs_keep2 HSL.out hbp hs8).vr hlp2
            subst hA3
            have HXV : Hid ((vrs n)[p]? = some x) := by show _ = _; rw [HLL.out]; exact hx
            have HXS : Hid (∀ W, Below wr.heap.size wr W → Sl W w.heap.size 2 isLit A' x.clock) := fun W hW => lits_keep hxs (keeps_of (hW.mono hsB9)) (Nat.le_refl _)
            have g2' : cap' ≤ 9223372036854775807 := by unfold maxLen at g2; omega
            have rx := Row.new wr (vrArr x A' cap') 64
            have bx : Below wr.heap.size wr (wr.alloc (.cells (vrArr x A' cap') 64)) := (by repeat (first | (with_reducible assumption) | (with_reducible exact Below.refl _ _) | (with_reducible refine Below.drew ?_) | (with_reducible refine below_drewN' ?_ _) | (with_reducible refine Below.alloc ?_ (by first | assumption | omega | (simp; omega) | simp | (simp [World.setCell]; omega) | simp [World.setCell]) _) | (with_reducible refine Below.setCell ?_ (by first | assumption | omega | (simp; omega) | simp | (simp [World.setCell]; omega) | simp [World.setCell]) _)))
            clear hx hxs ok
            go_upto_region 33 with (fail)
            clear d0 d1 d2 d3 d4
            generalize hWx : wr.alloc (.cells (vrArr x A' cap') 64) = wx at *
            clear hWx
            have hsx := bx.size
            have rnx := rn9.below bx rn9.lt
            have hBx := hB9.trans (bx.mono hsB9)
            have hsBx := hBx.size
            have b0x := b09.trans (bx.mono b09.size)
            obtain ⟨c0, c1, cc2, c3, c4, c5, c6⟩ := rnx.nd
            obtain ⟨d0, d1, d2, d3, d4⟩ := rx.vr
            obtain ⟨wl, rfl⟩ : ∃ wl : World, wl = wr := ⟨_, rfl⟩
            go_wp2_with fail
            refine (rdefine_any n a x.name wx (HAW.out wx b0x)).mono ?_
            rintro r w10 ⟨⟨xa, ya, rfl, hd⟩, hb10⟩
            have rn10 := rnx.below hb10 rnx.lt
            have rx10 := rx.below hb10 rx.lt
            have hB10 := hBx.trans (hb10.mono hsBx)
            have hsB10 := hB10.size
            have hs10 := hb10.size
            have b010 := b0x.trans (hb10.mono b0x.size)
            have bx10 := bx.trans (hb10.mono hsx)
            have HD : Hid (0 ≤ xa ↔ n.ins.length ≤ p) := by
              show _ ↔ _
              rw [← def_iff2 HV.out HE.out HXV.out, mem_lefts]
              obtain ⟨i, j, rfl, _, q, hq1, hq2, _⟩ | ⟨rfl, _, hno⟩ := hd.out
              · exact ⟨fun _ => ⟨q, List.mem_of_getElem? hq1, List.mem_of_getElem? hq2⟩, fun _ => by omega⟩
              · exact ⟨fun g => absurd g (by decide), fun ⟨q, hq1, hq2⟩ => absurd hq2 (hno q hq1)⟩
            have HVA := Lib.hid (var_at HV.out HXV.out)
            have HR := Lib.hid (rvar_any n a x.name w10 (HAW.out w10 b010) HL.out)
            rw [HVA.out] at HR
            have v1 : ((p : Int) != (p : Int)) = false := neq_no rfl
            clear c0 c1 cc2 c3 c4 c5 c6 d0 d1 d2 d3 d4
            obtain ⟨c0, c1, cc2, c3, c4, c5, c6⟩ := rn10.nd
            obtain ⟨d0, d1, d2, d3, d4⟩ := rx10.vr
            go_upto_region 34 with (fail)
            go_cut [133] (fun v133 W => v133 = .bool false ∧ Below w10.heap.size w10 W)
            case first =>
              by_cases hin : n.ins.length ≤ p
              · have e1 : decide ((0 : Int) ≤ xa) = true := dec_yes (HD.out.2 hin)
                have e2 : decide ((n.ins.length : Int) ≤ (p : Int)) = true := dec_yes (by omega)
                have e2' : decide (n.ins.length ≤ p) = true := dec_yes hin
                clear hin
                go_wp2_with fail
                refine HR.out.mono ?_
                rintro r w11 ⟨rfl, hb11⟩
                go_wp2_with fail
                go_meet
                exact ⟨rfl, hb11⟩
              · have e1 : decide ((0 : Int) ≤ xa) = false := dec_no (fun g => hin (HD.out.1 g))
                have e2 : decide ((n.ins.length : Int) ≤ (p : Int)) = false := dec_no (by omega)
                have e2' : decide (n.ins.length ≤ p) = false := dec_no hin
                clear hin
                go_wp2_with fail
                refine HR.out.mono ?_
                rintro r w11 ⟨rfl, hb11⟩
                go_wp2_with fail
                go_meet
                exact ⟨rfl, hb11⟩
            case rest =>
              obtain ⟨rfl, hbc⟩ := hcut
              have rn11 := rn10.below hbc rn10.lt
              have rx11 := rx10.below hbc rx10.lt
              have hB11 := hB10.trans (hbc.mono hsB10)
              have hsB11 := hB11.size
              have b011 := b010.trans (hbc.mono b010.size)
              have bx11 := bx10.trans (hbc.mono bx10.size)
              clear c0 c1 cc2 c3 c4 c5 c6 d0 d1 d2 d3 d4
              obtain ⟨d0, d1, d2, d3, d4⟩ := rx11.vr
              obtain ⟨w11, rfl⟩ : ∃ w11 : World, w11 = wc := ⟨_, rfl⟩
              go_wp2_with fail
              clear d0 d1 d2 d3 d4
              go_loopw [137] (fun i wr => ∃ j : Nat, j ≤ x.clock.length ∧ i = .int .i64 j ∧ Below w11.heap.size w11 wr) (fun i _ => x.clock.length - (intOf i).toNat)
              case atStart => exact ⟨0, Nat.zero_le _, rfl, Below.refl _ _⟩
              case round =>
                obtain ⟨j, hj, rfl, hbj⟩ := hrel
                have hszj := hbj.size
                have rn12 := rn11.below hbj rn11.lt
                have hB12 := hB11.trans (hbj.mono hsB11)
                have hsB12 := hB12.size
                have b012 := b011.trans (hbj.mono b011.size)
                have bx12 := bx11.trans (hbj.mono bx11.size)
                by_cases hlj : j < x.clock.length
                · obtain ⟨b5, off5, y, hA5, hb5, hy, ys, f0, f1⟩ := (HXS.out wr bx12).lit hlj
                  subst hA5
                  have hv : decide (varIdx n y.name < 0) = false := dec_no (fun g => var_neg.1 g (HCA.out p x HXV.out y (List.mem_of_getElem? hy)))
                  have rl := Row.new wr #[.string y.name, .bool y.no] 68
                  have bl : Below wr.heap.size wr (wr.alloc (.cells #[.string y.name, .bool y.no] 68)) := (by repeat (first | (with_reducible assumption) | (with_reducible exact Below.refl _ _) | (with_reducible refine Below.drew ?_) | (with_reducible refine below_drewN' ?_ _) | (with_reducible refine Below.alloc ?_ (by first | assumption | omega | (simp; omega) | simp | (simp [World.setCell]; omega) | simp [World.setCell]) _) | (with_reducible refine Below.setCell ?_ (by first | assumption | omega | (simp; omega) | simp | (simp [World.setCell]; omega) | simp [World.setCell]) _)))
                  have HR2 := Lib.hid (rvar_any n a y.name _ (HAW.out _ (b012.trans (bl.mono b012.size))) HL.out)
                  clear hy
                  go_upto_region 39 with (fail)
                  clear f0 f1
                  generalize hWl : wr.alloc (.cells #[.string y.name, .bool y.no] 68) = wm at *
                  clear hWl
                  have hsl2 := bl.size
                  have rn13 := rn12.below bl rn12.lt
                  have f0 := (rl.cell 0).trans rfl
                  obtain ⟨c0, c1, cc2, c3, c4, c5, c6⟩ := rn13.nd
                  generalize varIdx n y.name = vz at *
                  go_wp2_with fail
                  refine HR2.out.mono ?_
                  rintro r w14 ⟨rfl, hb14⟩
                  go_wp2_with fail
                  go_roundw
                  case rel => exact ⟨j + 1, by omega, by go_num, (hbj.trans (bl.mono hszj)).trans (hb14.mono (by omega))⟩
                  case measure => first | (simp [intOf]; omega) | simp [intOf]
                · obtain rfl : j = x.clock.length := by omega
                  go_wp2_with fail
                  go_roundw
                  case rel => exact ⟨p + 1, by omega, by go_num, hbp.trans (bx12.mono hszp)⟩
                  case measure => first | (simp [intOf]; omega) | simp [intOf]
          · obtain rfl : p = L.length := by omega
            go_wp2_with fail
            go_roundw
            case rel => exact ⟨k + 1, by omega, by go_num, hbr.trans (b09.mono hszr)⟩
            case measure => first | (simp [intOf]; omega) | simp [intOf]
end Go.Proofs.Ytolabbnchmmckaa.scopeWhole
