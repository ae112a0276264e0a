/-
  CauseRow: the walk.
-/
import Derived.Test.YthlhcahghonhhaaAwE
import Derived.Test.YthlhcahghonhhaaWnS
import Derived.Test.YthlhcahghonhhaaOpenN
import Derived.Test.YthlhcahghonhhaaFewM
namespace Go.Proofs.Ythlhcahghonhhaa.causeRow
open Go.RowKit
attribute [local go_sem ↓] Go.wp_at_zero Go.wp_at_succ
theorem field_fl (f : Ft) (W : World) : (Instr.field 31 (.agg #[.int .i64 f.err, .int .i64 f.line, .int .i64 f.col]) 0).run Try.prog W = .ok (.int .i64 f.err) W := by kernel_rfl
/-- is a variable ready, as far as so many have been looked at -/
def RdTo (n : Nd) (v : Vr) (row : List ByteArray) (j : Nat) (P : Bool) : Prop := P = true ↔ v.name ∉ row ∧ ∀ y ∈ (hangsF n v.name).take j, y ∈ row
theorem rd_start {n : Nd} {v : Vr} {row : List ByteArray} {P : Bool} (h : cB (v.name ∈ row) = P) : RdTo n v row 0 (!P) := by
  unfold RdTo
  cases P
  · simp [cB_not.1 h]
  · simp [cB_iff.1 h]
theorem rd_no {n : Nd} {v : Vr} {row : List ByteArray} {j : Nat} {x : ByteArray} (h : RdTo n v row j false) (hx : (hangsF n v.name)[j]? = some x) : RdTo n v row (j + 1) false := by
  unfold RdTo at *
  refine ⟨(fun g => by cases g), fun g => h.2 ⟨g.1, fun y hy => g.2 y ?_⟩⟩
  obtain ⟨h1, h2⟩ := List.getElem?_eq_some_iff.1 hx
  rw [List.take_succ_eq_append_getElem h1]
  exact List.mem_append_left _ hy
theorem rd_yes {n : Nd} {v : Vr} {row : List ByteArray} {j : Nat} {x : ByteArray} {P : Bool} (h : RdTo n v row j true) (hx : (hangsF n v.name)[j]? = some x) (hP : cB (x ∈ row) = P) : RdTo n v row (j + 1) P := by
  unfold RdTo at *
  obtain ⟨h1, h2⟩ := List.getElem?_eq_some_iff.1 hx
  rw [List.take_succ_eq_append_getElem h1, h2]
  obtain ⟨g1, g2⟩ := h.1 rfl
  cases P
  · refine ⟨(fun g => by cases g), fun g => absurd (g.2 x (by simp)) (cB_not.1 hP)⟩
  · refine ⟨fun _ => ⟨g1, fun y hy => ?_⟩, fun _ => rfl⟩
    rcases List.mem_append.1 hy with hy | hy
    · exact g2 y hy
    · rw [List.mem_singleton.1 hy]; exact cB_iff.1 hP
theorem rd_step {n : Nd} {v : Vr} {row : List ByteArray} {P : Bool} (h : RdTo n v row (hangsF n v.name).length P) : (P = true → stepR n row v = row ++ [v.name]) ∧ (P = false → stepR n row v = row) := by
  unfold RdTo at h
  rw [List.take_length] at h
  unfold stepR
  constructor
  · intro g; rw [if_pos (h.1 g)]
  · intro g; rw [if_neg (fun g2 => by rw [h.2 g2] at g; cases g)]
set_option maxRecDepth 100000 in
set_option maxHeartbeats 1000000 in
theorem walk (s : List Nd) (v : Value) (w : World) (h : SrcIs w s v) :
    Calls Try.prog 4 #[v] w fun r w' => r = .returned (.bool true) ∧ Below w.heap.size w w' := by
  obtain ⟨A, cap, rfl, h1, h2, hn⟩ := h
  have rs1 := Row.new w #[.slice A s.length cap] 24
  have b1 : Below w.heap.size w (w.alloc (.cells #[.slice A s.length cap] 24)) := bE
  have HS : Hid (∀ W, Below w.heap.size w W → Nds W w.heap.size A s) := fun W hW => nds_keep hn (keeps_of hW) (Nat.le_refl _)
  have HSW : Hid (∀ W, Below w.heap.size w W → Nds W W.heap.size A s) := fun W hW => nds_keep hn (keeps_of hW) hW.size
  have h2' : cap ≤ 9223372036854775807 := by unfold maxLen at h2; omega
  clear hn
  go_enter Try.func4, Try.ntmps4
  go_upto_region 1 with (fail)
  generalize w.alloc (.cells #[.slice A s.length cap] 24) = W1 at *
  have hs1 := b1.size
  go_wp2_with fail
  refine (awake20_any W1).mono ?_
  rintro r w2 ⟨rfl, hb2⟩
  have rs2 := rs1.below hb2 rs1.lt
  have hB2 := b1.trans (hb2.mono hs1)
  have hs2 := hB2.size
  have c0 := rs2.src
  go_wp2_with fail
  refine (fewNodes_any s A cap w2 h1 h2 (HSW.out w2 hB2)).mono ?_
  rintro r w3 ⟨⟨bf, rfl, HFN⟩, hb3⟩
  have rs3 := rs2.below hb3 rs2.lt
  have hB3 := hB2.trans (hb3.mono hs2)
  have hs3 := hB3.size
  clear c0 rs1 rs2 b1 hb2 hb3 hB2 hs1 hs2
  cases bf
  · go_wp2_with fail
    go_ret
    exact ⟨rfl, hB3⟩
  have HSM : Hid (SrcSm s) := HFN.out (by first | rfl | trivial)
  clear HFN
  have c0 := rs3.src
  obtain ⟨f, HFX⟩ : ∃ f, Hid (causeF s = f) := ⟨_, rfl⟩
  have HCK := Lib.hid (ccheck_any s A cap w3 HSM.out h1 h2 (HSW.out w3 hB3))
  rw [HFX.out] at HCK
  have fe := field_fl f
  go_wp2_with fail
  refine HCK.out.mono ?_
  rintro r w4 ⟨rfl, hb4⟩
  have rs4 := rs3.below hb4 rs3.lt
  have hB4 := hB3.trans (hb4.mono hs3)
  have hs4 := hB4.size
  clear c0 rs3 hb4 hB3 hs3
  have c0 := rs4.src
  by_cases hf : f.err = 0
  rotate_left 1
  · have hf1 : (f.err != 0) = true := neq_yes hf
    clear hf
    go_wp2_with fail
    go_ret
    exact ⟨by first | rfl | simp, hB4⟩
  have hf1 : (f.err != 0) = false := neq_no hf
  have HC : Hid ((causeF s).err = 0) := by show _ = _; rw [HFX.out]; exact hf
  have H0 : Hid ((scopeF s).err = 0) := (causeF_ok HC.out).1
  clear hf HFX HCK
  go_wp2_with fail
  clear c0 fe hf1
  go_loopw [26] (fun i wr => ∃ k : Nat, k ≤ s.length ∧ i = .int .i64 k ∧ Below w4.heap.size w4 wr) (fun i _ => s.length - (intOf i).toNat)
  case atStart => exact ⟨0, Nat.zero_le _, rfl, Below.refl _ _⟩
  case round =>
    obtain ⟨k, hk, rfl, hbr⟩ := hrel
    have hB := hB4.trans (hbr.mono hs4)
    have hsB := hB.size
    have hszr := hbr.size
    by_cases hlt : k < s.length
    rotate_left 1
    · obtain rfl : k = s.length := by omega
      go_wp2_with fail
      go_ret
      exact ⟨by first | rfl | simp, hB⟩
    obtain ⟨b, off, n, a, hA, hb, hn, hat, d0, d1, d2, d3, d4, d5, d6⟩ := (HS.out wr hB).nd hlt
    subst hA
    have hnm := List.mem_of_getElem? hn
    have HNM := Lib.hid hnm
    have HNS := Lib.hid (HSM.out.all n hnm)
    have HNZ : Hid (∀ x ∈ nms (vrs n), x.size ≤ maxLen) := fun x hx => by
      obtain ⟨y, hy, rfl⟩ := List.mem_map.1 hx
      have := (HNS.out.all y hy).name
      unfold maxLen; omega
    have HFL := Lib.hid (rowTo_full HC.out hnm)
    have HAT : Hid (∀ W, Below wr.heap.size wr W → NdAt W w.heap.size n a) := fun W hW => hat.below (hW.mono hsB)
    have hvl := HNS.out.len
    have i0 : (0 : Int) ≤ (k : Int) := by omega
    have i1 : (k : Int) < (s.length : Int) := by omega
    have rn1 := Row.new wr (ndArr n a) 36
    have ba : Below wr.heap.size wr (wr.alloc (.cells (ndArr n a) 36)) := bE
    clear hn hat hnm
    go_upto_region 8 with (fail)
    clear d0 d1 d2 d3 d4 d5 d6
    generalize hW6 : wr.alloc (.cells (ndArr n a) 36) = w6 at *
    clear hW6
    have hb6 := hbr.trans (ba.mono hszr)
    have hs6 := hb6.size
    have hB6 := hB.trans (ba.mono hsB)
    have hsB6 := hB6.size
    obtain ⟨wo, rfl⟩ : ∃ wo : World, wo = wr := ⟨_, rfl⟩
    obtain ⟨d0, d1, d2, d3, d4, d5, d6⟩ := rn1.nd
    have HVR := Lib.hid (rvars_any w.heap.size n a w6 hsB6 (HAT.out w6 ba) (by omega))
    go_wp2_with fail
    refine HVR.out.mono ?_
    rintro r w7 ⟨⟨v7, rfl, hv7⟩, hb7⟩
    obtain ⟨A7, c7, rfl, g1, g2, g3⟩ := hv7.sl
    have HVS : Hid (∀ W, Below w7.heap.size w7 W → Sl W w7.heap.size 5 (isVr W w.heap.size) A7 (vrs n)) := fun W hW => g3.keep (fun p u _ hc => old_cell hW hc) (Nat.le_refl _) (fun x _ cs hr => isVr_keep (keeps_of (hW.mono (Nat.le_trans hsB6 hb7.size))) (Nat.le_refl _) hr)
    have hb47 := hb6.trans (hb7.mono hs6)
    have hB7 := hB6.trans (hb7.mono hsB6)
    have hsB7 := hB7.size
    have rn7 := rn1.below hb7 rn1.lt
    have HAW : Hid (∀ W, Below w7.heap.size w7 W → NdAt W W.heap.size n a) := fun W hW => (HAT.out W (ba.trans ((hb7.trans (hW.mono hb7.size)).mono ba.size))).more (Nat.le_trans hsB7 hW.size)
    have g2' : c7 ≤ 9223372036854775807 := by unfold maxLen at g2; omega
    clear d0 d1 d2 d3 d4 d5 d6 HVR hv7 g3
    go_wp2_with fail
    go_loopw [6, 34] (fun o i wr => ∃ r : Nat, r ≤ (vrs n).length ∧ i = .int .i64 r ∧ wr.ownsRow w7.heap.size 9 1 o (rowTo n r).length ((rowTo n r).map Value.string) ∧ Below w7.heap.size w7 wr) (fun _ i _ => (vrs n).length - (intOf i).toNat)
    case atStart => exact ⟨0, Nat.zero_le _, rfl, World.ownsRow_nil _ _ _ _, Below.refl _ _⟩
    case round =>
      obtain ⟨r, hr, rfl, hown, hb8⟩ := hrel
      have hb48 := hb47.trans (hb8.mono hb47.size)
      have hB8 := hB7.trans (hb8.mono hsB7)
      by_cases hlr : r < (vrs n).length
      rotate_left 1
      · obtain rfl : r = (vrs n).length := by omega
        rw [HFL.out] at hown
        obtain ⟨Ar, cr, rfl, _, _, _⟩ := own_rd hown
        have n0 : (((vrs n).length : Int) != ((vrs n).length : Int)) = false := neq_no rfl
        go_wp2_with fail
        go_wp2_with fail
        go_round
        case rel => exact ⟨k + 1, by omega, by go_num, hb48⟩
        case measure => first | (simp [intOf]; omega) | simp [intOf]
      have i2 : (0 : Int) ≤ (r : Int) := by omega
      have i3 : (r : Int) < ((vrs n).length : Int) := by omega
      obtain ⟨w8, rfl⟩ : ∃ w8 : World, w8 = wr := ⟨_, rfl⟩
      go_wp2_with fail
      go_loopw [6, 38] (fun o i wr => ∃ p : Nat, p ≤ (vrs n).length ∧ i = .int .i64 p ∧ wr.ownsRow w7.heap.size 9 1 o (passTo n (rowTo n r) p).length ((passTo n (rowTo n r) p).map Value.string) ∧ Below w7.heap.size w7 wr) (fun _ i _ => (vrs n).length - (intOf i).toNat)
      case atStart => exact ⟨0, Nat.zero_le _, rfl, hown, hb8⟩
      case round =>
        clear hown hb48 hB8
        obtain ⟨p, hp, rfl, hown, hb9⟩ := hrel
        have hs9 := hb9.size
        by_cases hlp : p < (vrs n).length
        rotate_left 1
        · obtain rfl : p = (vrs n).length := by omega
          go_wp2_with fail
          go_roundw
          case rel => exact ⟨r + 1, by omega, by go_num, hown, hb9⟩
          case measure => first | (simp [intOf]; omega) | simp [intOf]
        obtain ⟨b', off', x, A', cap', hA', hb', hx, ok, q1, q2, hxs, e0, e1, e2, e3, e4⟩ := (HVS.out wr hb9).vr hlp
        have HX := Lib.hid hx
        have hxn := ok.name
        have HOK := ((rowTo_ok n r).pass p)
        obtain ⟨row, HROW⟩ : ∃ row, Hid (passTo n (rowTo n r) p = row) := ⟨_, rfl⟩
        rw [HROW.out] at hown HOK
        have HRK := Lib.hid HOK
        have hrl := HRK.out.len
        have i4 : (0 : Int) ≤ (p : Int) := by omega
        have i5 : (p : Int) < ((vrs n).length : Int) := by omega
        have rx := Row.new wr (vrArr x A' cap') 41
        have ba9 : Below wr.heap.size wr (wr.alloc (.cells (vrArr x A' cap') 41)) := bE
        have HA' := Lib.hid hA'
        rw [hA']
        clear hx ok hxs HOK hA'
        go_upto_region 15 with (fail)
        clear e0 e1 e2 e3 e4
        generalize hW10 : wr.alloc (.cells (vrArr x A' cap') 41) = w10 at *
        clear hW10
        have hb10 := hb9.trans (ba9.mono hs9)
        have hs10 := hb10.size
        have hown10 := own_below hown ba9
        obtain ⟨Ar, cr, rfl, t1, t2, t3⟩ := own_strs hown10 (fun y hy => HNZ.out y (HRK.out.2 y hy))
        have HIN : Hid (∀ W y, Below w10.heap.size w10 W → Calls Try.prog 13 #[.slice Ar row.length cr, .string y] W fun e w' => e = .returned (.bool (cB (y ∈ row))) ∧ W = w') := fun W y hW => in_str row y Ar cr w10.heap.size W t1 t2 (t3.below hW)
        obtain ⟨P0, HP0⟩ : ∃ P : Bool, Hid (cB (x.name ∈ row) = P) := ⟨_, rfl⟩
        have H1 := Lib.hid (HIN.out w10 x.name (Below.refl _ _))
        rw [HP0.out] at H1
        obtain ⟨e0, e1, e2, e3, e4⟩ := rx.vr
        have rn10 := rn7.below hb10 rn7.lt
        obtain ⟨d0, d1, d2, d3, d4, d5, d6⟩ := rn10.nd
        have H2 := Lib.hid (hangs_any n a x.name w10 HNS.out (HAW.out w10 hb10))
        clear t1 t3
        go_wp2_with fail
        refine H1.out.mono ?_
        rintro r w11 ⟨rfl, rfl⟩
        go_wp2_with fail
        refine H2.out.mono ?_
        rintro r w11 ⟨⟨v11, rfl, hv11⟩, hb11⟩
        obtain ⟨A11, c11, rfl, u1, u2, u3⟩ := hv11
        have HU : Hid (∀ W, Below w11.heap.size w11 W → Sl W w11.heap.size 1 isStr A11 (hangsF n x.name)) := fun W hW => u3.below hW
        have rx11 := rx.below hb11 rx.lt
        have u2' : c11 ≤ 9223372036854775807 := by unfold maxLen at u2; omega
        clear e0 e1 e2 e3 e4 d0 d1 d2 d3 d4 d5 d6 H1 H2 u3
        go_wp2_with fail
        go_loopw [9, 52] (fun t i wr => ∃ (j : Nat) (P : Bool), j ≤ (hangsF n x.name).length ∧ i = .int .i64 j ∧ t = .bool P ∧ Hid (RdTo n x row j P) ∧ Below w11.heap.size w11 wr) (fun _ i _ => (hangsF n x.name).length - (intOf i).toNat)
        case atStart => exact ⟨0, !P0, Nat.zero_le _, rfl, rfl, rd_start HP0.out, Below.refl _ _⟩
        case round =>
          obtain ⟨j, P, hj, rfl, rfl, HRD, hb12⟩ := hrel
          have hb1012 := hb11.trans (hb12.mono hb11.size)
          have hb712 := hb10.trans (hb1012.mono hs10)
          have hs12 := hb712.size
          by_cases hlj : j < (hangsF n x.name).length
          rotate_left 1
          · obtain rfl : j = (hangsF n x.name).length := by omega
            have HST := Lib.hid (rd_step HRD.out)
            have HPS := Lib.hid ((passTo_succ (row := rowTo n r) HX.out).trans (by rw [HROW.out]))
            have hown12 := own_below hown10 hb1012
            have rx12 := rx11.below hb12 rx11.lt
            obtain ⟨e0, e1, e2, e3, e4⟩ := rx12.vr
            have hlx := rx12.lt
            cases P
            · have HE := Lib.hid (HPS.out.trans (HST.out.2 rfl))
              go_wp2_with fail
              go_round
              case rel => exact ⟨p + 1, by omega, by go_num, by rw [HE.out]; exact hown12, hb712⟩
              case measure => first | (simp [intOf]; omega) | simp [intOf]
            · have HE := Lib.hid (HPS.out.trans (HST.out.1 rfl))
              go_wp2_with (at_builtin; refine wpList_append_str rfl _ _ rfl w7.heap.size row row.length _ rfl (hown12.alloc _) rfl wr.heap.size x.name rfl (((Row.new wr #[.string x.name] 9).cell 0).trans rfl) (by omega) (by first | omega | (simp; omega)) ?_; intro v13 w13 o13 g13)
              have hb13 : Below w7.heap.size w7 w13 := (hb712.alloc hs12 (.cells #[.string x.name] 9)).grown g13 (by simp; omega) (fun k e => (hown12.lt _ e).1)
              go_round
              case rel => exact ⟨p + 1, by omega, by go_num, by rw [HE.out]; exact o13, hb13⟩
              case measure => first | (simp [intOf]; omega) | simp [intOf]
          obtain ⟨b2, off2, y, hA2, hb2, hy, hsy, e2⟩ := (HU.out wr hb12).str hlj
          subst hA2
          have HY := Lib.hid hy
          have i6 : (0 : Int) ≤ (j : Int) := by omega
          have i7 : (j : Int) < ((hangsF n x.name).length : Int) := by omega
          clear hy
          cases P
          · have HRD' := Lib.hid (rd_no HRD.out HY.out)
            go_wp2_with fail
            go_roundw
            case rel => exact ⟨j + 1, false, by omega, by go_num, rfl, HRD', hb12⟩
            case measure => first | (simp [intOf]; omega) | simp [intOf]
          · obtain ⟨P2, HP2⟩ : ∃ P : Bool, Hid (cB (y ∈ row) = P) := ⟨_, rfl⟩
            have HRD' := Lib.hid (rd_yes HRD.out HY.out HP2.out)
            have H3 := Lib.hid (HIN.out wr y hb1012)
            rw [HP2.out] at H3
            go_wp2_with fail
            refine H3.out.mono ?_
            rintro e w13 ⟨rfl, rfl⟩
            go_wp2_with fail
            go_roundw
            case rel => exact ⟨j + 1, P2, by omega, by go_num, rfl, HRD', hb12⟩
            case measure => first | (simp [intOf]; omega) | simp [intOf]
end Go.Proofs.Ythlhcahghonhhaa.causeRow
