/-
  CallsBehind: the walk.
-/
import Derived.Test.YthlhcahghonhhaaAwD
import Derived.Test.YthlhcahghonhhaaOpenN
import Derived.Test.YthlhcahghonhhaaFewM
namespace Go.Proofs.Ythlhcahghonhhaa.callsBehind
open Go.RowKit
attribute [local go_sem ↓] Go.wp_at_zero Go.wp_at_succ
/-- where a name was seen last -/
def LastAt (l : List ByteArray) (nm : ByteArray) (j : Nat) (p : Int) : Prop := (p = -1 ∧ ∀ i, i < j → l[i]? ≠ some nm) ∨ ∃ i : Nat, p = i ∧ i < j ∧ l[i]? = some nm
theorem last_zero (l : List ByteArray) (nm : ByteArray) : LastAt l nm 0 (-1) := .inl ⟨rfl, fun i h => absurd h (by omega)⟩
theorem last_yes {l : List ByteArray} {nm : ByteArray} {j : Nat} (h : l[j]? = some nm) : LastAt l nm (j + 1) j := .inr ⟨j, rfl, by omega, h⟩
theorem last_no {l : List ByteArray} {nm x : ByteArray} {j : Nat} {p : Int} (hl : LastAt l nm j p) (h : l[j]? = some x) (hne : x ≠ nm) : LastAt l nm (j + 1) p := by
  rcases hl with ⟨h1, h2⟩ | ⟨i, h1, h2, h3⟩
  · refine .inl ⟨h1, fun i hi => ?_⟩
    rcases Nat.lt_or_ge i j with g | g
    · exact h2 i g
    · obtain rfl : i = j := by omega
      rw [h]
      exact fun e => hne (by injection e)
  · exact .inr ⟨i, h1, by omega, h3⟩
theorem last_end {l : List ByteArray} {nm : ByteArray} {p : Int} (hl : LastAt l nm l.length p) (h : nm ∈ l) : ∃ i : Nat, p = i ∧ l[i]? = some nm := by
  rcases hl with ⟨_, h2⟩ | ⟨i, h1, _, h3⟩
  · obtain ⟨i, hi⟩ := List.getElem?_of_mem h
    exact absurd hi (h2 i (List.getElem?_eq_some_iff.1 hi).1)
  · exact ⟨i, h1, h3⟩
set_option maxRecDepth 100000 in
set_option maxHeartbeats 1000000 in
theorem walk (s : List Nd) (v : Value) (w : World) (h : SrcIs w s v) :
    Calls Try.prog 5 #[v] w fun r w' => r = .returned (.bool true) ∧ Below w.heap.size w w' := by
  obtain ⟨A, cap, rfl, h1, h2, hn⟩ := h
  have rs1 := Row.new w #[.slice A s.length cap] 24
  have b1 : Below w.heap.size w (w.alloc (.cells #[.slice A s.length cap] 24)) := bE
  have HS : Hid (∀ W, Below w.heap.size w W → Nds W w.heap.size A s) := fun W hW => nds_keep hn (keeps_of hW) (Nat.le_refl _)
  have HSW : Hid (∀ W, Below w.heap.size w W → Nds W W.heap.size A s) := fun W hW => nds_keep hn (keeps_of hW) hW.size
  have h2' : cap ≤ 9223372036854775807 := by unfold maxLen at h2; omega
  clear hn
  go_enter Try.func5, Try.ntmps5
  go_upto_region 1 with (fail)
  generalize w.alloc (.cells #[.slice A s.length cap] 24) = W1 at *
  have hs1 := b1.size
  go_wp2_with fail
  refine (awake17_any W1).mono ?_
  rintro r w2 ⟨rfl, hb2⟩
  have rs2 := rs1.below hb2 rs1.lt
  have hB2 := b1.trans (hb2.mono hs1)
  have hs2 := hB2.size
  have c0 := rs2.src
  go_wp2_with fail
  refine (fewNodes_any s A cap w2 h1 h2 (HSW.out w2 hB2)).mono ?_
  rintro r w3 ⟨⟨bf, rfl, HFN⟩, hb3⟩
  have rs3 := rs2.below hb3 rs2.lt
  have hB3 := hB2.trans (hb3.mono hs2)
  have hs3 := hB3.size
  clear c0 rs1 rs2 b1 hb2 hb3 hB2 hs1 hs2
  cases bf
  · go_wp2_with fail
    go_ret
    exact ⟨rfl, hB3⟩
  have HSM : Hid (SrcSm s) := HFN.out (by first | rfl | trivial)
  clear HFN
  have c0 := rs3.src
  go_wp2_with fail
  refine (order_any s A cap w3 HSM.out h1 h2 (HSW.out w3 hB3)).mono ?_
  rintro r w4 ⟨⟨v4, rfl, HV⟩, hb4⟩
  have rs4 := rs3.below hb4 rs3.lt
  have hB4 := hB3.trans (hb4.mono hs3)
  have hs4 := hB4.size
  clear c0 rs3 hb4 hB3 hs3
  have c0 := rs4.src
  obtain ⟨f, HFX⟩ : ∃ f, Hid (callsF s = f) := ⟨_, rfl⟩
  have HCK := Lib.hid (check_calls s A cap w4 HSM.out h1 h2 (HSW.out w4 hB4))
  rw [HFX.out] at HV HCK ⊢
  have fe := field_flt f
  by_cases hf : f.err = 0
  rotate_left 1
  · have hf1 : (f.err != 0) = true := neq_yes hf
    rw [cB_false hf]
    clear HV
    clear hf
    go_wp2_with fail
    refine HCK.out.mono ?_
    rintro r w5 ⟨rfl, hb5⟩
    go_wp2_with fail
    go_ret
    exact ⟨by first | rfl | simp, hB4.trans (hb5.mono hs4)⟩
  rw [cB_true hf]
  have hv4 := HV.out.1 hf
  have HC : Hid ((callsF s).err = 0) := by show _ = _; rw [HFX.out]; exact hf
  have H0 : Hid ((scopeF s).err = 0) := (callsF_ok HC.out).1
  have HOL : Hid ((orderF s).length = s.length) := ord_len HC.out s.length (Nat.le_refl _)
  obtain ⟨A4, c4, rfl, g1, g2, hs4'⟩ := hv4
  have HO : Hid (∀ W, Below w4.heap.size w4 W → Sl W w4.heap.size 1 isStr A4 (orderF s)) := fun W hW => hs4'.below hW
  rw [HOL.out] at g1 ⊢
  clear hf HV hs4' HFX HCK fe
  have n0 : ((s.length : Int) != (s.length : Int)) = false := neq_no rfl
  have g2' : c4 ≤ 9223372036854775807 := by unfold maxLen at g2; omega
  go_wp2_with fail
  clear c0 n0
  go_loopw [37] (fun i wr => ∃ k : Nat, k ≤ s.length ∧ i = .int .i64 k ∧ Below w4.heap.size w4 wr) (fun i _ => s.length - (intOf i).toNat)
  case atStart => exact ⟨0, Nat.zero_le _, rfl, Below.refl _ _⟩
  case round =>
    obtain ⟨k, hk, rfl, hbr⟩ := hrel
    have hB := hB4.trans (hbr.mono hs4)
    have hsB := hB.size
    have hszr := hbr.size
    by_cases hlt : k < s.length
    rotate_left 1
    · obtain rfl : k = s.length := by omega
      go_wp2_with fail
      go_ret
      exact ⟨by first | rfl | simp, hB⟩
    obtain ⟨b, off, n, a, hA, hb, hn, hat, d0, d1, d2, d3, d4, d5, d6⟩ := (HS.out wr hB).nd hlt
    rw [hA]
    have hnm := List.mem_of_getElem? hn
    have HNM := Lib.hid hnm
    have HNS := Lib.hid (HSM.out.all n hnm)
    have HAW : Hid (∀ W, Below wr.heap.size wr W → NdAt W W.heap.size n a) := fun W hW => (hat.below (hW.mono hsB)).more (Nat.le_trans hsB hW.size)
    have HIN := Lib.hid (ord_all HC.out (List.mem_map_of_mem (f := Nd.name) hnm))
    have i0 : (0 : Int) ≤ (k : Int) := by omega
    have i1 : (k : Int) < (s.length : Int) := by omega
    have rn1 := Row.new wr (ndArr n a) 36
    have ba : Below wr.heap.size wr (wr.alloc (.cells (ndArr n a) 36)) := bE
    clear hA hn hat hnm
    go_upto_region 13 with (fail)
    clear d0 d1 d2 d3 d4 d5 d6
    generalize hW6 : wr.alloc (.cells (ndArr n a) 36) = w6 at *
    clear hW6
    have hb6 := hbr.trans (ba.mono hszr)
    have hs6 := hb6.size
    have hB6 := hB.trans (ba.mono hsB)
    obtain ⟨wo, rfl⟩ : ∃ wo : World, wo = wr := ⟨_, rfl⟩
    obtain ⟨d0, d1, d2, d3, d4, d5, d6⟩ := rn1.nd
    go_wp2_with fail
    clear d0 d1 d2 d3 d4 d5 d6
    go_loopw [7, 43] (fun t i wr => ∃ (j : Nat) (p : Int), j ≤ s.length ∧ i = .int .i64 j ∧ t = .int .i64 p ∧ Hid (LastAt (orderF s) n.name j p) ∧ Below w6.heap.size w6 wr) (fun _ i _ => s.length - (intOf i).toNat)
    case atStart => exact ⟨0, -1, Nat.zero_le _, rfl, rfl, last_zero _ _, Below.refl _ _⟩
    case round =>
      obtain ⟨j, p, hj, rfl, rfl, HL, hbj⟩ := hrel
      have rn2 := rn1.below hbj rn1.lt
      obtain ⟨d0, d1, d2, d3, d4, d5, d6⟩ := rn2.nd
      have hb7 := hb6.trans (hbj.mono hs6)
      have hB7 := hB6.trans (hbj.mono hB6.size)
      by_cases hlj : j < s.length
      · obtain ⟨b', off', x, hA', hb', hx, hsx, e0⟩ := (HO.out wr hb7).str (k := j) (by rw [HOL.out]; exact hlj)
        rw [hA']
        have HX := Lib.hid hx
        have i2 : (0 : Int) ≤ (j : Int) := by omega
        have i3 : (j : Int) < (s.length : Int) := by omega
        clear hx
        by_cases e : x = n.name
        · have e1 := beq_yes e
          have HL' : Hid (LastAt (orderF s) n.name (j + 1) j) := last_yes (by rw [HX.out, e])
          clear e
          go_wp2_with fail
          go_round
          case rel => exact ⟨j + 1, j, by omega, by go_num, rfl, HL', hbj⟩
          case measure => first | (simp [intOf]; omega) | simp [intOf]
        · have e1 := beq_no e
          have HL' := Lib.hid (last_no HL.out HX.out e)
          clear e
          go_wp2_with fail
          go_round
          case rel => exact ⟨j + 1, p, by omega, by go_num, rfl, HL', hbj⟩
          case measure => first | (simp [intOf]; omega) | simp [intOf]
      · obtain rfl : j = s.length := by omega
        rw [← HOL.out] at HL
        obtain ⟨q, rfl, hq⟩ := last_end HL.out HIN.out
        have hql : q < s.length := by rw [← HOL.out]; exact (List.getElem?_eq_some_iff.1 hq).1
        have HU := Lib.hid ((ord_in HC.out s.length (Nat.le_refl _)).2.2 q n HNM.out hq)
        have i2 : (0 : Int) ≤ (q : Int) := by omega
        have HUS := Lib.hid (uses_any n a wr HNS.out (HAW.out wr (ba.trans (hbj.mono ba.size))))
        obtain ⟨b', off', x, hA', hb', hx, hsx, e0⟩ := (HO.out wr hb7).str (k := q) (by rw [HOL.out]; exact hql)
        subst hA'
        have hsB7 := hB7.size
        have i3 : (q : Int) ≤ (c4 : Int) := by omega
        have i4 : q ≤ c4 := by omega
        clear hx hq e0
        go_wp2_with fail
        refine HUS.out.mono ?_
        rintro r w8 ⟨⟨v8, rfl, hv8⟩, hb8⟩
        obtain ⟨A8, c8, rfl, r1, r2, r3⟩ := hv8
        have HU8 : Hid (∀ W, Below w8.heap.size w8 W → Sl W w8.heap.size 1 isStr A8 (usesF n)) := fun W hW => r3.below hW
        have hb48 := hb7.trans (hb8.mono hb7.size)
        have hB8 := hB7.trans (hb8.mono hsB7)
        have HI8 : Hid (∀ W y, Below w8.heap.size w8 W → y ∈ usesF n → Calls Try.prog 13 #[.slice (some ⟨b', off', none⟩) q c4, .string y] W fun e w' => e = .returned (.bool true) ∧ W = w') := fun W y hW hy => by
          have hl : ((orderF s).take q).length = q := by rw [List.length_take, HOL.out]; omega
          have h := in_str ((orderF s).take q) y (some ⟨b', off', none⟩) c4 w4.heap.size W (by rw [hl]; omega) g2 ((HO.out W (hb48.trans (hW.mono hb48.size))).take q)
          rw [hl, cB_true (show y ∈ (orderF s).take q from HU.out y hy)] at h
          exact h
        clear r3 d0 d1 d2 d3 d4 d5 d6
        have r2' : c8 ≤ 9223372036854775807 := by unfold maxLen at r2; omega
        go_wp2_with fail
        go_loopw [59] (fun i wr => ∃ j : Nat, j ≤ (usesF n).length ∧ i = .int .i64 j ∧ Below w8.heap.size w8 wr) (fun i _ => (usesF n).length - (intOf i).toNat)
        case atStart => exact ⟨0, Nat.zero_le _, rfl, Below.refl _ _⟩
        case round =>
          obtain ⟨j, hj, rfl, hb9⟩ := hrel
          by_cases hlu : j < (usesF n).length
          rotate_left 1
          · obtain rfl : j = (usesF n).length := by omega
            go_wp2_with fail
            go_round
            case rel => exact ⟨k + 1, by omega, by go_num, hb48.trans (hb9.mono hb48.size)⟩
            case measure => first | (simp [intOf]; omega) | simp [intOf]
          obtain ⟨b2, off2, y, hA2, hb2, hy, hsy, e2⟩ := (HU8.out wr hb9).str hlu
          subst hA2
          have HC := Lib.hid (HI8.out wr y hb9 (List.mem_of_getElem? hy))
          have i5 : (0 : Int) ≤ (j : Int) := by omega
          have i6 : (j : Int) < ((usesF n).length : Int) := by omega
          clear hy
          go_wp2_with fail
          refine HC.out.mono ?_
          rintro r w10 ⟨rfl, rfl⟩
          go_wp2_with fail
          go_roundw
          case rel => exact ⟨j + 1, by omega, by go_num, hb9⟩
          case measure => first | (simp [intOf]; omega) | simp [intOf]
end Go.Proofs.Ythlhcahghonhhaa.callsBehind
