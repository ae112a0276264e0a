/-
  The contract of tompionref03.Div: long division.
-/
import Derived.Test.YtjifapbgelckkaaRefArithC
import Derived.Test.YtjifapbgelckkaaWin
namespace Go.Proofs.Ytjifapbgelckkaa
open Go.RowKit Ar Z Bz

theorem zeros_win (k : Nat) : List.replicate (k + 1) (0 : Int) = List.replicate k 0 ++ [0] := by
  rw [← List.replicate_succ']
/-- how far the division is: 'R' is what is left of the first k bits of X, behind Q times Y -/
def DivInv (X Y R : List Int) (Q : Int) (k : Nat) : Prop :=
  hval (X.take k) = Q * hval Y + hval R ∧ Is01 R ∧ R.length = 65 ∧ hval R < hval Y
theorem div_step {X Y R : List Int} {Q : Int} {k : Nat} {x r0 : Int} {R1 : List Int} (h : DivInv X Y R Q k) (hR : R = r0 :: R1) (hx : X[k]? = some x) (h01 : x = 0 ∨ x = 1) (hY : hval Y ≤ 9223372036854775808) :
    hval (X.take (k + 1)) = (2 * Q) * hval Y + hval (R1 ++ [x]) ∧ Is01 (R1 ++ [x]) ∧ (R1 ++ [x]).length = 65 ∧ hval (R1 ++ [x]) < 2 * hval Y := by
  subst hR
  obtain ⟨h1, h2, h3, h4⟩ := h
  have hl : R1.length = 64 := by simpa using h3
  have h2' : Is01 R1 := fun z hz => h2 z (List.mem_cons_of_mem _ hz)
  have hb := hval_bound h2'
  have hr0 : r0 = 0 := by
    rcases h2 r0 (by simp) with h | h
    · exact h
    · subst h; simp only [hval, hl, pow2_64, Int.one_mul] at h4; omega
  subst hr0
  simp only [hval, Int.zero_mul, Int.zero_add] at h1 h4
  have e : X.take (k + 1) = X.take k ++ [x] := by rw [List.take_add_one, hx]; rfl
  rw [e, hval_snoc, hval_snoc, h1, Int.mul_add, ← Int.mul_assoc]
  exact ⟨by omega, is01_snoc h2' h01, by simp [hl], by omega⟩
theorem div_end {a b : Int} (h0 : b ≠ 0) {Q r : Int} (h : (a.natAbs : Int) = Q * (b.natAbs : Int) + r) (hr : 0 ≤ r ∧ r < (b.natAbs : Int)) :
    (if decide (a < 0) != decide (b < 0) then negZ (wrap64 Q) else wrap64 Q) = divZ a b := by
  have hQ : Q = (a.natAbs : Int) / (b.natAbs : Int) := by
    rw [h, Int.add_comm, Int.add_mul_ediv_right _ _ (by omega), Int.ediv_eq_zero_of_lt hr.1 hr.2, Int.zero_add]
  have hdiv : divZ a b = wrap64 (a.tdiv b) := by
    unfold divZ
    rw [if_neg h0]
    split
    · rename_i h1; subst h1; simp
    · rfl
  rw [hdiv]
  have hneg : ∀ q : Int, negZ (wrap64 q) = wrap64 (-q) := fun q => by unfold negZ wrap64; omega
  have hsgn : a.tdiv b = if decide (a < 0) != decide (b < 0) then -Q else Q := by
    rw [hQ]
    clear hQ h hr hdiv hneg
    by_cases h1 : a < 0 <;> by_cases h2 : b < 0
    · have ea : (a.natAbs : Int) = -a := by omega
      have eb : (b.natAbs : Int) = -b := by omega
      have : a.tdiv b = (-a).tdiv (-b) := by rw [Int.neg_tdiv, Int.tdiv_neg, Int.neg_neg]
      rw [if_neg (by simp [h1, h2]), this, Int.tdiv_eq_ediv_of_nonneg (by omega), ea, eb]
    · have ea : (a.natAbs : Int) = -a := by omega
      have eb : (b.natAbs : Int) = b := by omega
      have : a.tdiv b = -((-a).tdiv b) := by rw [Int.neg_tdiv, Int.neg_neg]
      rw [if_pos (by simp [h1, h2]), this, Int.tdiv_eq_ediv_of_nonneg (by omega), ea, eb]
    · have ea : (a.natAbs : Int) = a := by omega
      have eb : (b.natAbs : Int) = -b := by omega
      have : a.tdiv b = -(a.tdiv (-b)) := by rw [Int.tdiv_neg, Int.neg_neg]
      rw [if_pos (by simp [h1, h2]), this, Int.tdiv_eq_ediv_of_nonneg (by omega), ea, eb]
    · have ea : (a.natAbs : Int) = a := by omega
      have eb : (b.natAbs : Int) = b := by omega
      rw [if_neg (by simp [h1, h2]), Int.tdiv_eq_ediv_of_nonneg (by omega), ea, eb]
  rw [hsgn]
  split
  · exact hneg _
  · rfl
set_option maxHeartbeats 4000000 in
theorem rdiv_core (a b : Int) (w : World) (ha : In a) (hb : In b) (h0 : b ≠ 0) :
    Calls Try.prog 27 #[.int .i64 a, .int .i64 b] w fun e w' => e = .returned (.int .i64 (divZ a b)) ∧ Below w.heap.size w w' := by
  obtain ⟨i0, hi0, hz0, hz1, hz2⟩ := info_parts info_int
  have hb0 : (b == 0) = false := by simp [h0]
  have hX01 := is01_high a
  have hY01 := is01_high b
  have HX := Lib.hid (hval_high ha)
  have HY := Lib.hid (hval_high hb)
  have HLX := Lib.hid (highL_len a)
  have HLY := Lib.hid (highL_len b)
  go_enter Try.func27, Try.ntmps27
  go_wp2_with fail
  refine (high_any a _ ha).mono ?_
  rintro e w1 ⟨v1, rfl, ho1, hb1⟩
  obtain ⟨A1, c1, rfl, hc1, hm1, hr1⟩ := own_rd ho1
  go_wp2_with fail
  refine (high_any b _ hb).mono ?_
  rintro e w2 ⟨v2, rfl, ho2, hb2⟩
  obtain ⟨A2, c2, rfl, hc2, hm2, hr2⟩ := own_rd ho2
  have hr1' := (hr1.below hb2).more hb2.size
  have hb12 : Below w.heap.size w w2 := hb1.trans (hb2.mono hb1.size)
  generalize highL a = X at *
  generalize highL b = Y at *
  clear ho1 ho2 hr1 hb1 hb2 hm1 hm2
  have hsz := hb12.size
  go_wp2_with fail
  go_loopw [7, 8] (fun v i wr => ∃ k : Nat, k ≤ 65 ∧ i = .int .i64 k ∧ wr.ownsRow w2.heap.size 3 1 v k (ints (List.replicate k 0)) ∧ Below w2.heap.size w2 wr) (fun _ i _ => 65 - (intOf i).toNat)
  case atStart => exact ⟨0, Nat.zero_le _, rfl, World.ownsRow_nil _ _ _ _, Below.refl _ _⟩
  case round =>
    obtain ⟨k, hk, rfl, hown, hbel⟩ := hrel
    by_cases hlt : k < 65
    · have HS := Lib.hid (zeros_win k)
      have hsz2 := hbel.size
      go_wp2_with (at_builtin; refine wpList_append_own _ rfl _ _ 34 rfl w2.heap.size 3 i0 (.int .i64 0) 1 8 Try.underlying34 hi0 hz0 hz1 hz2 rfl (by decide) _ _ _ rfl (hown.alloc _) ⟨wr.heap.size, 0, none⟩ 1 1 [.int .i64 0] rfl rfl ?c1 ?c2 ?c3 ?c4 ?c5 ?_)
      case c1 => exact cell_one _ _ _
      case c2 => simp [Value.oneCell']
      case c3 => unfold maxLen; omega
      case c4 => omega
      case c5 => simp; omega
      intro v' w3 hown' hgrow _
      have hb3 : Below w2.heap.size w2 w3 := below_own (hbel.alloc hsz2 _) (hown.alloc _) hgrow (by simp; omega)
      have ho3 : w3.ownsRow w2.heap.size 3 1 v' (k + 1) (ints (List.replicate (k + 1) 0)) := by rw [HS.out, ints_snoc]; exact hown'
      clear hown hbel hown' hgrow
      go_wp2_with fail
      go_roundw
      case rel => exact ⟨k + 1, by omega, by go_num, ho3, hb3⟩
      case measure => simp [intOf]; omega
    · obtain rfl : k = 65 := by omega
      generalize hZ : List.replicate 65 (0 : Int) = Z at *
      rw [show ((65 : Nat) : Int) = 65 from rfl]
      obtain ⟨g, cap, rfl, hgl⟩ : ∃ g cap, u7 = .slice (some ⟨g, 0, none⟩) 65 cap ∧ 65 ≤ cap := by
        rcases hown.2 with ⟨_, h0⟩ | ⟨g, cap, cur, h, _, _, hc, _⟩
        · omega
        · exact ⟨g, cap, h, hc⟩
      have hwin := win_of_own hown
      have HZ := Lib.hid hZ
      have hsz2 := hbel.size
      clear hZ hown
      go_wp2_with fail
      have HD0 : DivInv X Y Z 0 0 := by
        have e : hval Z = 0 := by rw [← HZ.out]; decide +kernel
        refine ⟨by simp [hval, e], ?_, by rw [← HZ.out]; rfl, by rw [e, HY.out]; omega⟩
        rw [← HZ.out]; intro x hx; exact .inl (List.eq_of_mem_replicate hx)
      have hYb : 0 < hval Y ∧ hval Y ≤ 9223372036854775808 := by have := HY.out; unfold In at hb; omega
      have hbw : Below w.heap.size w wr := hb12.trans (hbel.mono hsz)
      have hrX := hr1'.below hbel
      have hrY := hr2.below hbel
      clear hr1' hr2 hbel hb12
      obtain ⟨w3, rfl⟩ : ∃ w3 : World, w3 = wr := ⟨_, rfl⟩
      go_loopw [7, 9, 10] (fun v q i wr => ∃ (k g off cap : Nat) (R : List Int) (Q : Int), k ≤ 65 ∧ i = .int .i64 k ∧ v = .slice (some ⟨g, off, none⟩) 65 cap ∧ q = .int .i64 (wrap64 Q) ∧ DivInv X Y R Q k ∧ Win wr w2.heap.size 3 g off 65 cap (ints R) ∧ Below w2.heap.size w3 wr) (fun _ _ i _ => 65 - (intOf i).toNat)
      case atStart => exact ⟨0, g, 0, cap, Z, 0, Nat.zero_le _, rfl, rfl, by rw [wrap_in (by omega)], HD0, hwin, Below.refl _ _⟩
      case round =>
        clear hwin HD0
        obtain ⟨k, g, off, cap, R, Q, hk, rfl, rfl, rfl, hD, hwin, hbel⟩ := hrel
        by_cases hlt : k < 65
        · obtain ⟨ad1, u1, rfl, hB1, hx1, hcell1⟩ := (hrX.below hbel).at1 hlt
          obtain ⟨x1, hl1, rfl⟩ := ints_get hx1
          have g1 := is01_get hX01 hl1
          obtain ⟨r0, R1, rfl⟩ : ∃ r0 R1, R = r0 :: R1 := by
            obtain ⟨_, _, h3, _⟩ := hD
            match R, h3 with
            | r0 :: R1, _ => exact ⟨r0, R1, rfl⟩
          have HD := Lib.hid (div_step hD rfl hl1 g1 hYb.2)
          have hwin1 := hwin.tail
          have hcap := hwin.2.2.1
          have W3 : 0 ≤ (k : Int) := by omega
          have W4 : ¬ cap = 1 := by omega
          clear hD hl1 hx1 hwin
          go_wp2_with fail
          have hs3 := hbel.size
          go_region_law (refine step_append_win (g := g) (off := off + 1) (n := 64) (cap := cap - 1) (xs := ints R1) rfl (.tmp 29) (.tmp 34) 34 rfl i0 (.int .i64 0) 8 Try.underlying34 hi0 hz0 hz1 hz2 rfl (by simp [Act.eval]) ⟨wr.heap.size, 0, none⟩ 1 (.int .i64 x1) (by simp [Act.eval]) (by exact (hwin1.drew).alloc _) (by simp) rfl (by unfold maxLen; omega) (by omega) (by simp; omega) ?_; intro g' off' cap' w4 hw4 hg4)
          have hb4 : Below w2.heap.size w3 w4 := ((hbel.drew).alloc (by simpa using Nat.le_trans hsz2 hs3) _).grown hg4 (by simp; omega) (by rintro k' hk'; injection hk' with hk'; subst hk'; exact hwin1.2.1)
          have hw5 : Win w4 w2.heap.size 3 g' off' 65 cap' (ints (R1 ++ [x1])) := by rw [ints_snoc]; exact hw4
          have hs4 := hb4.size
          have hg'lt := hw5.lt
          generalize hR2 : R1 ++ [x1] = R2 at *
          have HLess := fun h => less_hval (x := R2) (y := Y) h hY01
          have HLs := Lib.hid HLess
          clear hR2 hw4 hg4 hwin1 hbel HLess
          go_wp2_with fail
          refine (radd_any (wrap64 Q) (wrap64 Q) _ (wrap_lo _) (wrap_lo _)).mono ?_
          rintro e w5 ⟨rfl, hb5⟩
          have hw6 := hw5.below hb5 hg'lt
          have hb35 : Below w2.heap.size w3 w5 := hb4.trans (hb5.mono (by omega))
          have hs5 := hb35.size
          clear hw5 hb4 hb5 hg'lt
          go_wp2_with fail
          have hrd := hw6.rd
          have hrY5 := (hrY.below hb35).more (B' := w5.heap.size) (by omega)
          refine (less_any _ _ cap' c2 w5.heap.size R2 Y _ hrd hrY5).mono ?_
          rintro e w6 ⟨rfl, hb6⟩
          have hdbl : addZ (wrap64 Q) (wrap64 Q) = wrap64 (2 * Q) := by unfold addZ wrap64; omega
          rw [hdbl]
          obtain ⟨d1, d2, d3, d4⟩ := HD.out
          have hle := HLs.out d2 (by rw [d3, HLY.out])
          clear hdbl HD HLs
          rw [hle]
          by_cases hcmp : hval R2 < hval Y
          · rw [show decide (hval R2 < hval Y) = true from by simp [hcmp]]
            have HI : DivInv X Y R2 (2 * Q) (k + 1) := ⟨d1, d2, d3, hcmp⟩
            have hw7 := hw6.below hb6 hw6.lt
            have hb36 : Below w2.heap.size w3 w6 := hb35.trans (hb6.mono (by omega))
            clear d1 d2 d3 d4 hle hcmp hrd hrY5 hb35 hb6 hw6
            go_wp2_with fail
            go_roundw
            case rel => exact ⟨k + 1, g', off', cap', R2, 2 * Q, by omega, by go_num, rfl, rfl, HI, hw7, hb36⟩
            case measure => simp [intOf]; omega
          · rw [show decide (hval R2 < hval Y) = false from by simp [hcmp]]
            have hge := sub_ge d2 hY01 (by rw [d3, HLY.out]) (by omega)
            have hsp := subL_spec d2 hY01 (by rw [d3, HLY.out])
            have HI : DivInv X Y (subL R2 Y).2 (2 * Q + 1) (k + 1) := ⟨by rw [d1, hge, Int.add_mul, Int.one_mul]; omega, hsp.2.1, by rw [hsp.1, d3], by rw [hge]; omega⟩
            have hrd6 := (hrd.below hb6).more hb6.size
            have hrY6 := (hrY5.below hb6).more hb6.size
            have hb36 : Below w2.heap.size w3 w6 := hb35.trans (hb6.mono (by omega))
            have hs6 := hb36.size
            have D2 := Lib.hid d2
            clear d1 d3 d4 hle hcmp hrd hrY5 hb35 hb6 hw6 hge hsp d2
            go_wp2_with fail
            refine (take_any _ _ cap' c2 R2 Y _ D2.out hY01 hrd6 hrY6).mono ?_
            rintro e w7 ⟨v7, rfl, ho7, hb7⟩
            obtain ⟨g7, cap7, rfl⟩ : ∃ g7 cap7, v7 = .slice (some ⟨g7, 0, none⟩) 65 cap7 := by
              rcases ho7.2 with ⟨_, h0⟩ | ⟨g, cap, cur, h, _⟩
              · omega
              · exact ⟨g, cap, h⟩
            have hw7 := win_of_own (own_base ho7 (show w2.heap.size ≤ w6.heap.size from by omega))
            have hb37 : Below w2.heap.size w3 w7 := hb36.trans (hb7.mono (by omega))
            have hs7 := hb37.size
            clear ho7 hb7 hb36 hrd6 hrY6
            go_wp2_with fail
            refine (radd_any (wrap64 (2 * Q)) 1 _ (wrap_lo _) (by unfold In; omega)).mono ?_
            rintro e w8 ⟨rfl, hb8⟩
            have hone : addZ (wrap64 (2 * Q)) 1 = wrap64 (2 * Q + 1) := by unfold addZ wrap64; omega
            rw [hone]
            have hw8 := hw7.below hb8 hw7.lt
            have hb38 : Below w2.heap.size w3 w8 := hb37.trans (hb8.mono (by omega))
            clear hone hw7 hb37 hb8
            go_wp2_with fail
            go_roundw
            case rel => exact ⟨k + 1, g7, 0, cap7, (subL R2 Y).2, 2 * Q + 1, by omega, by go_num, rfl, rfl, HI, hw8, hb38⟩
            case measure => simp [intOf]; omega
        · obtain rfl : k = 65 := by omega
          obtain ⟨d1, d2, d3, d4⟩ := hD
          have hv := hval_bound d2
          rw [List.take_of_length_le (by rw [HLX.out]; omega), HX.out, HY.out] at d1
          rw [HY.out] at d4
          have HE := Lib.hid (div_end h0 d1 ⟨hv.1, d4⟩)
          clear d1 d2 d3 d4 hv
          have hbf : Below w.heap.size w wr := hbw.trans (hbel.mono hsz)
          clear hbel hwin
          by_cases h1 : a < 0 <;> by_cases h2 : b < 0
          · have k1 : decide (a < 0) = true := by simp [h1]
            have k2 : decide (b < 0) = true := by simp [h2]
            rw [if_neg (by simp [h1, h2])] at HE
            go_wp2_with fail
            go_ret
            exact ⟨ret_int HE.out, hbf⟩
          · have k1 : decide (a < 0) = true := by simp [h1]
            have k2 : decide (b < 0) = false := by simp [h2]
            rw [if_pos (by simp [h1, h2])] at HE
            go_wp2_with fail
            refine (rneg_any (wrap64 Q) _ (wrap_lo _)).mono ?_
            rintro e w6 ⟨rfl, hb6⟩
            go_wp2_with fail
            go_ret
            exact ⟨ret_int HE.out, hbf.trans (hb6.mono hbf.size)⟩
          · have k1 : decide (a < 0) = false := by simp [h1]
            have k2 : decide (b < 0) = true := by simp [h2]
            rw [if_pos (by simp [h1, h2])] at HE
            go_wp2_with fail
            refine (rneg_any (wrap64 Q) _ (wrap_lo _)).mono ?_
            rintro e w6 ⟨rfl, hb6⟩
            go_wp2_with fail
            go_ret
            exact ⟨ret_int HE.out, hbf.trans (hb6.mono hbf.size)⟩
          · have k1 : decide (a < 0) = false := by simp [h1]
            have k2 : decide (b < 0) = false := by simp [h2]
            rw [if_neg (by simp [h1, h2])] at HE
            go_wp2_with fail
            go_ret
            exact ⟨ret_int HE.out, hbf⟩
theorem rdiv_any (a b : Int) (w : World) (ha : In a) (hb : In b) :
    Calls Try.prog 27 #[.int .i64 a, .int .i64 b] w fun e w' => e = .returned (.int .i64 (divZ a b)) ∧ Below w.heap.size w w' := by
  by_cases h0 : b = 0
  · subst h0
    go_enter Try.func27, Try.ntmps27
    go_wp2_with fail
    go_ret
    exact ⟨ret_int (div_zero a).symm, Below.refl _ _⟩
  · exact rdiv_core a b w ha hb h0
theorem rmod_eq (a b : Int) : addZ a (negZ (mulZ (divZ a b) b)) = modZ a b := by
  unfold modZ; rw [sub_eq]
theorem rmod_any (a b : Int) (w : World) (ha : In a) (hb : In b) :
    Calls Try.prog 28 #[.int .i64 a, .int .i64 b] w fun e w' => e = .returned (.int .i64 (modZ a b)) ∧ Below w.heap.size w w' := by
  have HE := Lib.hid (rmod_eq a b)
  go_enter Try.func28, Try.ntmps28
  go_wp2_with fail
  refine (rdiv_any a b _ ha hb).mono ?_
  rintro e w1 ⟨rfl, hb1⟩
  have h1 := hb1.size
  go_wp2_with fail
  refine (rmul_any (divZ a b) b _ (in_div a b) hb).mono ?_
  rintro e w2 ⟨rfl, hb2⟩
  have hb02 := hb1.trans (hb2.mono h1)
  have h2 := hb02.size
  go_wp2_with fail
  refine (rneg_any (mulZ (divZ a b) b) _ (in_mul _ _)).mono ?_
  rintro e w3 ⟨rfl, hb3⟩
  have hb03 := hb02.trans (hb3.mono h2)
  have h3 := hb03.size
  go_wp2_with fail
  refine (radd_any a (negZ (mulZ (divZ a b) b)) _ ha (in_neg _)).mono ?_
  rintro e w4 ⟨rfl, hb4⟩
  have hb04 := hb03.trans (hb4.mono h3)
  go_wp2_with fail
  go_ret
  exact ⟨ret_int HE.out, hb04⟩
end Go.Proofs.Ytjifapbgelckkaa
