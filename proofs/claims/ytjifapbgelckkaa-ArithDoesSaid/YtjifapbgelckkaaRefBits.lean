/-
  The contracts of tompionref01.Bit, Bits, Number.
-/
import Derived.Test.YtjifapbgelckkaaBitsZ
import Derived.Test.YtjifapbgelckkaaMem
namespace Go.Proofs.Ytjifapbgelckkaa
open Go.RowKit Ar Z Bz

theorem half_step {n : Int} : n.tdiv 2 = (if n < 0 then (n + 1) / 2 else n / 2) := by
  split
  · rename_i h
    have e : n = -(-n) := by omega
    rw [e, Int.neg_tdiv, Int.tdiv_eq_ediv_of_nonneg (by omega)]; omega
  · rename_i h; exact Int.tdiv_eq_ediv_of_nonneg (by omega)
theorem tmod2 {n : Int} : n.tmod 2 = (if n < 0 then -((-n) % 2) else n % 2) := by
  split
  · rename_i h
    have e : n = -(-n) := by omega
    rw [e, Int.neg_tmod, Int.tmod_eq_emod_of_nonneg (by omega)]; omega
  · rename_i h; exact Int.tmod_eq_emod_of_nonneg (by omega)
set_option maxHeartbeats 1000000 in
theorem bit_any (n k : Int) (w : World) (hn : In n) (h0 : 0 ≤ k) (h1 : k ≤ 1000) :
    Calls Try.prog 34 #[.int .i64 n, .int .i64 k] w fun e w' => e = .returned (.int .i64 (bitZ n k.toNat)) ∧ w = w' := by
  obtain ⟨K, rfl⟩ := Int.eq_ofNat_of_zero_le h0
  rw [Int.toNat_natCast]
  go_enter Try.func34, Try.ntmps34
  go_wp2
  go_loop [0, 5] (fun t i => ∃ j : Nat, j ≤ K ∧ i = .int .i64 j ∧ t = .int .i64 (half n j)) (fun _ i => K - (intOf i).toNat)
  case atStart => exact ⟨0, Nat.zero_le _, rfl, rfl⟩
  case round =>
    obtain ⟨j, hj, rfl, rfl⟩ := hrel
    have hi := half_in hn j
    have HS := Lib.hid (show half n (j + 1) = half n j / 2 from rfl)
    have HB := Lib.hid (show bitZ n j = half n j % 2 from rfl)
    generalize half n j = m at *
    clear hn
    unfold In at hi
    by_cases hlt : j < K
    · by_cases hm : m < 0
      · have hm' : decide (m < 0) = true := by simp [hm]
        by_cases ho : m % 2 = 0
        · have q : (m.tmod 2 != 0) = false := by rw [tmod2]; simp [hm]; omega
          have HO := Lib.hid ho
          clear ho
          go_wp2
          go_round
          case rel => exact ⟨j + 1, by omega, by go_num, by rw [HS.out, half_step, if_pos hm]; have := HO.out; congr 1; omega⟩
          case measure => simp [intOf]; omega
        · have q : (m.tmod 2 != 0) = true := by rw [tmod2]; simp [hm]; omega
          go_wp2
          go_round
          case rel => exact ⟨j + 1, by omega, by go_num, by rw [HS.out, half_step, if_pos (by omega)]; congr 1; omega⟩
          case measure => simp [intOf]; omega
      · have hm' : decide (m < 0) = false := by simp [hm]
        go_wp2
        go_round
        case rel => exact ⟨j + 1, by omega, by go_num, by rw [HS.out]⟩
        case measure => simp [intOf]; omega
    · obtain rfl : j = K := by omega
      by_cases ho : m % 2 = 0
      · have q : (m.tmod 2 == 0) = true := by rw [tmod2]; simp; omega
        have HO := Lib.hid ho
        clear ho
        go_wp2
        go_ret
        exact ⟨ret_int (by rw [HB.out, HO.out]), rfl⟩
      · have q : (m.tmod 2 == 0) = false := by rw [tmod2]; simp; omega
        go_wp2
        go_ret
        exact ⟨ret_int (by rw [HB.out]; omega), rfl⟩

set_option maxHeartbeats 1000000 in
theorem bits_any (n : Int) (w : World) (hn : In n) :
    Calls Try.prog 29 #[.int .i64 n] w fun e w' => ∃ v, e = .returned v ∧ w'.ownsRow w.heap.size 3 1 v 64 (ints (bitsTo n 64)) ∧ Below w.heap.size w w' := by
  obtain ⟨i0, hi0, hz0, hz1, hz2⟩ := info_parts info_int
  go_enter Try.func29, Try.ntmps29
  go_wp2_with fail
  go_loopw [3, 4] (fun v i wr => ∃ k : Nat, k ≤ 64 ∧ i = .int .i64 k ∧ wr.ownsRow w.heap.size 3 1 v k (ints (bitsTo n k)) ∧ Below w.heap.size w wr) (fun _ i _ => 64 - (intOf i).toNat)
  case atStart => exact ⟨0, Nat.zero_le _, rfl, World.ownsRow_nil _ _ _ _, Below.refl _ _⟩
  case round =>
    obtain ⟨k, hk, rfl, hown, hbel⟩ := hrel
    by_cases hlt : k < 64
    · have HS := Lib.hid (bitsTo_succ n k)
      have hsz := hbel.size
      go_wp2_with (first
        | (go_at_call 34; refine (bit_any _ _ _ hn (by omega) (by omega)).mono ?_; rintro e w' ⟨rfl, rfl⟩)
        | (at_builtin; refine wpList_append_own _ rfl _ _ 34 rfl w.heap.size 3 i0 (.int .i64 0) 1 8 Try.underlying34 hi0 hz0 hz1 hz2 rfl (by decide) _ _ _ rfl (hown.alloc _) ⟨wr.heap.size, 0, none⟩ 1 1 [.int .i64 (bitZ n k)] rfl rfl ?c1 ?c2 ?c3 ?c4 ?c5 ?_))
      case c1 => exact cell_one _ _ _
      case c2 => simp [Value.oneCell']
      case c3 => unfold maxLen; omega
      case c4 => omega
      case c5 => simp; omega
      intro v' w1 hown' hgrow _
      have hb1 : Below w.heap.size w w1 := below_own (hbel.alloc hsz _) (hown.alloc _) hgrow (by simp; omega)
      have ho1 : w1.ownsRow w.heap.size 3 1 v' (k + 1) (ints (bitsTo n (k + 1))) := by rw [HS.out, ints_snoc]; exact hown'
      clear hown hbel hown' hgrow
      go_wp2_with fail
      go_roundw
      case rel => exact ⟨k + 1, by omega, by go_num, ho1, hb1⟩
      case measure => simp [intOf]; omega
    · obtain rfl : k = 64 := by omega
      go_wp2_with fail
      go_ret
      exact ⟨_, rfl, hown, hbel⟩

def hiB (l : List Int) (j : Nat) : Int := uval ((l.take 63).drop j)
theorem hi_step {l : List Int} {j : Nat} {x : Int} (hj : j < 63) (h : l[j]? = some x) : hiB l j = x + 2 * hiB l (j + 1) := by
  have hl : j < l.length := (List.getElem?_eq_some_iff.1 h).1
  have hx : l[j] = x := (List.getElem?_eq_some_iff.1 h).2
  unfold hiB
  rw [List.drop_eq_getElem_cons (by simp; omega)]
  simp only [uval, List.getElem_take, hx]
theorem hi_bound {l : List Int} (h : Is01 l) (j : Nat) : 0 ≤ hiB l j ∧ hiB l j < 9223372036854775808 := by
  have h1 : Is01 ((l.take 63).drop j) := fun x hx => h x (List.mem_of_mem_take (List.mem_of_mem_drop hx))
  have := uval_bound h1
  have h2 : ((l.take 63).drop j).length ≤ 63 := by simp; omega
  have h3 : ∀ k, k ≤ 63 → pow2 k ≤ 9223372036854775808 := by decide +kernel
  have := h3 _ h2
  unfold hiB; omega
theorem hi_end (l : List Int) : hiB l 63 = 0 := by
  unfold hiB; rw [List.drop_of_length_le (by simp; omega)]; rfl
theorem uval_63 {l : List Int} {x : Int} (hl : l.length = 64) (h : l[63]? = some x) : uval l = hiB l 0 + x * 9223372036854775808 := by
  have e : l = l.take 63 ++ [x] := by
    have h1 : l.take 64 = l := List.take_of_length_le (by omega)
    conv => lhs; rw [← h1]
    rw [List.take_add_one, h]; rfl
  have e2 := uval_snoc (l.take 63) x
  rw [← e] at e2
  have e3 : (l.take 63).length = 63 := by simp; omega
  rw [e2, e3]; unfold hiB; rw [List.drop_zero]
  rfl
set_option maxHeartbeats 1000000 in
theorem number_any (A : Option Addr) (c B : Nat) (l : List Int) (w : World) (hr : Rd w B 1 A 64 (ints l)) (h01 : Is01 l) :
    Calls Try.prog 30 #[.slice A 64 c] w fun e w' => e = .returned (.int .i64 (wrap64 (uval l))) ∧ w = w' := by
  have hlen : l.length = 64 := by have := hr.1; rw [ints_len] at this; omega
  obtain ⟨ad, u63, rfl, hadB, hx63, hc63⟩ := hr.at1 (k := 63) (by omega)
  obtain ⟨x63, hl63, rfl⟩ := ints_get hx63
  have HU := Lib.hid (uval_63 hlen hl63)
  have h63 := is01_get h01 hl63
  have HE := Lib.hid (hi_end l)
  have hb0 := hi_bound h01 0
  have HL := Lib.hid hlen
  have hc63' : w.cell? ⟨ad.block, ad.off + 63, none⟩ = some (.int .i64 x63) := by simpa [Addr.add] using hc63
  clear hlen hx63 hl63 hc63
  go_enter Try.func30, Try.ntmps30
  go_wp2_with fail
  go_loop [3, 4] (fun t i => ∃ j : Nat, j ≤ 63 ∧ i = .int .i64 ((j : Int) - 1) ∧ t = .int .i64 (hiB l j)) (fun _ i => (intOf i + 1).toNat)
  case atStart => exact ⟨63, by omega, by rfl, by rw [HE.out]⟩
  case round =>
    obtain ⟨j, hj, rfl, rfl⟩ := hrel
    by_cases hlt : 1 ≤ j
    · obtain ⟨m, rfl⟩ : ∃ m, j = m + 1 := ⟨j - 1, by omega⟩
      obtain ⟨ad', u, e, _, hx, hc⟩ := hr.at1 (k := m) (by omega)
      obtain rfl : ad = ad' := by injection e
      obtain ⟨x, hl, rfl⟩ := ints_get hx
      have h01x := is01_get h01 hl
      have HS := Lib.hid (hi_step (by omega) hl)
      have hb := hi_bound h01 (m + 1)
      have hb' := hi_bound h01 m
      have hs1 : x + 2 * hiB l (m + 1) ≤ hiB l m := by rw [HS.out]; omega
      clear hl hx e
      have hi1 : ((m + 1 : Nat) : Int) - 1 = m := by omega
      rw [hi1]
      clear hi1
      go_wp2_with fail
      go_round
      case rel => exact ⟨m, by omega, by go_num, by rw [HS.out, Int.add_comm]⟩
      case measure => simp [intOf]
    · obtain rfl : j = 0 := by omega
      rw [show ((0 : Nat) : Int) - 1 = -1 from rfl]
      rcases h63 with rfl | rfl
      · go_wp2_with fail
        go_ret
        exact ⟨ret_int (by rw [HU.out, wrap_in (by omega)]; omega), rfl⟩
      · go_wp2_with fail
        go_ret
        exact ⟨ret_int (by rw [HU.out]; unfold wrap64; omega), rfl⟩

/-! ### tompionref03.Add, Neg, Mul -/
/-- what is carried into bit k -/
def carry (x y : List Int) : Nat → Int
  | 0 => 0
  | k + 1 => (x.getD k 0 + y.getD k 0 + carry x y k) / 2
def sumTo (x y : List Int) (k : Nat) : List Int := (List.range k).map fun j => (x.getD j 0 + y.getD j 0 + carry x y j) % 2
theorem sumTo_succ (x y : List Int) (k : Nat) : sumTo x y (k + 1) = sumTo x y k ++ [(x.getD k 0 + y.getD k 0 + carry x y k) % 2] := by simp [sumTo, List.range_succ]
theorem getD_01 {l : List Int} (h : Is01 l) (k : Nat) : 0 ≤ l.getD k 0 ∧ l.getD k 0 ≤ 1 := by
  by_cases hk : k < l.length
  · have := h (l.getD k 0) (by simp [List.getD, hk])
    omega
  · simp [List.getD, hk]
theorem carry_01 {x y : List Int} (hx : Is01 x) (hy : Is01 y) (k : Nat) : 0 ≤ carry x y k ∧ carry x y k ≤ 1 := by
  induction k with
  | zero => simp [carry]
  | succ k ih =>
    have h1 := getD_01 hx k
    have h2 := getD_01 hy k
    simp only [carry]; omega
theorem is01_sum (x y : List Int) (k : Nat) : Is01 (sumTo x y k) := by
  intro z hz
  simp only [sumTo, List.mem_map] at hz
  obtain ⟨j, _, rfl⟩ := hz
  omega
theorem uval_take {l : List Int} {k : Nat} (hk : k < l.length) : uval (l.take (k + 1)) = uval (l.take k) + l.getD k 0 * pow2 k := by
  rw [List.take_add_one, List.getElem?_eq_getElem hk]
  simp only [Option.toList]
  rw [uval_snoc, List.length_take, Nat.min_eq_left (by omega)]
  simp [List.getD, hk]
theorem sum_inv (x y : List Int) (k : Nat) (hx : k ≤ x.length) (hy : k ≤ y.length) : uval (sumTo x y k) + carry x y k * pow2 k = uval (x.take k) + uval (y.take k) := by
  induction k with
  | zero => simp [sumTo, uval, carry]
  | succ k ih =>
    have ih := ih (by omega) (by omega)
    rw [sumTo_succ, uval_snoc, uval_take (by omega), uval_take (by omega)]
    have e : (sumTo x y k).length = k := by simp [sumTo]
    rw [e]
    generalize hs : x.getD k 0 + y.getD k 0 + carry x y k = s
    have hc : carry x y (k + 1) = s / 2 := by simp only [carry, hs]
    rw [hc]
    simp only [pow2]
    have e2 : s % 2 * pow2 k + s / 2 * (2 * pow2 k) = s * pow2 k := by
      rw [← Int.mul_assoc, ← Int.add_mul]; congr 1; omega
    have e3 : s * pow2 k = x.getD k 0 * pow2 k + y.getD k 0 * pow2 k + carry x y k * pow2 k := by rw [← hs, Int.add_mul, Int.add_mul]
    omega
theorem add_bits (a b : Int) : wrap64 (uval (sumTo (bitsTo a 64) (bitsTo b 64) 64)) = addZ a b := by
  have h := sum_inv (bitsTo a 64) (bitsTo b 64) 64 (by rw [bitsTo_len]; omega) (by rw [bitsTo_len]; omega)
  rw [List.take_of_length_le (by rw [bitsTo_len]; omega), List.take_of_length_le (by rw [bitsTo_len]; omega), pow2_64] at h
  have ha := uval_bits a 64
  have hb := uval_bits b 64
  rw [pow2_64] at ha hb
  unfold addZ
  generalize uval (bitsTo a 64) = ua at *
  generalize uval (bitsTo b 64) = ub at *
  generalize half a 64 = p at *
  generalize half b 64 = q at *
  generalize carry (bitsTo a 64) (bitsTo b 64) 64 = c at *
  generalize uval (sumTo (bitsTo a 64) (bitsTo b 64) 64) = s at *
  unfold wrap64; omega
set_option maxHeartbeats 2000000 in
theorem radd_any (a b : Int) (w : World) (ha : In a) (hb : In b) :
    Calls Try.prog 25 #[.int .i64 a, .int .i64 b] w fun e w' => e = .returned (.int .i64 (addZ a b)) ∧ Below w.heap.size w w' := by
  obtain ⟨i0, hi0, hz0, hz1, hz2⟩ := info_parts info_int
  have HF := Lib.hid (add_bits a b)
  have hx01 := is01_bits a 64
  have hy01 := is01_bits b 64
  have hs01 := is01_sum (bitsTo a 64) (bitsTo b 64) 64
  go_enter Try.func25, Try.ntmps25
  go_wp2_with fail
  refine (bits_any a _ ha).mono ?_
  rintro e w1 ⟨v1, rfl, ho1, hb1⟩
  obtain ⟨A1, c1, rfl, hc1, hm1, hr1⟩ := own_rd ho1
  go_wp2_with fail
  refine (bits_any b _ hb).mono ?_
  rintro e w2 ⟨v2, rfl, ho2, hb2⟩
  obtain ⟨A2, c2, rfl, hc2, hm2, hr2⟩ := own_rd ho2
  have hr1' := (hr1.below hb2).more hb2.size
  have hb12 : Below w.heap.size w w2 := hb1.trans (hb2.mono hb1.size)
  generalize hX : bitsTo a 64 = X at *
  generalize hY : bitsTo b 64 = Y at *
  clear hX hY ho1 ho2 hr1 hb1 hb2 ha hb hm1 hm2
  have hsz := hb12.size
  go_wp2_with fail
  go_loopw [7, 8, 9] (fun v t i wr => ∃ k : Nat, k ≤ 64 ∧ i = .int .i64 k ∧ t = .int .i64 (carry X Y k) ∧ wr.ownsRow w2.heap.size 3 1 v k (ints (sumTo X Y k)) ∧ Below w2.heap.size w2 wr) (fun _ _ i _ => 64 - (intOf i).toNat)
  case atStart => exact ⟨0, Nat.zero_le _, rfl, rfl, World.ownsRow_nil _ _ _ _, Below.refl _ _⟩
  case round =>
    obtain ⟨k, hk, rfl, rfl, hown, hbel⟩ := hrel
    have hc01 := carry_01 hx01 hy01 k
    by_cases hlt : k < 64
    · have HS := Lib.hid (sumTo_succ X Y k)
      have HC := Lib.hid (show carry X Y (k + 1) = (X.getD k 0 + Y.getD k 0 + carry X Y k) / 2 from rfl)
      obtain ⟨ad1, u1, rfl, hB1, hx1, hcell1⟩ := (hr1'.below hbel).at1 hlt
      obtain ⟨x1, hl1, rfl⟩ := ints_get hx1
      obtain ⟨ad2, u2, rfl, hB2, hx2, hcell2⟩ := (hr2.below hbel).at1 hlt
      obtain ⟨x2, hl2, rfl⟩ := ints_get hx2
      have g1 := is01_get hx01 hl1
      have g2 := is01_get hy01 hl2
      have e1 : X.getD k 0 = x1 := by simp [List.getD, hl1]
      have e2 : Y.getD k 0 = x2 := by simp [List.getD, hl2]
      rw [e1, e2] at HS HC
      have hsz2 := hbel.size
      clear hx1 hx2 hl1 hl2 e1 e2
      generalize carry X Y k = cc at *
      go_wp2_with fail
      have W1 : IntKind.i64.wrap (x1 + x2) = x1 + x2 := IntWalk.i64_in _ (by omega)
      have W2 : IntKind.i64.wrap (x1 + x2 + cc) = x1 + x2 + cc := IntWalk.i64_in _ (by omega)
      have W3 : 0 ≤ (k : Int) := by omega
      go_quiet (fail)
      clear W1 W2
      have hown1 := hown.drewN nq
      go_wp2_with (at_builtin; refine wpList_append_own _ rfl _ _ 34 rfl w2.heap.size 3 i0 (.int .i64 0) 1 8 Try.underlying34 hi0 hz0 hz1 hz2 rfl (by decide) _ _ _ rfl (hown1.alloc _) ⟨wr.heap.size, 0, none⟩ 1 1 [.int .i64 ((x1 + x2 + cc) % 2)] rfl rfl ?c1 ?c2 ?c3 ?c4 ?c5 ?_)
      case c1 => exact cell_one _ _ _
      case c2 => simp [Value.oneCell']
      case c3 => unfold maxLen; omega
      case c4 => omega
      case c5 => simp; omega
      intro v' w3 hown' hgrow _
      have hb3 : Below w2.heap.size w2 w3 := below_own ((below_drewN' hbel nq).alloc hsz2 _) (hown1.alloc _) hgrow (by simp; omega)
      have ho3 : w3.ownsRow w2.heap.size 3 1 v' (k + 1) (ints (sumTo X Y (k + 1))) := by rw [HS.out, ints_snoc]; exact hown'
      clear hown hbel hown' hgrow hown1
      go_wp2_with fail
      go_roundw
      case rel => exact ⟨k + 1, by omega, by go_num, by rw [HC.out], ho3, hb3⟩
      case measure => simp [intOf]; omega
    · obtain rfl : k = 64 := by omega
      obtain ⟨A3, c3, rfl, hc3, hm3, hr3⟩ := own_rd hown
      go_wp2_with fail
      refine (number_any A3 c3 _ _ _ hr3 hs01).mono ?_
      rintro e w3 ⟨rfl, rfl⟩
      go_wp2_with fail
      go_ret
      exact ⟨ret_int HF.out, hb12.trans (hbel.mono hsz)⟩
end Go.Proofs.Ytjifapbgelckkaa
