/-
  The contracts of tompionref03.Neg, Mul, high, less, take.
-/
import Derived.Test.YtjifapbgelckkaaRefBits
namespace Go.Proofs.Ytjifapbgelckkaa
open Go.RowKit Ar Z Bz

/-! ### Neg -/
def flipTo (x : List Int) (k : Nat) : List Int := (x.take k).map fun t => 1 - t
theorem flip_succ {x : List Int} {k : Nat} {t : Int} (h : x[k]? = some t) : flipTo x (k + 1) = flipTo x k ++ [1 - t] := by
  unfold flipTo; rw [List.take_add_one, h]; simp
theorem is01_flip {x : List Int} (h : Is01 x) (k : Nat) : Is01 (flipTo x k) := by
  intro z hz
  simp only [flipTo, List.mem_map] at hz
  obtain ⟨t, ht, rfl⟩ := hz
  have := h t (List.mem_of_mem_take ht)
  omega
theorem uval_flip (x : List Int) : uval (x.map fun t => 1 - t) + uval x = pow2 x.length - 1 := by
  induction x with
  | nil => simp [uval, pow2]
  | cons y x ih => simp only [List.map_cons, uval, List.length_cons, pow2]; omega
theorem neg_bits (a : Int) : addZ (wrap64 (uval (flipTo (bitsTo a 64) 64))) 1 = negZ a := by
  have h := uval_flip (bitsTo a 64)
  have e : flipTo (bitsTo a 64) 64 = (bitsTo a 64).map fun t => 1 - t := by
    unfold flipTo; rw [List.take_of_length_le (by rw [bitsTo_len]; omega)]
  rw [← e, bitsTo_len, pow2_64] at h
  have ha := uval_bits a 64
  rw [pow2_64] at ha
  unfold addZ negZ
  generalize uval (bitsTo a 64) = ua at *
  generalize half a 64 = p at *
  generalize uval (flipTo (bitsTo a 64) 64) = s at *
  unfold wrap64; omega
set_option maxHeartbeats 2000000 in
theorem rneg_any (a : Int) (w : World) (ha : In a) :
    Calls Try.prog 21 #[.int .i64 a] w fun e w' => e = .returned (.int .i64 (negZ a)) ∧ Below w.heap.size w w' := by
  obtain ⟨i0, hi0, hz0, hz1, hz2⟩ := info_parts info_int
  have HF := Lib.hid (neg_bits a)
  have hx01 := is01_bits a 64
  have hs01 := is01_flip hx01 64
  go_enter Try.func21, Try.ntmps21
  go_wp2_with fail
  refine (bits_any a _ ha).mono ?_
  rintro e w2 ⟨v1, rfl, ho1, hb12⟩
  obtain ⟨A1, c1, rfl, hc1, hm1, hr1⟩ := own_rd ho1
  generalize hX : bitsTo a 64 = X at *
  clear hX ho1 hm1 ha
  have hsz := hb12.size
  go_wp2_with fail
  go_loopw [4, 5] (fun v i wr => ∃ k : Nat, k ≤ 64 ∧ i = .int .i64 k ∧ wr.ownsRow w2.heap.size 3 1 v k (ints (flipTo X k)) ∧ Below w2.heap.size w2 wr) (fun _ i _ => 64 - (intOf i).toNat)
  case atStart => exact ⟨0, Nat.zero_le _, rfl, World.ownsRow_nil _ _ _ _, Below.refl _ _⟩
  case round =>
    obtain ⟨k, hk, rfl, hown, hbel⟩ := hrel
    by_cases hlt : k < 64
    · obtain ⟨ad1, u1, rfl, hB1, hx1, hcell1⟩ := (hr1.below hbel).at1 hlt
      obtain ⟨x1, hl1, rfl⟩ := ints_get hx1
      have g1 := is01_get hx01 hl1
      have HS := Lib.hid (flip_succ hl1)
      have hsz2 := hbel.size
      clear hx1 hl1
      go_wp2_with (at_builtin; refine wpList_append_own _ rfl _ _ 34 rfl w2.heap.size 3 i0 (.int .i64 0) 1 8 Try.underlying34 hi0 hz0 hz1 hz2 rfl (by decide) _ _ _ rfl (hown.alloc _) ⟨wr.heap.size, 0, none⟩ 1 1 [.int .i64 (1 - x1)] rfl rfl ?c1 ?c2 ?c3 ?c4 ?c5 ?_)
      case c1 => exact cell_one _ _ _
      case c2 => simp [Value.oneCell']
      case c3 => unfold maxLen; omega
      case c4 => omega
      case c5 => simp; omega
      intro v' w3 hown' hgrow _
      have hb3 : Below w2.heap.size w2 w3 := below_own (hbel.alloc hsz2 _) (hown.alloc _) hgrow (by simp; omega)
      have ho3 : w3.ownsRow w2.heap.size 3 1 v' (k + 1) (ints (flipTo X (k + 1))) := by rw [HS.out, ints_snoc]; exact hown'
      clear hown hbel hown' hgrow
      go_wp2_with fail
      go_roundw
      case rel => exact ⟨k + 1, by omega, by go_num, ho3, hb3⟩
      case measure => simp [intOf]; omega
    · obtain rfl : k = 64 := by omega
      obtain ⟨A3, c3, rfl, hc3, hm3, hr3⟩ := own_rd hown
      go_wp2_with fail
      refine (number_any A3 c3 _ _ _ hr3 hs01).mono ?_
      rintro e w3 ⟨rfl, rfl⟩
      go_wp2_with fail
      refine (radd_any _ 1 _ (wrap_lo _) (by unfold In; omega)).mono ?_
      rintro e w3 ⟨rfl, hb3⟩
      go_wp2_with fail
      go_ret
      exact ⟨ret_int HF.out, hb12.trans ((hbel.mono hsz).trans (hb3.mono (by have := hbel.size; omega)))⟩

/-! ### Mul -/
theorem mul_step (a u p : Int) : addZ (wrap64 (a * u)) (wrap64 (a * p)) = wrap64 (a * (u + p)) := by
  simp only [addZ, wrap_bmod, Int.bmod_add_bmod, Int.add_bmod_bmod, Int.mul_add]
theorem mul_end (a b : Int) : wrap64 (a * uval (bitsTo b 64)) = mulZ a b := by
  have hb := uval_bits b 64
  rw [pow2_64] at hb
  unfold mulZ
  have e : a * b = a * uval (bitsTo b 64) + (a * half b 64) * 18446744073709551616 := by
    conv => lhs; rw [hb]
    rw [Int.mul_add, Int.mul_assoc]
  rw [e, wrap_add_mul]
theorem pow_dbl (k : Nat) : pow2 (k + 1) = pow2 k + pow2 k := by simp only [pow2]; omega
set_option maxHeartbeats 2000000 in
theorem rmul_any (a b : Int) (w : World) (ha : In a) (hb : In b) :
    Calls Try.prog 26 #[.int .i64 a, .int .i64 b] w fun e w' => e = .returned (.int .i64 (mulZ a b)) ∧ Below w.heap.size w w' := by
  have HF := Lib.hid (mul_end a b)
  have hx01 := is01_bits b 64
  have hlen := bitsTo_len b 64
  go_enter Try.func26, Try.ntmps26
  go_wp2_with fail
  refine (bits_any b _ hb).mono ?_
  rintro e w2 ⟨v1, rfl, ho1, hb12⟩
  obtain ⟨A1, c1, rfl, hc1, hm1, hr1⟩ := own_rd ho1
  generalize hX : bitsTo b 64 = X at *
  have HL := Lib.hid hlen
  clear hX ho1 hm1 hb hlen
  have hsz := hb12.size
  go_wp2_with fail
  go_loopw [0, 6, 7] (fun t s i wr => ∃ k : Nat, k ≤ 64 ∧ i = .int .i64 k ∧ t = .int .i64 (wrap64 (a * pow2 k)) ∧ s = .int .i64 (wrap64 (a * uval (X.take k))) ∧ Below w2.heap.size w2 wr) (fun _ _ i _ => 64 - (intOf i).toNat)
  case atStart => exact ⟨0, Nat.zero_le _, rfl, by simp only [pow2, Int.mul_one]; rw [wrap_in ha], by simp only [List.take_zero, uval, Int.mul_zero]; rw [wrap_in (by omega)], Below.refl _ _⟩
  case round =>
    obtain ⟨k, hk, rfl, rfl, rfl, hbel⟩ := hrel
    by_cases hlt : k < 64
    · obtain ⟨ad1, u1, rfl, hB1, hx1, hcell1⟩ := (hr1.below hbel).at1 hlt
      obtain ⟨x1, hl1, rfl⟩ := ints_get hx1
      have g1 := is01_get hx01 hl1
      have hu : uval (X.take (k + 1)) = uval (X.take k) + x1 * pow2 k := by
        rw [uval_take (by rw [HL.out]; exact hlt)]; simp [List.getD, hl1]
      have HS := Lib.hid hu
      have HD := Lib.hid (mul_step a (pow2 k) (pow2 k))
      have HM := Lib.hid (mul_step a (uval (X.take k)) (pow2 k))
      have HP := Lib.hid (pow_dbl k)
      have hsz2 := hbel.size
      have hin := wrap_lo (a * pow2 k)
      have hin2 := wrap_lo (a * uval (X.take k))
      clear hx1 hl1 hu
      generalize wrap64 (a * pow2 k) = P at *
      generalize hU : wrap64 (a * uval (X.take k)) = U at *
      have HU := Lib.hid hU
      clear hU
      rcases g1 with rfl | rfl
      · go_wp2_with fail
        refine (radd_any P P _ hin hin).mono ?_
        rintro e w3 ⟨rfl, hb3⟩
        go_wp2_with fail
        go_roundw
        case rel => exact ⟨k + 1, by omega, by go_num, by rw [HD.out, ← HP.out], by rw [HS.out, Int.zero_mul, Int.add_zero, HU.out], hbel.trans (hb3.mono hsz2)⟩
        case measure => simp [intOf]; omega
      · go_wp2_with fail
        refine (radd_any U P _ hin2 hin).mono ?_
        rintro e w3 ⟨rfl, hb3⟩
        go_wp2_with fail
        refine (radd_any P P _ hin hin).mono ?_
        rintro e w4 ⟨rfl, hb4⟩
        go_wp2_with fail
        go_roundw
        case rel => exact ⟨k + 1, by omega, by go_num, by rw [HD.out, ← HP.out], by rw [HM.out, HS.out, Int.one_mul], hbel.trans ((hb3.trans (hb4.mono hb3.size)).mono hsz2)⟩
        case measure => simp [intOf]; omega
    · obtain rfl : k = 64 := by omega
      go_wp2_with fail
      go_ret
      exact ⟨ret_int (by rw [← HF.out, List.take_of_length_le (by rw [HL.out]; omega)]), hb12.trans (hbel.mono hsz)⟩

/-! ### high, less, take: the highest first -/
def hval : List Int → Int
  | [] => 0
  | x :: l => x * pow2 l.length + hval l
theorem hval_snoc (l : List Int) (x : Int) : hval (l ++ [x]) = 2 * hval l + x := by
  induction l with
  | nil => simp [hval, pow2]
  | cons y l ih =>
    simp only [List.cons_append, hval, ih, List.length_append, List.length_cons, List.length_nil]
    simp only [pow2]
    rw [Int.mul_add, ← Int.mul_assoc, Int.mul_comm y 2, Int.mul_assoc]; omega
theorem hval_bound {l : List Int} (h : Is01 l) : 0 ≤ hval l ∧ hval l < pow2 l.length := by
  induction l with
  | nil => simp [hval, pow2]
  | cons y l ih =>
    have := ih (fun x hx => h x (List.mem_cons_of_mem _ hx))
    have hp := pow2_pos l.length
    rcases h y (by simp) with rfl | rfl
    · simp only [hval, List.length_cons, pow2, Int.zero_mul]; omega
    · simp only [hval, List.length_cons, pow2, Int.one_mul]; omega
theorem hval_reverse (l : List Int) : hval l.reverse = uval l := by
  induction l with
  | nil => rfl
  | cons y l ih => simp only [List.reverse_cons, hval_snoc, ih, uval]; omega

def highL (a : Int) : List Int := 0 :: (bitsTo (if a < 0 then negZ a else a) 64).reverse
theorem highL_len (a : Int) : (highL a).length = 65 := by simp [highL, bitsTo_len]
theorem is01_high (a : Int) : Is01 (highL a) := by
  intro x hx
  rcases List.mem_cons.1 hx with rfl | hx
  · exact .inl rfl
  · exact is01_bits _ _ x (List.mem_reverse.1 hx)
theorem hval_high {a : Int} (h : In a) : hval (highL a) = a.natAbs := by
  unfold highL
  simp only [hval, Int.zero_mul, Int.zero_add, hval_reverse]
  have hb := uval_bound (is01_bits (if a < 0 then negZ a else a) 64)
  rw [bitsTo_len, pow2_64] at hb
  have e := uval_bits (if a < 0 then negZ a else a) 64
  rw [pow2_64] at e
  generalize uval (bitsTo (if a < 0 then negZ a else a) 64) = u at *
  generalize half (if a < 0 then negZ a else a) 64 = q at *
  unfold In at h
  by_cases hn : a < 0
  · rw [if_pos hn] at e
    unfold negZ wrap64 at e; omega
  · rw [if_neg hn] at e; omega
theorem rev_drop {X : List Int} {m : Nat} {x : Int} (h : X[m]? = some x) : 0 :: (X.drop m).reverse = (0 :: (X.drop (m + 1)).reverse) ++ [x] := by
  have hl : m < X.length := (List.getElem?_eq_some_iff.1 h).1
  have hx : X[m] = x := (List.getElem?_eq_some_iff.1 h).2
  rw [List.drop_eq_getElem_cons hl, hx]; simp
end Go.Proofs.Ytjifapbgelckkaa
