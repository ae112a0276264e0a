/-
  The contracts of tompionref03.high, less, take.
-/
import Derived.Test.YtjifapbgelckkaaRefArith
namespace Go.Proofs.Ytjifapbgelckkaa
open Go.RowKit Ar Z Bz

set_option maxHeartbeats 4000000 in
theorem high_any (a : Int) (w : World) (ha : In a) :
    Calls Try.prog 31 #[.int .i64 a] w fun e w' => ∃ v, e = .returned v ∧ w'.ownsRow w.heap.size 3 1 v 65 (ints (highL a)) ∧ Below w.heap.size w w' := by
  obtain ⟨i0, hi0, hz0, hz1, hz2⟩ := info_parts info_int
  have HF := Lib.hid (show highL a = 0 :: (bitsTo (if a < 0 then negZ a else a) 64).reverse from rfl)
  have HW : ∀ (b : Int) (w1 : World), In b → Below w.heap.size w w1 → (if a < 0 then negZ a else a) = b → Calls Try.prog 29 #[.int .i64 b] w1 fun e w' => ∃ v, e = .returned v ∧ w'.ownsRow w1.heap.size 3 1 v 64 (ints (bitsTo b 64)) ∧ Below w1.heap.size w1 w' ∧ Below w.heap.size w w' ∧ highL a = 0 :: (bitsTo b 64).reverse :=
    fun b w1 hb h1 e => (bits_any b w1 hb).mono fun _ _ ⟨v, h, ho, hbb⟩ => ⟨v, h, ho, hbb, h1.trans (hbb.mono h1.size), by rw [HF.out, e]⟩
  have HW' := Lib.hid HW
  clear HW HF
  by_cases hn : a < 0
  · go_enter Try.func31, Try.ntmps31
    go_wp2_with fail
    refine (rneg_any a _ ha).mono ?_
    rintro e w1 ⟨rfl, hb1⟩
    go_wp2_with fail
    refine (HW'.out (negZ a) w1 (in_neg a) hb1 (if_pos hn)).mono ?_
    generalize negZ a = b
    rintro e w2 ⟨v1, rfl, ho1, hb12, hb2, hF⟩
    obtain ⟨A1, c1, rfl, hc1, hm1, hr1⟩ := own_rd ho1
    have HF := Lib.hid hF
    have hlen := bitsTo_len b 64
    generalize bitsTo b 64 = X at *
    have HL := Lib.hid hlen
    clear ho1 hm1 ha hF hlen hb12 hb1 hn HW'
    have hsz := hb2.size
    go_wp2_with fail
    go_loopw [4, 5] (fun v i wr => ∃ j q : Nat, q + j = 65 ∧ 1 ≤ q ∧ i = .int .i64 ((j : Int) - 1) ∧ wr.ownsRow w2.heap.size 3 1 v q (ints (0 :: (X.drop j).reverse)) ∧ Below w2.heap.size w2 wr) (fun _ i _ => (intOf i + 1).toNat)
    case atStart => exact ⟨64, 1, by omega, by omega, by rfl, by rw [List.drop_of_length_le (by rw [HL.out]; omega)]; exact World.ownsRow_lit _ _ 1 (Nat.le_refl _) (by unfold maxLen; omega) rfl, (Below.refl _ _).alloc (Nat.le_refl _) _⟩
    case round =>
      obtain ⟨j, q, hj, hq, rfl, hown, hbel⟩ := hrel
      by_cases hlt : 1 ≤ j
      · obtain ⟨m, rfl⟩ : ∃ m, j = m + 1 := ⟨j - 1, by omega⟩
        obtain ⟨ad1, u1, rfl, hB1, hx1, hcell1⟩ := (hr1.below hbel).at1 (k := m) (by omega)
        obtain ⟨x1, hl1, rfl⟩ := ints_get hx1
        have HS := Lib.hid (rev_drop hl1)
        have hsz2 := hbel.size
        clear hx1 hl1
        rw [show ((m + 1 : Nat) : Int) - 1 = m from by omega]
        go_wp2_with (at_builtin; refine wpList_append_own _ rfl _ _ 34 rfl w2.heap.size 3 i0 (.int .i64 0) 1 8 Try.underlying34 hi0 hz0 hz1 hz2 rfl (by decide) _ _ _ rfl (hown.alloc _) ⟨wr.heap.size, 0, none⟩ 1 1 [.int .i64 x1] rfl rfl ?c1 ?c2 ?c3 ?c4 ?c5 ?_)
        case c1 => exact cell_one _ _ _
        case c2 => simp [Value.oneCell']
        case c3 => unfold maxLen; omega
        case c4 => omega
        case c5 => simp; omega
        intro v' w3 hown' hgrow _
        have hb3 : Below w2.heap.size w2 w3 := below_own (hbel.alloc hsz2 _) (hown.alloc _) hgrow (by simp; omega)
        have ho3 : w3.ownsRow w2.heap.size 3 1 v' (q + 1) (ints (0 :: (X.drop m).reverse)) := by
          rw [HS.out, ints_snoc]; exact hown'
        clear hown hbel hown' hgrow
        go_wp2_with fail
        go_roundw
        case rel => exact ⟨m, q + 1, by omega, by omega, by go_num, ho3, hb3⟩
        case measure => simp [intOf]
      · obtain rfl : j = 0 := by omega
        rw [show ((0 : Nat) : Int) - 1 = -1 from rfl]
        obtain rfl : q = 65 := by omega
        have hfin : wr.ownsRow w.heap.size 3 1 u4 65 (ints (highL a)) := by rw [HF.out]; exact own_base hown hsz
        clear hown hj hlt
        go_wp2_with fail
        go_ret
        exact ⟨_, rfl, hfin, hb2.trans (hbel.mono hsz)⟩
  · go_enter Try.func31, Try.ntmps31
    go_wp2_with fail
    refine (HW'.out a w ha (Below.refl _ _) (if_neg (by omega))).mono ?_
    generalize hab : bitsTo a 64 = X0
    rintro e w2 ⟨v1, rfl, ho1, hb12, hb2, hF⟩
    obtain ⟨A1, c1, rfl, hc1, hm1, hr1⟩ := own_rd ho1
    subst hab
    have HF := Lib.hid hF
    have hlen := bitsTo_len a 64
    generalize bitsTo a 64 = X at *
    have HL := Lib.hid hlen
    clear ho1 hm1 ha hF hlen hb12 hn HW'
    have hsz := hb2.size
    go_wp2_with fail
    go_loopw [4, 5] (fun v i wr => ∃ j q : Nat, q + j = 65 ∧ 1 ≤ q ∧ i = .int .i64 ((j : Int) - 1) ∧ wr.ownsRow w2.heap.size 3 1 v q (ints (0 :: (X.drop j).reverse)) ∧ Below w2.heap.size w2 wr) (fun _ i _ => (intOf i + 1).toNat)
    case atStart => exact ⟨64, 1, by omega, by omega, by rfl, by rw [List.drop_of_length_le (by rw [HL.out]; omega)]; exact World.ownsRow_lit _ _ 1 (Nat.le_refl _) (by unfold maxLen; omega) rfl, (Below.refl _ _).alloc (Nat.le_refl _) _⟩
    case round =>
      obtain ⟨j, q, hj, hq, rfl, hown, hbel⟩ := hrel
      by_cases hlt : 1 ≤ j
      · obtain ⟨m, rfl⟩ : ∃ m, j = m + 1 := ⟨j - 1, by omega⟩
        obtain ⟨ad1, u1, rfl, hB1, hx1, hcell1⟩ := (hr1.below hbel).at1 (k := m) (by omega)
        obtain ⟨x1, hl1, rfl⟩ := ints_get hx1
        have HS := Lib.hid (rev_drop hl1)
        have hsz2 := hbel.size
        clear hx1 hl1
        rw [show ((m + 1 : Nat) : Int) - 1 = m from by omega]
        go_wp2_with (at_builtin; refine wpList_append_own _ rfl _ _ 34 rfl w2.heap.size 3 i0 (.int .i64 0) 1 8 Try.underlying34 hi0 hz0 hz1 hz2 rfl (by decide) _ _ _ rfl (hown.alloc _) ⟨wr.heap.size, 0, none⟩ 1 1 [.int .i64 x1] rfl rfl ?c1 ?c2 ?c3 ?c4 ?c5 ?_)
        case c1 => exact cell_one _ _ _
        case c2 => simp [Value.oneCell']
        case c3 => unfold maxLen; omega
        case c4 => omega
        case c5 => simp; omega
        intro v' w3 hown' hgrow _
        have hb3 : Below w2.heap.size w2 w3 := below_own (hbel.alloc hsz2 _) (hown.alloc _) hgrow (by simp; omega)
        have ho3 : w3.ownsRow w2.heap.size 3 1 v' (q + 1) (ints (0 :: (X.drop m).reverse)) := by
          rw [HS.out, ints_snoc]; exact hown'
        clear hown hbel hown' hgrow
        go_wp2_with fail
        go_roundw
        case rel => exact ⟨m, q + 1, by omega, by omega, by go_num, ho3, hb3⟩
        case measure => simp [intOf]
      · obtain rfl : j = 0 := by omega
        rw [show ((0 : Nat) : Int) - 1 = -1 from rfl]
        obtain rfl : q = 65 := by omega
        have hfin : wr.ownsRow w.heap.size 3 1 u4 65 (ints (highL a)) := by rw [HF.out]; exact own_base hown hsz
        clear hown hj hlt
        go_wp2_with fail
        go_ret
        exact ⟨_, rfl, hfin, hb2.trans (hbel.mono hsz)⟩
end Go.Proofs.Ytjifapbgelckkaa
