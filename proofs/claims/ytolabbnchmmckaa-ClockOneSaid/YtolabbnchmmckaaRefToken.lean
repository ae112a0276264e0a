/-
  The contracts of package tompionref11: Digit, Part, Word, Name.
-/
import Derived.Test.YtolabbnchmmckaaToken
namespace Go.Proofs.Ytolabbnchmmckaa
open Go.RowKit Nm

theorem rdigit_any (c : UInt8) (w : World) :
    Calls Try.prog 130 #[.int .u8 c.toNat] w fun e w' => e = .returned (.bool (digitB c.toNat)) ∧ w = w' := by
  go_enter Try.func130, Try.ntmps130
  go_wp2
  all_goals (go_ret; refine ⟨ret_bool ?_, rfl⟩)
  all_goals (rw [Bool.eq_iff_iff]; simp [digitB]; omega)
theorem rpart_any (c : UInt8) (w : World) :
    Calls Try.prog 129 #[.int .u8 c.toNat] w fun e w' => e = .returned (.bool (partB c.toNat)) ∧ w = w' := by
  go_enter Try.func129, Try.ntmps129
  go_wp2
  all_goals (go_ret; refine ⟨ret_bool ?_, rfl⟩)
  all_goals (rw [Bool.eq_iff_iff]; simp [partB, digitB]; omega)
theorem rword_no {l : List UInt8} (h : wordB l = true) : ∃ i, i + (l.length + 2) ≤ 93 ∧ (wtext.drop i).take (l.length + 2) = 32 :: (l ++ [32]) := in_of_word h
theorem extract_wtext (k n : Nat) : ((⟨wtext.toArray⟩ : ByteArray).extract k (k + n)).toList = (wtext.drop k).take n := by
  rw [ByteArray.toList_eq]; simp [ByteArray.data_extract]
theorem in_of_eq {s t : ByteArray} (k : Nat) (h : k + t.size ≤ 93) (hz : t.size = s.size + 2) (ht : t.toList = 32 :: (s.toList ++ [32])) (he : (((⟨wtext.toArray⟩ : ByteArray).extract k (k + t.size)).toList == t.toList) = true) : inText s.toList := by
  have he' := beq_iff_eq.1 he
  rw [extract_wtext, ht, hz, ← len_toList] at he'
  rw [hz, ← len_toList] at h
  exact ⟨k, h, he'⟩
theorem ne_of_neq {s t : ByteArray} (k : Nat) (_h : k + t.size ≤ 93) (hz : t.size = s.size + 2) (ht : t.toList = 32 :: (s.toList ++ [32])) (he : (((⟨wtext.toArray⟩ : ByteArray).extract k (k + t.size)).toList == t.toList) = false) : (wtext.drop k).take (s.toList.length + 2) ≠ 32 :: (s.toList ++ [32]) := by
  have he' := beq_eq_false_iff_ne.1 he
  rw [extract_wtext, ht, hz, ← len_toList] at he'
  exact he'
set_option maxHeartbeats 1000000 in
theorem rword_any (s : ByteArray) (w : World) (hs : s.size ≤ 1000000) :
    Calls Try.prog 131 #[.string s] w fun e w' => e = .returned (.bool (wordB s.toList)) ∧ w = w' := by
  go_enter Try.func131, Try.ntmps131
  go_wp2_with fail
  go_loop [3] (fun i => ∃ k : Nat, k ≤ s.size ∧ i = .int .i64 k ∧ Hid (∀ j, j < k → ∀ c, s.toList[j]? = some c → c ≠ 32)) (fun i => s.size - (intOf i).toNat)
  case atStart => exact ⟨0, Nat.zero_le _, rfl, fun j h => absurd h (by omega)⟩
  case round =>
    obtain ⟨k, hk, rfl, HN⟩ := hrel
    by_cases hlt : k < s.size
    · have HB := Lib.hid (byte_at s k hlt)
      generalize hc : s[k] = c at *
      have HC := Lib.hid hc
      clear hc
      by_cases h32 : c = 32
      · subst h32
        have HF := Lib.hid (show wordB s.toList = false from by
          cases hw : wordB s.toList with
          | false => rfl
          | true => exact absurd rfl (word_blank hw 32 (List.mem_of_getElem? HB.out)))
        have HC' := HC.out
        go_wp2_with fail
        go_ret
        exact ⟨ret_bool HF.out.symm, rfl⟩
      · have HC' := HC.out
        have hb : ((c.toNat : Int) == 32) = false := by
          rw [beq_eq_false_iff_ne]; intro e; apply h32; exact UInt8.toNat_inj.1 (by have : (32 : UInt8).toNat = 32 := rfl; omega)
        have H32 := Lib.hid h32
        clear h32
        go_wp2_with fail
        go_round
        case rel => exact ⟨k + 1, by omega, by go_num, upto_succ HN.out (fun c' hc' => by rw [HB.out] at hc'; injection hc' with hc'; rw [← hc']; exact H32.out)⟩
        case measure => simp [intOf]; omega
    · obtain rfl : k = s.size := by omega
      have HBl := Lib.hid (show ∀ c ∈ s.toList, c ≠ 32 from fun c hc => by
        obtain ⟨j, hj⟩ := List.getElem?_of_mem hc
        exact HN.out j (by rw [← len_toList]; exact (List.getElem?_eq_some_iff.1 hj).1) c hj)
      go_wp2_with fail
      have hz : ((⟨#[32]⟩ : ByteArray) ++ s ++ ⟨#[32]⟩).size = s.size + 2 := by simp [ByteArray.size_append]; show 1 + s.size + 1 = _; omega
      have ht : ((⟨#[32]⟩ : ByteArray) ++ s ++ ⟨#[32]⟩).toList = 32 :: (s.toList ++ [32]) := by simp [ByteArray.toList_eq]
      generalize ((⟨#[32]⟩ : ByteArray) ++ s ++ ⟨#[32]⟩) = t at *
      have HZ := Lib.hid hz
      have HT := Lib.hid ht
      have hz' : t.size ≤ 1000002 := by omega
      have hz0 : 2 ≤ t.size := by omega
      clear hz ht HN
      go_loop [5] (fun i => ∃ k : Nat, k ≤ 93 ∧ i = .int .i64 k ∧ Hid (∀ j, j < k → j + (s.toList.length + 2) ≤ 93 → (wtext.drop j).take (s.toList.length + 2) ≠ 32 :: (s.toList ++ [32]))) (fun i => 93 - (intOf i).toNat)
      case atStart => exact ⟨0, Nat.zero_le _, rfl, fun j h => absurd h (by omega)⟩
      case round =>
        obtain ⟨k, hk, rfl, HN⟩ := hrel
        by_cases hlt : k + t.size ≤ 93
        · have hlt' : (k : Int) + (t.size : Int) ≤ 93 := by omega
          go_wp2_with fail
          · have he : (((⟨wtext.toArray⟩ : ByteArray).extract k (k + t.size)).toList == t.toList) = true := by assumption
            have HI : Hid (inText s.toList) := in_of_eq k hlt HZ.out HT.out he
            have HF := Lib.hid (show wordB s.toList = !s.toList.isEmpty from by
              by_cases h0 : s.toList = []
              · rw [h0]; decide +kernel
              · rw [word_of_in HI.out HBl.out h0]; simp [h0])
            go_ret
            exact ⟨ret_bool HF.out.symm, rfl⟩
          · have he : (((⟨wtext.toArray⟩ : ByteArray).extract k (k + t.size)).toList == t.toList) = false := by assumption
            go_round
            case rel => exact ⟨k + 1, by omega, by go_num, upto_succ HN.out (fun _ => ne_of_neq k hlt HZ.out HT.out he)⟩
            case measure => simp [intOf]; omega
        · have HF := Lib.hid (show wordB s.toList = false from by
            cases hw : wordB s.toList with
            | false => rfl
            | true =>
              obtain ⟨i, hi, he⟩ := rword_no hw
              have := len_toList s
              have := HZ.out
              exact absurd he (HN.out i (by omega) hi))
          have hlt' : ¬ (k : Int) + (t.size : Int) ≤ 93 := by omega
          go_wp2_with fail
          go_ret
          exact ⟨ret_bool HF.out.symm, rfl⟩
theorem rname_no {l : List UInt8} {k : Nat} {c : UInt8} (h : l[k]? = some c) (hc : partB c.toNat = false) : nameB l = false := by
  cases hn : namedB l with
  | false => simp [nameB, hn]
  | true => have := (named_iff l).1 hn; rw [this.1 k c h] at hc; cases hc
theorem rname_yes {s : ByteArray} (h : ∀ j, j < s.size → ∀ c, s.toList[j]? = some c → partB c.toNat = true) :
    nameB s.toList = (!s.toList.isEmpty && (decide (s.size ≤ 20) && (!digitB (s.toList.getD 0 0).toNat && !wordB s.toList))) := by
  unfold nameB
  cases hw : wordB s.toList
  · simp only [Bool.not_false, Bool.and_true]
    rw [Bool.eq_iff_iff, named_iff]
    have hl := len_toList s
    constructor
    · rintro ⟨_, h2, h3, h4⟩
      have he : s.toList.isEmpty = false := by simpa using h2
      rw [he]
      have h20 : decide (s.size ≤ 20) = true := by simp; omega
      rw [h20]
      cases hs : s.toList with
      | nil => exact absurd hs h2
      | cons c r => rw [hs] at h4; simp [h4 c rfl]
    · intro h'
      simp only [Bool.and_eq_true, Bool.not_eq_true', List.isEmpty_eq_false_iff, decide_eq_true_eq] at h'
      refine ⟨fun i c hc => h i (by rw [← hl]; exact (List.getElem?_eq_some_iff.1 hc).1) c hc, h'.1, by omega, fun c hc => ?_⟩
      have := h'.2.2
      rwa [List.getD_eq_getElem?_getD, hc] at this
  · simp
set_option maxHeartbeats 1000000 in
theorem rname_any (s : ByteArray) (w : World) (hs : s.size ≤ 1000000) :
    Calls Try.prog 98 #[.string s] w fun e w' => e = .returned (.bool (nameB s.toList)) ∧ w = w' := by
  go_enter Try.func98, Try.ntmps98
  go_wp2_with fail
  go_loop [3] (fun i => ∃ k : Nat, k ≤ s.size ∧ i = .int .i64 k ∧ Hid (∀ j, j < k → ∀ c, s.toList[j]? = some c → partB c.toNat = true)) (fun i => s.size - (intOf i).toNat)
  case atStart => exact ⟨0, Nat.zero_le _, rfl, fun j h => absurd h (by omega)⟩
  case round =>
    obtain ⟨k, hk, rfl, HN⟩ := hrel
    by_cases hlt : k < s.size
    · have HB := Lib.hid (byte_at s k hlt)
      go_wp2_with fail
      refine (rpart_any s[k] _).mono ?_
      rintro e w' ⟨rfl, rfl⟩
      generalize hL : partB s[k].toNat = L at *
      have HL := Lib.hid hL
      clear hL
      cases L
      · go_wp2_with fail
        go_ret
        exact ⟨ret_bool (rname_no HB.out HL.out).symm, rfl⟩
      · go_wp2_with fail
        go_round
        case rel => exact ⟨k + 1, by omega, by go_num, upto_succ HN.out (fun c hc => by rw [HB.out] at hc; injection hc with hc; rw [← hc]; exact HL.out)⟩
        case measure => simp [intOf]; omega
    · obtain rfl : k = s.size := by omega
      have HF := Lib.hid (rname_yes HN.out)
      by_cases h0 : s.size = 0
      · have hl := len_toList s
        have he : s.toList.isEmpty = true := by
          cases h : s.toList with
          | nil => rfl
          | cons c r => rw [h] at hl; simp at hl; omega
        rw [he] at HF
        clear hl
        have h0' : (s.size : Int) ≤ 20 := by omega
        clear h0
        go_wp2_with fail
        go_ret
        exact ⟨ret_bool HF.out.symm, rfl⟩
      · have hl := len_toList s
        have he : s.toList.isEmpty = false := by
          cases h : s.toList with
          | nil => rw [h] at hl; simp at hl; omega
          | cons c r => rfl
        have h0p : 0 < s.size := by omega
        have HB := Lib.hid (show s.toList.getD 0 0 = s[0] from by rw [List.getD_eq_getElem?_getD, byte_at s 0 h0p]; rfl)
        rw [he] at HF
        clear hl h0 hlt
        by_cases h20 : s.size ≤ 20
        · have h20' : decide ((s.size : Int) ≤ 20) = true := by simp; omega
          have h20'' : decide (s.size ≤ 20) = true := by simp; omega
          rw [h20'', HB.out] at HF
          clear h20''
          go_wp2_with fail
          refine (rdigit_any s[0] _).mono ?_
          rintro e w' ⟨rfl, rfl⟩
          generalize digitB s[0].toNat = D at *
          cases D
          · go_wp2_with fail
            refine (rword_any s _ hs).mono ?_
            rintro e w' ⟨rfl, rfl⟩
            go_wp2_with fail
            go_ret
            exact ⟨ret_bool HF.out.symm, rfl⟩
          · go_wp2_with fail
            go_ret
            exact ⟨ret_bool HF.out.symm, rfl⟩
        · have h20' : decide ((s.size : Int) ≤ 20) = false := by simp; omega
          have h20'' : decide (s.size ≤ 20) = false := by simp; omega
          rw [h20''] at HF
          clear h20'' h20
          go_wp2_with fail
          go_ret
          exact ⟨ret_bool HF.out.symm, rfl⟩
end Go.Proofs.Ytolabbnchmmckaa
