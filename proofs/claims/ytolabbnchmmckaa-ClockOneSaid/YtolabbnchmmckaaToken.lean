/-
  The contracts of package token: letter, digit, named, words, Word, Name.
-/
import Derived.Test.YtolabbnchmmckaaMem
import Derived.Test.YtolabbnchmmckaaNm
import Derived.Outline
import Derived.WalkLawsBesides
namespace Go.Proofs.Ytolabbnchmmckaa
open Go.RowKit Nm

theorem byte_cast (c : UInt8) (k : Nat) : decide ((k : Int) ≤ (c.toNat : Int)) = decide (k ≤ c.toNat) := by simp
theorem letter_any (c : UInt8) (w : World) :
    Calls Try.prog 146 #[.int .u8 c.toNat] w fun e w' => e = .returned (.bool (letterB c.toNat)) ∧ w = w' := by
  go_enter Try.func146, Try.ntmps146
  go_wp2
  all_goals (go_ret; refine ⟨ret_bool ?_, rfl⟩)
  all_goals (rw [Bool.eq_iff_iff]; simp [letterB]; omega)
theorem digit_any (c : UInt8) (w : World) :
    Calls Try.prog 147 #[.int .u8 c.toNat] w fun e w' => e = .returned (.bool (digitB c.toNat)) ∧ w = w' := by
  go_enter Try.func147, Try.ntmps147
  go_wp2
  all_goals (go_ret; refine ⟨ret_bool ?_, rfl⟩)
  all_goals (rw [Bool.eq_iff_iff]; simp [digitB]; omega)
theorem words_any (w : World) :
    Calls Try.prog 148 #[] w fun e w' => e = .returned (.slice (some ⟨w.heap.size, 0, none⟩) 20 20) ∧ w' = w.alloc (.cells (words.map fun l => Value.string ⟨l.toArray⟩).toArray 9) := by
  go_enter Try.func148, Try.ntmps148
  go_wp2
  go_ret
  exact ⟨rfl, rfl⟩
/-- the cells of the words -/
theorem words_cell (w : World) (k : Nat) (hk : k < 20) : ∃ l, words[k]? = some l ∧ (w.alloc (.cells (words.map fun l => Value.string ⟨l.toArray⟩).toArray 9)).cell? ⟨w.heap.size, k, none⟩ = some (.string ⟨l.toArray⟩) := by
  have hl : words.length = 20 := rfl
  refine ⟨words[k]'(by omega), List.getElem?_eq_getElem (by omega), ?_⟩
  rw [cell_of_row _ w.heap.size k _ _ (0, 0) (heap_alloc_new w _), List.getElem?_toArray, List.getElem?_map, List.getElem?_eq_getElem (by omega)]
  rfl
theorem word_none {l : List UInt8} (h : ∀ (j : Nat) m, words[j]? = some m → (l == m) = false) : wordB l = false := by
  simp only [wordB, List.contains_eq_any_beq, List.any_eq_false]
  intro m hl e
  obtain ⟨j, hj⟩ := List.getElem?_of_mem hl
  rw [h j m hj] at e; cases e
theorem word_some {l m : List UInt8} {j : Nat} (h : words[j]? = some m) (he : (l == m) = true) : wordB l = true := by
  simp only [wordB, List.contains_eq_any_beq, List.any_eq_true]
  exact ⟨m, List.mem_of_getElem? h, he⟩
theorem upto_succ {k : Nat} {P : Nat → Prop} (h : ∀ j, j < k → P j) (hk : P k) : ∀ j, j < k + 1 → P j := fun j hj => by
  rcases Nat.lt_or_ge j k with h1 | h1
  · exact h j h1
  · obtain rfl : j = k := by omega
    exact hk
set_option maxHeartbeats 1000000 in
theorem word_any (s : ByteArray) (w : World) :
    Calls Try.prog 142 #[.string s] w fun e w' => e = .returned (.bool (wordB s.toList)) ∧ Below w.heap.size w w' := by
  go_enter Try.func142, Try.ntmps142
  go_wp2_with (go_at_call 148; refine (words_any _).mono ?_; rintro e w' ⟨rfl, rfl⟩)
  go_loop [7] (fun i => ∃ k : Nat, k ≤ 20 ∧ i = .int .i64 k ∧ Hid (∀ j, j < k → ∀ m, words[j]? = some m → (s.toList == m) = false)) (fun i => 20 - (intOf i).toNat)
  case atStart => exact ⟨0, Nat.zero_le _, rfl, fun j h => absurd h (by omega)⟩
  case round =>
    obtain ⟨k, hk, rfl, HN⟩ := hrel
    by_cases hlt : k < 20
    · obtain ⟨l, hl, hc⟩ := words_cell w k hlt
      have hB : Below w.heap.size w (w.alloc (.cells (words.map fun l => Value.string ⟨l.toArray⟩).toArray 9)) := (Below.refl _ _).alloc (Nat.le_refl _) _
      generalize (w.alloc (.cells (words.map fun l => Value.string ⟨l.toArray⟩).toArray 9)) = W at *
      have HL := Lib.hid hl
      clear hl
      go_wp2_with fail
      · go_ret
        have he : (s.toList == l) = true := by assumption
        exact ⟨ret_bool (word_some HL.out he).symm, hB⟩
      · have he : (s.toList == l) = false := by assumption
        go_round
        case rel => exact ⟨k + 1, by omega, by go_num, upto_succ HN.out (fun m hm => by rw [HL.out] at hm; injection hm with hm; rw [← hm]; exact he)⟩
        case measure => simp [intOf]; omega
    · have HF := Lib.hid (word_none (l := s.toList) (fun j m hm => HN.out j (by have := (List.getElem?_eq_some_iff.1 hm).1; have : words.length = 20 := rfl; omega) m hm))
      go_wp2_with fail
      go_ret
      exact ⟨ret_bool HF.out.symm, (Below.refl _ _).alloc (Nat.le_refl _) _⟩
theorem byte_at (s : ByteArray) (k : Nat) (h : k < s.size) : s.toList[k]? = some s[k] := by
  rw [ByteArray.toList_eq, List.getElem?_eq_getElem (by simpa using h)]; rfl
theorem len_toList (s : ByteArray) : s.toList.length = s.size := by rw [ByteArray.toList_eq]; simp
theorem named_no {s : ByteArray} {k : Nat} {c : UInt8} (h : s.toList[k]? = some c) (hc : okAt k c = false) : namedB s.toList = false := by
  have hk := (List.getElem?_eq_some_iff.1 h).1
  simp only [namedB, Bool.and_eq_false_iff]
  refine .inl (List.all_eq_false.2 ⟨k, List.mem_range.2 hk, ?_⟩)
  rw [List.getD_eq_getElem?_getD, h]
  simp [hc]
theorem named_yes {s : ByteArray} (h : ∀ j, j < s.size → ∀ c, s.toList[j]? = some c → okAt j c = true) : namedB s.toList = (decide (1 ≤ s.size) && decide (s.size ≤ 20)) := by
  simp only [namedB]
  rw [show ((List.range s.toList.length).all fun i => okAt i (s.toList.getD i 0)) = true from List.all_eq_true.2 fun i hi => ?_, Bool.true_and, len_toList]
  have hi' := List.mem_range.1 hi
  rw [List.getD_eq_getElem?_getD, List.getElem?_eq_getElem hi']
  exact h i (by rw [← len_toList]; exact hi') _ (List.getElem?_eq_getElem hi')
set_option maxHeartbeats 1000000 in
theorem named_any (s : ByteArray) (w : World) (hs : s.size ≤ maxLen) :
    Calls Try.prog 141 #[.string s] w fun e w' => e = .returned (.bool (namedB s.toList)) ∧ w = w' := by
  unfold maxLen at hs
  go_enter Try.func141, Try.ntmps141
  go_wp2_with fail
  go_loop [6] (fun i => ∃ k : Nat, k ≤ s.size ∧ i = .int .i64 k ∧ Hid (∀ j, j < k → ∀ c, s.toList[j]? = some c → okAt j c = true)) (fun i => s.size - (intOf i).toNat)
  case atStart => exact ⟨0, Nat.zero_le _, rfl, fun j h => absurd h (by omega)⟩
  case round =>
    obtain ⟨k, hk, rfl, HN⟩ := hrel
    by_cases hlt : k < s.size
    · have HB := Lib.hid (byte_at s k hlt)
      have HO := Lib.hid (show okAt k s[k] = (letterB s[k].toNat || (!((k : Int) == 0) && digitB s[k].toNat)) from by
        simp only [okAt]; congr 2; rw [Bool.eq_iff_iff]; simp)
      go_wp2_with fail
      refine (letter_any s[k] _).mono ?_
      rintro e w' ⟨rfl, rfl⟩
      generalize hL : letterB s[k].toNat = L at *
      clear hL
      cases L
      · by_cases hk0 : ((k : Int) == 0) = true
        · go_wp2_with fail
          go_ret
          have : k = 0 := by simpa using hk0
          subst this
          exact ⟨ret_bool (named_no HB.out (by rw [HO.out]; rfl)).symm, rfl⟩
        · have hk0' : ((k : Int) == 0) = false := by simpa using hk0
          clear hk0
          go_wp2_with fail
          refine (digit_any s[k] _).mono ?_
          rintro e w' ⟨rfl, rfl⟩
          generalize hD : digitB s[k].toNat = D at *
          clear hD
          cases D
          · go_wp2_with fail
            go_ret
            exact ⟨ret_bool (named_no HB.out (by rw [HO.out, hk0']; rfl)).symm, rfl⟩
          · go_wp2_with fail
            go_round
            case rel => exact ⟨k + 1, by omega, by go_num, upto_succ HN.out (fun c hc => by rw [HB.out] at hc; injection hc with hc; rw [← hc, HO.out, hk0']; rfl)⟩
            case measure => simp [intOf]; omega
      · go_wp2_with fail
        go_round
        case rel => exact ⟨k + 1, by omega, by go_num, upto_succ HN.out (fun c hc => by rw [HB.out] at hc; injection hc with hc; rw [← hc, HO.out]; rfl)⟩
        case measure => simp [intOf]; omega
    · obtain rfl : k = s.size := by omega
      have HF := Lib.hid (named_yes HN.out)
      go_wp2_with fail
      all_goals
        go_ret
        refine ⟨ret_bool ?_, rfl⟩
        rw [HF.out, Bool.eq_iff_iff]; simp; omega
theorem name_any (s : ByteArray) (w : World) (hs : s.size ≤ maxLen) :
    Calls Try.prog 128 #[.string s] w fun e w' => e = .returned (.bool (nameB s.toList)) ∧ Below w.heap.size w w' := by
  have HE := Lib.hid (show nameB s.toList = (namedB s.toList && !wordB s.toList) from rfl)
  go_enter Try.func128, Try.ntmps128
  go_wp2_with fail
  refine (named_any s _ hs).mono ?_
  rintro e w' ⟨rfl, rfl⟩
  generalize namedB s.toList = L at *
  cases L
  · go_wp2_with fail
    go_ret
    exact ⟨ret_bool HE.out.symm, Below.refl _ _⟩
  · go_wp2_with fail
    refine (word_any s _).mono ?_
    rintro e w1 ⟨rfl, hb⟩
    go_wp2_with fail
    go_ret
    exact ⟨ret_bool HE.out.symm, hb⟩
end Go.Proofs.Ytolabbnchmmckaa
