/-
  Names and words, as plain lists of bytes: the program's and the document's are one.
-/
import Derived.Below
namespace Go.Proofs.Ytolabbnchmmckaa.Nm

def letterB (c : Nat) : Bool := (decide (97 ≤ c) && decide (c ≤ 122)) || ((decide (65 ≤ c) && decide (c ≤ 90)) || c == 95)
def digitB (c : Nat) : Bool := decide (48 ≤ c) && decide (c ≤ 57)

def words : List (List UInt8) := [[110, 111, 100, 101], [114, 101, 116, 117, 114, 110, 115], [118, 97, 114], [108, 101, 116], [116, 101, 108], [105, 102], [116, 104, 101, 110], [101, 108, 115, 101], [112, 114, 101], [102, 98, 121], [119, 104, 101, 110], [110, 111, 116], [109, 101, 114, 103, 101], [97, 110, 100], [111, 114], [120, 111, 114], [116, 114, 117, 101], [102, 97, 108, 115, 101], [105, 110, 116], [98, 111, 111, 108]]
def wtext : List UInt8 := [32, 110, 111, 100, 101, 32, 114, 101, 116, 117, 114, 110, 115, 32, 118, 97, 114, 32, 108, 101, 116, 32, 116, 101, 108, 32, 105, 102, 32, 116, 104, 101, 110, 32, 101, 108, 115, 101, 32, 112, 114, 101, 32, 102, 98, 121, 32, 119, 104, 101, 110, 32, 110, 111, 116, 32, 109, 101, 114, 103, 101, 32, 97, 110, 100, 32, 111, 114, 32, 120, 111, 114, 32, 116, 114, 117, 101, 32, 102, 97, 108, 115, 101, 32, 105, 110, 116, 32, 98, 111, 111, 108, 32]

def wordB (l : List UInt8) : Bool := words.contains l
/-- may a byte stand at a place of a name? -/
def okAt (i : Nat) (c : UInt8) : Bool := letterB c.toNat || (i != 0 && digitB c.toNat)
def namedB (l : List UInt8) : Bool := ((List.range l.length).all fun i => okAt i (l.getD i 0)) && (decide (1 ≤ l.length) && decide (l.length ≤ 20))
def nameB (l : List UInt8) : Bool := namedB l && !wordB l

/-- the document's word: with a blank ahead and behind it stands in the text of all -/
def inText (l : List UInt8) : Prop := ∃ i, i + (l.length + 2) ≤ wtext.length ∧ (wtext.drop i).take (l.length + 2) = 32 :: (l ++ [32])

theorem takeWhile_upto {l r : List UInt8} (h : ∀ c ∈ l, c ≠ 32) : (l ++ 32 :: r).takeWhile (fun c => c != 32) = l := by
  induction l with
  | nil => simp
  | cons c l ih =>
    have hc := h c (by simp)
    simp only [List.cons_append]
    rw [List.takeWhile_cons, if_pos (by simpa using hc), ih (fun x hx => h x (by simp [hx]))]
theorem all_places : ((List.range wtext.length).all fun i => (wtext.getD i 0 != 32) || (((wtext.drop (i + 1)).takeWhile fun c => c != 32) == []) || words.contains ((wtext.drop (i + 1)).takeWhile fun c => c != 32)) = true := by decide +kernel
theorem all_words : (words.all fun l => (List.range wtext.length).any fun i => decide (i + (l.length + 2) ≤ wtext.length) && ((wtext.drop i).take (l.length + 2) == 32 :: (l ++ [32]))) = true := by decide +kernel
theorem words_plain : (words.all fun l => l.all (fun c => c != 32) && (l != [])) = true := by decide +kernel
theorem in_of_word {l : List UInt8} (h : wordB l = true) : inText l := by
  have hm : l ∈ words := by simpa [wordB] using h
  have := List.all_eq_true.1 all_words l hm
  obtain ⟨i, _, hi⟩ := List.any_eq_true.1 this
  simp only [Bool.and_eq_true, decide_eq_true_eq, beq_iff_eq] at hi
  exact ⟨i, hi.1, hi.2⟩
theorem word_of_in {l : List UInt8} (h : inText l) (hb : ∀ c ∈ l, c ≠ 32) (hne : l ≠ []) : wordB l = true := by
  obtain ⟨i, hi, he⟩ := h
  have hil : i < wtext.length := by omega
  have hd : wtext.drop i = wtext[i] :: wtext.drop (i + 1) := List.drop_eq_getElem_cons hil
  rw [hd, List.take_succ_cons] at he
  have h0 : wtext[i] = 32 := (List.cons.inj he).1
  have h1 : (wtext.drop (i + 1)).take (l.length + 1) = l ++ [32] := (List.cons.inj he).2
  have h2 : wtext.drop (i + 1) = l ++ 32 :: (wtext.drop (i + 1)).drop (l.length + 1) := by
    conv => lhs; rw [← List.take_append_drop (l.length + 1) (wtext.drop (i + 1)), h1]
    simp
  have ht : (wtext.drop (i + 1)).takeWhile (fun c => c != 32) = l := by rw [h2]; exact takeWhile_upto hb
  have := List.all_eq_true.1 all_places i (List.mem_range.2 hil)
  rw [ht] at this
  have hg : wtext.getD i 0 = 32 := by rw [List.getD_eq_getElem?_getD, List.getElem?_eq_getElem hil]; simpa using h0
  rw [hg] at this
  simpa [wordB, hne] using this
theorem word_blank {l : List UInt8} (h : wordB l = true) : ∀ c ∈ l, c ≠ 32 := by
  have hm : l ∈ words := by simpa [wordB] using h
  have := List.all_eq_true.1 words_plain l hm
  simp only [Bool.and_eq_true, List.all_eq_true, bne_iff_ne] at this
  exact this.1
theorem word_ne {l : List UInt8} (h : wordB l = true) : l ≠ [] := by
  have hm : l ∈ words := by simpa [wordB] using h
  have := List.all_eq_true.1 words_plain l hm
  simp only [Bool.and_eq_true, List.all_eq_true, bne_iff_ne] at this
  exact this.2
def partB (c : Nat) : Bool := (decide (97 ≤ c) && decide (c ≤ 122)) || ((decide (65 ≤ c) && decide (c ≤ 90)) || (c == 95 || digitB c))
theorem part_eq (c : Nat) : partB c = (letterB c || digitB c) := by simp only [partB, letterB, Bool.or_assoc]
theorem letter_not_digit {c : Nat} (h : letterB c = true) : digitB c = false := by
  simp only [letterB, digitB, Bool.or_eq_true, Bool.and_eq_true, decide_eq_true_eq, beq_iff_eq, Bool.and_eq_false_iff, decide_eq_false_iff_not] at h ⊢
  omega
/-- the document's: each byte may be in a name, there is one, there are twenty at most, the first is no digit -/
theorem named_iff (l : List UInt8) : namedB l = true ↔ (∀ (i : Nat) (c : UInt8), l[i]? = some c → partB c.toNat = true) ∧ l ≠ [] ∧ l.length ≤ 20 ∧ (∀ c : UInt8, l[0]? = some c → digitB c.toNat = false) := by
  unfold namedB
  simp only [Bool.and_eq_true, List.all_eq_true, List.mem_range, decide_eq_true_eq]
  constructor
  · rintro ⟨h1, h2, h3⟩
    have g : ∀ i c, l[i]? = some c → okAt i c = true := by
      intro i c hc
      have hl := (List.getElem?_eq_some_iff.1 hc).1
      have := h1 i hl
      rwa [List.getD_eq_getElem?_getD, hc] at this
    refine ⟨fun i c hc => ?_, fun h => by rw [h] at h2; simp at h2, h3, fun c hc => ?_⟩
    · have := g i c hc
      rw [part_eq]
      simp only [okAt, Bool.or_eq_true, Bool.and_eq_true] at this ⊢
      rcases this with h | h
      · exact .inl h
      · exact .inr h.2
    · have := g 0 c hc
      simp only [okAt, bne_self_eq_false, Bool.false_and, Bool.or_false] at this
      exact letter_not_digit this
  · rintro ⟨h1, h2, h3, h4⟩
    refine ⟨fun i hi => ?_, ?_, h3⟩
    · have hc : l[i]? = some l[i] := List.getElem?_eq_getElem hi
      rw [List.getD_eq_getElem?_getD, hc]
      have hp := h1 i _ hc
      rw [part_eq] at hp
      simp only [okAt, Option.getD_some, Bool.or_eq_true, Bool.and_eq_true, bne_iff_ne] at hp ⊢
      rcases hp with h | h
      · exact .inl h
      · rcases Nat.eq_zero_or_pos i with rfl | hi0
        · rw [h4 _ hc] at h; cases h
        · exact .inr ⟨by omega, h⟩
    · rcases l with _ | ⟨c, l⟩
      · exact absurd rfl h2
      · simp
end Go.Proofs.Ytolabbnchmmckaa.Nm
