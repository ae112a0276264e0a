/-
  One clock at most: the plain law of ClockOne.
-/
import Derived.Test.YtolabbnchmmckaaClkF
namespace Go.Proofs.Ytolabbnchmmckaa
theorem fitsL_all {e : Ex} {clock : List Lt} {ps : List (List Lt → Ft)} : ∀ {i : Nat}, (fitsL e clock ps i).err = 0 → ∀ (j : Nat) p, ps[j]? = some p → (p (partClock e clock (i + j))).err = 0 := by
  induction ps with
  | nil => intro i _ j p h; simp at h
  | cons q ps ih =>
    intro i h j p hj
    simp only [fitsL] at h
    split at h
    · rename_i hne; exact absurd h hne
    · rename_i hne
      cases j with
      | zero => simp at hj; subst hj; exact Classical.not_not.1 hne
      | succ j =>
        have := ih h j p (by simpa using hj)
        rw [show i + (j + 1) = i + 1 + j by omega]
        exact this
theorem not_bad {n : Nd} {e : Ex} {c : List Lt} (h : (fitsP n e c).err = 0) : ¬ badClock n e c := fun hb => by
  rw [fitsP_bad hb] at h
  exact absurd h (by show ¬ (30 : Int) = 0; decide)
theorem last_eq {c1 c2 : List Lt} {y : Lt} (h1 : c1.getLast? = some y) (h2 : c2.getLast? = some y) (h : c1.dropLast = c2.dropLast) : c1 = c2 := by
  have key : ∀ c : List Lt, c.getLast? = some y → c.dropLast ++ [y] = c := fun c hc => by
    have hne : c ≠ [] := fun g => by subst g; simp at hc
    have := List.dropLast_concat_getLast hne
    rw [List.getLast?_eq_some_getLast hne] at hc
    injection hc with hc
    rw [hc] at this
    exact this
  rw [← key c1 h1, ← key c2 h2, h]
/-- has an expression a variable by itself, or a merge? -/
def heldP (e : Ex) : Prop := ∃ x ∈ exList e, x.op = 3 ∨ x.op = 26
theorem one_clock (n : Nd) (e : Ex) : ∀ c1 c2 : List Lt, (∀ x ∈ exList e, ArgsOk x) → heldP e → (fitsP n e c1).err = 0 → (fitsP n e c2).err = 0 → c1 = c2 := by
  induction e using Ex.ind with
  | h e ih =>
    intro c1 c2 hargs hheld h1 h2
    have b1 := not_bad h1
    have b2 := not_bad h2
    by_cases h3 : e.op = 3 ∨ e.op = 26
    · have e1 : clockOf n e.name = c1 := Classical.byContradiction fun g => b1 ((bad_3 h3).2 g)
      have e2 : clockOf n e.name = c2 := Classical.byContradiction fun g => b2 ((bad_3 h3).2 g)
      rw [← e1, ← e2]
    · rw [fitsP_ok b1] at h1
      rw [fitsP_ok b2] at h2
      obtain ⟨y, hy, hyo⟩ := hheld
      rw [exList_eq] at hy
      rcases List.mem_cons.1 hy with rfl | hy
      · exact absurd hyo h3
      obtain ⟨l, hl, hyl⟩ := List.mem_flatten.1 hy
      obtain ⟨x, hx, rfl⟩ := List.mem_map.1 hl
      obtain ⟨j, hj⟩ := List.getElem?_of_mem hx
      have hp : (e.args.map (fitsP n))[j]? = some (fitsP n x) := by rw [List.getElem?_map, hj]; rfl
      have g1 := fitsL_all h1 j _ hp
      have g2 := fitsL_all h2 j _ hp
      have hc := ih x hx _ _ (fun z hz => hargs z (exList_sub hx hz)) ⟨y, hyl, hyo⟩ g1 g2
      by_cases h24 : e.op = 24 ∨ e.op = 25
      · rw [part_24 h24, part_24 h24] at hc
        have l1 : c1.getLast? = some ⟨e.name, decide (e.op = 25)⟩ := Classical.byContradiction fun g => b1 ((bad_24 h24).2 g)
        have l2 : c2.getLast? = some ⟨e.name, decide (e.op = 25)⟩ := Classical.byContradiction fun g => b2 ((bad_24 h24).2 g)
        exact last_eq l1 l2 hc
      · rw [part_no (fun g => h24 (.inl g)) (fun g => h24 (.inr g)) (fun g => h3 (.inr g)), part_no (fun g => h24 (.inl g)) (fun g => h24 (.inr g)) (fun g => h3 (.inr g))] at hc
        exact hc
theorem top_one {n : Nd} {e : Ex} {c1 c2 : List Lt} (hh : heldP e) (hne : c1 ≠ c2) (h1 : (fitsTop n e c1).err = 0) : (fitsTop n e c2).err ≠ 0 := fun h2 => by
  unfold fitsTop at h1 h2
  by_cases hk : knownB n e = true
  · rw [if_pos hk] at h1 h2
    exact hne (one_clock n e c1 c2 (fun x hx => (known_all hk x hx).1) hh h1 h2)
  · rw [if_neg hk] at h1
    exact absurd h1 (by decide)
end Go.Proofs.Ytolabbnchmmckaa
