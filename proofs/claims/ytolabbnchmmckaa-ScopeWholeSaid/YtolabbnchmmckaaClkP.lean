/-
  Which expressions go by which clocks, plain.
-/
import Derived.Test.YtolabbnchmmckaaClkA
namespace Go.Proofs.Ytolabbnchmmckaa
/-- the clock of a part -/
def partClock (e : Ex) (clock : List Lt) (i : Nat) : List Lt :=
  if e.op = 24 ∨ e.op = 25 then clock.dropLast else if e.op = 26 then clock ++ [⟨e.name, decide (i = 1)⟩] else clock
def fitsL (e : Ex) (clock : List Lt) : List (List Lt → Ft) → Nat → Ft
  | [], _ => ft0
  | p :: ps, i => if (p (partClock e clock i)).err ≠ 0 then p (partClock e clock i) else fitsL e clock ps (i + 1)
/-- a clock by which an expression's own op does not go -/
def badClock (n : Nd) (e : Ex) (clock : List Lt) : Prop := ((e.op = 3 ∨ e.op = 26) ∧ clockOf n e.name ≠ clock) ∨ ((e.op = 24 ∨ e.op = 25) ∧ clock.getLast? ≠ some ⟨e.name, decide (e.op = 25)⟩)
open Classical in
noncomputable def fitsP (n : Nd) : Ex → List Lt → Ft := Ex.para fun e ps clock => if badClock n e clock then ⟨30, e.line, e.col⟩ else fitsL e clock ps 0
theorem fitsP_bad {n : Nd} {e : Ex} {clock : List Lt} (h : badClock n e clock) : fitsP n e clock = ⟨30, e.line, e.col⟩ := by
  unfold fitsP; rw [Ex.para_eq, if_pos h]
theorem fitsP_ok {n : Nd} {e : Ex} {clock : List Lt} (h : ¬ badClock n e clock) : fitsP n e clock = fitsL e clock (e.args.map (fitsP n)) 0 := by
  unfold fitsP; rw [Ex.para_eq, if_neg h]
theorem fitsL_zero {e : Ex} {clock : List Lt} {ps : List (List Lt → Ft)} : ∀ {i : Nat}, (fitsL e clock ps i).err = 0 → fitsL e clock ps i = ft0 := by
  induction ps with
  | nil => intro i _; rfl
  | cons p ps ih =>
    intro i h
    simp only [fitsL] at h ⊢
    split at h
    · rename_i hne; exact absurd h hne
    · rename_i hne; rw [if_neg hne]; exact ih h
theorem fitsP_zero {n : Nd} {e : Ex} {clock : List Lt} (h : (fitsP n e clock).err = 0) : fitsP n e clock = ft0 := by
  by_cases hb : badClock n e clock
  · rw [fitsP_bad hb] at h; exact absurd h (by show ¬ (30 : Int) = 0; decide)
  · rw [fitsP_ok hb] at h ⊢; exact fitsL_zero h
/-- as many parts as the op says -/
def ArgsOk (e : Ex) : Prop := (e.op = 24 ∨ e.op = 25 → e.args.length = 1) ∧ (e.op = 26 → e.args.length = 2)
theorem bad_3 {n : Nd} {e : Ex} {clock : List Lt} (h : e.op = 3 ∨ e.op = 26) : badClock n e clock ↔ clockOf n e.name ≠ clock := by
  unfold badClock
  constructor
  · rintro (⟨_, h'⟩ | ⟨h', _⟩)
    · exact h'
    · omega
  · exact fun h' => .inl ⟨h, h'⟩
theorem bad_24 {n : Nd} {e : Ex} {clock : List Lt} (h : e.op = 24 ∨ e.op = 25) : badClock n e clock ↔ clock.getLast? ≠ some ⟨e.name, decide (e.op = 25)⟩ := by
  unfold badClock
  constructor
  · rintro (⟨h', _⟩ | ⟨_, h'⟩)
    · omega
    · exact h'
  · exact fun h' => .inr ⟨h, h'⟩
theorem bad_no {n : Nd} {e : Ex} {clock : List Lt} (h3 : e.op ≠ 3) (h4 : e.op ≠ 24) (h5 : e.op ≠ 25) (h6 : e.op ≠ 26) : ¬ badClock n e clock := by
  unfold badClock
  rintro (⟨h, _⟩ | ⟨h, _⟩) <;> omega
theorem part_24 {e : Ex} (h : e.op = 24 ∨ e.op = 25) (clock : List Lt) (i : Nat) : partClock e clock i = clock.dropLast := by unfold partClock; rw [if_pos h]
theorem part_26 {e : Ex} (h : e.op = 26) (clock : List Lt) (i : Nat) : partClock e clock i = clock ++ [⟨e.name, decide (i = 1)⟩] := by unfold partClock; rw [if_neg (by omega), if_pos h]
theorem part_no {e : Ex} (h4 : e.op ≠ 24) (h5 : e.op ≠ 25) (h6 : e.op ≠ 26) (clock : List Lt) (i : Nat) : partClock e clock i = clock := by unfold partClock; rw [if_neg (by omega), if_neg h6]
theorem part_len (e : Ex) (clock : List Lt) (i : Nat) : (partClock e clock i).length ≤ clock.length + 1 := by
  unfold partClock; split
  · simp; omega
  · split <;> simp
end Go.Proofs.Ytolabbnchmmckaa
