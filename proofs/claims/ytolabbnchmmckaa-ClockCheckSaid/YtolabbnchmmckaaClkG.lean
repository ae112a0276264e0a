/-
  The chapter's example of clocks: the contract of tompionlaw18.awake.
-/
import Derived.Test.YtolabbnchmmckaaClkF
import Derived.Test.YtolabbnchmmckaaFew
namespace Go.Proofs.Ytolabbnchmmckaa
open Go.RowKit Nm
attribute [local go_sem ↓] Go.wp_at_zero Go.wp_at_succ
abbrev bX : ByteArray := ⟨#[120]⟩
abbrev bC : ByteArray := ⟨#[99]⟩
abbrev bMain : ByteArray := ⟨#[109, 97, 105, 110]⟩
abbrev vX : Vr := ⟨bX, 1, [], 0, 0⟩
abbrev vC : Vr := ⟨bC, 2, [], 0, 0⟩
abbrev nA : Nd := ⟨bMain, [vX, vC], [], [], [], 0, 0⟩
abbrev xE : Ex := .mk 3 bX 0 [] 5 5
abbrev x0E : Ex := .mk 3 bX 0 [] 0 0
abbrev whenE : Ex := .mk 24 bC 0 [x0E] 0 0
abbrev addE : Ex := .mk 7 ⟨#[]⟩ 0 [whenE, xE] 0 0
abbrev onA : List Lt := [⟨bC, false⟩]
theorem list_x : exList xE = [xE] := by rw [exList_eq]; rfl
theorem list_x0 : exList x0E = [x0E] := by rw [exList_eq]; rfl
theorem list_when : exList whenE = [whenE, x0E] := by rw [exList_eq]; simp only [Ex.args, List.map_cons, List.map_nil, list_x0]; rfl
theorem list_add : exList addE = [addE, whenE, x0E, xE] := by rw [exList_eq]; simp only [Ex.args, List.map_cons, List.map_nil, list_when, list_x]; rfl
theorem ht_x : exHeight xE = 1 := by rw [exHeight_eq]; rfl
theorem ht_x0 : exHeight x0E = 1 := by rw [exHeight_eq]; rfl
theorem ht_when : exHeight whenE = 2 := by rw [exHeight_eq]; simp only [Ex.args, List.map_cons, List.map_nil, ht_x0]; rfl
theorem ht_add : exHeight addE = 3 := by rw [exHeight_eq]; simp only [Ex.args, List.map_cons, List.map_nil, ht_when, ht_x]; rfl
theorem idx_x : varIdx nA bX = 0 := by decide +kernel
theorem idx_c : varIdx nA bC = 1 := by decide +kernel
theorem clk_x : clockOf nA bX = [] := clock_at (k := 0) idx_x rfl
theorem names_known {n : Nd} {e : Ex} (h : ∀ x ∈ exList e, namesB x.op = true → 0 ≤ varIdx n x.name) : (nmsOf (exList e)).all (fun nm => decide (0 ≤ varIdx n nm)) = true := by
  rw [List.all_eq_true]
  intro nm hnm
  obtain ⟨x, hx, h1, rfl⟩ := (nms_mem _ _).1 hnm
  exact decide_eq_true (h x hx h1)
theorem pl_x : plainB xE = true := by decide +kernel
theorem pl_x0 : plainB x0E = true := by decide +kernel
theorem pl_when : plainB whenE = true := by decide +kernel
theorem pl_add : plainB addE = true := by decide +kernel
theorem known_when : knownB nA whenE = true := by
  unfold knownB exRight
  rw [names_known, list_when, ht_when]
  · simp [pl_when, pl_x0]
  · rw [list_when]
    intro x hx _
    simp only [List.mem_cons, List.not_mem_nil, or_false] at hx
    rcases hx with rfl | rfl
    · show 0 ≤ varIdx nA bC; rw [idx_c]; decide
    · show 0 ≤ varIdx nA bX; rw [idx_x]; decide
theorem known_add : knownB nA addE = true := by
  unfold knownB exRight
  rw [names_known, list_add, ht_add]
  · simp [pl_when, pl_x0, pl_x, pl_add]
  · rw [list_add]
    intro x hx hnb
    simp only [List.mem_cons, List.not_mem_nil, or_false] at hx
    rcases hx with rfl | rfl | rfl | rfl
    · exact absurd hnb (by decide)
    · show 0 ≤ varIdx nA bC; rw [idx_c]; decide
    · show 0 ≤ varIdx nA bX; rw [idx_x]; decide
    · show 0 ≤ varIdx nA bX; rw [idx_x]; decide
theorem fits_x0 : fitsP nA x0E [] = ft0 := by
  rw [fitsP_ok (fun h => (bad_3 (.inl rfl)).1 h clk_x)]; rfl
theorem fits_x : fitsP nA xE onA = ⟨30, 5, 5⟩ := by
  rw [fitsP_bad ((bad_3 (.inl rfl)).2 (by show clockOf nA bX ≠ onA; rw [clk_x]; simp))]; rfl
theorem fits_when : fitsP nA whenE onA = ft0 := by
  rw [fitsP_ok (fun h => (bad_24 (.inl rfl)).1 h rfl)]
  show fitsL whenE onA [fitsP nA x0E] 0 = ft0
  simp only [fitsL]
  rw [part_24 (.inl rfl), show onA.dropLast = [] from rfl, fits_x0]
  rfl
theorem fits_add : fitsP nA addE onA = ⟨30, 5, 5⟩ := by
  rw [fitsP_ok (bad_no (by decide) (by decide) (by decide) (by decide))]
  show fitsL addE onA [fitsP nA whenE, fitsP nA xE] 0 = ⟨30, 5, 5⟩
  simp only [fitsL]
  rw [part_no (by decide) (by decide) (by decide), part_no (by decide) (by decide) (by decide), fits_when, fits_x]
  rfl
theorem top_add : fitsTop nA addE onA = ⟨30, 5, 5⟩ := by unfold fitsTop; rw [if_pos known_add, fits_add]
theorem top_when : fitsTop nA whenE onA = ft0 := by unfold fitsTop; rw [if_pos known_when, fits_when]
theorem wf_s {n : Int} (h : -1000 ≤ n ∧ n ≤ 1000) : Wf n := wf_of (by omega)
theorem nA_small : NdSm nA := by
  refine ⟨by decide, by decide, by decide, by decide, by decide, ?_, ?_⟩
  · intro v hv
    simp only [vrs, List.append_nil, List.mem_cons, List.not_mem_nil, or_false] at hv
    rcases hv with rfl | rfl
    · exact ⟨by decide, by decide, fun c hc => by cases hc⟩
    · exact ⟨by decide, by decide, fun c hc => by cases hc⟩
  · intro q hq; cases hq
end Go.Proofs.Ytolabbnchmmckaa
