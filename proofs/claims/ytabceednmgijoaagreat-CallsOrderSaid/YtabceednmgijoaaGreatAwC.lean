/-
  The examples of calls: plain, and how they lie.
-/
import Derived.Test.YtabceednmgijoaaGreatCalE
namespace Go.Proofs.YtabceednmgijoaaGreat
open Go.RowKit Nm
abbrev aNm : ByteArray := ⟨#[97]⟩
abbrev bNm : ByteArray := ⟨#[98]⟩
abbrev gNm : ByteArray := ⟨#[103]⟩
abbrev vE : Ex := .mk 3 aNm 0 [] 0 0
abbrev cE (u : ByteArray) : Ex := .mk 4 u 0 [vE] 0 0
abbrev cA : Vr := ⟨aNm, 1, [], 0, 0⟩
abbrev cB1 : Vr := ⟨bNm, 1, [], 0, 0⟩
abbrev cQ (E : Ex) : Eqn := ⟨[bNm], E, 0, 0⟩
abbrev cN (nm : ByteArray) (E : Ex) : Nd := ⟨nm, [cA], [cB1], [], [cQ E], 0, 0⟩
theorem vE_list : exList vE = [vE] := by rw [exList_eq]; rfl
theorem cE_list (u : ByteArray) : exList (cE u) = [cE u, vE] := by
  rw [exList_eq]
  show cE u :: (([vE] : List Ex).map exList).flatten = _
  rw [List.map_cons, List.map_nil, vE_list]
  rfl
/-- the shapes of a node's expression -/
def CE (E : Ex) : Prop := E = vE ∨ E = cE gNm ∨ E = cE mainNm
theorem cE_height (u : ByteArray) : exHeight (cE u) = 2 := by
  rw [exHeight_eq]
  show maxL (([vE] : List Ex).map exHeight) + 1 = 2
  rw [List.map_cons, List.map_nil, exHeight_eq]
  rfl
theorem ce_right {E : Ex} (h : CE E) : exRight E = true := by
  rcases h with rfl | rfl | rfl
  · unfold exRight
    rw [vE_list, exHeight_eq]
    decide +kernel
  · unfold exRight
    rw [cE_list, cE_height]
    decide +kernel
  · unfold exRight
    rw [cE_list, cE_height]
    decide +kernel
theorem vE_small : Small vE := ⟨by unfold exSize; rw [vE_list]; decide, fun x hx => by rw [vE_list] at hx; simp at hx; subst hx; decide⟩
theorem cE_small (u : ByteArray) (h : u.size ≤ 30) : Small (cE u) := ⟨by unfold exSize; rw [cE_list]; simp, fun x hx => by
  rw [cE_list] at hx
  simp at hx
  rcases hx with rfl | rfl
  · exact h
  · decide⟩
theorem ce_small {E : Ex} (h : CE E) : Small E := by
  rcases h with rfl | rfl | rfl
  · exact vE_small
  · exact cE_small _ (by decide)
  · exact cE_small _ (by decide)
abbrev sC (E F : Ex) : List Nd := [cN mainNm E, cN gNm F]
theorem cN_sm (nm : ByteArray) (hn : nm.size ≤ 30) {E : Ex} (h : CE E) : NdSm (cN nm E) := by
  refine ⟨hn, by simp, by simp, by simp, by simp, fun v hv => ?_, fun q hq => ?_⟩
  · simp [vrs] at hv
    rcases hv with rfl | rfl
    · exact ⟨by decide, by simp, fun c hc => by simp at hc⟩
    · exact ⟨by decide, by simp, fun c hc => by simp at hc⟩
  · simp at hq
    subst hq
    exact ⟨by simp, fun x hx => by simp at hx; subst hx; decide, ce_small h⟩
theorem sC_sm {E F : Ex} (hE : CE E) (hF : CE F) : SrcSm (sC E F) := by
  refine ⟨by simp, fun n hn => ?_⟩
  simp at hn
  rcases hn with rfl | rfl
  · exact cN_sm _ (by decide) hE
  · exact cN_sm _ (by decide) hF
theorem cN_rt (nm : ByteArray) (hn : nameB nm.toList = true) {E : Ex} (h : CE E) : NdRt (cN nm E) := by
  have ha : nameB aNm.toList = true := by decide +kernel
  have hb : nameB bNm.toList = true := by decide +kernel
  refine ⟨fun q hq => ?_, hn, by simp, by simp, ⟨fun v hv => ?_, by simp, by simp⟩, ⟨fun v hv => ?_, by simp, by simp⟩, ⟨fun v hv => by simp at hv, by simp, by simp⟩⟩
  · simp at hq
    subst hq
    exact ⟨fun x hx => by simp at hx; subst hx; exact hb, by simp, by simp, ce_right h⟩
  · simp at hv
    subst hv
    exact ⟨fun c hc => by simp at hc, ha, .inl rfl, by simp⟩
  · simp at hv
    subst hv
    exact ⟨fun c hc => by simp at hc, hb, .inl rfl, by simp⟩
theorem sC_rt {E F : Ex} (hE : CE E) (hF : CE F) : SrcRt (sC E F) := by
  refine ⟨fun n hn => ?_, by simp, by simp⟩
  simp at hn
  rcases hn with rfl | rfl
  · exact cN_rt _ (by decide +kernel) hE
  · exact cN_rt _ (by decide +kernel) hF
theorem cN_vars (nm : ByteArray) (E : Ex) : variablesF (cN nm E) = ft0 := by
  unfold variablesF
  have hba : ¬ bNm = aNm := by decide
  have e1 : fstL (varF (cN nm E)) (vrs (cN nm E)) = ft0 := by
    refine fstL_end fun j hj x hx => ?_
    have hj2 : j = 0 ∨ j = 1 := by have : (vrs (cN nm E)).length = 2 := rfl; omega
    rcases hj2 with rfl | rfl
    · simp [vrs] at hx; subst hx
      unfold varF; rw [if_neg (by simp), if_neg (by simp)]
    · simp [vrs] at hx; subst hx
      unfold varF; rw [if_neg (by simp [vrs, hba]), if_neg (by simp)]
  rw [e1]; rfl
theorem node_main (E F : Ex) : nodeAt (sC E F) mainNm = some (cN mainNm E) := rfl
theorem node_g (E F : Ex) : nodeAt (sC E F) gNm = some (cN gNm F) := rfl
theorem one_v (s : List Nd) (nm : ByteArray) (E : Ex) : oneF s (cN nm E) 1 vE = ft0 := by unfold oneF; rw [if_pos (by decide), if_neg (by simp [vrs, Ex.name])]
theorem ce_expr {E F G : Ex} (nm : ByteArray) (h : CE G) : exprF (sC E F) (cN nm G) 1 G = ft0 := by
  have hs : fstL (fun _ x => subF (sC E F) (cN nm G) x) [vE] = ft0 := fstL_end fun j hj x hx => by
    have hj2 : j = 0 := by simp at hj; omega
    subst hj2
    simp at hx; subst hx
    rw [subF_eq]
    unfold exprF
    rw [one_v]; rfl
  rcases h with rfl | rfl | rfl
  · unfold exprF
    rw [one_v]; rfl
  · unfold exprF
    have e1 : oneF (sC E F) (cN nm (cE gNm)) 1 (cE gNm) = ft0 := by
      unfold oneF
      rw [if_neg (by decide), if_pos (by rfl)]
      rw [show nodeAt (sC E F) (cE gNm).name = some (cN gNm F) from node_g E F]
      exact if_neg (by simp [Ex.args])
    rw [e1]
    exact hs
  · unfold exprF
    have e1 : oneF (sC E F) (cN nm (cE mainNm)) 1 (cE mainNm) = ft0 := by
      unfold oneF
      rw [if_neg (by decide), if_pos (by rfl)]
      rw [show nodeAt (sC E F) (cE mainNm).name = some (cN mainNm E) from node_main E F]
      exact if_neg (by simp [Ex.args])
    rw [e1]
    exact hs
theorem cN_node {E F G : Ex} (nm : ByteArray) (h : CE G) (j : Nat) : nodeF (sC E F) j (cN nm G) = ft0 := by
  have hba : ¬ bNm = aNm := by decide
  have e1 : leftNF (cN nm G) (metTo (cN nm G) 0) (cQ G) 0 bNm = ft0 := by unfold leftNF; rw [if_neg (by simp [vrs]), if_neg (by simp [metTo, lefts, hba])]
  have e2 : leftF (cN nm G) (metTo (cN nm G) 0) (cQ G) = ft0 := by
    unfold leftF
    rw [fstL_end (fun j hj x hx => by
      have hj2 : j = 0 := by simp at hj; omega
      subst hj2
      simp at hx; subst hx
      rw [e1]), ft2_0 (a := ft0) rfl]
    unfold countF; rw [if_neg (by simp)]
  have e3 : eqnF (sC E F) (cN nm G) 0 (cQ G) = ft0 := by unfold eqnF; rw [e2, ft2_0 (a := ft0) rfl]; exact ce_expr nm h
  have e4 : equationsF (sC E F) (cN nm G) = ft0 := by
    unfold equationsF
    rw [fstL_end (fun j hj x hx => by
      have hj2 : j = 0 := by simp at hj; omega
      subst hj2
      simp at hx; subst hx
      rw [e3]), ft2_0 (a := ft0) rfl]
    refine fstL_end fun j hj x hx => ?_
    have hj2 : j = 0 := by simp at hj; omega
    subst hj2
    simp at hx; subst hx
    unfold defF; rw [if_neg (by simp [metTo, lefts])]
  unfold nodeF; rw [cN_vars, e4]; rfl
theorem sC_scope {E F : Ex} (hE : CE E) (hF : CE F) : scopeF (sC E F) = ft0 := by
  have hgm : ¬ gNm = mainNm := by decide
  rw [scopeF_rt (sC_rt hE hF), fstL_end (fun j hj x hx => by
    have hj2 : j = 0 ∨ j = 1 := by simp at hj; omega
    rcases hj2 with rfl | rfl
    · simp at hx; subst hx
      unfold nameF; rw [if_neg (by simp)]
    · simp at hx; subst hx
      unfold nameF; rw [if_neg (by simp [hgm])]), ft2_0 (a := ft0) rfl, fstL_end (fun j hj x hx => by
    have hj2 : j = 0 ∨ j = 1 := by simp at hj; omega
    rcases hj2 with rfl | rfl
    · simp at hx; subst hx
      rw [cN_node _ hE]
    · simp at hx; subst hx
      rw [cN_node _ hF]), ft2_0 (a := ft0) rfl]
  unfold mainF; rw [if_neg (by simp)]
theorem uses_v (nm : ByteArray) : usesF (cN nm vE) = [] := by
  unfold usesF callTo callsOf
  simp [vE_list, cB_false, Ex.op, insAll]
theorem uses_c (nm u : ByteArray) : usesF (cN nm (cE u)) = [u] := by
  unfold usesF callTo callsOf
  simp [cE_list, cB_false, cB_true, Ex.op, Ex.name, insAll, ins, insR]
abbrev goodS : List Nd := sC (cE gNm) vE
abbrev ringS : List Nd := sC (cE gNm) (cE mainNm)
theorem at_main : usesAt goodS mainNm = [gNm] := by unfold usesAt; rw [node_main]; exact uses_c _ _
theorem at_g : usesAt goodS gNm = [] := by unfold usesAt; rw [node_g]; exact uses_v _
theorem good_hg {a b : ByteArray} (h : Hg (usesAt goodS) a b) (ha : a = mainNm ∨ a = gNm) : a = mainNm ∧ b = gNm := by
  induction h with
  | one h =>
    rcases ha with rfl | rfl
    · rw [at_main] at h; exact ⟨rfl, by simpa using h⟩
    · rw [at_g] at h; cases h
  | more _ h ih =>
    obtain ⟨_, rfl⟩ := ih
    rw [at_g] at h; cases h
theorem good_calls : callsF goodS = ft0 := by
  have hgm : ¬ gNm = mainNm := by decide
  unfold callsF
  rw [sC_scope (.inr (.inl rfl)) (.inl rfl), ft2_0 (a := ft0) rfl]
  refine fstL_end fun j hj x hx => ?_
  have hj2 : j = 0 ∨ j = 1 := by simp at hj; omega
  rcases hj2 with rfl | rfl
  · simp at hx; subst hx
    rw [calF_no]
    exact fun h => hgm (good_hg h (.inl rfl)).2.symm
  · simp at hx; subst hx
    rw [calF_no]
    exact fun h => hgm (good_hg h (.inr rfl)).1
theorem good_order : orderF goodS = [gNm, mainNm] := by
  have hgm : ¬ gNm = mainNm := by decide
  have p0 : pick goodS (ordTo goodS 0) = some (cN gNm vE) := pick_at (k := 1) (fun j hj x hx => by
    obtain rfl : j = 0 := by omega
    simp at hx; subst hx
    intro g
    have := g.2 gNm (by rw [uses_c]; simp)
    simp [ordTo] at this) rfl ⟨by simp [ordTo], fun y hy => by rw [uses_v] at hy; cases hy⟩
  have e1 : ordTo goodS 1 = [gNm] := by rw [ordTo_succ p0]; rfl
  have p1 : pick goodS (ordTo goodS 1) = some (cN mainNm (cE gNm)) := pick_at (k := 0) (fun j hj => absurd hj (by omega)) rfl ⟨by rw [e1]; simp, fun y hy => by rw [uses_c] at hy; rw [e1]; exact hy⟩
  show ordTo goodS 2 = _
  rw [ordTo_succ p1, e1]
  rfl
theorem ring_calls : callsF ringS = ⟨29, 0, 0⟩ := by
  have h : Hg (usesAt ringS) mainNm mainNm := .more (b := gNm) (.one (by unfold usesAt; rw [node_main]; simp [uses_c])) (by unfold usesAt; rw [node_g]; simp [uses_c])
  have e : calF ringS 0 (cN mainNm (cE gNm)) = ⟨29, 0, 0⟩ := calF_yes h
  unfold callsF
  rw [sC_scope (.inr (.inl rfl)) (.inr (.inr rfl)), ft2_0 (a := ft0) rfl, fstL_stop (k := 0) (x := cN mainNm (cE gNm)) (fun j hj => absurd hj (by omega)) rfl (by rw [e]; decide), e]
end Go.Proofs.YtabceednmgijoaaGreat
