/-
  The chapter's example of names: the contract of tompionlaw15.awake.
-/
import Derived.Test.YtolabbnchmmckaaScQ
namespace Go.Proofs.Ytolabbnchmmckaa
open Go.RowKit Nm
abbrev aNm : ByteArray := ⟨#[97]⟩
abbrev bNm : ByteArray := ⟨#[98]⟩
abbrev cNm : ByteArray := ⟨#[99]⟩
abbrev smE : Ex := .mk 3 aNm 0 [] 0 0
abbrev smQ (nm : ByteArray) : Eqn := ⟨[nm], smE, 3, 1⟩
abbrev smA : Vr := ⟨aNm, 1, [], 0, 0⟩
abbrev smB : Vr := ⟨bNm, 1, [], 0, 0⟩
abbrev smN (nm : ByteArray) : Nd := ⟨mainNm, [smA], [smB], [], [smQ nm], 0, 0⟩
theorem smE_ok : ExOk smE := ⟨wf_of (n := 3) (by omega), by simp [Ex.name, ByteArray.size, maxLen], wf_of (n := 0) (by omega), wf_of (n := 0) (by omega), wf_of (n := 0) (by omega)⟩
theorem Row.newAt (W : World) (g : Nat) (hg : W.heap.size = g) (cs : Array Value) (t : TypeId) : Row (W.alloc (.cells cs t)) g cs t := hg ▸ Row.new W cs t
abbrev smEq (w : World) : Array Value := #[.slice (some ⟨w.heap.size + 1, 0, none⟩) 1 1, .int .i64 3, .string ⟨#[97]⟩, .int .i64 0, .slice none 0 0, .int .i64 0, .int .i64 0, .int .i64 3, .int .i64 1]
abbrev smVa : Array Value := #[.string ⟨#[97]⟩, .int .i64 1, .slice none 0 0, .int .i64 0, .int .i64 0]
abbrev smVb : Array Value := #[.string ⟨#[98]⟩, .int .i64 1, .slice none 0 0, .int .i64 0, .int .i64 0]
abbrev smNd (w : World) : Array Value := #[.string ⟨#[109, 97, 105, 110]⟩, .slice (some ⟨w.heap.size + 1 + 1 + 1, 0, none⟩) 1 1, .slice (some ⟨w.heap.size + 1 + 1 + 1 + 1, 0, none⟩) 1 1, .slice none 0 0, .slice (some ⟨w.heap.size + 1 + 1 + 1 + 1 + 1, 0, none⟩) 1 1, .int .i64 0, .int .i64 0]
abbrev smW (nm : ByteArray) (w : World) : World := ((((((w.alloc (.cells #[.slice (some ⟨w.heap.size + 1 + 1 + 1 + 1 + 1 + 1, 0, none⟩) 1 1] 45)).alloc (.cells #[.string nm] 9)).alloc (.cells (smEq w) 60)).alloc (.cells smVa 64)).alloc (.cells smVb 64)).alloc (.cells (smEq w) 60)).alloc (.cells (smNd w) 40)
theorem small_mem (nm : ByteArray) (w : World) (hnm : nm.size ≤ 1) : Nds (smW nm w) (smW nm w).heap.size (some ⟨w.heap.size + 6, 0, none⟩) [smN nm] ∧ Row (smW nm w) w.heap.size #[.slice (some ⟨w.heap.size + 6, 0, none⟩) 1 1] 45 ∧ Below w.heap.size w (smW nm w) := by
  have hsz : (smW nm w).heap.size = w.heap.size + 7 := by simp
  have r0 : Row (smW nm w) w.heap.size #[.slice (some ⟨w.heap.size + 6, 0, none⟩) 1 1] 45 := ((((((Row.new w _ _).alloc _).alloc _).alloc _).alloc _).alloc _).alloc _
  have r1 : Row (smW nm w) (w.heap.size + 1) #[.string nm] 9 := (((((Row.newAt _ (w.heap.size + 1) (by simp) _ _).alloc _).alloc _).alloc _).alloc _).alloc _
  have r3 : Row (smW nm w) (w.heap.size + 3) smVa 64 := (((Row.newAt _ (w.heap.size + 3) (by simp) _ _).alloc _).alloc _).alloc _
  have r4 : Row (smW nm w) (w.heap.size + 4) smVb 64 := ((Row.newAt _ (w.heap.size + 4) (by simp) _ _).alloc _).alloc _
  have r5 : Row (smW nm w) (w.heap.size + 5) (smEq w) 60 := (Row.newAt _ (w.heap.size + 5) (by simp) _ _).alloc _
  have r6 : Row (smW nm w) (w.heap.size + 6) (smNd w) 40 := Row.newAt _ (w.heap.size + 6) (by simp) _ _
  have hB : Below w.heap.size w (smW nm w) := (by repeat (first | (with_reducible assumption) | (with_reducible exact Below.refl _ _) | (with_reducible refine Below.drew ?_) | (with_reducible refine below_drewN' ?_ _) | (with_reducible refine Below.alloc ?_ (by first | assumption | omega | (simp; omega) | simp | (simp [World.setCell]; omega) | simp [World.setCell]) _) | (with_reducible refine Below.setCell ?_ (by first | assumption | omega | (simp; omega) | simp | (simp [World.setCell]; omega) | simp [World.setCell]) _)))
  refine ⟨?_, r0, hB⟩
  generalize smW nm w = W at *
  have hm : nm.size ≤ maxLen := by unfold maxLen; omega
  have sA : Vrs W W.heap.size (some ⟨w.heap.size + 3, 0, none⟩) [smA] := sl_one (cs := [.string aNm, .int .i64 1, .slice none 0 0, .int .i64 0, .int .i64 0]) r3 (by omega) ⟨none, 0, rfl, ⟨by simp [ByteArray.size, maxLen], wf_of (n := 1) (by omega), wf_of (n := 0) (by omega), wf_of (n := 0) (by omega)⟩, Nat.le_refl _, Nat.zero_le _, Sl.nil⟩
  have sB : Vrs W W.heap.size (some ⟨w.heap.size + 4, 0, none⟩) [smB] := sl_one (cs := [.string bNm, .int .i64 1, .slice none 0 0, .int .i64 0, .int .i64 0]) r4 (by omega) ⟨none, 0, rfl, ⟨by simp [ByteArray.size, maxLen], wf_of (n := 1) (by omega), wf_of (n := 0) (by omega), wf_of (n := 0) (by omega)⟩, Nat.le_refl _, Nat.zero_le _, Sl.nil⟩
  have sS : Sl W W.heap.size 1 isStr (some ⟨w.heap.size + 1, 0, none⟩) [nm] := sl_one (cs := [.string nm]) r1 (by omega) ⟨rfl, hm⟩
  have sQ : Eqs W W.heap.size (some ⟨w.heap.size + 5, 0, none⟩) [smQ nm] := sl_one (cs := (smEq w).toList) r5 (by omega) ⟨some ⟨w.heap.size + 1, 0, none⟩, 1, none, 0, rfl, ⟨smE_ok, wf_of (n := 3) (by omega), wf_of (n := 1) (by omega)⟩, Nat.le_refl _, by unfold maxLen; decide, sS, Nat.le_refl _, Nat.zero_le _, fun h => absurd h (by simp [Ex.args])⟩
  exact sl_one (cs := (smNd w).toList) r6 (by omega) ⟨⟨some ⟨w.heap.size + 3, 0, none⟩, 1, some ⟨w.heap.size + 4, 0, none⟩, 1, none, 0, some ⟨w.heap.size + 5, 0, none⟩, 1⟩, rfl, ⟨by simp [ByteArray.size, maxLen], wf_of (n := 0) (by omega), wf_of (n := 0) (by omega), Nat.le_refl _, by show (1 : Nat) ≤ maxLen; unfold maxLen; decide, sA, Nat.le_refl _, by show (1 : Nat) ≤ maxLen; unfold maxLen; decide, sB, Nat.le_refl _, Nat.zero_le _, Sl.nil, Nat.le_refl _, by show (1 : Nat) ≤ maxLen; unfold maxLen; decide, sQ⟩⟩
set_option maxRecDepth 100000 in
set_option maxHeartbeats 1000000 in
theorem small_any (nm : ByteArray) (w : World) (hnm : nm.size ≤ 1) :
    Calls Try.prog 63 #[.string nm] w fun r w' => (∃ g, r = .returned (srcV [smN nm] (some ⟨g, 0, none⟩) 1) ∧ Nds w' w'.heap.size (some ⟨g, 0, none⟩) [smN nm]) ∧ Below w.heap.size w w' := by
  have H := Lib.hid (small_mem nm w hnm)
  go_enter Try.func63, Try.ntmps63
  go_wp2_with fail
  exact bodyPost_ret (res1 rfl Try.underlying45 rfl (by kernel_rfl) rfl H.out.2.1) rfl ⟨⟨w.heap.size + 6, rfl, H.out.1⟩, H.out.2.2⟩
theorem smE_list : exList smE = [smE] := by rw [exList_eq]; rfl
theorem smE_right : exRight smE = true := by
  unfold exRight
  rw [smE_list, exHeight_eq]
  decide +kernel
theorem sm_small (nm : ByteArray) (h : nm.size ≤ 1) : SrcSm [smN nm] := by
  have hs : Small smE := ⟨by unfold exSize; rw [smE_list]; decide, fun x hx => by rw [smE_list] at hx; simp at hx; subst hx; decide⟩
  refine ⟨by simp, fun n hn => ?_⟩
  simp at hn
  subst hn
  refine ⟨by show mainNm.size ≤ 30; decide, by simp, by simp, by simp, by simp, fun v hv => ?_, fun q hq => ?_⟩
  · simp [vrs] at hv
    rcases hv with rfl | rfl
    · exact ⟨by decide, by simp, fun c hc => by simp at hc⟩
    · exact ⟨by decide, by simp, fun c hc => by simp at hc⟩
  · simp at hq
    subst hq
    exact ⟨by simp, fun x hx => by simp at hx; subst hx; omega, hs⟩
theorem sm_rt {nm : ByteArray} (h : nameB nm.toList = true) : SrcRt [smN nm] := by
  refine ⟨fun n hn => ?_, by simp, by simp⟩
  simp at hn
  subst hn
  have ha : nameB aNm.toList = true := by decide +kernel
  have hb : nameB bNm.toList = true := by decide +kernel
  refine ⟨fun q hq => ?_, by show nameB mainNm.toList = true; decide +kernel, by simp, by simp, ⟨fun v hv => ?_, by simp, by simp⟩, ⟨fun v hv => ?_, by simp, by simp⟩, ⟨fun v hv => by simp at hv, by simp, by simp⟩⟩
  · simp at hq
    subst hq
    exact ⟨fun x hx => by simp at hx; subst hx; exact h, by simp, by simp, smE_right⟩
  · simp at hv
    subst hv
    exact ⟨fun c hc => by simp at hc, ha, .inl rfl, by simp⟩
  · simp at hv
    subst hv
    exact ⟨fun c hc => by simp at hc, hb, .inl rfl, by simp⟩
theorem sm_vars (nm : ByteArray) : variablesF (smN nm) = ft0 := by
  unfold variablesF
  have e1 : fstL (varF (smN nm)) (vrs (smN nm)) = ft0 := by
    refine fstL_end fun j hj x hx => ?_
    have hj2 : j = 0 ∨ j = 1 := by have : (vrs (smN nm)).length = 2 := rfl; omega
    rcases hj2 with rfl | rfl
    · simp [vrs] at hx; subst hx
      unfold varF; rw [if_neg (by simp), if_neg (by simp)]
    · simp [vrs] at hx; subst hx
      unfold varF; rw [if_neg (by simp [vrs]), if_neg (by simp)]
  rw [e1]; rfl
theorem sm_names (nm : ByteArray) : fstL (nameF [smN nm]) [smN nm] = ft0 := by
  refine fstL_end fun j hj x hx => ?_
  have hj2 : j = 0 := by simp at hj; omega
  subst hj2
  simp at hx; subst hx
  unfold nameF; rw [if_neg (by simp)]
theorem sm_c : scopeF [smN cNm] = ⟨24, 3, 1⟩ := by
  have hca : ¬ cNm = aNm := by decide
  have hcb : ¬ cNm = bNm := by decide
  have e1 : leftNF (smN cNm) (metTo (smN cNm) 0) (smQ cNm) 0 cNm = ⟨24, 3, 1⟩ := by unfold leftNF; rw [if_pos (by simp [vrs, hca, hcb])]
  have e2 : leftF (smN cNm) (metTo (smN cNm) 0) (smQ cNm) = ⟨24, 3, 1⟩ := by
    unfold leftF
    rw [fstL_stop (k := 0) (x := cNm) (fun j hj => absurd hj (by omega)) rfl (by rw [e1]; decide), e1]; rfl
  have e3 : eqnF [smN cNm] (smN cNm) 0 (smQ cNm) = ⟨24, 3, 1⟩ := by unfold eqnF; rw [e2]; rfl
  have e4 : equationsF [smN cNm] (smN cNm) = ⟨24, 3, 1⟩ := by
    unfold equationsF
    rw [fstL_stop (k := 0) (x := smQ cNm) (fun j hj => absurd hj (by omega)) rfl (by rw [e3]; decide), e3]; rfl
  have e5 : nodeF [smN cNm] 0 (smN cNm) = ⟨24, 3, 1⟩ := by unfold nodeF; rw [sm_vars, e4]; rfl
  rw [scopeF_rt (sm_rt (by decide +kernel)), sm_names, ft2_0 (a := ft0) rfl, fstL_stop (k := 0) (x := smN cNm) (fun j hj => absurd hj (by omega)) rfl (by rw [e5]; decide), e5]; rfl
theorem sm_b : scopeF [smN bNm] = ft0 := by
  have hba : ¬ bNm = aNm := by decide
  have e1 : leftNF (smN bNm) (metTo (smN bNm) 0) (smQ bNm) 0 bNm = ft0 := by unfold leftNF; rw [if_neg (by simp [vrs]), if_neg (by simp [metTo, lefts, hba])]
  have e2 : leftF (smN bNm) (metTo (smN bNm) 0) (smQ bNm) = ft0 := by
    unfold leftF
    rw [fstL_end (fun j hj x hx => by
      have hj2 : j = 0 := by simp at hj; omega
      subst hj2
      simp at hx; subst hx
      rw [e1]), ft2_0 (a := ft0) rfl]
    unfold countF; rw [if_neg (by simp)]
  have e0 : exprF [smN bNm] (smN bNm) 1 smE = ft0 := by
    unfold exprF
    have : oneF [smN bNm] (smN bNm) 1 smE = ft0 := by unfold oneF; rw [if_pos (by decide), if_neg (by simp [vrs, Ex.name])]
    rw [this]; rfl
  have e3 : eqnF [smN bNm] (smN bNm) 0 (smQ bNm) = ft0 := by unfold eqnF; rw [e2, ft2_0 (a := ft0) rfl]; exact e0
  have e4 : equationsF [smN bNm] (smN bNm) = ft0 := by
    unfold equationsF
    rw [fstL_end (fun j hj x hx => by
      have hj2 : j = 0 := by simp at hj; omega
      subst hj2
      simp at hx; subst hx
      rw [e3]), ft2_0 (a := ft0) rfl]
    refine fstL_end fun j hj x hx => ?_
    have hj2 : j = 0 := by simp at hj; omega
    subst hj2
    simp at hx; subst hx
    unfold defF; rw [if_neg (by simp [metTo, lefts])]
  have e5 : nodeF [smN bNm] 0 (smN bNm) = ft0 := by unfold nodeF; rw [sm_vars, e4]; rfl
  rw [scopeF_rt (sm_rt (by decide +kernel)), sm_names, ft2_0 (a := ft0) rfl, fstL_end (fun j hj x hx => by
      have hj2 : j = 0 := by simp at hj; omega
      subst hj2
      simp at hx; subst hx
      rw [e5]), ft2_0 (a := ft0) rfl]
  unfold mainF; rw [if_neg (by simp)]
set_option maxRecDepth 100000 in
set_option maxHeartbeats 1000000 in
theorem awake15_any (w : World) : Calls Try.prog 31 #[] w fun r w' => r = .returned (.bool true) ∧ Below w.heap.size w w' := by
  have HC := Lib.hid sm_c
  have HB := Lib.hid sm_b
  go_enter Try.func31, Try.ntmps31
  go_wp2_with fail
  refine (small_any cNm w (by decide)).mono ?_
  rintro r w1 ⟨⟨g, rfl, hn⟩, hb1⟩
  have HN := Lib.hid hn
  clear hn
  go_wp2_with fail
  refine (check15_any [smN cNm] (some ⟨g, 0, none⟩) 1 w1 (sm_small _ (by decide)) (Nat.le_refl _) (by unfold maxLen; decide) HN.out).mono ?_
  rintro r w2 ⟨rfl, hb2⟩
  rw [HC.out]
  have hB2 := hb1.trans (hb2.mono hb1.size)
  have hs2 := hB2.size
  have b3 : Below w.heap.size w (w2.alloc (.cells #[.int .i64 24, .int .i64 3, .int .i64 1] 31)) := hB2.alloc hs2 _
  go_wp2_with fail
  refine (small_any bNm _ (by decide)).mono ?_
  rintro r w4 ⟨⟨g', rfl, hn⟩, hb4⟩
  have HN4 := Lib.hid hn
  have hB4 := b3.trans (hb4.mono b3.size)
  clear hn
  go_wp2_with fail
  refine (check15_any [smN bNm] (some ⟨g', 0, none⟩) 1 w4 (sm_small _ (by decide)) (Nat.le_refl _) (by unfold maxLen; decide) HN4.out).mono ?_
  rintro r w5 ⟨rfl, hb5⟩
  rw [HB.out]
  have hB5 := hB4.trans (hb5.mono hB4.size)
  go_wp2_with fail
  go_ret
  exact ⟨by first | rfl | simp, hB5⟩
end Go.Proofs.Ytolabbnchmmckaa
