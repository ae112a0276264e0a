/-
  Types by the document: the contracts of tompionref16's wrong, name and Expr.
-/
import Derived.Test.YtolabbnchmmckaaTyDz
namespace Go.Proofs.Ytolabbnchmmckaa
open Go.RowKit
attribute [local go_sem ↓] Go.wp_at_zero Go.wp_at_succ
/-- two results, the second in memory -/
theorem res2b {P : Program} {fn : Func} {p q : Tmp} {ty : TypeId} {d : TypeDesc} {cs : Array Value} (h : fn.results = #[.tmp q, .cell p ty]) (hu : P.underlying ty = some d) (hd : (match d with | .struct _ | .array _ _ => true | _ => false) = true) (hi : (P.info? ty).map (·.size) = some cs.size)
    {tmps : Array Value} {w : World} {g : Nat} {t : TypeId} {u : Value} (hp : tmps.getD p undef = .pointer (some ⟨g, 0, none⟩)) (hq : tmps.getD q undef = u) (hg : Row w g cs t) : (results fn tmps).run P w = .ok (.tuple #[u, .agg cs]) w := by
  have hp' : tmps[p]?.getD undef = .pointer (some ⟨g, 0, none⟩) := by simpa using hp
  have hq' : tmps[q]?.getD undef = u := by simpa using hq
  simp [results, h, hp', hq', asAddr, run_loadVar_row w g t ty cs (0, 0) d hg hu hd hi]
theorem rwrong16_at (l c : Int) (w : World) :
    Calls Try.prog 93 #[.agg #[.int .i64 l, .int .i64 c]] w fun r w' => r = .returned (ftV ⟨28, l, c⟩) ∧ Below w.heap.size w w' := by
  go_enter Try.func93, Try.ntmps93
  go_wp2_with fail
  exact bodyPost_ret (v := ftV ⟨28, l, c⟩) (by simp [results, Try.results93, go_sem]) rfl ⟨rfl, (by repeat (first | (with_reducible assumption) | (with_reducible exact Below.refl _ _) | (with_reducible refine Below.drew ?_) | (with_reducible refine below_drewN' ?_ _) | (with_reducible refine Below.alloc ?_ (by first | assumption | omega | (simp; omega) | simp | (simp [World.setCell]; omega) | simp [World.setCell]) _) | (with_reducible refine Below.setCell ?_ (by first | assumption | omega | (simp; omega) | simp | (simp [World.setCell]; omega) | simp [World.setCell]) _)))⟩
set_option linter.unusedSimpArgs false in
set_option maxRecDepth 100000 in
set_option maxHeartbeats 1000000 in
theorem rty_any (n : Nd) (a : NdA) (nm : ByteArray) (w : World) (h : NdAt w w.heap.size n a) (hl : (vrs n).length ≤ 10000) (hm : nm ∈ nms (vrs n)) :
    Calls Try.prog 92 #[ndV n a, .string nm] w fun r w' => r = .returned (.int .i64 (tyOf n nm)) ∧ Below w.heap.size w w' := by
  have r1 := Row.new w (ndArr n a) 40
  have b1 : Below w.heap.size w (w.alloc (.cells (ndArr n a) 40)) := (by repeat (first | (with_reducible assumption) | (with_reducible exact Below.refl _ _) | (with_reducible refine Below.drew ?_) | (with_reducible refine below_drewN' ?_ _) | (with_reducible refine Below.alloc ?_ (by first | assumption | omega | (simp; omega) | simp | (simp [World.setCell]; omega) | simp [World.setCell]) _) | (with_reducible refine Below.setCell ?_ (by first | assumption | omega | (simp; omega) | simp | (simp [World.setCell]; omega) | simp [World.setCell]) _)))
  have HN : Hid (∀ W, Below w.heap.size w W → NdAt W W.heap.size n a) := fun W hW => (h.below hW).more hW.size
  have HL := Lib.hid hl
  obtain ⟨k', x, hki, hkx, hxn⟩ | hneg := var_cases n nm
  rotate_left 1
  · exact absurd hm (var_neg.1 (by omega))
  have HTY := Lib.hid (ty_at hki hkx)
  have hkl := (List.getElem?_eq_some_iff.1 hkx).1
  obtain ⟨M, HLM⟩ : ∃ M, Hid ((vrs n).length = M) := ⟨_, rfl⟩
  have hkl2 : k' < M := by rw [← HLM.out]; exact hkl
  have HKX := Lib.hid hkx
  have HKI := Lib.hid hki
  clear h hl hm hkx hki hxn
  go_enter Try.func92, Try.ntmps92
  go_upto_region 1 with (fail)
  generalize w.alloc (.cells (ndArr n a) 40) = W1 at *
  have hs1 := b1.size
  have HV : Hid (∀ W, Below W1.heap.size W1 W → Calls Try.prog 34 #[ndV n a] W fun e w' => (∃ b3 off3 cap3 : Nat, e = .returned (.slice (some ⟨b3, off3, none⟩) M cap3) ∧ w'.cell? ⟨b3, off3 + k' * 5 + 1, none⟩ = some (.int .i64 x.ty)) ∧ Below W.heap.size W w') := fun W hW => by
    refine (rvars_any W.heap.size n a W (Nat.le_refl _) (HN.out W (b1.trans (hW.mono hs1))) HL.out).mono ?_
    rintro e w' ⟨⟨v, rfl, ho⟩, hb⟩
    obtain ⟨A3, c3, rfl, _, _, hsl⟩ := ho.sl
    obtain ⟨b3, off3, y, A4, c4, rfl, _, hy, _, _, _, _, y0, y1, y2, y3, y4⟩ := hsl.vr hkl
    obtain rfl : x = y := Option.some.inj (HKX.out.symm.trans hy)
    rw [HLM.out]
    exact ⟨⟨b3, off3, c3, rfl, y1⟩, hb⟩
  have HM : Hid (∀ W, Below W1.heap.size W1 W → Calls Try.prog 25 #[ndV n a, .string nm] W fun e w' => e = .returned (.int .i64 (k' : Int)) ∧ Below W.heap.size W w') := fun W hW => by
    have := rvar_any n a nm W (HN.out W (b1.trans (hW.mono hs1))) HL.out
    rw [HKI.out] at this
    exact this
  have k1 : (0 : Int) ≤ (k' : Int) := by omega
  have k2 : (k' : Int) < (M : Int) := by omega
  have HK : Hid (∀ W, Below W1.heap.size W1 W → (W.cell? ⟨w.heap.size, 0, none⟩ = some (.string n.name) ∧ W.cell? ⟨w.heap.size, 1, none⟩ = some (.slice a.ai n.ins.length a.ci) ∧ W.cell? ⟨w.heap.size, 2, none⟩ = some (.slice a.ao n.outs.length a.co) ∧ W.cell? ⟨w.heap.size, 3, none⟩ = some (.slice a.av n.vars.length a.cv) ∧ W.cell? ⟨w.heap.size, 4, none⟩ = some (.slice a.aq n.eqs.length a.cq) ∧ W.cell? ⟨w.heap.size, 5, none⟩ = some (.int .i64 n.line) ∧ W.cell? ⟨w.heap.size, 6, none⟩ = some (.int .i64 n.col))) := fun W hW => (r1.below hW r1.lt).nd
  clear hkl
  refine wp_region_held_drew (S := fun W => (W.cell? ⟨w.heap.size, 0, none⟩ = some (.string n.name) ∧ W.cell? ⟨w.heap.size, 1, none⟩ = some (.slice a.ai n.ins.length a.ci) ∧ W.cell? ⟨w.heap.size, 2, none⟩ = some (.slice a.ao n.outs.length a.co) ∧ W.cell? ⟨w.heap.size, 3, none⟩ = some (.slice a.av n.vars.length a.cv) ∧ W.cell? ⟨w.heap.size, 4, none⟩ = some (.slice a.aq n.eqs.length a.cq) ∧ W.cell? ⟨w.heap.size, 5, none⟩ = some (.int .i64 n.line) ∧ W.cell? ⟨w.heap.size, 6, none⟩ = some (.int .i64 n.col))) (by kernel_rfl) ?_ (fun hHeld => ?_)
  · (try dsimp only); (first | (with_reducible exact HK.out _ (by repeat (first | (with_reducible assumption) | (with_reducible exact Below.refl _ _) | (with_reducible refine Below.drew ?_) | (with_reducible refine below_drewN' ?_ _) | (with_reducible refine Below.alloc ?_ (by first | assumption | omega | (simp; omega) | simp | (simp [World.setCell]; omega) | simp [World.setCell]) _) | (with_reducible refine Below.setCell ?_ (by first | assumption | omega | (simp; omega) | simp | (simp [World.setCell]; omega) | simp [World.setCell]) _)))) | go_keep)
  refine wpAnyH_take (i := 0) (oi := { dst := some 5, op := _, type := _, pos := _, after := _, guard := _ }) (v := ?_) rfl (by kernel_rfl) (by kernel_rfl) (by kernel_rfl) (fun _ _ _ h => h) (Or.inl ⟨by kernel_rfl, ?_⟩) (by first | assumption | trivial) ?_
  rotate_left 1
  · intro w hSw; (try dsimp only at hSw); go_simp; (try with_reducible rfl)
  try simp only [Act.put, List.setIfInBounds_toArray, List.set_cons_zero, List.set_cons_succ]
  refine wpAnyH_take (i := 2) (oi := { dst := some 7, op := _, type := _, pos := _, after := _, guard := _ }) (v := ?_) rfl (by kernel_rfl) (by kernel_rfl) (by kernel_rfl) (fun _ _ _ h => h) (Or.inl ⟨by kernel_rfl, ?_⟩) (by first | assumption | trivial) ?_
  rotate_left 1
  · intro w hSw; (try dsimp only at hSw); go_simp; (try with_reducible rfl)
  try simp only [Act.put, List.setIfInBounds_toArray, List.set_cons_zero, List.set_cons_succ]
  refine wpAnyH_take (i := 3) (oi := { dst := some 8, op := _, type := _, pos := _, after := _, guard := _ }) (v := ?_) rfl (by kernel_rfl) (by kernel_rfl) (by kernel_rfl) (fun _ _ _ h => h) (Or.inl ⟨by kernel_rfl, ?_⟩) (by first | assumption | trivial) ?_
  rotate_left 1
  · intro w hSw; (try dsimp only at hSw); go_simp; (try with_reducible rfl)
  try simp only [Act.put, List.setIfInBounds_toArray, List.set_cons_zero, List.set_cons_succ]
  refine wpAnyH_ready (rs := [1]) (by kernel_rfl) (by simp) ?_
  refine AllReadyH.cons (o := { dst := some 6, op := _, type := _, pos := _, after := _, guard := _ }) rfl (fun KK hKK => ?_) AllReadyH.nil
  go_simp
  first | (go_at_call 34; (refine (HV.out _ (by repeat (first | (with_reducible assumption) | (with_reducible exact Below.refl _ _) | (with_reducible refine Below.drew ?_) | (with_reducible refine below_drewN' ?_ _) | (with_reducible refine Below.alloc ?_ (by first | assumption | omega | (simp; omega) | simp | (simp [World.setCell]; omega) | simp [World.setCell]) _) | (with_reducible refine Below.setCell ?_ (by first | assumption | omega | (simp; omega) | simp | (simp [World.setCell]; omega) | simp [World.setCell]) _)))).mono ?_); rintro e w3 ⟨⟨b3, off3, cap3, rfl, y1⟩, hb3⟩; (have hb4 : Below W1.heap.size W1 w3 := Below.trans (by repeat (first | (with_reducible assumption) | (with_reducible exact Below.refl _ _) | (with_reducible refine Below.drew ?_) | (with_reducible refine below_drewN' ?_ _) | (with_reducible refine Below.alloc ?_ (by first | assumption | omega | (simp; omega) | simp | (simp [World.setCell]; omega) | simp [World.setCell]) _) | (with_reducible refine Below.setCell ?_ (by first | assumption | omega | (simp; omega) | simp | (simp [World.setCell]; omega) | simp [World.setCell]) _))) (hb3.mono (by first | exact Nat.le_refl _ | simp | (simp; omega) | omega))); (have hs4 := hb4.size)) | (go_at_call 25; (refine (HM.out _ (by repeat (first | (with_reducible assumption) | (with_reducible exact Below.refl _ _) | (with_reducible refine Below.drew ?_) | (with_reducible refine below_drewN' ?_ _) | (with_reducible refine Below.alloc ?_ (by first | assumption | omega | (simp; omega) | simp | (simp [World.setCell]; omega) | simp [World.setCell]) _) | (with_reducible refine Below.setCell ?_ (by first | assumption | omega | (simp; omega) | simp | (simp [World.setCell]; omega) | simp [World.setCell]) _)))).mono ?_); rintro e w5 ⟨rfl, hb5⟩; (have y1 := old_cell hb5 y1); (have hb6 : Below W1.heap.size W1 w5 := Below.trans hb4 (hb5.mono hs4)))
  (try go_wp2_with fail)
  refine hKK.out _ _ ?_ (fun hHeld => ?_)
  · (try dsimp only); (first | (with_reducible exact HK.out _ (by repeat (first | (with_reducible assumption) | (with_reducible exact Below.refl _ _) | (with_reducible refine Below.drew ?_) | (with_reducible refine below_drewN' ?_ _) | (with_reducible refine Below.alloc ?_ (by first | assumption | omega | (simp; omega) | simp | (simp [World.setCell]; omega) | simp [World.setCell]) _) | (with_reducible refine Below.setCell ?_ (by first | assumption | omega | (simp; omega) | simp | (simp [World.setCell]; omega) | simp [World.setCell]) _)))) | go_keep)
  clear hKK KK
  try simp only [Act.put, List.setIfInBounds_toArray, List.set_cons_zero, List.set_cons_succ]
  refine wpAnyH_ready (rs := [4]) (by kernel_rfl) (by simp) ?_
  refine AllReadyH.cons (o := { dst := some 9, op := _, type := _, pos := _, after := _, guard := _ }) rfl (fun KK hKK => ?_) AllReadyH.nil
  go_simp
  first | (go_at_call 34; (refine (HV.out _ (by repeat (first | (with_reducible assumption) | (with_reducible exact Below.refl _ _) | (with_reducible refine Below.drew ?_) | (with_reducible refine below_drewN' ?_ _) | (with_reducible refine Below.alloc ?_ (by first | assumption | omega | (simp; omega) | simp | (simp [World.setCell]; omega) | simp [World.setCell]) _) | (with_reducible refine Below.setCell ?_ (by first | assumption | omega | (simp; omega) | simp | (simp [World.setCell]; omega) | simp [World.setCell]) _)))).mono ?_); rintro e w3 ⟨⟨b3, off3, cap3, rfl, y1⟩, hb3⟩; (have hb4 : Below W1.heap.size W1 w3 := Below.trans (by repeat (first | (with_reducible assumption) | (with_reducible exact Below.refl _ _) | (with_reducible refine Below.drew ?_) | (with_reducible refine below_drewN' ?_ _) | (with_reducible refine Below.alloc ?_ (by first | assumption | omega | (simp; omega) | simp | (simp [World.setCell]; omega) | simp [World.setCell]) _) | (with_reducible refine Below.setCell ?_ (by first | assumption | omega | (simp; omega) | simp | (simp [World.setCell]; omega) | simp [World.setCell]) _))) (hb3.mono (by first | exact Nat.le_refl _ | simp | (simp; omega) | omega))); (have hs4 := hb4.size)) | (go_at_call 25; (refine (HM.out _ (by repeat (first | (with_reducible assumption) | (with_reducible exact Below.refl _ _) | (with_reducible refine Below.drew ?_) | (with_reducible refine below_drewN' ?_ _) | (with_reducible refine Below.alloc ?_ (by first | assumption | omega | (simp; omega) | simp | (simp [World.setCell]; omega) | simp [World.setCell]) _) | (with_reducible refine Below.setCell ?_ (by first | assumption | omega | (simp; omega) | simp | (simp [World.setCell]; omega) | simp [World.setCell]) _)))).mono ?_); rintro e w5 ⟨rfl, hb5⟩; (have y1 := old_cell hb5 y1); (have hb6 : Below W1.heap.size W1 w5 := Below.trans hb4 (hb5.mono hs4)))
  (try go_wp2_with fail)
  refine hKK.out _ _ ?_ (fun hHeld => ?_)
  · (try dsimp only); (first | (with_reducible exact HK.out _ (by repeat (first | (with_reducible assumption) | (with_reducible exact Below.refl _ _) | (with_reducible refine Below.drew ?_) | (with_reducible refine below_drewN' ?_ _) | (with_reducible refine Below.alloc ?_ (by first | assumption | omega | (simp; omega) | simp | (simp [World.setCell]; omega) | simp [World.setCell]) _) | (with_reducible refine Below.setCell ?_ (by first | assumption | omega | (simp; omega) | simp | (simp [World.setCell]; omega) | simp [World.setCell]) _)))) | go_keep)
  clear hKK KK
  try simp only [Act.put, List.setIfInBounds_toArray, List.set_cons_zero, List.set_cons_succ]
  refine wpAnyH_take (i := 5) (oi := { dst := some 10, op := _, type := _, pos := _, after := _, guard := _ }) (v := ?_) rfl (by kernel_rfl) (by kernel_rfl) (by kernel_rfl) (fun _ _ _ h => h) (Or.inl ⟨by kernel_rfl, ?_⟩) (by first | assumption | trivial) ?_
  rotate_left 1
  · intro w hSw; (try dsimp only at hSw); go_simp; (try with_reducible rfl)
  try simp only [Act.put, List.setIfInBounds_toArray, List.set_cons_zero, List.set_cons_succ]
  refine wpAnyH_take (i := 6) (oi := { dst := some 11, op := _, type := _, pos := _, after := _, guard := _ }) (v := ?_) rfl (by kernel_rfl) (by kernel_rfl) (by kernel_rfl) (fun _ _ _ h => h) (Or.inl ⟨by kernel_rfl, ?_⟩) (by first | assumption | trivial) ?_
  rotate_left 1
  · intro w hSw; (try dsimp only at hSw); go_simp; (try with_reducible rfl)
  try simp only [Act.put, List.setIfInBounds_toArray, List.set_cons_zero, List.set_cons_succ]
  refine wpAnyH_ready (rs := [7]) (by kernel_rfl) (by simp) ?_
  refine AllReadyH.cons (o := { dst := some 12, op := _, type := _, pos := _, after := _, guard := _ }) rfl (fun KK hKK => ?_) AllReadyH.nil
  go_simp
  refine hKK.out _ _ ?_ (fun hHeld => ?_)
  · (try dsimp only); (first | (with_reducible exact HK.out _ (by repeat (first | (with_reducible assumption) | (with_reducible exact Below.refl _ _) | (with_reducible refine Below.drew ?_) | (with_reducible refine below_drewN' ?_ _) | (with_reducible refine Below.alloc ?_ (by first | assumption | omega | (simp; omega) | simp | (simp [World.setCell]; omega) | simp [World.setCell]) _) | (with_reducible refine Below.setCell ?_ (by first | assumption | omega | (simp; omega) | simp | (simp [World.setCell]; omega) | simp [World.setCell]) _)))) | go_keep)
  clear hKK KK
  try simp only [Act.put, List.setIfInBounds_toArray, List.set_cons_zero, List.set_cons_succ]
  refine wpAnyH_take (i := 8) (oi := { dst := some 4, op := _, type := _, pos := _, after := _, guard := _ }) (v := ?_) rfl (by kernel_rfl) (by kernel_rfl) (by kernel_rfl) (fun _ _ _ h => h) (Or.inl ⟨by kernel_rfl, ?_⟩) (by first | assumption | trivial) ?_
  rotate_left 1
  · intro w hSw; (try dsimp only at hSw); go_simp; (try with_reducible rfl)
  try simp only [Act.put, List.setIfInBounds_toArray, List.set_cons_zero, List.set_cons_succ]
  refine wpAnyH_done (by kernel_rfl) ?_ _
  go_wp2_with fail
  go_ret
  rw [HTY.out]
  exact ⟨rfl, b1.trans (hb6.mono hs1)⟩
theorem args_zero {s : List Nd} {n : Nd} {e : Ex} (h : ∀ j, j < e.args.length → ∀ x, e.args[j]? = some x → (tyF s n x).err = 0) : fstl (argFs s n e) = ft0 := by
  unfold argFs
  rw [← fstL_map]
  exact fstL_end h
theorem IntR.bel {w w' : World} {g q : Nat} {l : List Int} (h : IntR w g q l) (hb : Below w.heap.size w w') : IntR w' g q l := h.upd (UpdM.of hb)
theorem fs_step {l : List Ft} {k : Nat} {f : Ft} (h : ∀ j, j < k → ∀ g, l[j]? = some g → g.err = 0) (hk : l[k]? = some f) (hf : f.err = 0) : ∀ j, j < k + 1 → ∀ g, l[j]? = some g → g.err = 0 :=
  step_uptoI (P := fun _ g => g.err = 0) h hk hf
theorem fs_stop {l : List Ft} {k : Nat} {f : Ft} (h : ∀ j, j < k → ∀ g, l[j]? = some g → g.err = 0) (hk : l[k]? = some f) (hf : f.err ≠ 0) : fstl l = f := fstl_stop h hk hf
theorem fs_end {l : List Ft} (h : ∀ j, j < l.length → ∀ g, l[j]? = some g → g.err = 0) : fstl l = ft0 := fstl_none fun g hg => by
  obtain ⟨j, hj⟩ := List.getElem?_of_mem hg
  exact h j (List.getElem?_eq_some_iff.1 hj).1 g hj
end Go.Proofs.Ytolabbnchmmckaa
