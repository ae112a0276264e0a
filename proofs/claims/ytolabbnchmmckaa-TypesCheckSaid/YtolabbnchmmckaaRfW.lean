/-
  Types by the document: the contract of tompionref16.Check.
-/
import Derived.Test.YtolabbnchmmckaaRfV
namespace Go.Proofs.Ytolabbnchmmckaa
open Go.RowKit
attribute [local go_sem ↓] Go.wp_at_zero Go.wp_at_succ
theorem upd_set3 {g : Nat} {W W' : World} (h : UpdM g W W') (y0 y1 y2 : Value) : UpdM g W (((W'.setCell ⟨g, 0, none⟩ y0).setCell ⟨g, 1, none⟩ y1).setCell ⟨g, 2, none⟩ y2) :=
  Upd.setCell (Upd.setCell (Upd.setCell h (p := ⟨g, 0, none⟩) rfl y0) (p := ⟨g, 1, none⟩) rfl y1) (p := ⟨g, 2, none⟩) rfl y2
theorem scopeF_fz {s : List Nd} : Fz (scopeF s) := by
  unfold scopeF
  split
  · exact fun h => absurd h (by show ¬ (2 : Int) = 0; decide)
  · refine fz_ft2 (fz_ft2 ?_)
    unfold mainF
    split
    · exact fun h => absurd h (by show ¬ (27 : Int) = 0; decide)
    · exact fz0
set_option linter.unusedSimpArgs false in
set_option maxRecDepth 100000 in
set_option maxHeartbeats 4000000 in
theorem rtcheck_any (s : List Nd) (A : Option Addr) (cap : Nat) (w : World) (sm : SrcSm s) (h1 : s.length ≤ cap) (h2 : cap ≤ maxLen) (h : Nds w w.heap.size A s) :
    Calls Try.prog 44 #[srcV s A cap] w fun r w' => r = .returned (ftV (typesF s)) ∧ Below w.heap.size w w' := by
  have rf1 := rowNew2 w (.cells #[.slice A s.length cap] 45) ftC0 31
  have rs1 := (Row.new w #[.slice A s.length cap] 45).alloc (.cells ftC0 31)
  have b1 : Below w.heap.size w ((w.alloc (.cells #[.slice A s.length cap] 45)).alloc (.cells ftC0 31)) := (by repeat (first | (with_reducible assumption) | (with_reducible exact Below.refl _ _) | (with_reducible refine Below.drew ?_) | (with_reducible refine below_drewN' ?_ _) | (with_reducible refine Below.alloc ?_ (by first | assumption | omega | (simp; omega) | simp | (simp [World.setCell]; omega) | simp [World.setCell]) _) | (with_reducible refine Below.setCell ?_ (by first | assumption | omega | (simp; omega) | simp | (simp [World.setCell]; omega) | simp [World.setCell]) _)))
  have HS : Hid (∀ W, Below w.heap.size w W → Nds W w.heap.size A s) := fun W hW => nds_keep h (keeps_of hW) (Nat.le_refl _)
  have HSM := Lib.hid sm
  have h2' : cap ≤ 9223372036854775807 := by unfold maxLen at h2; omega
  clear h sm
  go_enter Try.func44, Try.ntmps44
  go_upto_region 1 with (fail)
  generalize (w.alloc (.cells #[.slice A s.length cap] 45)).alloc (.cells ftC0 31) = W1 at *
  have hs1 := b1.size
  have c0 := rs1.src
  go_wp2_with fail
  refine (rcheck15_any s A cap W1 HSM.out h1 h2 (nds_keep (HS.out W1 b1) (fun _ _ _ h => h) hs1)).mono ?_
  rintro r w2 ⟨rfl, hb2⟩
  have rs2 := rs1.below hb2 rs1.lt
  have rf2 := rf1.below hb2 rf1.lt
  have hB2 := b1.trans (hb2.mono hs1)
  have hs2 := hB2.size
  have hl2 := rf2.lt
  clear c0 rs1 rf1 b1 hb2 hs1
  obtain ⟨f0, HFN⟩ : ∃ f, Hid (scopeF s = f) := ⟨_, rfl⟩
  have HFZ : Hid (Fz f0) := by
    show Fz _
    rw [← HFN.out]
    exact scopeF_fz
  have HTY : Hid (typesF s = ft2 f0 (fstl (s.map (nodeTF s)))) := by show _ = _; rw [← HFN.out, ← fstL_map]; rfl
  rw [HFN.out]
  have ba : Below w2.heap.size w2 (w2.alloc (.cells (ftC f0) 31)) := (by repeat (first | (with_reducible assumption) | (with_reducible exact Below.refl _ _) | (with_reducible refine Below.drew ?_) | (with_reducible refine below_drewN' ?_ _) | (with_reducible refine Below.alloc ?_ (by first | assumption | omega | (simp; omega) | simp | (simp [World.setCell]; omega) | simp [World.setCell]) _) | (with_reducible refine Below.setCell ?_ (by first | assumption | omega | (simp; omega) | simp | (simp [World.setCell]; omega) | simp [World.setCell]) _)))
  have r3 := Row.new w2 (ftC f0) 31
  have hsw : w2.heap.size + 1 ≤ (w2.alloc (.cells (ftC f0) 31)).heap.size := by simp
  go_upto_region 2 with (fail)
  generalize hW4 : w2.alloc (.cells (ftC f0) 31) = w4 at *
  clear hW4
  have rs4 := rs2.below ba rs2.lt
  have rf4 := rf2.below ba rf2.lt
  have hB4 := hB2.trans (ba.mono hs2)
  have hs4 := hB4.size
  obtain ⟨g, HG⟩ : ∃ g, Hid (w2.heap.size = g) := ⟨_, rfl⟩
  have hgw : w2.heap.size = g := HG.out
  rw [hgw] at r3 hsw
  rw [show w2.heap.size = g from hgw]
  have hlo : w.heap.size ≤ g := by omega
  have hrf : w.heap.size + 1 < g := by omega
  clear rs2 rf2 hB2 hs2 ba hl2 hgw HG
  go_wp2_with fail
  go_loopw [4] (fun i wr => ∃ k : Nat, k ≤ s.length ∧ i = .int .i64 k ∧ Row wr g (ftC (accF f0 (s.map (nodeTF s)) k)) 31 ∧ UpdM g w4 wr) (fun i _ => s.length - (intOf i).toNat)
  case atStart => exact ⟨0, Nat.zero_le _, rfl, by rw [acc_0 HFZ.out]; exact r3, Upd.refl _ _⟩
  case round =>
    obtain ⟨k, hk, rfl, r5, hu⟩ := hrel
    have HU := Lib.hid hu
    have hsr := hu.size
    have rs := Row.upd hu rs4 (by omega)
    have rf := Row.upd hu rf4 (by omega)
    have hB := hB4.trans (UpdM.bel hu hlo (by omega))
    have hsB := hB.size
    have HR5 := Lib.hid r5
    have c0 := rs.src
    clear hu
    obtain ⟨f, HFK⟩ : ∃ f, Hid (accF f0 (s.map (nodeTF s)) k = f) := ⟨_, rfl⟩
    rw [HFK.out] at HR5
    obtain ⟨⟨y0, y1, y2⟩, q0, q1, q2⟩ := HR5.out.three
    clear r5
    have hgl : g < wr.heap.size := by omega
    by_cases hlt : k < s.length
    rotate_left 1
    · obtain rfl : k = s.length := by omega
      have HF : Hid (typesF s = f) := by
        show _ = _
        have h3 := acc_all (f := f0) (l := s.map (nodeTF s))
        rw [List.length_map] at h3
        rw [HTY.out, ← h3]
        exact HFK.out
      obtain ⟨⟨k0, k1, k2⟩, g0, g1, g2⟩ := rf.three
      go_wp2_with fail
      exact bodyPost_ret (res1 rfl Try.underlying31 rfl (by kernel_rfl) rfl (rf.set3 _ _ _)) rfl ⟨(congrArg (fun f => Ending.returned (ftV f)) HF.out).symm, below_set3 hB (by first | omega | (simp; omega) | simp) _ _ _⟩
    by_cases hf : f.err = 0
    rotate_left 1
    · have hf1 : (f.err == 0) = false := ne_beq hf
      have HF : Hid (typesF s = f) := by
        show _ = _
        have h3 := acc_stop (f := f0) (l := s.map (nodeTF s)) (k := k) (by rw [HFK.out]; exact hf)
        rw [HTY.out, ← h3]
        exact HFK.out
      clear hf
      obtain ⟨⟨k0, k1, k2⟩, g0, g1, g2⟩ := rf.three
      go_wp2_with fail
      exact bodyPost_ret (res1 rfl Try.underlying31 rfl (by kernel_rfl) rfl (rf.set3 _ _ _)) rfl ⟨(congrArg (fun f => Ending.returned (ftV f)) HF.out).symm, below_set3 hB (by first | omega | (simp; omega) | simp) _ _ _⟩
    have hf1 : (f.err == 0) = true := eq_beq hf
    have HZ : Hid ((scopeF s).err = 0) := by
      have h3 : (ft2 f0 (fstl ((s.map (nodeTF s)).take k))).err = 0 := by
        show (accF f0 (s.map (nodeTF s)) k).err = 0
        rw [HFK.out]; exact hf
      show _ = _
      rw [HFN.out]
      exact (ft2_ok h3).1
    clear hf
    obtain ⟨b, off, n, a, hA, hb, hn, hat, d0, d1, d2, d3, d4, d5, d6⟩ := (HS.out wr hB).nd hlt
    subst hA
    have hnm := List.mem_of_getElem? hn
    have HACC : Hid (ft2 f (nodeTF s n) = accF f0 (s.map (nodeTF s)) (k + 1)) := by
      show _ = _
      rw [← HFK.out]
      exact (acc_succ (by rw [List.getElem?_map, hn]; rfl) nodeTF_fz).symm
    have HFF : Hid (f = ft0) := by
      show _ = _
      rw [← HFK.out]
      exact fz_ft2 fz_fstl (by
        show (accF f0 (s.map (nodeTF s)) k).err = 0
        rw [HFK.out]; exact beq_iff_eq.1 hf1)
    have HNC : Hid (∀ W, Below wr.heap.size wr W → Calls Try.prog 81 #[srcV s (some ⟨b, off, none⟩) cap, ndV n a] W fun r w' => r = .returned (ftV (nodeTF s n)) ∧ Below W.heap.size W w') := fun W hW => by
      have hWB := hB.trans (hW.mono hsB)
      exact rnode16_any s (some ⟨b, off, none⟩) cap n a W h1 h2 HZ.out hnm (by have := (HSM.out.all n hnm).len; omega) (nds_keep (HS.out W hWB) (fun _ _ _ h => h) hWB.size) ((hat.below (hW.mono hsB)).more hWB.size)
    obtain ⟨fn, HFNN⟩ : ∃ fn, Hid (nodeTF s n = fn) := ⟨_, rfl⟩
    rw [HFNN.out] at HNC HACC
    have i0 : (0 : Int) ≤ (k : Int) := by omega
    have i1 : (k : Int) < (s.length : Int) := by omega
    have hbg : b ≠ g := by omega
    have hwg : w.heap.size ≠ g := by omega
    clear hn hat hnm
    have HK : Hid (∀ W, Below wr.heap.size wr W → W.cell? ⟨w.heap.size, 0, none⟩ = some (.slice (some ⟨b, off, none⟩) s.length cap) ∧ (W.cell? ⟨b, off + k * 7, none⟩ = some (.string n.name) ∧ W.cell? ⟨b, off + k * 7 + 1, none⟩ = some (.slice a.ai n.ins.length a.ci) ∧ W.cell? ⟨b, off + k * 7 + 2, none⟩ = some (.slice a.ao n.outs.length a.co) ∧ W.cell? ⟨b, off + k * 7 + 3, none⟩ = some (.slice a.av n.vars.length a.cv) ∧ W.cell? ⟨b, off + k * 7 + 4, none⟩ = some (.slice a.aq n.eqs.length a.cq) ∧ W.cell? ⟨b, off + k * 7 + 5, none⟩ = some (.int .i64 n.line) ∧ W.cell? ⟨b, off + k * 7 + 6, none⟩ = some (.int .i64 n.col))) := fun W hW => ⟨old_cell hW c0, old_cell hW d0, old_cell hW d1, old_cell hW d2, old_cell hW d3, old_cell hW d4, old_cell hW d5, old_cell hW d6⟩
    have hbw : b < wr.heap.size := by omega
    go_upto_region 5 with (fail)
    refine wp_region_held_drew (S := fun W => W.cell? ⟨w.heap.size, 0, none⟩ = some (.slice (some ⟨b, off, none⟩) s.length cap) ∧ (W.cell? ⟨b, off + k * 7, none⟩ = some (.string n.name) ∧ W.cell? ⟨b, off + k * 7 + 1, none⟩ = some (.slice a.ai n.ins.length a.ci) ∧ W.cell? ⟨b, off + k * 7 + 2, none⟩ = some (.slice a.ao n.outs.length a.co) ∧ W.cell? ⟨b, off + k * 7 + 3, none⟩ = some (.slice a.av n.vars.length a.cv) ∧ W.cell? ⟨b, off + k * 7 + 4, none⟩ = some (.slice a.aq n.eqs.length a.cq) ∧ W.cell? ⟨b, off + k * 7 + 5, none⟩ = some (.int .i64 n.line) ∧ W.cell? ⟨b, off + k * 7 + 6, none⟩ = some (.int .i64 n.col))) (by kernel_rfl) ?_ (fun hHeld => ?_)
    · (try dsimp only); (first | exact kkS _ _ _ | (with_reducible exact HK.out _ (by repeat (first | (with_reducible assumption) | (with_reducible exact Below.refl _ _) | (with_reducible refine Below.drew ?_) | (with_reducible refine below_drewN' ?_ _) | (with_reducible refine Below.alloc ?_ (by first | assumption | omega | (simp; omega) | simp | (simp [World.setCell]; omega) | simp [World.setCell]) _) | (with_reducible refine Below.setCell ?_ (by first | assumption | omega | (simp; omega) | simp | (simp [World.setCell]; omega) | simp [World.setCell]) _)))) | go_keep)
    refine wpAnyH_take (i := 0) (oi := { dst := some 19, op := _, type := _, pos := _, after := _, guard := _ }) (v := ?_) rfl (by kernel_rfl) (by kernel_rfl) (by kernel_rfl) (fun _ _ _ h => h) (Or.inl ⟨by kernel_rfl, ?_⟩) (by first | assumption | trivial) ?_
    rotate_left 1
    · intro w hSw; (try dsimp only at hSw); go_simp; (try with_reducible rfl)
    try simp only [Act.put, List.setIfInBounds_toArray, List.set_cons_zero, List.set_cons_succ]
    refine wpAnyH_take (i := 1) (oi := { dst := some 20, op := _, type := _, pos := _, after := _, guard := _ }) (v := ?_) rfl (by kernel_rfl) (by kernel_rfl) (by kernel_rfl) (fun _ _ _ h => h) (Or.inl ⟨by kernel_rfl, ?_⟩) (by first | assumption | trivial) ?_
    rotate_left 1
    · intro w hSw; (try dsimp only at hSw); go_simp; (try with_reducible rfl)
    try simp only [Act.put, List.setIfInBounds_toArray, List.set_cons_zero, List.set_cons_succ]
    refine wpAnyH_take (i := 2) (oi := { dst := some 21, op := _, type := _, pos := _, after := _, guard := _ }) (v := ?_) rfl (by kernel_rfl) (by kernel_rfl) (by kernel_rfl) (fun _ _ _ h => h) (Or.inl ⟨by kernel_rfl, ?_⟩) (by first | assumption | trivial) ?_
    rotate_left 1
    · intro w hSw; (try dsimp only at hSw); go_simp; (try with_reducible rfl)
    try simp only [Act.put, List.setIfInBounds_toArray, List.set_cons_zero, List.set_cons_succ]
    refine wpAnyH_take (i := 3) (oi := { dst := some 22, op := _, type := _, pos := _, after := _, guard := _ }) (v := ?_) rfl (by kernel_rfl) (by kernel_rfl) (by kernel_rfl) (fun _ _ _ h => h) (Or.inl ⟨by kernel_rfl, ?_⟩) (by first | assumption | trivial) ?_
    rotate_left 1
    · intro w hSw; (try dsimp only at hSw); go_simp; (try with_reducible rfl)
    try simp only [Act.put, List.setIfInBounds_toArray, List.set_cons_zero, List.set_cons_succ]
    refine wpAnyH_take (i := 4) (oi := { dst := some 23, op := _, type := _, pos := _, after := _, guard := _ }) (v := ?_) rfl (by kernel_rfl) (by kernel_rfl) (by kernel_rfl) (fun _ _ _ h => h) (Or.inl ⟨by kernel_rfl, ?_⟩) (by first | assumption | trivial) ?_
    rotate_left 1
    · intro w hSw; (try dsimp only at hSw); go_simp; (try with_reducible rfl)
    try simp only [Act.put, List.setIfInBounds_toArray, List.set_cons_zero, List.set_cons_succ]
    refine wpAnyH_take (i := 5) (oi := { dst := some 24, op := _, type := _, pos := _, after := _, guard := _ }) (v := ?_) rfl (by kernel_rfl) (by kernel_rfl) (by kernel_rfl) (fun _ _ _ h => h) (Or.inl ⟨by kernel_rfl, ?_⟩) (by first | assumption | trivial) ?_
    rotate_left 1
    · intro w hSw; (try dsimp only at hSw); go_simp; (try with_reducible rfl)
    try simp only [Act.put, List.setIfInBounds_toArray, List.set_cons_zero, List.set_cons_succ]
    refine wpAnyH_ready (rs := [6]) (by kernel_rfl) (by simp) ?_
    refine AllReadyH.cons (o := { dst := some 25, op := _, type := _, pos := _, after := _, guard := _ }) rfl (fun KK hKK => ?_) AllReadyH.nil
    go_simp
    go_at_call 81; (refine (HNC.out _ (by repeat (first | (with_reducible assumption) | (with_reducible exact Below.refl _ _) | (with_reducible refine Below.drew ?_) | (with_reducible refine below_drewN' ?_ _) | (with_reducible refine Below.alloc ?_ (by first | assumption | omega | (simp; omega) | simp | (simp [World.setCell]; omega) | simp [World.setCell]) _) | (with_reducible refine Below.setCell ?_ (by first | assumption | omega | (simp; omega) | simp | (simp [World.setCell]; omega) | simp [World.setCell]) _)))).mono ?_); rintro r w5 ⟨rfl, hb5⟩; (have hb6 : Below wr.heap.size wr w5 := Below.trans (by repeat (first | (with_reducible assumption) | (with_reducible exact Below.refl _ _) | (with_reducible refine Below.drew ?_) | (with_reducible refine below_drewN' ?_ _) | (with_reducible refine Below.alloc ?_ (by first | assumption | omega | (simp; omega) | simp | (simp [World.setCell]; omega) | simp [World.setCell]) _) | (with_reducible refine Below.setCell ?_ (by first | assumption | omega | (simp; omega) | simp | (simp [World.setCell]; omega) | simp [World.setCell]) _))) (hb5.mono (by first | exact Nat.le_refl _ | simp | (simp; omega) | omega))); (have r6 := HR5.out.below hb6 hgl); (obtain ⟨⟨p0, p1, p2⟩, f0', f1', f2'⟩ := r6.three); (have kkS := fun y0 y1 y2 : Value => (⟨upd_cell (upd_set3 (Upd.refl _ w5) y0 y1 y2) (HK.out _ hb6).1 hwg, upd_cell (upd_set3 (Upd.refl _ w5) y0 y1 y2) (HK.out _ hb6).2.1 hbg, upd_cell (upd_set3 (Upd.refl _ w5) y0 y1 y2) (HK.out _ hb6).2.2.1 hbg, upd_cell (upd_set3 (Upd.refl _ w5) y0 y1 y2) (HK.out _ hb6).2.2.2.1 hbg, upd_cell (upd_set3 (Upd.refl _ w5) y0 y1 y2) (HK.out _ hb6).2.2.2.2.1 hbg, upd_cell (upd_set3 (Upd.refl _ w5) y0 y1 y2) (HK.out _ hb6).2.2.2.2.2.1 hbg, upd_cell (upd_set3 (Upd.refl _ w5) y0 y1 y2) (HK.out _ hb6).2.2.2.2.2.2.1 hbg, upd_cell (upd_set3 (Upd.refl _ w5) y0 y1 y2) (HK.out _ hb6).2.2.2.2.2.2.2 hbg⟩ : _ ∧ _ ∧ _ ∧ _ ∧ _ ∧ _ ∧ _ ∧ _))
    (try go_wp2_with fail)
    refine hKK.out _ _ ?_ (fun hHeld => ?_)
    · (try dsimp only); (first | exact kkS _ _ _ | (with_reducible exact HK.out _ (by repeat (first | (with_reducible assumption) | (with_reducible exact Below.refl _ _) | (with_reducible refine Below.drew ?_) | (with_reducible refine below_drewN' ?_ _) | (with_reducible refine Below.alloc ?_ (by first | assumption | omega | (simp; omega) | simp | (simp [World.setCell]; omega) | simp [World.setCell]) _) | (with_reducible refine Below.setCell ?_ (by first | assumption | omega | (simp; omega) | simp | (simp [World.setCell]; omega) | simp [World.setCell]) _)))) | go_keep)
    clear hKK KK
    try simp only [Act.put, List.setIfInBounds_toArray, List.set_cons_zero, List.set_cons_succ]
    refine wpAnyH_ready (rs := [7]) (by kernel_rfl) (by simp) ?_
    refine AllReadyH.cons (o := { dst := none, op := _, type := _, pos := _, after := _, guard := _ }) rfl (fun KK hKK => ?_) AllReadyH.nil
    go_simp
    refine hKK.out _ _ ?_ (fun hHeld => ?_)
    · (try dsimp only); (first | exact kkS _ _ _ | (with_reducible exact HK.out _ (by repeat (first | (with_reducible assumption) | (with_reducible exact Below.refl _ _) | (with_reducible refine Below.drew ?_) | (with_reducible refine below_drewN' ?_ _) | (with_reducible refine Below.alloc ?_ (by first | assumption | omega | (simp; omega) | simp | (simp [World.setCell]; omega) | simp [World.setCell]) _) | (with_reducible refine Below.setCell ?_ (by first | assumption | omega | (simp; omega) | simp | (simp [World.setCell]; omega) | simp [World.setCell]) _)))) | go_keep)
    clear hKK KK
    try simp only [Act.put, List.setIfInBounds_toArray, List.set_cons_zero, List.set_cons_succ]
    refine wpAnyH_done (by kernel_rfl) ?_ _
    have r7 : Row (((w5.setCell ⟨g, 0, none⟩ (.int .i64 fn.err)).setCell ⟨g, 1, none⟩ (.int .i64 fn.line)).setCell ⟨g, 2, none⟩ (.int .i64 fn.col)) g (ftC (accF f0 (s.map (nodeTF s)) (k + 1))) 31 := by
      rw [← HACC.out, HFF.out, ft2_l]
      exact r6.set3 _ _ _
    have HU7 := Lib.hid (upd_set3 (Upd.trans HU.out (UpdM.of hb6)) (.int .i64 fn.err) (.int .i64 fn.line) (.int .i64 fn.col))
    have HR7 := Lib.hid r7
    clear r7 r6 p0 p1 p2 kkS
    go_wp2_with fail
    go_roundw
    case rel => exact ⟨k + 1, by omega, by go_num, HR7.out, HU7.out⟩
    case measure => first | (simp [intOf]; omega) | simp [intOf]
end Go.Proofs.Ytolabbnchmmckaa
