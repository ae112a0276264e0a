/-
  All that a node hangs on, by the document's steps: the contract of tompionref17.Hangs.
-/
import Derived.Test.YtabceednmgijoaaGreatRfU
namespace Go.Proofs.YtabceednmgijoaaGreat
open Go.RowKit
attribute [local go_sem ↓] Go.wp_at_zero Go.wp_at_succ
theorem rise_len {s : List Nd} (sm : SrcSm s) {L : List ByteArray} (h : Rising L) (hs : ∀ x ∈ L, x ∈ s.map Nd.name) : L.length ≤ 20 := by
  have := nodup_len h.nodup hs
  rw [List.length_map] at this
  have := sm.len
  omega
section
variable {s : List Nd} (h0 : (scopeF s).err = 0)
include h0
theorem stp_names (nm : ByteArray) (i : Nat) : Rising (stp (usesAt s) nm i) ∧ ∀ x ∈ stp (usesAt s) nm i, x ∈ s.map Nd.name :=
  ⟨stp_rising (usesAt_rising s nm) i, fun x hx => hg_sub (uses_V h0) (stp_hg i x hx)⟩
theorem rnd_names (nm : ByteArray) (i j : Nat) : Rising (rndTo (usesAt s) (stp (usesAt s) nm i) j (stp (usesAt s) nm i)) ∧ ∀ x ∈ rndTo (usesAt s) (stp (usesAt s) nm i) j (stp (usesAt s) nm i), x ∈ s.map Nd.name :=
  ⟨rndTo_rising (stp_names h0 nm i).1, fun x hx => by
    rcases rndTo_mem.1 hx with g | ⟨y, _, g⟩
    · exact (stp_names h0 nm i).2 x g
    · exact uses_V h0 y x g⟩
theorem ins_names (nm : ByteArray) (i j : Nat) {M : List ByteArray} (hM : ∀ x ∈ M, x ∈ s.map Nd.name) : Rising (insAll (rndTo (usesAt s) (stp (usesAt s) nm i) j (stp (usesAt s) nm i)) M) ∧ ∀ x ∈ insAll (rndTo (usesAt s) (stp (usesAt s) nm i) j (stp (usesAt s) nm i)) M, x ∈ s.map Nd.name :=
  ⟨insAll_rising (rnd_names h0 nm i j).1, fun x hx => by
    rcases insAll_mem.1 hx with g | g
    · exact (rnd_names h0 nm i j).2 x g
    · exact hM x g⟩
end
theorem name_node {s : List Nd} {nm : ByteArray} (h : nm ∈ s.map Nd.name) : ∃ (k : Nat) (m : Nd), nodeIdx s nm = k ∧ s[k]? = some m ∧ nodeAt s nm = some m := by
  rcases node_cases s nm with ⟨k, m, h1, h2, _, h4⟩ | ⟨h1, _⟩
  · exact ⟨k, m, h1, h2, h4⟩
  · have := node_mem.2 h
    omega
set_option maxRecDepth 100000 in
set_option maxHeartbeats 1000000 in
theorem rhangs_any (s : List Nd) (A : Option Addr) (cap : Nat) (nm : ByteArray) (w : World) (h0 : (scopeF s).err = 0) (sm : SrcSm s) (h1 : s.length ≤ cap) (h2 : cap ≤ maxLen) (h : Nds w w.heap.size A s) (hnm : nm ∈ s.map Nd.name) :
    Calls Tryz.prog 36 #[srcV s A cap, .string nm] w fun r w' => (∃ v, r = .returned v ∧ SlV w' w'.heap.size 1 isStr v (stp (usesAt s) nm s.length)) ∧ Below w.heap.size w w' := by
  have rs1 := Row.new w #[.slice A s.length cap] 24
  have b1 : Below w.heap.size w (w.alloc (.cells #[.slice A s.length cap] 24)) := bE
  have HSW : Hid (∀ W, Below w.heap.size w W → Nds W W.heap.size A s) := fun W hW => nds_keep h (keeps_of hW) hW.size
  have HS : Hid (∀ W, Below w.heap.size w W → Nds W w.heap.size A s) := fun W hW => nds_keep h (keeps_of hW) (Nat.le_refl _)
  have HSM := Lib.hid sm
  have H0 := Lib.hid h0
  have HCN : Hid (∀ W y (i : Nat), Below w.heap.size w W → nodeIdx s y = i → Calls Tryz.prog 54 #[srcV s A cap, .string y] W fun e w' => e = .returned (.int .i64 i) ∧ Below W.heap.size W w') := fun W y i hW hy => by
    have := rnode_any s A cap y W h1 h2 (HSW.out W hW)
    rwa [hy] at this
  have HCU : Hid (∀ W (n : Nd) (a : NdA), n ∈ s → NdAt W W.heap.size n a → Calls Tryz.prog 13 #[ndV n a] W fun r w' => (∃ v, r = .returned v ∧ SlV w' w'.heap.size 1 isStr v (usesF n)) ∧ Below W.heap.size W w') := fun W n a hn ha => ruses_any n a W (HSM.out.all n hn) ha
  have h2' : cap ≤ 9223372036854775807 := by unfold maxLen at h2; omega
  have hsl := sm.len
  obtain ⟨k, mo, hki, hk, hma⟩ := name_node hnm
  clear h sm h0
  go_enter Tryz.func36, Tryz.ntmps36
  go_upto_region 1 with (fail)
  generalize w.alloc (.cells #[.slice A s.length cap] 24) = W1 at *
  have hs1 := b1.size
  have hkl := (List.getElem?_eq_some_iff.1 hk).1
  obtain ⟨b, off, m, am, hA, hb, hm', hat, d0, d1, d2, d3, d4, d5, d6⟩ := (HS.out W1 b1).nd hkl
  obtain rfl : m = mo := by rw [hk] at hm'; injection hm' with hm'; exact hm'.symm
  subst hA
  have HM := Lib.hid (List.mem_of_getElem? hk)
  have HU0 : Hid (usesAt s nm = usesF m) := by show _ = _; unfold usesAt; rw [hma]
  have HN1 : Hid (∀ W, Below W1.heap.size W1 W → NdAt W W.heap.size m am) := fun W hW => (hat.below (hW.mono hs1)).more (Nat.le_trans hs1 hW.size)
  have i0 : (0 : Int) ≤ (k : Int) := by omega
  have i1 : (k : Int) < (s.length : Int) := by omega
  have HK : Hid (∀ W, Below W1.heap.size W1 W → W.cell? ⟨w.heap.size, 0, none⟩ = some (.slice (some ⟨b, off, none⟩) s.length cap) ∧ W.cell? ⟨b, off + k * 7, none⟩ = some (.string m.name) ∧ W.cell? ⟨b, off + k * 7 + 1, none⟩ = some (.slice am.ai m.ins.length am.ci) ∧ W.cell? ⟨b, off + k * 7 + 2, none⟩ = some (.slice am.ao m.outs.length am.co) ∧ W.cell? ⟨b, off + k * 7 + 3, none⟩ = some (.slice am.av m.vars.length am.cv) ∧ W.cell? ⟨b, off + k * 7 + 4, none⟩ = some (.slice am.aq m.eqs.length am.cq) ∧ W.cell? ⟨b, off + k * 7 + 5, none⟩ = some (.int .i64 m.line) ∧ W.cell? ⟨b, off + k * 7 + 6, none⟩ = some (.int .i64 m.col)) := fun W hW => ⟨(rs1.below hW rs1.lt).src, old_cell hW d0, old_cell hW d1, old_cell hW d2, old_cell hW d3, old_cell hW d4, old_cell hW d5, old_cell hW d6⟩
  have HKI := Lib.hid hki
  clear hk hm' hat hma hki d0 d1 d2 d3 d4 d5 d6
  go_cut [5] (fun v5 W => SlV W W.heap.size 1 isStr v5 (usesF m) ∧ Below W1.heap.size W1 W)
  case first =>
    refine wp_region_held_drew (S := fun W => W.cell? ⟨w.heap.size, 0, none⟩ = some (.slice (some ⟨b, off, none⟩) s.length cap) ∧ W.cell? ⟨b, off + k * 7, none⟩ = some (.string m.name) ∧ W.cell? ⟨b, off + k * 7 + 1, none⟩ = some (.slice am.ai m.ins.length am.ci) ∧ W.cell? ⟨b, off + k * 7 + 2, none⟩ = some (.slice am.ao m.outs.length am.co) ∧ W.cell? ⟨b, off + k * 7 + 3, none⟩ = some (.slice am.av m.vars.length am.cv) ∧ W.cell? ⟨b, off + k * 7 + 4, none⟩ = some (.slice am.aq m.eqs.length am.cq) ∧ W.cell? ⟨b, off + k * 7 + 5, none⟩ = some (.int .i64 m.line) ∧ W.cell? ⟨b, off + k * 7 + 6, none⟩ = some (.int .i64 m.col)) (by kernel_rfl) ?_ (fun hHeld => ?_)
    · (try dsimp only); (first | (with_reducible exact HK.out _ bE) | exact hHeld | assumption | trivial)
    refine tk 0 (some 11) rfl ?_
    refine tk 1 (some 12) rfl ?_
    refine tk 2 (some 13) rfl ?_
    refine tk 3 (some 14) rfl ?_
    refine rd1 4 (some 15) rfl (fun KK hKK => ?_)
    go_simp
    (go_at_call 54; refine Calls.mono (HCN.out _ nm k (b1.trans (Below.mono (B := W1.heap.size) bE hs1)) HKI.out) ?_; rintro e w2 ⟨rfl, hb2⟩; (have hb3 : Below W1.heap.size W1 w2 := Below.trans bE (hb2.mono lE)))
    (try go_wp2_with fail)
    refine hKK.out _ _ ?_ (fun hHeld => ?_)
    · (try dsimp only); (first | (with_reducible exact HK.out _ bE) | exact hHeld | assumption | trivial)
    clear hKK KK
    try simp only [Act.put, List.setIfInBounds_toArray, List.set_cons_zero, List.set_cons_succ]
    refine tk 5 (some 16) rfl ?_
    refine tk 6 (some 17) rfl ?_
    refine rd1 7 (some 18) rfl (fun KK hKK => ?_)
    go_simp
    (go_at_call 13; refine Calls.mono (HCU.out _ m am HM.out (HN1.out _ bE)) ?_; rintro e w4 ⟨⟨v4, rfl, hv4⟩, hb4⟩; (have hb5 : Below W1.heap.size W1 w4 := Below.trans bE (hb4.mono (by have := hb3.size; first | exact this | (simp; exact this)))))
    (try go_wp2_with fail)
    refine hKK.out _ _ ?_ (fun hHeld => ?_)
    · (try dsimp only); (first | (with_reducible exact HK.out _ bE) | exact hHeld | assumption | trivial)
    clear hKK KK
    try simp only [Act.put, List.setIfInBounds_toArray, List.set_cons_zero, List.set_cons_succ]
    refine tk 8 (some 5) rfl ?_
    refine wpAnyH_done (by kernel_rfl) ?_ _
    go_wp2_with fail
    go_meet
    exact ⟨hv4, by first | exact hb5 | exact hb5.drew⟩
  obtain ⟨hv, hbc⟩ := hcut
  rw [← HU0.out] at hv
  have rs2 := rs1.below hbc rs1.lt
  have hB2 := b1.trans (hbc.mono hs1)
  have hs2 := hB2.size
  clear HK HN1 HU0 HM HKI rs1 b1 hbc hs1 i0 i1 hkl hb
  obtain ⟨w2, rfl⟩ : ∃ w2 : World, w2 = wc := ⟨_, rfl⟩
  go_wp2_with fail
  go_loopw [5, 6] (fun o t wr => ∃ i : Nat, i ≤ s.length ∧ t = .int .i64 i ∧ SlV wr wr.heap.size 1 isStr o (stp (usesAt s) nm i) ∧ Below w2.heap.size w2 wr) (fun _ t _ => s.length - (intOf t).toNat)
  case atStart => exact ⟨0, Nat.zero_le _, rfl, hv, Below.refl _ _⟩
  case round =>
    clear hv
    obtain ⟨i, hi, rfl, hv, hb3⟩ := hrel
    have hB3 := hB2.trans (hb3.mono hs2)
    have hs3 := hB3.size
    have hs23 := hb3.size
    have rs3 := rs2.below hb3 rs2.lt
    have c0 := rs3.src
    by_cases hlt : i < s.length
    rotate_left 1
    · obtain rfl : i = s.length := by omega
      go_wp2_with fail
      go_ret
      exact ⟨⟨_, rfl, hv⟩, hB3⟩
    have i0 : (0 : Int) ≤ (i : Int) := by omega
    have i1 : (i : Int) < (s.length : Int) := by omega
    have hll := rise_len HSM.out (stp_names H0.out nm i).1 (stp_names H0.out nm i).2
    obtain ⟨l, HL⟩ : ∃ l, Hid (stp (usesAt s) nm i = l) := ⟨_, rfl⟩
    rw [HL.out] at hv hll
    obtain ⟨A3, c3, rfl, g1, g2, g3⟩ := hv
    have HL3 : Hid (∀ W, Below wr.heap.size wr W → Sl W wr.heap.size 1 isStr A3 l) := fun W hW => g3.below hW
    obtain ⟨w3, rfl⟩ : ∃ w3 : World, w3 = wr := ⟨_, rfl⟩
    have g2' : c3 ≤ 9223372036854775807 := by unfold maxLen at g2; omega
    go_wp2_with fail
    clear c0
    go_loopw [5, 8] (fun o t wr => ∃ j : Nat, j ≤ l.length ∧ t = .int .i64 j ∧ SlV wr wr.heap.size 1 isStr o (rndTo (usesAt s) l j l) ∧ Below w3.heap.size w3 wr) (fun _ t _ => l.length - (intOf t).toNat)
    case atStart => exact ⟨0, Nat.zero_le _, rfl, by rw [rndTo_zero]; exact ⟨A3, c3, rfl, g1, g2, g3⟩, Below.refl _ _⟩
    case round =>
      clear g3
      obtain ⟨j, hj, rfl, hv, hb4⟩ := hrel
      have hs34 := hb4.size
      have hB4 := hB3.trans (hb4.mono hs3)
      have hs4 := hB4.size
      by_cases hlj : j < l.length
      rotate_left 1
      · obtain rfl : j = l.length := by omega
        have HE : Hid (rndTo (usesAt s) l l.length l = stp (usesAt s) nm (i + 1)) := by show _ = _; rw [rndTo_end, ← HL.out]; rfl
        rw [HE.out] at hv
        go_wp2_with fail
        go_roundw
        case rel => exact ⟨i + 1, by omega, by go_num, hv, hb3.trans (hb4.mono hs23)⟩
        case measure => first | (simp [intOf]; omega) | simp [intOf]
      obtain ⟨b3, off3, x, hA3, hb3', hx, hsx, e0⟩ := (HL3.out wr hb4).str hlj
      have HA3 := Lib.hid hA3
      rw [hA3]
      have HX := Lib.hid hx
      have HXM : Hid (x ∈ s.map Nd.name) := by
        show _ ∈ _
        have := List.mem_of_getElem? hx
        rw [← HL.out] at this
        exact (stp_names H0.out nm i).2 x this
      obtain ⟨k2, mo, hki, hk, hma⟩ := name_node HXM.out
      have hkl := (List.getElem?_eq_some_iff.1 hk).1
      obtain ⟨b', off', m2, am2, hA', hb', hm', hat, d0, d1, d2, d3, d4, d5, d6⟩ := (HS.out wr hB4).nd hkl
      obtain rfl : m2 = mo := by rw [hk] at hm'; injection hm' with hm'; exact hm'.symm
      obtain ⟨rfl, rfl⟩ : b = b' ∧ off = off' := by
        injection hA' with hA'
        injection hA' with hA1 hA2
        exact ⟨hA1, hA2⟩
      have HM := Lib.hid (List.mem_of_getElem? hk)
      have HU2 : Hid (usesAt s x = usesF m2) := by show _ = _; unfold usesAt; rw [hma]
      have HN2 : Hid (∀ W, Below wr.heap.size wr W → NdAt W W.heap.size m2 am2) := fun W hW => (hat.below (hW.mono hs4)).more (Nat.le_trans hs4 hW.size)
      have j0 : (0 : Int) ≤ (k2 : Int) := by omega
      have j1 : (k2 : Int) < (s.length : Int) := by omega
      have j2 : (0 : Int) ≤ (j : Int) := by omega
      have j3 : (j : Int) < (l.length : Int) := by omega
      have rs4 := rs3.below hb4 rs3.lt
      have HK : Hid (∀ W, Below wr.heap.size wr W → W.cell? ⟨w.heap.size, 0, none⟩ = some (.slice (some ⟨b, off, none⟩) s.length cap) ∧ W.cell? ⟨b3, off3 + j, none⟩ = some (.string x) ∧ W.cell? ⟨b, off + k2 * 7, none⟩ = some (.string m2.name) ∧ W.cell? ⟨b, off + k2 * 7 + 1, none⟩ = some (.slice am2.ai m2.ins.length am2.ci) ∧ W.cell? ⟨b, off + k2 * 7 + 2, none⟩ = some (.slice am2.ao m2.outs.length am2.co) ∧ W.cell? ⟨b, off + k2 * 7 + 3, none⟩ = some (.slice am2.av m2.vars.length am2.cv) ∧ W.cell? ⟨b, off + k2 * 7 + 4, none⟩ = some (.slice am2.aq m2.eqs.length am2.cq) ∧ W.cell? ⟨b, off + k2 * 7 + 5, none⟩ = some (.int .i64 m2.line) ∧ W.cell? ⟨b, off + k2 * 7 + 6, none⟩ = some (.int .i64 m2.col)) := fun W hW => ⟨(rs4.below hW rs4.lt).src, old_cell hW e0, old_cell hW d0, old_cell hW d1, old_cell hW d2, old_cell hW d3, old_cell hW d4, old_cell hW d5, old_cell hW d6⟩
      have HKI := Lib.hid hki
      clear hx hk hm' hat hma hki d0 d1 d2 d3 d4 d5 d6 hA3 hA' e0
      obtain ⟨w4, rfl⟩ : ∃ w4 : World, w4 = wr := ⟨_, rfl⟩
      go_wp2_with fail
      go_cut [9] (fun v9 W => SlV W W.heap.size 1 isStr v9 (usesF m2) ∧ Below w4.heap.size w4 W)
      case first =>
        refine wp_region_held_drew (S := fun W => W.cell? ⟨w.heap.size, 0, none⟩ = some (.slice (some ⟨b, off, none⟩) s.length cap) ∧ W.cell? ⟨b3, off3 + j, none⟩ = some (.string x) ∧ W.cell? ⟨b, off + k2 * 7, none⟩ = some (.string m2.name) ∧ W.cell? ⟨b, off + k2 * 7 + 1, none⟩ = some (.slice am2.ai m2.ins.length am2.ci) ∧ W.cell? ⟨b, off + k2 * 7 + 2, none⟩ = some (.slice am2.ao m2.outs.length am2.co) ∧ W.cell? ⟨b, off + k2 * 7 + 3, none⟩ = some (.slice am2.av m2.vars.length am2.cv) ∧ W.cell? ⟨b, off + k2 * 7 + 4, none⟩ = some (.slice am2.aq m2.eqs.length am2.cq) ∧ W.cell? ⟨b, off + k2 * 7 + 5, none⟩ = some (.int .i64 m2.line) ∧ W.cell? ⟨b, off + k2 * 7 + 6, none⟩ = some (.int .i64 m2.col)) (by kernel_rfl) ?_ (fun hHeld => ?_)
        · (try dsimp only); (first | (with_reducible exact HK.out _ bE) | exact hHeld | assumption | trivial)
        refine tk 0 (some 33) rfl ?_
        refine tk 1 (some 34) rfl ?_
        refine tk 2 (some 35) rfl ?_
        refine tk 3 (some 36) rfl ?_
        refine tk 4 (some 37) rfl ?_
        refine tk 5 (some 38) rfl ?_
        refine tk 6 (some 39) rfl ?_
        refine rd1 7 (some 40) rfl (fun KK hKK => ?_)
        go_simp
        (go_at_call 54; refine Calls.mono (HCN.out _ x k2 (hB4.trans (Below.mono (B := w4.heap.size) bE hs4)) HKI.out) ?_; rintro e w5 ⟨rfl, hb5⟩; (have hb6 : Below w4.heap.size w4 w5 := Below.trans bE (hb5.mono lE)))
        (try go_wp2_with fail)
        refine hKK.out _ _ ?_ (fun hHeld => ?_)
        · (try dsimp only); (first | (with_reducible exact HK.out _ bE) | exact hHeld | assumption | trivial)
        clear hKK KK
        try simp only [Act.put, List.setIfInBounds_toArray, List.set_cons_zero, List.set_cons_succ]
        refine tk 8 (some 41) rfl ?_
        refine tk 9 (some 42) rfl ?_
        refine rd1 10 (some 43) rfl (fun KK hKK => ?_)
        go_simp
        (go_at_call 13; refine Calls.mono (HCU.out _ m2 am2 HM.out (HN2.out _ bE)) ?_; rintro e w7 ⟨⟨v7, rfl, hv7⟩, hb7⟩; (have hb8 : Below w4.heap.size w4 w7 := Below.trans bE (hb7.mono (by have := hb6.size; first | exact this | (simp; exact this)))))
        (try go_wp2_with fail)
        refine hKK.out _ _ ?_ (fun hHeld => ?_)
        · (try dsimp only); (first | (with_reducible exact HK.out _ bE) | exact hHeld | assumption | trivial)
        clear hKK KK
        try simp only [Act.put, List.setIfInBounds_toArray, List.set_cons_zero, List.set_cons_succ]
        refine tk 11 (some 9) rfl ?_
        refine wpAnyH_done (by kernel_rfl) ?_ _
        go_wp2_with fail
        go_meet
        exact ⟨hv7, by first | exact hb8 | exact hb8.drew⟩
      obtain ⟨hu, hbc⟩ := hcut
      rw [← HU2.out] at hu
      have hv5 := (hv.below hbc).more hbc.size
      clear HK HN2 HU2 HM HKI hv
      obtain ⟨w5, rfl⟩ : ∃ w5 : World, w5 = wc := ⟨_, rfl⟩
      obtain ⟨A5, c5, rfl, u1, u2, u3⟩ := hu
      have HU5 : Hid (∀ W, Below w5.heap.size w5 W → Sl W w5.heap.size 1 isStr A5 (usesAt s x)) := fun W hW => u3.below hW
      have u2' : c5 ≤ 9223372036854775807 := by unfold maxLen at u2; omega
      clear u3
      go_wp2_with fail
      go_loopw [5, 10] (fun o t wr => ∃ p : Nat, p ≤ (usesAt s x).length ∧ t = .int .i64 p ∧ SlV wr wr.heap.size 1 isStr o (insAll (rndTo (usesAt s) l j l) ((usesAt s x).take p)) ∧ Below w5.heap.size w5 wr) (fun _ t _ => (usesAt s x).length - (intOf t).toNat)
      case atStart => exact ⟨0, Nat.zero_le _, rfl, by rw [List.take_zero, insAll_nil]; exact hv5, Below.refl _ _⟩
      case round =>
        clear hv5
        obtain ⟨p, hp, rfl, hv, hb6⟩ := hrel
        have hs6 := hb6.size
        by_cases hlp : p < (usesAt s x).length
        rotate_left 1
        · obtain rfl : p = (usesAt s x).length := by omega
          rw [List.take_length, ← rndTo_succ HX.out] at hv
          go_wp2_with fail
          go_roundw
          case rel => exact ⟨j + 1, by omega, by go_num, hv, hb4.trans ((hbc.trans (hb6.mono hbc.size)).mono hs34)⟩
          case measure => first | (simp [intOf]; omega) | simp [intOf]
        obtain ⟨b6, off6, y, hA6, hb6', hy, hsy, e0⟩ := (HU5.out wr hb6).str hlp
        rw [hA6]
        have HT : Hid ((usesAt s x).take (p + 1) = (usesAt s x).take p ++ [y]) := by
          show _ = _
          obtain ⟨q1, q2⟩ := List.getElem?_eq_some_iff.1 hy
          rw [List.take_succ_eq_append_getElem q1, q2]
        have p0 : (0 : Int) ≤ (p : Int) := by omega
        have p1 : (p : Int) < ((usesAt s x).length : Int) := by omega
        have hil := ins_names H0.out nm i j (M := (usesAt s x).take p) (fun z hz => uses_V H0.out x z (List.mem_of_mem_take hz))
        rw [HL.out] at hil
        have hil := rise_len HSM.out hil.1 hil.2
        obtain ⟨A7, c7, rfl, q1, q2, q3⟩ := hv
        have HR := Lib.hid (rsorted_any _ _ A7 c7 y wr rfl q1 q2 (by omega) hsy q3)
        clear hy q3 hA6
        go_wp2_with fail
        refine HR.out.mono ?_
        rintro r w8 ⟨⟨v8, rfl, hv8⟩, hb8⟩
        go_wp2_with fail
        go_roundw
        case rel => exact ⟨p + 1, by omega, by go_num, (by rw [HT.out, insAll_snoc]; exact hv8), hb6.trans (hb8.mono hs6)⟩
        case measure => first | (simp [intOf]; omega) | simp [intOf]
end Go.Proofs.YtabceednmgijoaaGreat
