/-
  What the law EmitOf asks of the document: Same of nothing, Cells, Types, Most.
-/
import Derived.Test.YtbjaejgechadpaaEmE
namespace Go.Proofs.Ytbjaejgechadpaa.Fo
open Vf
def mostS (l : List Stp) : Nat := (l.map (fun s => 1 + s.2.length)).sum
def mostF (f : Fm) : Nat := f.ins.length + f.outs.length + mostS (stepsOf f)
theorem mostS_append (l m : List Stp) : mostS (l ++ m) = mostS l + mostS m := by simp [mostS]
theorem mostS_one (s : Stp) : mostS [s] = 1 + s.2.length := by simp [mostS]
theorem most_same : ∀ (h : List Stp) (c : List Gd), (∀ s ∈ h, s.2 = c) → mostS h = h.length * (1 + c.length)
  | [], _, _ => by simp [mostS]
  | s :: h, c, hc => by
    have h1 := most_same h c (fun s hs => hc s (by simp [hs]))
    have h2 : s.2.length = c.length := by rw [hc s (by simp)]
    rw [show s :: h = [s] ++ h from rfl, mostS_append, mostS_one, h1, h2, List.length_append, List.length_singleton, Nat.add_mul]
    omega
theorem runs_most {l : List Stp} {body : List In5} (h : Runs l body) : body.length ≤ mostS l := by
  induction h with
  | nil => simp
  | cons h t c code hne hc _ ih =>
    rw [mostS_append, most_same h c hc]
    have h0 : 0 < h.length := List.length_pos_iff.2 hne
    simp only [List.length_append, skipsOf_len, List.length_map]
    have : c.length + h.length ≤ h.length * (1 + c.length) := by
      rw [Nat.mul_add, Nat.mul_one]
      have := Nat.le_mul_of_pos_left c.length h0
      omega
    omega
theorem emits_most {f : Fm} {code : List In5} (h : Emits f code) : code.length ≤ mostF f := by
  obtain ⟨body, hr, rfl⟩ := h
  have := runs_most hr
  simp only [List.length_append, portsC_len, mostF]
  omega
end Go.Proofs.Ytbjaejgechadpaa.Fo
namespace Go.Proofs.Ytbjaejgechadpaa
open Go.RowKit Vf Fo
attribute [local go_sem ↓] Go.wp_at_zero Go.wp_at_succ
set_option maxRecDepth 100000 in
set_option maxHeartbeats 8000000 in
theorem same0_any (w : World) : Calls Try.prog 36 #[.agg #[.slice none 0 0, .slice none 0 0, .int .i64 0, .slice none 0 0, .slice none 0 0], .agg #[.slice none 0 0, .slice none 0 0, .int .i64 0, .slice none 0 0, .slice none 0 0]] w fun e w' => e = .returned (.bool true) ∧ Below w.heap.size w w' := by
  have HI : Hid (∀ W, Calls Try.prog 20 #[.slice none 0 0, .slice none 0 0] W fun e w' => e = .returned (.bool true) ∧ ∃ n, w' = W.drewN n) := fun W => by
    have := fints_any [] [] (.slice none 0 0) (.slice none 0 0) 0 W SlV.nil SlV.nil
    rwa [cB_true rfl] at this
  have b1 : Below w.heap.size w ((w.alloc (.cells #[.slice none 0 0, .slice none 0 0, .int .i64 0, .slice none 0 0, .slice none 0 0] 26)).alloc (.cells #[.slice none 0 0, .slice none 0 0, .int .i64 0, .slice none 0 0, .slice none 0 0] 26)) := bE
  have r1 : Row ((w.alloc (.cells #[.slice none 0 0, .slice none 0 0, .int .i64 0, .slice none 0 0, .slice none 0 0] 26)).alloc (.cells #[.slice none 0 0, .slice none 0 0, .int .i64 0, .slice none 0 0, .slice none 0 0] 26)) w.heap.size #[.slice none 0 0, .slice none 0 0, .int .i64 0, .slice none 0 0, .slice none 0 0] 26 := (Row.new w _ _).alloc _
  have r2 : Row ((w.alloc (.cells #[.slice none 0 0, .slice none 0 0, .int .i64 0, .slice none 0 0, .slice none 0 0] 26)).alloc (.cells #[.slice none 0 0, .slice none 0 0, .int .i64 0, .slice none 0 0, .slice none 0 0] 26)) (w.heap.size + 1) #[.slice none 0 0, .slice none 0 0, .int .i64 0, .slice none 0 0, .slice none 0 0] 26 := rowNew2 w _ _ _
  go_enter Try.func36, Try.ntmps36
  go_upto_region 1 with (fail)
  generalize (w.alloc (.cells #[.slice none 0 0, .slice none 0 0, .int .i64 0, .slice none 0 0, .slice none 0 0] 26)).alloc (.cells #[.slice none 0 0, .slice none 0 0, .int .i64 0, .slice none 0 0, .slice none 0 0] 26) = w1 at *
  have HR : Hid (∀ W, Below w1.heap.size w1 W → W.cell? ⟨w.heap.size, 0, none⟩ = some (.slice none 0 0) ∧ W.cell? ⟨w.heap.size, 1, none⟩ = some (.slice none 0 0) ∧ W.cell? ⟨w.heap.size, 2, none⟩ = some (.int .i64 0) ∧ W.cell? ⟨w.heap.size, 3, none⟩ = some (.slice none 0 0) ∧ W.cell? ⟨w.heap.size, 4, none⟩ = some (.slice none 0 0) ∧ W.cell? ⟨w.heap.size + 1, 0, none⟩ = some (.slice none 0 0) ∧ W.cell? ⟨w.heap.size + 1, 1, none⟩ = some (.slice none 0 0) ∧ W.cell? ⟨w.heap.size + 1, 2, none⟩ = some (.int .i64 0) ∧ W.cell? ⟨w.heap.size + 1, 3, none⟩ = some (.slice none 0 0) ∧ W.cell? ⟨w.heap.size + 1, 4, none⟩ = some (.slice none 0 0)) := fun W hW => by
    obtain ⟨a0, a1, a2, a3, a4⟩ := (r1.below hW r1.lt).five'
    obtain ⟨c0, c1, c2, c3, c4⟩ := (r2.below hW r2.lt).five'
    exact ⟨a0, a1, a2, a3, a4, c0, c1, c2, c3, c4⟩
  have hs1 := b1.size
  clear r1 r2
  obtain ⟨a0, a1, a2, a3, a4, c0, c1, c2, c3, c4⟩ := HR.out w1 (Below.refl _ _)
  go_wp2_with fail
  (with_reducible refine (HI.out _).mono ?_)
  rintro e w2 ⟨rfl, n2, rfl⟩
  clear a0 a1 a2 a3 a4 c0 c1 c2 c3 c4
  have h2 : Below w1.heap.size w1 (w1.drewN n2) := bE
  obtain ⟨a0, a1, a2, a3, a4, c0, c1, c2, c3, c4⟩ := HR.out _ h2
  generalize w1.drewN n2 = w2 at *
  go_wp2_with fail
  (with_reducible refine (HI.out _).mono ?_)
  rintro e w3 ⟨rfl, n3, rfl⟩
  clear a0 a1 a2 a3 a4 c0 c1 c2 c3 c4
  have h3 : Below w1.heap.size w1 (w2.drewN n3) := below_drewN' h2 _
  obtain ⟨a0, a1, a2, a3, a4, c0, c1, c2, c3, c4⟩ := HR.out _ h3
  generalize w2.drewN n3 = w3 at *
  have b3 := b1.trans (h3.mono hs1)
  go_wp2_with fail
  go_loopw [5] (fun i wr => i = .int .i64 0 ∧ w3 = wr) (fun i _ => (0 : Nat))
  case atStart => exact ⟨rfl, rfl⟩
  case round =>
    obtain ⟨rfl, rfl⟩ := hrel
    go_wp2_with fail
    go_loopw [6] (fun i wr => i = .int .i64 0 ∧ w3 = wr) (fun i _ => (0 : Nat))
    case atStart => exact ⟨rfl, rfl⟩
    case round =>
      obtain ⟨rfl, rfl⟩ := hrel
      go_wp2_with fail
      go_ret
      exact ⟨rfl, b3⟩
set_option maxRecDepth 100000 in
set_option maxHeartbeats 8000000 in
theorem rcells_any (l : List (Int × Int)) (v1 v2 : Value) (B : Nat) (w : World) (h1 : SlV w B 2 isCell v1 l) (h2 : SlV w B 2 isCell v2 l) :
    Calls Try.prog 45 #[v1, v2] w fun e w' => e = .returned (.bool true) ∧ ∃ n, w' = w.drewN n := by
  obtain ⟨A1, c1, rfl, l1, m1, s1⟩ := h1
  obtain ⟨A2, c2, rfl, l2, m2, s2⟩ := h2
  have m1' : c1 ≤ 9223372036854775807 := by unfold maxLen at m1; omega
  have m2' : c2 ≤ 9223372036854775807 := by unfold maxLen at m2; omega
  go_enter Try.func45, Try.ntmps45
  go_wp2_with fail
  go_loopw [5] (fun i wr => ∃ k : Nat, k ≤ l.length ∧ i = .int .i64 k ∧ ∃ n, wr = w.drewN n) (fun i _ => l.length - (intOf i).toNat)
  case atStart => exact ⟨0, Nat.zero_le _, rfl, 0, rfl⟩
  case round =>
    obtain ⟨k, hk, rfl, n, rfl⟩ := hrel
    by_cases hlt : k < l.length
    · obtain ⟨b1, o1, ⟨x0, x1⟩, rfl, hb1, hx, _, _, d0, d1⟩ := s1.cell hlt
      obtain ⟨b2, o2, y, rfl, hb2, hy, _, _, e0, e1⟩ := s2.cell hlt
      obtain rfl : (x0, x1) = y := Option.some.inj (hx.symm.trans hy)
      dsimp only at d0 d1 e0 e1
      have hk1 : (k : Int) < l.length := by omega
      have hk0 : (0 : Int) ≤ (k : Int) := by omega
      clear hx hy
      go_wp2_with fail
      go_quiet (fail)
      go_wp2_with fail
      go_roundw
      case rel => exact ⟨k + 1, by omega, by go_num, by first | exact ⟨_, rfl⟩ | (rw [World.drewN_drewN]; exact ⟨_, rfl⟩)⟩
      case measure => simp [intOf]; omega
    · obtain rfl : k = l.length := by omega
      go_wp2_with fail
      go_ret
      exact ⟨rfl, n, rfl⟩
set_option maxRecDepth 100000 in
set_option maxHeartbeats 8000000 in
theorem rtypes24_any {w : World} {B : Nat} {f : Fm} {vw va vc vk vi vo : Value} (h : FmAt w B f vw va vc vk vi vo) (hB : B ≤ w.heap.size) (l : List Int) (v : Value) (hv : SlV w B 1 isInt v l) (hl : l.length ≤ 1600) (hw : ∀ n ∈ l, isW f n) :
    Calls Try.prog 33 #[fmV vw va vc vk vi vo, v] w fun e w' => ∃ v', e = .returned v' ∧ SlV w' w'.heap.size 1 isInt v' (l.map (tyOf f)) ∧ Below w.heap.size w w' := by
  obtain ⟨i0, hi0, hz0, hz1, hz2⟩ := info_parts info_int
  obtain ⟨Al, cl, rfl, ll, ml, sl⟩ := hv
  have ml' : cl ≤ 9223372036854775807 := by unfold maxLen at ml; omega
  have b1 : Below w.heap.size w (w.alloc (.cells #[vw, va, vc, vk, vi, vo] 48)) := bE
  have rF1 := Row.new w #[vw, va, vc, vk, vi, vo] 48
  have HSL := Lib.hid (fun W (hW : Below w.heap.size w W) => sl.below (hW.mono hB))
  have HFM := Lib.hid (fun W (hW : Below w.heap.size w W) => h.below (hW.mono hB))
  have HW := Lib.hid hw
  obtain ⟨Aw, cw, rfl, lw, mw, _⟩ := h.wires
  have mw' : cw ≤ 9223372036854775807 := by unfold maxLen at mw; omega
  clear sl h hw
  go_enter Try.func33, Try.ntmps33
  go_upto_region 1 with (fail)
  generalize w.alloc (.cells #[.slice Aw f.wires.length cw, va, vc, vk, vi, vo] 48) = w1 at *
  have hs1 := b1.size
  have hGl := rF1.lt
  have HF6 : Hid (∀ W, Below w1.heap.size w1 W → W.cell? ⟨w.heap.size, 0, none⟩ = some (.slice Aw f.wires.length cw)) := fun W hW => (rF1.below hW hGl).cell 0
  have f0 := HF6.out _ (Below.refl _ _)
  go_wp2_with fail
  clear f0
  go_loopw [5, 6] (fun v5 i wr => ∃ k : Nat, k ≤ l.length ∧ i = .int .i64 k ∧ Hid (wr.ownsRow w1.heap.size 3 1 v5 k (ints ((l.take k).map (tyOf f)))) ∧ Hid (Below w1.heap.size w1 wr)) (fun _ i _ => l.length - (intOf i).toNat)
  case atStart => exact ⟨0, Nat.zero_le _, rfl, World.ownsRow_nil _ _ _ _, Below.refl _ _⟩
  case round =>
    obtain ⟨k, hk, rfl, HO, HBR⟩ := hrel
    have hszr := HBR.out.size
    have hb := b1.trans (HBR.out.mono hs1)
    by_cases hlt : k < l.length
    · obtain ⟨b, off, n, rfl, hb', hx, wx, d0⟩ := (HSL.out _ hb).int hlt
      obtain ⟨m, b6, off6, cw6, Ag6, cg6, rfl, hm, hvw, _, _, hb6B, wt6, y0, _, _, _, _⟩ := fm_wire (HFM.out _ hb) (HW.out n (List.mem_of_getElem? hx))
      injection hvw with h1 h2 h3
      subst h1; subst h3
      have hm' : (m : Int) < f.wires.length := by omega
      have hk' : (k : Int) < l.length := by omega
      have HTK : Hid (ints ((l.take (k + 1)).map (tyOf f)) = ints ((l.take k).map (tyOf f)) ++ [.int .i64 (tyOf f m)]) := by
        show _ = _
        rw [take_snoc' hx, List.map_append, List.map_singleton, ints_snoc]
      have f0 := HF6.out _ HBR.out
      have HK : Hid (∀ W, Below wr.heap.size wr W → W.cell? ⟨w.heap.size, 0, none⟩ = some (.slice (some ⟨b6, off6, none⟩) f.wires.length cw) ∧ W.cell? ⟨b, off + k, none⟩ = some (.int .i64 (m : Int)) ∧ W.cell? ⟨b6, off6 + m * 2, none⟩ = some (.int .i64 (tyOf f (m : Int)))) := fun W hW => ⟨cell_kept f0 hW, cell_kept d0 hW, cell_kept y0 hW⟩
      have hbw : b < w1.heap.size := by omega
      have hb6w : b6 < w1.heap.size := by omega
      have HKL : Hid ((∀ W, Below w1.heap.size wr W → W.cell? ⟨b, off + k, none⟩ = some (.int .i64 (m : Int))) ∧ (∀ W, Below w1.heap.size wr W → W.cell? ⟨b6, off6 + m * 2, none⟩ = some (.int .i64 (tyOf f (m : Int))))) := ⟨fun W hW => (hW.cell hbw).trans d0, fun W hW => (hW.cell hb6w).trans y0⟩
      generalize tyOf f (m : Int) = T at *
      generalize ints ((l.take k).map (tyOf f)) = LL at *
      clear hx wx wt6 h2 d0 y0 f0
      go_upto_region 5 with (fail)
      refine wp_region_held_drew (S := fun W => W.cell? ⟨w.heap.size, 0, none⟩ = some (.slice (some ⟨b6, off6, none⟩) f.wires.length cw) ∧ W.cell? ⟨b, off + k, none⟩ = some (.int .i64 (m : Int)) ∧ W.cell? ⟨b6, off6 + m * 2, none⟩ = some (.int .i64 T)) (by kernel_rfl) ?_ (fun hHeld => ?_)
      · (try dsimp only); (first | exact HK9.out | (with_reducible exact HK.out _ bE))
      refine tk 0 (some 13) rfl ?_
      refine tk 1 (some 14) rfl ?_
      refine tk 2 (some 15) rfl ?_
      refine tk 3 (some 16) rfl ?_
      refine tk 4 (some 17) rfl ?_
      refine tk 5 (some 18) rfl ?_
      refine tk 6 (some 19) rfl ?_
      refine tk 7 (some 20) rfl ?_
      refine tk 8 (some 21) rfl ?_
      refine tk 9 (some 22) rfl ?_
      refine rd1 10 (some 23) rfl (fun KK hKK => ?_)
      go_simp
      refine hKK.out _ _ ?_ (fun hHeld => ?_)
      · (try dsimp only); (first | exact HK9.out | (with_reducible exact HK.out _ bE))
      clear hKK KK
      try simp only [Act.put, List.setIfInBounds_toArray, List.set_cons_zero, List.set_cons_succ]
      refine rd1 11 (some 24) rfl (fun KK hKK => ?_)
      (rw [if_pos (by kernel_rfl)]; refine step_own (.tmp 13) (.tmp 23) 22 rfl w1.heap.size 3 i0 (.int .i64 0) 1 8 Try.underlying22 hi0 hz0 hz1 hz2 rfl (by decide) _ k LL rfl ((own_below HO.out (bE : Below wr.heap.size wr _)) ) (some ⟨_, 0, none⟩) 1 1 [.int .i64 T] rfl NilOk.some rfl (fun ad he => by injection he with he; subst he; exact cells_new _ _ _) (by intro u hu; simp at hu; subst hu; rfl) (by unfold maxLen; omega) (by omega) (by first | omega | (simp; omega) | simp) ?_; intro v13 w13 hown13 hg13; (have hf13 : Below w1.heap.size wr w13 := below_own (Below.mono (bE : Below wr.heap.size wr _) hszr) (own_below HO.out (bE : Below wr.heap.size wr _)) hg13 (by first | omega | (simp; omega) | simp)); (have HK9 : Hid (w13.cell? ⟨w.heap.size, 0, none⟩ = some (.slice (some ⟨b6, off6, none⟩) f.wires.length cw) ∧ w13.cell? ⟨b, off + k, none⟩ = some (.int .i64 (m : Int)) ∧ w13.cell? ⟨b6, off6 + m * 2, none⟩ = some (.int .i64 T)) := ⟨(HF6.out _ (HBR.out.trans hf13)), HKL.out.1 w13 hf13, HKL.out.2 w13 hf13⟩))
      refine hKK.out _ _ ?_ (fun hHeld => ?_)
      · (try dsimp only); (first | exact HK9.out | (with_reducible exact HK.out _ bE))
      clear hKK KK
      try simp only [Act.put, List.setIfInBounds_toArray, List.set_cons_zero, List.set_cons_succ]
      refine tk 12 (some 5) rfl ?_
      refine wpAnyH_done (by kernel_rfl) ?_ _
      have HB := Lib.hid (HBR.out.trans hf13)
      clear hf13
      have HO' : Hid (w13.ownsRow w1.heap.size 3 1 v13 (k + 1) (ints ((l.take (k + 1)).map (tyOf f)))) := by
        show World.ownsRow _ _ _ _ _ _ _
        rw [HTK.out]; exact hown13
      clear hown13
      go_wp2_with fail
      go_roundw
      case rel => exact ⟨k + 1, by omega, by go_num, HO', HB⟩
      case measure => simp [intOf]; omega
    · obtain rfl : k = l.length := by omega
      have HWF : Hid (∀ x ∈ l.map (tyOf f), Wf x) := fun x hx => by
        obtain ⟨n, hn, rfl⟩ := List.mem_map.1 hx
        obtain ⟨_, _, _, _, _, _, _, _, _, _, _, _, wt, _⟩ := fm_wire (HFM.out _ hb) (HW.out n hn)
        exact wt
      go_wp2_with fail
      go_ret
      refine ⟨_, rfl, ?_, hb⟩
      have := HO.out
      rw [List.take_length] at this
      exact ownI this HWF.out
theorem mostS_le : ∀ (l : List Stp), (∀ s ∈ l, s.2.length ≤ 1600) → mostS l ≤ l.length * 1601
  | [], _ => by simp [mostS]
  | s :: l, h => by
    have h1 := mostS_le l (fun s hs => h s (by simp [hs]))
    have h2 := h s (by simp)
    rw [show s :: l = [s] ++ l from rfl, mostS_append, mostS_one, List.length_append, List.length_singleton, Nat.add_mul]
    omega
set_option maxRecDepth 100000 in
set_option maxHeartbeats 8000000 in
theorem rmost_any {w : World} {B : Nat} {f : Fm} {vw va vc vk vi vo : Value} (h : FmAt w B f vw va vc vk vi vo) (hB : B ≤ w.heap.size) (hf : formOk f) :
    Calls Try.prog 44 #[fmV vw va vc vk vi vo] w fun e w' => e = .returned (.int .i64 (mostF f : Nat)) ∧ Below w.heap.size w w' := by
  obtain ⟨Aw, cw, rfl, lw, mw, _⟩ := id h.wires
  obtain ⟨Aa, ca, rfl, la, ma, _⟩ := id h.acts
  obtain ⟨Akk, ck, rfl, lk, mk, _⟩ := id h.keeps
  obtain ⟨Ai, ci, rfl, li, mi, _⟩ := id h.ins
  obtain ⟨Ao, co, rfl, lo, mo, _⟩ := id h.outs
  have mw' : cw ≤ 9223372036854775807 := by unfold maxLen at mw; omega
  have ma' : ca ≤ 9223372036854775807 := by unfold maxLen at ma; omega
  have mk' : ck ≤ 9223372036854775807 := by unfold maxLen at mk; omega
  have b1 : Below w.heap.size w (w.alloc (.cells #[.slice Aw f.wires.length cw, .slice Aa f.acts.length ca, vc, .slice Akk f.keeps.length ck, .slice Ai f.ins.length ci, .slice Ao f.outs.length co] 48)) := bE
  have rF1 := Row.new w #[.slice Aw f.wires.length cw, .slice Aa f.acts.length ca, vc, .slice Akk f.keeps.length ck, .slice Ai f.ins.length ci, .slice Ao f.outs.length co] 48
  have HFM := Lib.hid (fun W (hW : Below w.heap.size w W) => h.below (hW.mono hB))
  have HOK := Lib.hid hf
  have HCL := Lib.hid (steps_clock hf)
  have ha16 := facts_len hf
  have hk60 := keeps_len hf
  have hi8 : f.ins.length ≤ 8 := hf.2.1.2.2
  have ho8 : f.outs.length ≤ 8 := hf.2.2.1.2.2
  clear h hf
  go_enter Try.func44, Try.ntmps44
  go_upto_region 1 with (fail)
  generalize w.alloc (.cells #[.slice Aw f.wires.length cw, .slice Aa f.acts.length ca, vc, .slice Akk f.keeps.length ck, .slice Ai f.ins.length ci, .slice Ao f.outs.length co] 48) = w1 at *
  have hs1 := b1.size
  have HF6 : Hid (∀ W, Below w1.heap.size w1 W → W.cell? ⟨w.heap.size, 0, none⟩ = some (.slice Aw f.wires.length cw) ∧ W.cell? ⟨w.heap.size, 1, none⟩ = some (.slice Aa f.acts.length ca) ∧ W.cell? ⟨w.heap.size, 2, none⟩ = some vc ∧ W.cell? ⟨w.heap.size, 3, none⟩ = some (.slice Akk f.keeps.length ck) ∧ W.cell? ⟨w.heap.size, 4, none⟩ = some (.slice Ai f.ins.length ci) ∧ W.cell? ⟨w.heap.size, 5, none⟩ = some (.slice Ao f.outs.length co)) := fun W hW => (rF1.below hW rF1.lt).six'
  clear rF1
  obtain ⟨f0, f1, f2, f3, f4, f5⟩ := HF6.out _ (Below.refl _ _)
  go_wp2_with fail
  clear f0 f1 f2 f3 f4 f5
  go_loopw [3, 4] (fun s i wr => ∃ (k S : Nat), k ≤ f.acts.length ∧ i = .int .i64 k ∧ s = .int .i64 S ∧ Hid (S = (f.ins.length + f.outs.length) + mostS ((f.acts.take k).map (actStp f))) ∧ Hid (Below w1.heap.size w1 wr)) (fun _ i _ => f.acts.length - (intOf i).toNat)
  case atStart => exact ⟨0, f.ins.length + f.outs.length, Nat.zero_le _, rfl, by first | rfl | go_num | simp, (by show _ = _; simp [mostS]), Below.refl _ _⟩
  case round =>
    obtain ⟨k, S, hk, rfl, rfl, HSV, HBR⟩ := hrel
    have hszr := HBR.out.size
    have hb := b1.trans (HBR.out.mono hs1)
    have hSb : S ≤ 8000000 := by
      have h1 := HSV.out
      have h2 := mostS_le ((f.acts.take k).map (actStp f)) (fun s hs => HCL.out s (by obtain ⟨x, hx, rfl⟩ := List.mem_map.1 hs; exact List.mem_append_left _ (List.mem_map.2 ⟨x, List.mem_of_mem_take hx, rfl⟩)))
      rw [List.length_map, List.length_take] at h2
      omega
    by_cases hlt : k < f.acts.length
    · obtain ⟨A', c', hA', _, _, sl⟩ := (HFM.out _ hb).acts
      injection hA' with hA1 _ hA3
      subst hA1; subst hA3
      obtain ⟨b, off, ⟨xo, xd, xa, xb, xc, xk⟩, rfl, hbb, hx, wx, d0, d1, d2, d3, d4, d5⟩ := sl.ac hlt
      dsimp only at d0 d1 d2 d3 d4 d5
      have HX := Lib.hid hx
      have hw := (HOK.out.2.2.2.2.1.2.1 _ (List.mem_of_getElem? hx)).1
      obtain ⟨m, b6, off6, cw6, Ag6, cg6, hmd, hm, hvw, lw6, _, _, _, _, y0, _, _, _⟩ := fm_wire (HFM.out _ hb) hw
      have hmd' : xd = (m : Int) := hmd
      subst hmd'
      injection hvw with hv1 _ hv3
      subst hv1; subst hv3
      have hm' : (m : Int) < f.wires.length := by omega
      have hk' : (k : Int) < f.acts.length := by omega
      have hcl : (clockOf f (m : Int)).length ≤ 1600 := clock_len HOK.out.1 hw
      have HNX : Hid (S + (1 + (clockOf f (m : Int)).length) = (f.ins.length + f.outs.length) + mostS ((f.acts.take (k + 1)).map (actStp f))) := by
        show _ = _
        rw [take_snoc' hx, List.map_append, List.map_singleton, mostS_append, mostS_one, HSV.out]
        simp only [actStp]
        omega
      generalize (clockOf f (m : Int)).length = len at *
      have u0 : IntKind.i64.wrap ((S : Int) + 1) = (S : Int) + 1 := IntWalk.i64_in _ (by omega)
      have u1 : IntKind.i64.wrap ((S : Int) + 1 + (len : Int)) = (S : Int) + 1 + len := IntWalk.i64_in _ (by omega)
      obtain ⟨f0, f1, f2, f3, f4, f5⟩ := HF6.out _ HBR.out
      clear hx hmd sl hb
      go_wp2_with fail
      go_quiet (fail)
      go_wp2_with fail
      go_roundw
      case rel => exact ⟨k + 1, S + (1 + len), by omega, by go_num, by first | go_num | (congr 1; omega) | (simp; omega), HNX, by first | exact HBR.out | exact below_drewN' HBR.out _⟩
      case measure => simp [intOf]; omega
    · obtain rfl : k = f.acts.length := by omega
      have HS1 : Hid (S = f.ins.length + f.outs.length + mostS (f.acts.map (actStp f))) := by have := HSV.out; rw [List.take_length] at this; exact this
      clear HSV hlt
      obtain ⟨f0, f1, f2, f3, f4, f5⟩ := HF6.out _ HBR.out
      go_wp2_with fail
      clear f0 f1 f2 f3 f4 f5
      go_loopw [3, 5] (fun s i wr => ∃ (k S : Nat), k ≤ f.keeps.length ∧ i = .int .i64 k ∧ s = .int .i64 S ∧ Hid (S = (f.ins.length + f.outs.length + mostS (f.acts.map (actStp f))) + mostS ((f.keeps.take k).map (keepStp f))) ∧ Hid (Below w1.heap.size w1 wr)) (fun _ i _ => f.keeps.length - (intOf i).toNat)
      case atStart => exact ⟨0, _, Nat.zero_le _, rfl, rfl, (by show _ = _; rw [HS1.out]; simp [mostS]), HBR.out⟩
      case round =>
        obtain ⟨k, S, hk, rfl, rfl, HSV, HBR⟩ := hrel
        have hszr := HBR.out.size
        have hb := b1.trans (HBR.out.mono hs1)
        have hSb : S ≤ 8000000 := by
          have h1 := HSV.out
          have h2 := mostS_le ((f.keeps.take k).map (keepStp f)) (fun s hs => HCL.out s (by obtain ⟨x, hx, rfl⟩ := List.mem_map.1 hs; exact List.mem_append_right _ (List.mem_map.2 ⟨x, List.mem_of_mem_take hx, rfl⟩)))
          rw [List.length_map, List.length_take] at h2
          have h3 := mostS_le (f.acts.map (actStp f)) (fun s hs => HCL.out s (List.mem_append_left _ hs))
          rw [List.length_map] at h3
          omega
        by_cases hlt : k < f.keeps.length
        · obtain ⟨A', c', hA', _, _, sl⟩ := (HFM.out _ hb).keeps
          injection hA' with hA1 _ hA3
          subst hA1; subst hA3
          obtain ⟨b, off, ⟨xc, xf⟩, rfl, hbb, hx, wx, wx', d0, d1⟩ := sl.cell hlt
          dsimp only at d0 d1 wx wx'
          have HX := Lib.hid hx
          have hw := (HOK.out.2.2.2.1.2.2.1 _ (List.mem_of_getElem? hx)).2.2.1
          obtain ⟨m, b6, off6, cw6, Ag6, cg6, hmd, hm, hvw, lw6, _, _, _, _, y0, _, _, _⟩ := fm_wire (HFM.out _ hb) hw
          have hmd' : xf = (m : Int) := hmd
          subst hmd'
          injection hvw with hv1 _ hv3
          subst hv1; subst hv3
          have hm' : (m : Int) < f.wires.length := by omega
          have hk' : (k : Int) < f.keeps.length := by omega
          have hcl : (clockOf f (m : Int)).length ≤ 1600 := clock_len HOK.out.1 hw
          have HNX : Hid (S + (1 + (clockOf f (m : Int)).length) = (f.ins.length + f.outs.length + mostS (f.acts.map (actStp f))) + mostS ((f.keeps.take (k + 1)).map (keepStp f))) := by
            show _ = _
            rw [take_snoc' hx, List.map_append, List.map_singleton, mostS_append, mostS_one, HSV.out]
            simp only [keepStp]
            omega
          generalize (clockOf f (m : Int)).length = len at *
          have u0 : IntKind.i64.wrap ((S : Int) + 1) = (S : Int) + 1 := IntWalk.i64_in _ (by omega)
          have u1 : IntKind.i64.wrap ((S : Int) + 1 + (len : Int)) = (S : Int) + 1 + len := IntWalk.i64_in _ (by omega)
          obtain ⟨f0, f1, f2, f3, f4, f5⟩ := HF6.out _ HBR.out
          clear hx hmd sl hb
          go_wp2_with fail
          go_quiet (fail)
          go_wp2_with fail
          go_roundw
          case rel => exact ⟨k + 1, S + (1 + len), by omega, by go_num, by first | go_num | (congr 1; omega) | (simp; omega), HNX, by first | exact HBR.out | exact below_drewN' HBR.out _⟩
          case measure => simp [intOf]; omega
        · obtain rfl : k = f.keeps.length := by omega
          have HE : Hid (S = mostF f) := by
            show _ = _
            rw [HSV.out, List.take_length]
            simp only [mostF, stepsOf, mostS_append]
            omega
          obtain ⟨f0, f1, f2, f3, f4, f5⟩ := HF6.out _ HBR.out
          go_wp2_with fail
          go_ret
          exact ⟨ret_int (by rw [HE.out]), hb⟩
end Go.Proofs.Ytbjaejgechadpaa
