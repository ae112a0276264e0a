/-
  The document's order of acts: Acts.
-/
import Derived.Test.YtbjaejgechadpaaR26A
import Derived.Test.YtbjaejgechadpaaOrdE
import Derived.Test.YtbjaejgechadpaaPlainA
import Derived.Deep.DeepCutAuto
namespace Go.Proofs.Ytbjaejgechadpaa
open Go.RowKit Vf Fo
attribute [local go_sem ↓] Go.wp_at_zero Go.wp_at_succ
/-- how far the document's order has come -/
structure ASt (f : Fm) (H : List Int) (ds : List Bool) (done : List Ac) : Prop where
  hv : HaveSt f H ds
  gh : ∀ out, ROrd f H out → ROrd f f.ins (done ++ out)
  len : H.length = f.ins.length + done.length
  mem : ∀ x ∈ done, x ∈ f.acts
def RActsIs (f : Fm) (w : World) (e : Ending) (w' : World) : Prop := ∃ v out, e = .returned v ∧ ROrd f f.ins out ∧ SlV w' w'.heap.size 6 isAc v out ∧ Below w.heap.size w w'
theorem drop_split {l : List Ac} {k : Nat} {x : Ac} (h : l[k]? = some x) : l = l.take k ++ x :: l.drop (k + 1) := by
  rw [← getI_drop h, List.take_append_drop]
set_option maxRecDepth 100000 in
set_option maxHeartbeats 8000000 in
theorem racts_any (f : Fm) (vw va vc vk vi vo : Value) (w : World) (h : FmAt w w.heap.size f vw va vc vk vi vo) (hf : formOk f) :
    Calls Try.prog 31 #[fmV vw va vc vk vi vo] w (RActsIs f w) := by
  obtain ⟨i0, hi0, hz0, hz1, hz2⟩ := info_parts info_ac
  have b1 : Below w.heap.size w (w.alloc (.cells #[vw, va, vc, vk, vi, vo] 48)) := bE
  have rF := Row.new w #[vw, va, vc, vk, vi, vo] 48
  have HFM := Lib.hid (fun W (hW : Below w.heap.size w W) => h.below hW)
  have hal := acts_len hf
  obtain ⟨Aa, ca, rfl, la, ma, sa⟩ := h.acts
  have ma' : ca ≤ 9223372036854775807 := by unfold maxLen at ma; omega
  have HSA := Lib.hid (fun W (hW : Below w.heap.size w W) => sa.below hW)
  have HAI := Lib.hid (acs_in sa)
  have HOK := Lib.hid hf
  have HT := Lib.hid (rat_any (h.below b1) b1.size hf.1.2.2 (fun n hn => (hf.2.1.1 n hn).1))
  clear h sa hf
  go_enter Try.func31, Try.ntmps31
  go_upto_region 1 with (fail)
  generalize w.alloc (.cells #[vw, .slice Aa f.acts.length ca, vc, vk, vi, vo] 48) = w1 at *
  have hs1 := b1.size
  have hGl := rF.lt
  obtain ⟨f0, f1, f2, f3, f4, f5⟩ := rF.six'
  go_wp2_with fail
  (with_reducible refine HT.out.mono ?_)
  rintro e w3 ⟨D, ds0, rfl, hD, rD, hH, hb3⟩
  have HH : Hid (ASt f f.ins ds0 []) := ⟨hH, fun out ho => ho, by simp, fun x hx => by simp at hx⟩
  have HRD := Lib.hid rD
  have b3 := b1.trans (hb3.mono hs1)
  have rF3 := rF.below hb3 hGl
  have hGD : w.heap.size ≠ D := by omega
  have hDlt := rD.lt
  have hs3 := b3.size
  have hGD' : w.heap.size < D := by omega
  have hG3 := rF3.lt
  -- what stays while blocks at D and beyond w3 turn
  have HW : Hid (∀ W, Upd (fun k => k = D) w3 W → Below w.heap.size w W ∧ (W.cell? ⟨w.heap.size, 0, none⟩ = some vw ∧ W.cell? ⟨w.heap.size, 1, none⟩ = some (.slice Aa f.acts.length ca) ∧ W.cell? ⟨w.heap.size, 2, none⟩ = some vc ∧ W.cell? ⟨w.heap.size, 3, none⟩ = some vk ∧ W.cell? ⟨w.heap.size, 4, none⟩ = some vi ∧ W.cell? ⟨w.heap.size, 5, none⟩ = some vo) ∧ w3.heap.size ≤ W.heap.size ∧ Row W w.heap.size #[vw, .slice Aa f.acts.length ca, vc, vk, vi, vo] 48) := fun W hW =>
    ⟨b3.trans (hW.below (B := w.heap.size) (fun k hk => by omega) (by omega)), (hW.row rF3 hGD).six', hW.size, hW.row rF3 hGD⟩
  clear f0 f1 f2 f3 f4 f5 HT hb3 hH rD b1 rF hs1
  obtain ⟨f0, f1, f2, f3, f4, f5⟩ := rF3.six'
  clear rF3
  go_wp2_with fail
  clear f0 f1 f2 f3 f4 f5
  go_loopg [4] (f.acts.length) (fun q v4 wr => ∃ (H : List Int) (ds : List Bool) (done : List Ac), q = f.acts.length - done.length ∧ done.length ≤ f.acts.length ∧ Hid (ASt f H ds done) ∧ wr.ownsRow w3.heap.size 91 6 v4 done.length (acF done) ∧ Row wr D (bls ds).toArray 4 ∧ Upd (fun k => k = D) w3 wr)
  case atStart => exact ⟨f.ins, ds0, [], by simp, by simp, HH.out, World.ownsRow_nil _ _ _ _, HRD.out, Upd.refl _ _⟩
  case round =>
    clear HH HRD
    obtain ⟨H, ds, done, hq, hdl, HS, ho, rD, uD⟩ := hrel
    obtain ⟨bw, ⟨f0, f1, f2, f3, f4, f5⟩, hsw, _⟩ := HW.out _ uD
    have HSLV : Hid (∀ W, Below wr.heap.size wr W → SlV W W.heap.size 6 isAc _ done) := fun W hW => own_acs (own_below ho hW) (fun x hx => HAI.out x (HS.out.mem x hx))
    obtain ⟨Av, cv, hv4, lv, mv, _⟩ := own_rd ho
    subst hv4
    have mv' : cv ≤ 9223372036854775807 := by unfold maxLen at mv; omega
    by_cases hfull : done.length < f.acts.length
    rotate_left 1
    · have hord : ROrd f f.ins done := by
        have := HS.out.gh [] (.full _ (by have := HS.out.len; omega))
        rwa [List.append_nil] at this
      have HO := Lib.hid hord
      clear hord
      go_wp2_with fail
      go_ret
      exact ⟨_, done, rfl, HO.out, HSLV.out _ (Below.refl _ _), bw⟩
    have HO := Lib.hid ho
    have HRDr := Lib.hid rD
    have HUr := Lib.hid uD
    have hDl := rD.lt
    clear ho rD uD
    go_wp2_with fail
    obtain ⟨wo, hwo⟩ : ∃ wo : World, wo = wr := ⟨_, rfl⟩
    subst hwo
    clear f0 f1 f2 f3 f4 f5
    go_loopw [5] (fun i wr => ∃ k : Nat, k ≤ f.acts.length ∧ i = .int .i64 k ∧ Hid (∀ j, j < k → ∀ x, f.acts[j]? = some x → x.dst ∈ H ∨ ¬ readyOk f H x) ∧ Below wo.heap.size wo wr) (fun i _ => f.acts.length - (intOf i).toNat)
    case atStart => exact ⟨0, Nat.zero_le _, rfl, fun j hj => absurd hj (by omega), Below.refl _ _⟩
    case round =>
      obtain ⟨k, hk, rfl, HP, hb⟩ := hrel
      have uK := HUr.out.trans (Upd.of_below hb)
      obtain ⟨bw2, ⟨f0, f1, f2, f3, f4, f5⟩, hsw2, _⟩ := HW.out _ uK
      have hsr := hb.size
      have hbs := bw2.size
      have HS0 : Hid (∀ W, Below wr.heap.size wr W → W.cell? ⟨w.heap.size, 0, none⟩ = some vw ∧ W.cell? ⟨w.heap.size, 1, none⟩ = some (.slice Aa f.acts.length ca) ∧ W.cell? ⟨w.heap.size, 2, none⟩ = some vc ∧ W.cell? ⟨w.heap.size, 3, none⟩ = some vk ∧ W.cell? ⟨w.heap.size, 4, none⟩ = some vi ∧ W.cell? ⟨w.heap.size, 5, none⟩ = some vo) := fun W hW => (HW.out _ (uK.trans (Upd.of_below hW))).2.1
      have HRK := Lib.hid (HRDr.out.below hb hDl)
      by_cases hlt : k < f.acts.length
      rotate_left 1
      · obtain rfl : k = f.acts.length := by omega
        have hord : ROrd f f.ins done := by
          have := HS.out.gh [] (.stop _ (all_upto HP.out))
          rwa [List.append_nil] at this
        have HOD := Lib.hid hord
        have e0 : decide ((f.acts.length : Int) < (f.acts.length : Int)) = false := decide_eq_false (by omega)
        clear hord
        go_upto_region 5 with (fail)
        clear f0 f1 f2 f3 f4 f5
        refine wp_region_held_drew (S := fun W => W.cell? ⟨w.heap.size, 0, none⟩ = some vw ∧ W.cell? ⟨w.heap.size, 1, none⟩ = some (.slice Aa f.acts.length ca) ∧ W.cell? ⟨w.heap.size, 2, none⟩ = some vc ∧ W.cell? ⟨w.heap.size, 3, none⟩ = some vk ∧ W.cell? ⟨w.heap.size, 4, none⟩ = some vi ∧ W.cell? ⟨w.heap.size, 5, none⟩ = some vo) (by kernel_rfl) ?_ (fun hHeld => ?_)
        · (try dsimp only); (first | (with_reducible exact HS0.out _ bE) | go_keep)
        refine tk 0 (some 14) rfl ?_
        refine tk 1 (some 15) rfl ?_
        refine tk 2 (some 16) rfl ?_
        refine tk 3 (some 17) rfl ?_
        refine tk 4 (some 18) rfl ?_
        refine tk 5 (some 19) rfl ?_
        refine sk 6 (some 20) rfl ?_
        refine sk 7 (some 21) rfl ?_
        refine sk 8 (some 22) rfl ?_
        refine sk 9 (some 23) rfl ?_
        refine sk 10 (some 24) rfl ?_
        refine sk 11 (some 25) rfl ?_
        refine sk 12 (some 26) rfl ?_
        refine sk 13 (some 27) rfl ?_
        refine sk 14 (some 28) rfl ?_
        refine sk 15 (some 29) rfl ?_
        refine sk 16 (some 30) rfl ?_
        refine sk 17 (some 31) rfl ?_
        refine sk 18 (some 32) rfl ?_
        refine sk 19 (some 33) rfl ?_
        refine sk 20 (some 34) rfl ?_
        refine sk 21 (some 35) rfl ?_
        refine sk 22 (some 36) rfl ?_
        refine sk 23 (some 37) rfl ?_
        refine sk 24 (some 38) rfl ?_
        refine sk 25 (some 39) rfl ?_
        refine tk 26 (some 40) rfl ?_
        refine wpAnyH_done (by kernel_rfl) ?_ _
        obtain ⟨f0, f1, f2, f3, f4, f5⟩ := HS0.out _ (by exact below_drewN' (Below.refl wr.heap.size wr) 1)
        go_wp2_with fail
        go_ret
        exact ⟨_, done, rfl, HOD.out, HSLV.out _ (hb.trans (Below.mono (bE : Below wr.heap.size wr _) hsr)), bw2.trans (Below.mono (bE : Below wr.heap.size wr _) hbs)⟩
      obtain ⟨b, off, ⟨xo, xd, xa, xb, xc, xk⟩, hAa, hbb, hx, wx, d0, d1, d2, d3, d4, d5⟩ := (HSA.out _ bw2).ac hlt
      subst hAa
      have HX := Lib.hid hx
      have HAC := Lib.hid (ac_ok HOK.out (List.mem_of_getElem? hx))
      have hdst := HAC.out.dst
      obtain ⟨m, rfl⟩ := Int.eq_ofNat_of_zero_le (show 0 ≤ xd from hdst.1)
      have hm : m < f.wires.length := by have := hdst.2; dsimp only at this; omega
      have hm' : (m : Int) < f.wires.length := by omega
      have hk' : (k : Int) < f.acts.length := by omega
      have e0 : decide ((k : Int) < (f.acts.length : Int)) = true := decide_eq_true hk'
      have e0' : decide (k < f.acts.length) = true := decide_eq_true hlt
      dsimp only at d0 d1 d2 d3 d4 d5
      have HGET := Lib.hid (HS.out.hv.get hdst)
      have hDl2 := HRK.out.lt
      have HDL := Lib.hid HS.out.hv.1
      have HQ := Lib.hid (ready_iff HS.out.hv HAC.out.wants)
      generalize hB0 : bGet ds (m : Int) = B0 at *
      have HB0 := Lib.hid hB0
      have HS5 : Hid (∀ W, Below wr.heap.size wr W → W.cell? ⟨w.heap.size, 0, none⟩ = some vw ∧ W.cell? ⟨w.heap.size, 1, none⟩ = some (.slice (some ⟨b, off, none⟩) f.acts.length ca) ∧ W.cell? ⟨w.heap.size, 2, none⟩ = some vc ∧ W.cell? ⟨w.heap.size, 3, none⟩ = some vk ∧ W.cell? ⟨w.heap.size, 4, none⟩ = some vi ∧ W.cell? ⟨w.heap.size, 5, none⟩ = some vo ∧ W.cell? ⟨b, off + k * 6, none⟩ = some (.int .i64 xo) ∧ W.cell? ⟨b, off + k * 6 + 1, none⟩ = some (.int .i64 (m : Int)) ∧ W.cell? ⟨b, off + k * 6 + 2, none⟩ = some (.int .i64 xa) ∧ W.cell? ⟨b, off + k * 6 + 3, none⟩ = some (.int .i64 xb) ∧ W.cell? ⟨b, off + k * 6 + 4, none⟩ = some (.int .i64 xc) ∧ W.cell? ⟨b, off + k * 6 + 5, none⟩ = some (.int .i64 xk) ∧ W.cell? ⟨D, m, none⟩ = some (.bool B0)) := fun W hW => by
        obtain ⟨a0, a1, a2, a3, a4, a5⟩ := HS0.out W hW
        have cD := ds_cell (HRK.out.below hW hDl2) (n := m) (by rw [HDL.out]; exact hm)
        rw [HB0.out] at cD
        exact ⟨a0, a1, a2, a3, a4, a5, cell_kept d0 hW, cell_kept d1 hW, cell_kept d2 hW, cell_kept d3 hW, cell_kept d4 hW, cell_kept d5 hW, cD⟩
      have HRV := Lib.hid (fun W (hW : Below wr.heap.size wr W) => rready_any (HFM.out _ (bw2.trans (hW.mono hbs))) (Nat.le_trans hbs hW.size) ⟨xo, (m : Int), xa, xb, xc, xk⟩ wx HAC.out D ds (HRK.out.below hW hDl2) HDL.out)
      obtain ⟨P, HP2⟩ : ∃ P : Bool, Hid (cB (∀ n ∈ wantsAll f ⟨xo, (m : Int), xa, xb, xc, xk⟩, bGet ds n = true) = P) := ⟨_, rfl⟩
      rw [HP2.out] at HRV
      have HR := HRV
      clear HRV hx hdst wx hB0
      go_upto_region 5 with (fail)
      clear d0 d1 d2 d3 d4 d5 f0 f1 f2 f3 f4 f5
      go_cut [40] (fun v40 W => v40 = .bool (B0 || !P) ∧ Below wr.heap.size wr W)
      case first =>
        cases B0
        · refine wp_region_held_drew (S := fun W => W.cell? ⟨w.heap.size, 0, none⟩ = some vw ∧ W.cell? ⟨w.heap.size, 1, none⟩ = some (.slice (some ⟨b, off, none⟩) f.acts.length ca) ∧ W.cell? ⟨w.heap.size, 2, none⟩ = some vc ∧ W.cell? ⟨w.heap.size, 3, none⟩ = some vk ∧ W.cell? ⟨w.heap.size, 4, none⟩ = some vi ∧ W.cell? ⟨w.heap.size, 5, none⟩ = some vo ∧ W.cell? ⟨b, off + k * 6, none⟩ = some (.int .i64 xo) ∧ W.cell? ⟨b, off + k * 6 + 1, none⟩ = some (.int .i64 (m : Int)) ∧ W.cell? ⟨b, off + k * 6 + 2, none⟩ = some (.int .i64 xa) ∧ W.cell? ⟨b, off + k * 6 + 3, none⟩ = some (.int .i64 xb) ∧ W.cell? ⟨b, off + k * 6 + 4, none⟩ = some (.int .i64 xc) ∧ W.cell? ⟨b, off + k * 6 + 5, none⟩ = some (.int .i64 xk) ∧ W.cell? ⟨D, m, none⟩ = some (.bool false)) (by kernel_rfl) ?_ (fun hHeld => ?_)
          · (try dsimp only); (first | (with_reducible exact HS5.out _ bE) | go_keep)
          refine tk 0 (some 14) rfl ?_
          refine tk 1 (some 15) rfl ?_
          refine tk 2 (some 16) rfl ?_
          refine tk 3 (some 17) rfl ?_
          refine tk 4 (some 18) rfl ?_
          refine tk 5 (some 19) rfl ?_
          refine tk 6 (some 20) rfl ?_
          refine tk 7 (some 21) rfl ?_
          refine tk 8 (some 22) rfl ?_
          refine tk 9 (some 23) rfl ?_
          refine tk 10 (some 24) rfl ?_
          refine tk 11 (some 25) rfl ?_
          refine tk 12 (some 26) rfl ?_
          refine tk 13 (some 27) rfl ?_
          refine tk 14 (some 28) rfl ?_
          refine tk 15 (some 29) rfl ?_
          refine tk 16 (some 30) rfl ?_
          refine tk 17 (some 31) rfl ?_
          refine tk 18 (some 32) rfl ?_
          refine tk 19 (some 33) rfl ?_
          refine tk 20 (some 34) rfl ?_
          refine tk 21 (some 35) rfl ?_
          refine tk 22 (some 36) rfl ?_
          refine rd1 23 (some 37) rfl (fun KK hKK => ?_)
          go_simp
          go_at_call 68; refine Calls.mono (HR.out _ ?hbb) ?_; (case hbb => exact bE); rintro e w8 ⟨rfl, hb8⟩; (have hb9 : Below wr.heap.size wr w8 := Below.trans bE (hb8.mono lE))
          (try go_wp2_with fail)
          refine hKK.out _ _ ?_ (fun hHeld => ?_)
          · (try dsimp only); (first | (with_reducible exact HS5.out _ bE) | go_keep)
          clear hKK KK
          try simp only [Act.put, List.setIfInBounds_toArray, List.set_cons_zero, List.set_cons_succ]
          refine tk 24 (some 38) rfl ?_
          refine tk 25 (some 39) rfl ?_
          refine tk 26 (some 40) rfl ?_
          refine wpAnyH_done (by kernel_rfl) ?_ _
          go_wp2_with fail
          go_meet
          exact ⟨by first | rfl | (cases P <;> rfl), bE⟩
        · refine wp_region_held_drew (S := fun W => W.cell? ⟨w.heap.size, 0, none⟩ = some vw ∧ W.cell? ⟨w.heap.size, 1, none⟩ = some (.slice (some ⟨b, off, none⟩) f.acts.length ca) ∧ W.cell? ⟨w.heap.size, 2, none⟩ = some vc ∧ W.cell? ⟨w.heap.size, 3, none⟩ = some vk ∧ W.cell? ⟨w.heap.size, 4, none⟩ = some vi ∧ W.cell? ⟨w.heap.size, 5, none⟩ = some vo ∧ W.cell? ⟨b, off + k * 6, none⟩ = some (.int .i64 xo) ∧ W.cell? ⟨b, off + k * 6 + 1, none⟩ = some (.int .i64 (m : Int)) ∧ W.cell? ⟨b, off + k * 6 + 2, none⟩ = some (.int .i64 xa) ∧ W.cell? ⟨b, off + k * 6 + 3, none⟩ = some (.int .i64 xb) ∧ W.cell? ⟨b, off + k * 6 + 4, none⟩ = some (.int .i64 xc) ∧ W.cell? ⟨b, off + k * 6 + 5, none⟩ = some (.int .i64 xk) ∧ W.cell? ⟨D, m, none⟩ = some (.bool true)) (by kernel_rfl) ?_ (fun hHeld => ?_)
          · (try dsimp only); (first | (with_reducible exact HS5.out _ bE) | go_keep)
          refine tk 0 (some 14) rfl ?_
          refine tk 1 (some 15) rfl ?_
          refine tk 2 (some 16) rfl ?_
          refine tk 3 (some 17) rfl ?_
          refine tk 4 (some 18) rfl ?_
          refine tk 5 (some 19) rfl ?_
          refine tk 6 (some 20) rfl ?_
          refine tk 7 (some 21) rfl ?_
          refine tk 8 (some 22) rfl ?_
          refine tk 9 (some 23) rfl ?_
          refine tk 10 (some 24) rfl ?_
          refine tk 11 (some 25) rfl ?_
          refine tk 12 (some 26) rfl ?_
          refine tk 13 (some 27) rfl ?_
          refine tk 14 (some 28) rfl ?_
          refine tk 15 (some 29) rfl ?_
          refine sk 16 (some 30) rfl ?_
          refine sk 17 (some 31) rfl ?_
          refine sk 18 (some 32) rfl ?_
          refine sk 19 (some 33) rfl ?_
          refine sk 20 (some 34) rfl ?_
          refine sk 21 (some 35) rfl ?_
          refine sk 22 (some 36) rfl ?_
          refine sk 23 (some 37) rfl ?_
          refine sk 24 (some 38) rfl ?_
          refine tk 25 (some 39) rfl ?_
          refine tk 26 (some 40) rfl ?_
          refine wpAnyH_done (by kernel_rfl) ?_ _
          go_wp2_with fail
          go_meet
          exact ⟨by first | rfl | (cases P <;> rfl), bE⟩
      case rest =>
      obtain ⟨rfl, hbc⟩ := hcut
      have hbE := hb.trans (hbc.mono hsr)
      by_cases hgo : (B0 || !P) = true
      · have HP' := Lib.hid (upto_succ HP.out (fun y hy => by
          rw [HX.out] at hy; injection hy with hy; rw [← hy]
          cases B0
          · right
            simp at hgo
            exact fun g => cB_not.1 (by rw [HP2.out, hgo]) (HQ.out.2 g)
          · left
            exact HGET.out.1 rfl))
        clear HGET
        rw [hgo]
        clear hgo
        go_wp2_with fail
        go_roundw
        case rel => exact ⟨k + 1, by omega, by go_num, HP'.out, hbE⟩
        case measure => simp [intOf]; omega
      have hgo' : (B0 || !P) = false := by simpa using hgo
      rw [hgo']
      simp only [Bool.or_eq_false_iff, Bool.not_eq_false'] at hgo'
      obtain ⟨rfl, rfl⟩ := hgo'
      have hready := HQ.out.1 (cB_iff.1 HP2.out)
      have hnot : (m : Int) ∉ H := fun g => by have := HGET.out.2 g; cases this
      have HNX : Hid (∀ out, ROrd f ((m : Int) :: H) out → ROrd f H (⟨xo, (m : Int), xa, xb, xc, xk⟩ :: out)) := fun out ho =>
        .next H (f.acts.take k) ⟨xo, (m : Int), xa, xb, xc, xk⟩ (f.acts.drop (k + 1)) out (drop_split HX.out) (fun y hy => by
          obtain ⟨j, hj⟩ := List.getElem?_of_mem hy
          rw [List.getElem?_take] at hj
          split at hj
          · rename_i hjk
            exact HP.out j hjk y hj
          · cases hj) hnot hready ho
      have HS' : Hid (ASt f ((m : Int) :: H) (ds.set m true) (done ++ [⟨xo, (m : Int), xa, xb, xc, xk⟩])) := by
        refine ⟨HS.out.hv.set HAC.out.dst, fun out ho => ?_, by have := HS.out.len; simp; omega, fun y hy => ?_⟩
        · have := HS.out.gh _ (HNX.out out ho)
          simpa using this
        · rcases List.mem_append.1 hy with g | g
          · exact HS.out.mem y g
          · simp at g; rw [g]; exact List.mem_of_getElem? HX.out
      have e9 : ((k : Int) == (f.acts.length : Int)) = false := by rw [beq_eq_false_iff_ne]; omega
      have e9' : (k == f.acts.length) = false := by rw [beq_eq_false_iff_ne]; omega
      clear HGET hready hnot hgo
      have rD5 := HRK.out.below hbc hDl2
      have hown5 := own_below HO.out hbE
      have u5 := uK.trans (Upd.of_below hbc)
      obtain ⟨f0, f1, f2, f3, f4, f5, d0, d1, d2, d3, d4, d5, cD⟩ := HS5.out _ hbc
      have fD := rD5.frozen m
      have rD6 := ds_set (m := m) rD5 true
      have hown6 := own_far hown5 (p := ⟨D, m, none⟩) (fun q hq => by have := (hown5.lt q hq).1; dsimp only; omega) (.bool true)
      have u6 := Upd.setCell (X := fun k => k = D) (p := ⟨D, m, none⟩) u5 rfl (.bool true)
      have HD6 : Hid (∀ W, Upd (fun k => k = D) wc W → (W.cell? ⟨w.heap.size, 0, none⟩ = some vw ∧ W.cell? ⟨w.heap.size, 1, none⟩ = some (.slice (some ⟨b, off, none⟩) f.acts.length ca) ∧ W.cell? ⟨w.heap.size, 2, none⟩ = some vc ∧ W.cell? ⟨w.heap.size, 3, none⟩ = some vk ∧ W.cell? ⟨w.heap.size, 4, none⟩ = some vi ∧ W.cell? ⟨w.heap.size, 5, none⟩ = some vo) ∧ (W.cell? ⟨b, off + k * 6, none⟩ = some (.int .i64 xo) ∧ W.cell? ⟨b, off + k * 6 + 1, none⟩ = some (.int .i64 (m : Int)) ∧ W.cell? ⟨b, off + k * 6 + 2, none⟩ = some (.int .i64 xa) ∧ W.cell? ⟨b, off + k * 6 + 3, none⟩ = some (.int .i64 xb) ∧ W.cell? ⟨b, off + k * 6 + 4, none⟩ = some (.int .i64 xc) ∧ W.cell? ⟨b, off + k * 6 + 5, none⟩ = some (.int .i64 xk))) := fun W hW => by
        have hU := u5.trans hW
        refine ⟨(HW.out _ hU).2.1, ?_⟩
        have kk : ∀ (i : Nat) (u : Value), wc.cell? ⟨b, i, none⟩ = some u → W.cell? ⟨b, i, none⟩ = some u := fun i u hu => by
          rw [World.cell?_of_block (hW.block b (World.block_lt_of_cell? wc _ hu) (by omega))]; exact hu
        exact ⟨kk _ _ d0, kk _ _ d1, kk _ _ d2, kk _ _ d3, kk _ _ d4, kk _ _ d5⟩
      go_upto_region 10 with (fail)
      have hsz6 : (wc.setCell ⟨D, m, none⟩ (.bool true)).heap.size = wc.heap.size := by simp [World.setCell]
      have hsz6' : w3.heap.size ≤ (wc.setCell ⟨D, m, none⟩ (.bool true)).heap.size := u6.size
      have uc6 : Upd (fun k => k = D) wc (wc.setCell ⟨D, m, none⟩ (.bool true)) := Upd.setCell (X := fun k => k = D) (p := ⟨D, m, none⟩) (Upd.refl _ _) rfl (.bool true)
      have hDl6 : D < (wc.setCell ⟨D, m, none⟩ (.bool true)).heap.size := rD6.lt
      clear hsz6
      generalize wc.setCell ⟨D, m, none⟩ (.bool true) = w6 at *
      clear f0 f1 f2 f3 f4 f5 d0 d1 d2 d3 d4 d5 cD fD
      obtain ⟨⟨f0, f1, f2, f3, f4, f5⟩, d0, d1, d2, d3, d4, d5⟩ := HD6.out _ uc6
      have HO6 := Lib.hid hown6
      have HRD6 := Lib.hid rD6
      have HU6 := Lib.hid u6
      clear hown5 hown6 rD5 rD6 u5 u6 uc6
      go_wp2_with (at_builtin; refine wpList_append_own _ rfl _ _ 45 rfl w3.heap.size 91 i0 (.agg #[.int .i64 0, .int .i64 0, .int .i64 0, .int .i64 0, .int .i64 0, .int .i64 0]) 6 48 Try.underlying45 hi0 hz0 hz1 hz2 rfl (by decide) _ _ _ rfl (HO6.out.alloc _) ⟨w6.heap.size, 0, none⟩ 1 1 (acC ⟨xo, (m : Int), xa, xb, xc, xk⟩) rfl rfl (cells_new _ _ _) (acC_one _) (by unfold maxLen; omega) (by omega) (by simp; omega) ?_)
      intro v7 w7 ho7 hg7 _
      have hbal := below_own ((Below.refl w3.heap.size w6).alloc hsz6' _) (HO6.out.alloc _) hg7 (by simp; omega)
      have HO7 : Hid (w7.ownsRow w3.heap.size 91 6 v7 (done ++ [(⟨xo, (m : Int), xa, xb, xc, xk⟩ : Ac)]).length (acF (done ++ [⟨xo, (m : Int), xa, xb, xc, xk⟩]))) := by
        show World.ownsRow _ _ _ _ _ _ _
        rw [List.length_append, acF_append]
        simpa [acF] using ho7
      have HR7 := Lib.hid (HRD6.out.below hbal hDlt)
      have HU7 : Hid (Upd (fun k => k = D) w3 w7) := ⟨hbal.os.trans HU6.out.os, hbal.tape.trans HU6.out.tape, hbal.output.trans HU6.out.output, Nat.le_trans HU6.out.size hbal.size, fun i hi hX => (hbal.block i hi).trans (HU6.out.block i hi hX)⟩
      clear ho7 hg7 hbal f0 f1 f2 f3 f4 f5 d0 d1 d2 d3 d4 d5
      have hlen' : (done ++ [(⟨xo, (m : Int), xa, xb, xc, xk⟩ : Ac)]).length = done.length + 1 := by simp
      have HLEN := Lib.hid hlen'
      clear hlen'
      go_wp2_with fail
      go_roundg (f.acts.length - (done.length + 1))
      case measure => omega
      case rel => exact ⟨_, _, done ++ [⟨xo, (m : Int), xa, xb, xc, xk⟩], by rw [HLEN.out], by rw [HLEN.out]; omega, HS', HO7.out, HR7.out, HU7.out⟩
end Go.Proofs.Ytbjaejgechadpaa
