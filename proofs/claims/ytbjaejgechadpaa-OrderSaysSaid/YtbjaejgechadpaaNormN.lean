/-
  norm.Right
-/
import Derived.Test.YtbjaejgechadpaaNormM
import Derived.Test.YtbjaejgechadpaaNormKc
import Derived.Test.YtbjaejgechadpaaNormKd
import Derived.Test.YtbjaejgechadpaaNormKe
import Derived.Test.YtbjaejgechadpaaNormKf
namespace Go.Proofs.Ytbjaejgechadpaa
open Go.RowKit Vf Fo
attribute [local go_sem ↓] Go.wp_at_zero Go.wp_at_succ
section
variable {w : World} {B L : Nat} {f : Fm} {vw va vc vk vi vo vb ve : Value}
theorem nact_any (h : NkAt w B L f vw va vc vk vi vo vb ve) (hB : B ≤ w.heap.size) (x : Ac) (wx : AcIn x) (hd : isW f x.dst) (hcl : ∀ n, isW f n → (clockOf f n).length ≤ 1600)
    {K : Nat} {ks : List Int} (hve : ve = .slice (some ⟨K, 0, none⟩) f.cells.length f.cells.length) (hK : KsAt w L K ks) (hkl : ks.length = f.cells.length) (hkk : ∀ c : Nat, c < f.cells.length → getI ks c = (kept f c).getD (-1)) (hcok : cellsOk f) :
    Calls Try.prog 102 #[.pointer (some ⟨L, 0, none⟩), acV x] w fun e w' => e = .returned (.bool (cB (actOk f x))) ∧ Below w.heap.size w w' := by
  obtain ⟨op, dst, a, b, c, k⟩ := x
  by_cases hall : allW3 f a b c
  rotate_left 1
  · exact nact_no h hB op dst a b c k wx hall
  by_cases hu : 0 ≤ uses op
  rotate_left 1
  · exact nact_none h hB op dst a b c k wx hd (by omega) hall
  rcases uses_cases hu with hop | hop | hop | hop | hop | hop | hop | hop | hop
  · exact nact_1 h hB op dst a b c k wx hd hop hall
  · exact nact_2 h hB op dst a b c k wx hd hop hall
  · exact nact_21 h hB op dst a b c k wx hd hop hall hve hK hkl hkk hcok
  · exact nact_3 h hB op dst a b c k wx hd hop hall
  · exact nact_24 h hB op dst a b c k wx hd hop hall hcl
  · exact nact_26 h hB op dst a b c k wx hd hop hall (hcl dst hd)
  · exact nact_27 h hB op dst a b c k wx hd hop hall
  · exact nact_one h hB op dst a b c k wx hd (by omega) hall
  · exact nact_two h hB op dst a b c k wx hd hop hall
end
theorem act_facts {f : Fm} (hw : wiresOk f) {x : Ac} (hd : isW f x.dst) (ha : actOk f x) : 0 ≤ uses x.op ∧ isW f x.dst ∧ (∀ n ∈ wants x, isW f n) ∧ ∀ g ∈ clockOf f x.dst, isW f g.wire := by
  obtain ⟨h1, h2, h3, h4, _⟩ := ha
  refine ⟨h4, hd, fun n hn => ?_, fun g hg => (clock_ok hw hd g hg).1⟩
  unfold wants at hn
  split at hn
  · simp at hn
  · split at hn
    · simp at hn; rw [hn]; exact h1
    · split at hn
      · simp at hn; rcases hn with rfl | rfl <;> assumption
      · simp at hn; rcases hn with rfl | rfl | rfl <;> assumption
set_option maxRecDepth 100000 in
set_option maxHeartbeats 4000000 in
theorem nright_any (f : Fm) (vw va vc vk vi vo : Value) (w : World) (h : FmAt w w.heap.size f vw va vc vk vi vo) (hcl : f.cells.length ≤ 1600) :
    Calls Try.prog 62 #[fmV vw va vc vk vi vo] w fun e w' => e = .returned (.bool (cB (formOk f))) ∧ Below w.heap.size w w' := by
  have HFM := Lib.hid h
  have HCL := Lib.hid hcl
  clear h hcl
  go_enter Try.func62, Try.ntmps62
  go_upto_region 2 with (fail)
  have b1 : Below w.heap.size w ((w.alloc (.cells #[vw, va, vc, vk, vi, vo] 48)).alloc (.cells #[vw, va, vc, vk, vi, vo, .slice none 0 0, .slice none 0 0] 129)) := bE
  have rG1 : Row ((w.alloc (.cells #[vw, va, vc, vk, vi, vo] 48)).alloc (.cells #[vw, va, vc, vk, vi, vo, .slice none 0 0, .slice none 0 0] 129)) w.heap.size #[vw, va, vc, vk, vi, vo] 48 := (Row.new w _ _).alloc _
  have rL1 : Row ((w.alloc (.cells #[vw, va, vc, vk, vi, vo] 48)).alloc (.cells #[vw, va, vc, vk, vi, vo, .slice none 0 0, .slice none 0 0] 129)) (w.heap.size + 1) #[vw, va, vc, vk, vi, vo, .slice none 0 0, .slice none 0 0] 129 := rowNew2 w _ _ _
  generalize (w.alloc (.cells #[vw, va, vc, vk, vi, vo] 48)).alloc (.cells #[vw, va, vc, vk, vi, vo, .slice none 0 0, .slice none 0 0] 129) = w1 at *
  generalize hL : w.heap.size + 1 = L at *
  have hGL : w.heap.size ≠ L := by omega
  have hBL : w.heap.size ≤ L := by omega
  have hs1 := b1.size
  have hLlt := rL1.lt
  have hN1 : NkAt w1 w.heap.size L f vw va vc vk vi vo (.slice none 0 0) (.slice none 0 0) := ⟨rL1, HFM.out.below b1⟩
  have HG : Hid (∀ W, Upd (fun k => k = L) w1 W → W.cell? ⟨w.heap.size, 1, none⟩ = some va ∧ W.cell? ⟨w.heap.size, 4, none⟩ = some vi ∧ W.cell? ⟨w.heap.size, 5, none⟩ = some vo) := fun W hW =>
    ⟨(hW.row rG1 hGL).cell 1, (hW.row rG1 hGL).cell 4, (hW.row rG1 hGL).cell 5⟩
  have HFIN : Hid (∀ W, Upd (fun k => k = L) w1 W → Below w.heap.size w W) := fun W hW => (b1.trans ((hW.below (B := w.heap.size) (fun k hk => by omega) hs1)))
  clear b1 rG1 rL1 hL
  have HC := Lib.hid (nwires_any hN1 hs1)
  by_cases h1 : wiresOk f
  rotate_left 1
  · have HF : Hid (cB (formOk f) = false) := cB_false (fun g => h1 g.1)
    rw [cB_false h1] at HC
    clear h1
    go_wp2_with fail
    (with_reducible refine HC.out.mono ?_)
    rintro e w2 ⟨rfl, hb2⟩
    go_wp2_with fail
    go_ret
    exact ⟨ret_bool HF.out.symm, HFIN.out _ (Upd.of_below hb2)⟩
  rw [cB_true h1] at HC
  have H1 := Lib.hid h1
  clear h1
  go_wp2_with fail
  (with_reducible refine HC.out.mono ?_)
  rintro e w2 ⟨rfl, hb2⟩
  have u2 : Upd (fun k => k = L) w1 w2 := Upd.of_below hb2
  have hN2 := hN1.below hs1 hb2
  have hs2 : w.heap.size ≤ w2.heap.size := Nat.le_trans hs1 hb2.size
  clear hN1 hb2 HC
  obtain ⟨x1, x4, x5⟩ := HG.out _ u2
  have HC := Lib.hid (nports_any hN2 hs2 f.ins vi hN2.fm.ins)
  by_cases h1 : portsOk f f.ins
  rotate_left 1
  · have HF : Hid (cB (formOk f) = false) := cB_false (fun g => h1 g.2.1)
    rw [cB_false h1] at HC
    clear h1
    go_wp2_with fail
    (with_reducible refine HC.out.mono ?_)
    rintro e w3 ⟨rfl, hb3⟩
    go_wp2_with fail
    go_ret
    exact ⟨ret_bool HF.out.symm, HFIN.out _ (u2.trans (Upd.of_below hb3))⟩
  rw [cB_true h1] at HC
  have H2 := Lib.hid h1
  clear h1
  go_wp2_with fail
  (with_reducible refine HC.out.mono ?_)
  rintro e w3 ⟨rfl, hb3⟩
  have u3 : Upd (fun k => k = L) w1 w3 := u2.trans (Upd.of_below hb3)
  have hN3 := hN2.below hs2 hb3
  have hs3 : w.heap.size ≤ w3.heap.size := Nat.le_trans hs2 hb3.size
  clear hN2 hb3 HC x1 x4 x5 u2
  obtain ⟨x1, x4, x5⟩ := HG.out _ u3
  have HC := Lib.hid (nports_any hN3 hs3 f.outs vo hN3.fm.outs)
  by_cases h1 : portsOk f f.outs
  rotate_left 1
  · have HF : Hid (cB (formOk f) = false) := cB_false (fun g => h1 g.2.2.1)
    rw [cB_false h1] at HC
    clear h1
    go_wp2_with fail
    (with_reducible refine HC.out.mono ?_)
    rintro e w4 ⟨rfl, hb4⟩
    go_wp2_with fail
    go_ret
    exact ⟨ret_bool HF.out.symm, HFIN.out _ (u3.trans (Upd.of_below hb4))⟩
  rw [cB_true h1] at HC
  have H3 := Lib.hid h1
  clear h1
  go_wp2_with fail
  (with_reducible refine HC.out.mono ?_)
  rintro e w4 ⟨rfl, hb4⟩
  have u4 : Upd (fun k => k = L) w1 w4 := u3.trans (Upd.of_below hb4)
  have hN4 := hN3.below hs3 hb4
  have hs4 : w.heap.size ≤ w4.heap.size := Nat.le_trans hs3 hb4.size
  clear hN3 hb4 HC x1 x4 x5 u3
  obtain ⟨x1, x4, x5⟩ := HG.out _ u4
  have HC := Lib.hid (ncells_any hN4 hBL HCL.out)
  clear hN4
  go_wp2_with fail
  (with_reducible refine HC.out.mono ?_)
  rintro e w5 ⟨r5, ve5, rfl, hr5, hN5, v5, hK5⟩
  have u5 := u4.trans v5
  have hs5 : w.heap.size ≤ w5.heap.size := Nat.le_trans hs4 v5.size
  have HR5 := Lib.hid hr5
  have HK5 := Lib.hid hK5
  clear HC x1 x4 x5 u4 v5 hr5 hK5
  obtain ⟨x1, x4, x5⟩ := HG.out _ u5
  cases r5
  · have HF : Hid (cB (formOk f) = false) := cB_false (fun g => by have := HR5.out.2 g.2.2.2.1; cases this)
    go_wp2_with fail
    go_ret
    exact ⟨ret_bool HF.out.symm, HFIN.out _ u5⟩
  have H4 : Hid (cellsOk f) := HR5.out.1 rfl
  obtain ⟨K, ks, rfl, hKs, hkl, hkk⟩ := HK5.out rfl
  have HKK := Lib.hid hkk
  have HKL := Lib.hid hkl
  have HKS := Lib.hid hKs
  have HC := Lib.hid (ndefined_any hN5 hBL H1.out.2.2 (fun n hn => (H2.out.1 n hn).1))
  clear hN5 hkk hkl hKs HK5 HR5
  go_wp2_with fail
  (with_reducible refine HC.out.mono ?_)
  rintro e w6 ⟨r6, vb6, rfl, hr6, hN6, v6⟩
  have u6 := u5.trans v6
  have hs6 : w.heap.size ≤ w6.heap.size := Nat.le_trans hs5 v6.size
  have HR6 := Lib.hid hr6
  have HKS6 : Hid (KsAt w6 L K ks) := ⟨v6.row HKS.out.row HKS.out.ne, HKS.out.ne⟩
  clear HC x1 x4 x5 u5 v6 hr6
  obtain ⟨x1, x4, x5⟩ := HG.out _ u6
  cases r6
  · have HF : Hid (cB (formOk f) = false) := cB_false (fun g => by have := HR6.out.2 g.2.2.2.2.1; cases this)
    go_wp2_with fail
    go_ret
    exact ⟨ret_bool HF.out.symm, HFIN.out _ u6⟩
  have H5 : Hid (definedOk f) := HR6.out.1 rfl
  have HN6 := Lib.hid (fun W (hW : Below w6.heap.size w6 W) => hN6.below hs6 hW)
  have HCL2 := Lib.hid (fun n (hn : isW f n) => clock_len H1.out hn)
  obtain ⟨Aa, ca, rfl, la, ma, sa⟩ := hN6.fm.acts
  have ma' : ca ≤ 9223372036854775807 := by unfold maxLen at ma; omega
  clear hN6 sa HR6
  go_wp2_with fail
  go_loopw [39] (fun i wr => ∃ k : Nat, k ≤ f.acts.length ∧ i = .int .i64 k ∧ Hid (∀ j, j < k → ∀ x, f.acts[j]? = some x → actOk f x) ∧ Below w6.heap.size w6 wr) (fun i _ => f.acts.length - (intOf i).toNat)
  case atStart => exact ⟨0, Nat.zero_le _, rfl, fun j hj => absurd hj (by omega), Below.refl _ _⟩
  case round =>
    clear x1 x4 x5
    obtain ⟨k, hk, rfl, HA, hb⟩ := hrel
    have hsr := hb.size
    by_cases hlt : k < f.acts.length
    rotate_left 1
    · obtain rfl : k = f.acts.length := by omega
      have HA2 := Lib.hid (all_upto HA.out)
      have HC := Lib.hid (nrow_any (HN6.out _ hb) (by omega) H1.out.2.2 (fun n hn => (H2.out.1 n hn).1) (fun x hx => act_facts H1.out (H5.out.2.1 x hx).1 (HA2.out x hx)))
      have HF : Hid (cB (formOk f) = cB (rowOk f)) := cB_congr ⟨fun g => g.2.2.2.2.2.2, fun g => ⟨H1.out, H2.out, H3.out, H4.out, H5.out, HA2.out, g⟩⟩
      generalize cB (rowOk f) = R at *
      go_wp2_with fail
      (with_reducible refine HC.out.mono ?_)
      rintro e w8 ⟨rfl, hb8⟩
      go_wp2_with fail
      go_ret
      exact ⟨ret_bool HF.out.symm, HFIN.out _ (u6.trans ((Upd.of_below hb).trans (Upd.of_below hb8)))⟩
    obtain ⟨A', c', he, _, _, sa⟩ := (HN6.out _ hb).fm.acts
    injection he with he1 he2 he3
    subst he1
    obtain ⟨b, off, ⟨xo, xd, xa, xb, xc, xk⟩, hAa, hbb, hx, wx, d0, d1, d2, d3, d4, d5⟩ := sa.ac hlt
    subst hAa
    have HX := Lib.hid hx
    dsimp only at d0 d1 d2 d3 d4 d5
    have ba := (Below.refl wr.heap.size wr).alloc (Nat.le_refl _) (.cells #[.int .i64 xo, .int .i64 xd, .int .i64 xa, .int .i64 xb, .int .i64 xc, .int .i64 xk] 91)
    have r9 := Row.new wr #[.int .i64 xo, .int .i64 xd, .int .i64 xa, .int .i64 xb, .int .i64 xc, .int .i64 xk] 91
    have hb7 := hb.trans (ba.mono hsr)
    clear he2 he3 hx sa
    go_upto_region 7 with (fail)
    generalize wr.heap.size = g9 at *
    generalize wr.alloc (.cells #[.int .i64 xo, .int .i64 xd, .int .i64 xa, .int .i64 xb, .int .i64 xc, .int .i64 xk] 91) = w7 at *
    clear d0 d1 d2 d3 d4 d5 ba
    obtain ⟨c0, c1, c2, c3, c4, c5⟩ := r9.six'
    have hs7 := hb7.size
    have HC := Lib.hid (nact_any (HN6.out _ hb7) (by omega) ⟨xo, xd, xa, xb, xc, xk⟩ wx (H5.out.2.1 _ (List.mem_of_getElem? HX.out)).1 HCL2.out rfl ⟨HKS6.out.row.below hb7 HKS6.out.row.lt, HKS6.out.ne⟩ HKL.out HKK.out H4.out)
    by_cases ha : actOk f ⟨xo, xd, xa, xb, xc, xk⟩
    · rw [cB_true ha] at HC
      have HA' := Lib.hid (upto_succ HA.out (fun y hy => by rw [HX.out] at hy; injection hy with hy; rw [← hy]; exact ha))
      clear ha
      go_wp2_with fail
      (with_reducible refine HC.out.mono ?_)
      rintro e w8 ⟨rfl, hb8⟩
      have hb68 := hb7.trans (hb8.mono hs7)
      go_wp2_with fail
      go_roundw
      case rel => exact ⟨k + 1, by omega, by go_num, HA', hb68⟩
      case measure => first | (simp [intOf]; omega) | simp [intOf]
    · rw [cB_false ha] at HC
      have HF : Hid (cB (formOk f) = false) := cB_false (fun g => ha (g.2.2.2.2.2.1 _ (List.mem_of_getElem? HX.out)))
      clear ha
      go_wp2_with fail
      (with_reducible refine HC.out.mono ?_)
      rintro e w8 ⟨rfl, hb8⟩
      go_wp2_with fail
      go_ret
      exact ⟨ret_bool HF.out.symm, HFIN.out _ (u6.trans (Upd.of_below (hb7.trans (hb8.mono hs7))))⟩
end Go.Proofs.Ytbjaejgechadpaa
