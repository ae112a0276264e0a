/-
  CallsOrder: the walk.
-/
import Derived.Test.YtabceednmgijoaaGreatAwD
import Derived.Test.YtabceednmgijoaaGreatRfK
import Derived.Test.YtabceednmgijoaaGreatRfO
import Derived.Test.YtabceednmgijoaaGreatOpenN
import Derived.Test.YtabceednmgijoaaGreatFewM
namespace Go.Proofs.YtabceednmgijoaaGreat.callsOrder
open Go.RowKit
attribute [local go_sem ↓] Go.wp_at_zero Go.wp_at_succ
set_option maxRecDepth 100000 in
set_option maxHeartbeats 1000000 in
theorem walk (s : List Nd) (v : Value) (w : World) (h : SrcIs w s v) :
    Calls Tryz.prog 5 #[v] w fun r w' => r = .returned (.bool true) ∧ Below w.heap.size w w' := by
  obtain ⟨A, cap, rfl, h1, h2, hn⟩ := h
  have rs1 := Row.new w #[.slice A s.length cap] 24
  have b1 : Below w.heap.size w (w.alloc (.cells #[.slice A s.length cap] 24)) := bE
  have HS : Hid (∀ W, Below w.heap.size w W → Nds W w.heap.size A s) := fun W hW => nds_keep hn (keeps_of hW) (Nat.le_refl _)
  have HSW : Hid (∀ W, Below w.heap.size w W → Nds W W.heap.size A s) := fun W hW => nds_keep hn (keeps_of hW) hW.size
  have h2' : cap ≤ 9223372036854775807 := by unfold maxLen at h2; omega
  clear hn
  go_enter Tryz.func5, Tryz.ntmps5
  go_upto_region 1 with (fail)
  generalize w.alloc (.cells #[.slice A s.length cap] 24) = W1 at *
  have hs1 := b1.size
  go_wp2_with fail
  refine (awake17_any W1).mono ?_
  rintro r w2 ⟨rfl, hb2⟩
  have rs2 := rs1.below hb2 rs1.lt
  have hB2 := b1.trans (hb2.mono hs1)
  have hs2 := hB2.size
  have c0 := rs2.src
  go_wp2_with fail
  refine (fewNodes_any s A cap w2 h1 h2 (HSW.out w2 hB2)).mono ?_
  rintro r w3 ⟨⟨bf, rfl, HFN⟩, hb3⟩
  have rs3 := rs2.below hb3 rs2.lt
  have hB3 := hB2.trans (hb3.mono hs2)
  have hs3 := hB3.size
  clear c0 rs1 rs2 b1 hb2 hb3 hB2 hs1 hs2
  cases bf
  · go_wp2_with fail
    go_ret
    exact ⟨rfl, hB3⟩
  have HSM : Hid (SrcSm s) := HFN.out (by first | rfl | trivial)
  clear HFN
  have c0 := rs3.src
  go_wp2_with fail
  refine (order_any s A cap w3 HSM.out h1 h2 (HSW.out w3 hB3)).mono ?_
  rintro r w4 ⟨⟨v4, rfl, HV⟩, hb4⟩
  have rs4 := rs3.below hb4 rs3.lt
  have hB4 := hB3.trans (hb4.mono hs3)
  have hs4 := hB4.size
  clear c0 rs3 hb4 hB3 hs3
  have c0 := rs4.src
  obtain ⟨f, HFX⟩ : ∃ f, Hid (callsF s = f) := ⟨_, rfl⟩
  have HCK := Lib.hid (rcheck17_any s A cap w4 HSM.out h1 h2 (HSW.out w4 hB4))
  rw [HFX.out] at HV HCK ⊢
  have fe := field_flt f
  by_cases hf : f.err = 0
  rotate_left 1
  · have hf1 : (f.err != 0) = true := neq_yes hf
    have hv := HV.out.2 hf
    subst hv
    rw [cB_false hf]
    clear HV
    clear hf
    go_wp2_with fail
    refine HCK.out.mono ?_
    rintro r w5 ⟨rfl, hb5⟩
    go_wp2_with fail
    go_ret
    exact ⟨by first | rfl | simp, hB4.trans (hb5.mono hs4)⟩
  have hf1 : (f.err != 0) = false := neq_no hf
  rw [cB_true hf]
  have hv4 := HV.out.1 hf
  have HC : Hid ((callsF s).err = 0) := by show _ = _; rw [HFX.out]; exact hf
  have HOL : Hid ((orderF s).length = s.length) := ord_len HC.out s.length (Nat.le_refl _)
  obtain ⟨A4, c4, rfl, g1, g2, hs4'⟩ := hv4
  have HO : Hid (∀ W, Below w4.heap.size w4 W → Sl W W.heap.size 1 isStr A4 (orderF s)) := fun W hW => (hs4'.below hW).more hW.size
  clear hf HV hs4' HFX
  go_wp2_with fail
  refine HCK.out.mono ?_
  rintro r w5 ⟨rfl, hb5⟩
  have rs5 := rs4.below hb5 rs4.lt
  have hB5 := hB4.trans (hb5.mono hs4)
  have hs5 := hB5.size
  clear c0 HCK
  have c0 := rs5.src
  have HR := Lib.hid (rorder_any s A cap w5 HC.out HSM.out h1 h2 (HSW.out w5 hB5))
  go_wp2_with fail
  refine HR.out.mono ?_
  rintro r w6 ⟨⟨v6, rfl, hv6⟩, hb6⟩
  obtain ⟨A6, c6, rfl, q1, q2, q3⟩ := hv6
  have HT := Lib.hid (texts_self (orderF s) _ A4 A6 c4 c6 w6 rfl g1 g2 (HO.out w6 (hb5.trans (hb6.mono hb5.size))) q1 q2 q3)
  clear q3 HR c0
  go_wp2_with fail
  refine HT.out.mono ?_
  rintro r w7 ⟨rfl, nn, rfl⟩
  go_wp2_with fail
  go_ret
  exact ⟨by first | rfl | simp, below_drewN' (hB5.trans (hb6.mono hs5)) _⟩
end Go.Proofs.YtabceednmgijoaaGreat.callsOrder
