/-
  The type of an expression in a node: the contracts of types.Of and what it calls.
-/
import Derived.Test.YtolabbnchmmckaaTyF
import Derived.Test.YtolabbnchmmckaaKnW
import Derived.Test.YtolabbnchmmckaaEqTc
import Derived.Test.YtolabbnchmmckaaRfT
import Derived.Deep.RegionHeld3
namespace Go.Proofs.Ytolabbnchmmckaa
open Go.RowKit
attribute [local go_sem ↓] Go.wp_at_zero Go.wp_at_succ
theorem nds_sole {W : World} {B g : Nat} {n : Nd} {a : NdA} {t : TypeId} (h : Row W g (ndArr n a) t) (hB : g < B) (hn : NdAt W B n a) : Nds W B (some ⟨g, 0, none⟩) [n] :=
  sl_one (cs := (ndArr n a).toList) h hB ⟨a, rfl, hn⟩
theorem field_flt (f : Ft) (W : World) : (Instr.field 31 (.agg #[.int .i64 f.err, .int .i64 f.line, .int .i64 f.col]) 0).run Try.prog W = .ok (.int .i64 f.err) W := by kernel_rfl
set_option maxRecDepth 100000 in
set_option maxHeartbeats 1000000 in
theorem of1_any (m : Nd) (am : NdA) (n : Nd) (a : NdA) (bn : Nat) (w : World) (hm : NdAt w w.heap.size m am) (hn : NdAt w w.heap.size n a) (rn : Row w bn (ndArr n a) 40) :
    Calls Try.prog 85 #[ndV m am, .pointer (some ⟨bn, 0, none⟩)] w fun r w' => (∃ b : Bool, r = .returned (.bool b) ∧ Hid (m = n → b = true)) ∧ Below w.heap.size w w' := by
  have r1 := Row.new w (ndArr m am) 40
  have b1 : Below w.heap.size w (w.alloc (.cells (ndArr m am) 40)) := (by repeat (first | (with_reducible assumption) | (with_reducible exact Below.refl _ _) | (with_reducible refine Below.drew ?_) | (with_reducible refine below_drewN' ?_ _) | (with_reducible refine Below.alloc ?_ (by first | assumption | omega | (simp; omega) | simp | (simp [World.setCell]; omega) | simp [World.setCell]) _) | (with_reducible refine Below.setCell ?_ (by first | assumption | omega | (simp; omega) | simp | (simp [World.setCell]; omega) | simp [World.setCell]) _)))
  have rn1 := rn.below b1 rn.lt
  have HM : Hid (∀ W, Below w.heap.size w W → NdAt W W.heap.size m am) := fun W hW => (hm.below hW).more hW.size
  have HN : Hid (∀ W, Below w.heap.size w W → NdAt W W.heap.size n a) := fun W hW => (hn.below hW).more hW.size
  clear hm hn rn
  go_enter Try.func85, Try.ntmps85
  go_upto_region 1 with (fail)
  generalize w.alloc (.cells (ndArr m am) 40) = W1 at *
  have hs1 := b1.size
  obtain ⟨d0, d1, d2, d3, d4, d5, d6⟩ := r1.nd
  obtain ⟨f0, f1, f2, f3, f4, f5, f6⟩ := rn1.nd
  have hb := rn1.lt
  have b2 : Below W1.heap.size W1 ((W1.alloc (.cells (ndArr m am) 40)).alloc (.cells (ndArr n a) 40)) := (by repeat (first | (with_reducible assumption) | (with_reducible exact Below.refl _ _) | (with_reducible refine Below.drew ?_) | (with_reducible refine below_drewN' ?_ _) | (with_reducible refine Below.alloc ?_ (by first | assumption | omega | (simp; omega) | simp | (simp [World.setCell]; omega) | simp [World.setCell]) _) | (with_reducible refine Below.setCell ?_ (by first | assumption | omega | (simp; omega) | simp | (simp [World.setCell]; omega) | simp [World.setCell]) _)))
  have hB2 := b1.trans (b2.mono hs1)
  have HC := Lib.hid (equalb_any [m] [n] 1 1 (some ⟨W1.heap.size, 0, none⟩) (some ⟨W1.heap.size + 1, 0, none⟩) 1 1 ((W1.alloc (.cells (ndArr m am) 40)).alloc (.cells (ndArr n a) 40)) rfl rfl (Nat.le_refl _) (by unfold maxLen; decide)
    (nds_sole ((Row.new W1 (ndArr m am) 40).alloc _) (by simp; omega) (HM.out _ hB2)) (by unfold maxLen; decide) (nds_sole (rowNew2 W1 _ (ndArr n a) 40) (by simp) (HN.out _ hB2)))
  go_wp2_with fail
  refine HC.out.mono ?_
  rintro r w2 ⟨⟨bb, rfl, HB⟩, hb2⟩
  have HE : Hid (m = n → bb = true) := fun g => HB.out (by rw [g])
  have hB3 := hB2.trans (hb2.mono hB2.size)
  go_wp2_with fail
  go_ret
  exact ⟨⟨bb, rfl, HE⟩, hB3⟩
set_option maxRecDepth 100000 in
set_option maxHeartbeats 1000000 in
theorem index_any (s : List Nd) (A : Option Addr) (cap : Nat) (n : Nd) (a : NdA) (bn k : Nat) (w : World) (h1 : s.length ≤ cap) (h2 : cap ≤ maxLen) (hk : s[k]? = some n) (hs : Nds w w.heap.size A s) (hn : NdAt w w.heap.size n a) (rn : Row w bn (ndArr n a) 40) :
    Calls Try.prog 112 #[.slice A s.length cap, .func (.func 85) #[] #[.pointer (some ⟨bn, 0, none⟩)]] w fun r w' => (∃ i : Nat, r = .returned (.int .i64 i)) ∧ Below w.heap.size w w' := by
  have hF := enters_of Try.func85 (by kernel_rfl) rfl
  have HS : Hid (∀ W, Below w.heap.size w W → Nds W w.heap.size A s) := fun W hW => nds_keep hs (keeps_of hW) (Nat.le_refl _)
  have HN : Hid (∀ W, Below w.heap.size w W → NdAt W W.heap.size n a) := fun W hW => (hn.below hW).more hW.size
  have HK := Lib.hid hk
  have hkl := (List.getElem?_eq_some_iff.1 hk).1
  have h2' : cap ≤ 9223372036854775807 := by unfold maxLen at h2; omega
  clear hs hn hk
  go_enter Try.func112, Try.ntmps112
  go_wp2_with fail
  go_loopw [8] (fun i wr => ∃ j : Nat, j ≤ k ∧ i = .int .i64 j ∧ Below w.heap.size w wr) (fun i _ => s.length - (intOf i).toNat)
  case atStart => exact ⟨0, Nat.zero_le _, rfl, Below.refl _ _⟩
  case round =>
    obtain ⟨j, hj, rfl, hbr⟩ := hrel
    have hszr := hbr.size
    have hlt : j < s.length := by omega
    obtain ⟨b, off, m, am, hA, hb, hmx, hat, d0, d1, d2, d3, d4, d5, d6⟩ := (HS.out wr hbr).nd hlt
    rw [hA]
    have HC := Lib.hid (of1_any m am n a bn wr (hat.more hszr) (HN.out wr hbr) (rn.below hbr rn.lt))
    have HNE : Hid (j = k → m = n) := fun g => by
      subst g
      exact Option.some.inj (hmx.symm.trans HK.out)
    clear hA hmx hat
    go_wp2_with fail
    refine HC.out.mono ?_
    rintro r w3 ⟨⟨bb, rfl, HB⟩, hb3⟩
    have hB3 := hbr.trans (hb3.mono hszr)
    cases bb
    · have hjk : j + 1 ≤ k := by
        have : j ≠ k := fun g => Bool.noConfusion (HB.out (HNE.out g))
        omega
      clear d0 d1 d2 d3 d4 d5 d6
      go_wp2_with fail
      go_roundw
      case rel => exact ⟨j + 1, hjk, by go_num, hB3⟩
      case measure => first | (simp [intOf]; omega) | simp [intOf]
    · go_wp2_with fail
      go_ret
      exact ⟨⟨j, rfl⟩, hB3⟩
set_option maxRecDepth 100000 in
set_option maxHeartbeats 1000000 in
theorem contains_node (s : List Nd) (A : Option Addr) (cap : Nat) (n : Nd) (a : NdA) (bn k : Nat) (w : World) (h1 : s.length ≤ cap) (h2 : cap ≤ maxLen) (hk : s[k]? = some n) (hs : Nds w w.heap.size A s) (hn : NdAt w w.heap.size n a) (rn : Row w bn (ndArr n a) 40) :
    Calls Try.prog 84 #[.slice A s.length cap, .func (.func 85) #[] #[.pointer (some ⟨bn, 0, none⟩)]] w fun r w' => r = .returned (.bool true) ∧ Below w.heap.size w w' := by
  have HC := Lib.hid (index_any s A cap n a bn k w h1 h2 hk hs hn rn)
  clear hk hs hn rn
  go_enter Try.func84, Try.ntmps84
  go_wp2_with fail
  refine HC.out.mono ?_
  rintro r w2 ⟨⟨i, rfl⟩, hb2⟩
  have e0 : decide ((0 : Int) ≤ (i : Int)) = true := dec_yes (by omega)
  go_wp2_with fail
  go_ret
  exact ⟨rfl, hb2⟩
/-- an expression that types.Of takes -/
def OfOk (s : List Nd) (n : Nd) (e : Ex) : Prop := (scopeF s).err = 0 ∧ exRight e = true ∧ KnowsP s n e
/-- what types.Of answers -/
def OfTop (s : List Nd) (n : Nd) (e : Ex) (w : World) (r : Ending) (w' : World) : Prop :=
  (∃ (k : Int) (f : Ft), r = .returned (.tuple #[.int .i64 k, ftV f]) ∧ Hid ((¬ OfOk s n e → k = 0 ∧ f = ⟨2, 0, 0⟩) ∧ (OfOk s n e → f = tyF s n e ∧ (f.err = 0 → k = tyK s n e) ∧ (f.err ≠ 0 → k = 0)))) ∧ Below w.heap.size w w'
set_option linter.unusedSimpArgs false in
set_option maxRecDepth 100000 in
set_option maxHeartbeats 4000000 in
theorem of_top (s : List Nd) (A : Option Addr) (cap : Nat) (n : Nd) (a : NdA) (e : Ex) (A2 : Option Addr) (c2 k : Nat) (w : World) (sm : SrcSm s) (h1 : s.length ≤ cap) (h2 : cap ≤ maxLen) (hk : s[k]? = some n) (hs : Nds w w.heap.size A s) (hn : NdAt w w.heap.size n a)
    (ok : ExOk e) (hl2 : e.args.length ≤ c2) (hm2 : c2 ≤ maxLen) (hsz : exSize e ≤ 1000) (hx : IsExs w w.heap.size A2 e.args) :
    Calls Try.prog 47 #[srcV s A cap, ndV n a, exV e A2 c2] w (OfTop s n e w) := by
  have rs1 := (((Row.new w #[.slice A s.length cap] 45).alloc (.cells (ndArr n a) 40)).alloc (.cells (exA e A2 c2) 26)).alloc (.cells ftC0 31)
  have rn1 := ((rowNew2 w (.cells #[.slice A s.length cap] 45) (ndArr n a) 40).alloc (.cells (exA e A2 c2) 26)).alloc (.cells ftC0 31)
  have re1 := (rowNew3 w (.cells #[.slice A s.length cap] 45) (.cells (ndArr n a) 40) (exA e A2 c2) 26).alloc (.cells ftC0 31)
  have rf1 := rowNewD w (.cells #[.slice A s.length cap] 45) (.cells (ndArr n a) 40) (.cells (exA e A2 c2) 26) ftC0 31
  have b1 : Below w.heap.size w ((((w.alloc (.cells #[.slice A s.length cap] 45)).alloc (.cells (ndArr n a) 40)).alloc (.cells (exA e A2 c2) 26)).alloc (.cells ftC0 31)) := (by repeat (first | (with_reducible assumption) | (with_reducible exact Below.refl _ _) | (with_reducible refine Below.drew ?_) | (with_reducible refine below_drewN' ?_ _) | (with_reducible refine Below.alloc ?_ (by first | assumption | omega | (simp; omega) | simp | (simp [World.setCell]; omega) | simp [World.setCell]) _) | (with_reducible refine Below.setCell ?_ (by first | assumption | omega | (simp; omega) | simp | (simp [World.setCell]; omega) | simp [World.setCell]) _)))
  have HS : Hid (∀ W, Below w.heap.size w W → Nds W w.heap.size A s) := fun W hW => nds_keep hs (keeps_of hW) (Nat.le_refl _)
  have HN : Hid (∀ W, Below w.heap.size w W → NdAt W w.heap.size n a) := fun W hW => hn.below hW
  have HX : Hid (∀ W, Below w.heap.size w W → IsExs W w.heap.size A2 e.args) := fun W hW => hx.below hW
  have HSM := Lib.hid sm
  have hnm := List.mem_of_getElem? hk
  have HL := Lib.hid (show (vrs n).length ≤ 10000 by have := (sm.all n hnm).len; omega)
  have HK := Lib.hid hk
  have HOK := Lib.hid ok
  have HL2 := Lib.hid hl2
  have HM2 := Lib.hid hm2
  have HSZ := Lib.hid hsz
  have HMC := Lib.hid h2
  have h2' : cap ≤ 9223372036854775807 := by unfold maxLen at h2; omega
  have hm2' : c2 ≤ 9223372036854775807 := by unfold maxLen at hm2; omega
  clear hs hn hx sm hnm hk ok hl2 hm2 hsz
  go_enter Try.func47, Try.ntmps47
  go_upto_region 1 with (fail)
  generalize (((w.alloc (.cells #[.slice A s.length cap] 45)).alloc (.cells (ndArr n a) 40)).alloc (.cells (exA e A2 c2) 26)).alloc (.cells ftC0 31) = W1 at *
  have hs1 := b1.size
  have c0 := rs1.src
  have HCN := Lib.hid (contains_node s A cap n a (w.heap.size + 1) k W1 h1 h2 HK.out (nds_keep (HS.out W1 b1) (fun _ _ _ h => h) hs1) ((HN.out W1 b1).more hs1) rn1)
  go_wp2_with fail
  refine HCN.out.mono ?_
  rintro r w2 ⟨rfl, hb2⟩
  have rs2 := rs1.below hb2 rs1.lt
  have rn2 := rn1.below hb2 rn1.lt
  have re2 := re1.below hb2 re1.lt
  have rf2 := rf1.below hb2 rf1.lt
  have hB2 := b1.trans (hb2.mono hs1)
  have hs2 := hB2.size
  clear c0 rs1 rn1 re1 rf1 HCN
  have c0 := rs2.src
  have HCK := Lib.hid (check15_any s A cap w2 HSM.out h1 h2 (nds_keep (HS.out w2 hB2) (fun _ _ _ h => h) hs2))
  obtain ⟨f0, HF0⟩ : ∃ f, Hid (scopeF s = f) := ⟨_, rfl⟩
  rw [HF0.out] at HCK
  have fe := field_flt f0
  go_wp2_with fail
  refine HCK.out.mono ?_
  rintro r w3 ⟨rfl, hb3⟩
  have rs3 := rs2.below hb3 rs2.lt
  have rn3 := rn2.below hb3 rn2.lt
  have re3 := re2.below hb3 re2.lt
  have rf3 := rf2.below hb3 rf2.lt
  have hB3 := hB2.trans (hb3.mono hs2)
  have hs3 := hB3.size
  clear c0 rs2 rn2 re2 rf2 HCK
  have hq3 := rf3.lt
  have hq3' : w.heap.size + 1 + 1 + 1 < w3.heap.size := hq3
  by_cases hf : f0.err = 0
  rotate_left 1
  · have hf1 : (f0.err != 0) = true := neq_yes hf
    have HNO : Hid (¬ OfOk s n e) := fun g => hf (by rw [← HF0.out]; exact g.1)
    clear hf
    obtain ⟨⟨k0, k1, k2⟩, g0, g1, g2⟩ := rf3.three
    go_wp2_with fail
    exact bodyPost_ret (res2b (p := 7) (q := 6) rfl Try.underlying31 rfl (by kernel_rfl) rfl rfl (rf3.set3 _ _ _)) rfl ⟨⟨0, ⟨2, 0, 0⟩, rfl, fun _ => ⟨rfl, rfl⟩, fun g => absurd g HNO.out⟩, below_set3 hB3 (by first | omega | (simp; omega) | simp) _ _ _⟩
  have hf1 : (f0.err != 0) = false := neq_no hf
  have HZ : Hid ((scopeF s).err = 0) := by show _ = _; rw [HF0.out]; exact hf
  clear hf
  obtain ⟨x0, x1, x2, x3, x4, x5⟩ := re3.ex6
  have HCR := Lib.hid (right_any e A2 c2 w3 HOK.out HL2.out HM2.out ((HX.out w3 hB3).more hs3) (by have := HSZ.out; omega))
  obtain ⟨br, HBR⟩ : ∃ b, Hid (exRight e = b) := ⟨_, rfl⟩
  rw [HBR.out] at HCR
  go_wp2_with fail
  refine HCR.out.mono ?_
  rintro r w4 ⟨rfl, hb4⟩
  have rs4 := rs3.below hb4 rs3.lt
  have rn4 := rn3.below hb4 rn3.lt
  have re4 := re3.below hb4 re3.lt
  have rf4 := rf3.below hb4 rf3.lt
  have hB4 := hB3.trans (hb4.mono hs3)
  have hs4 := hB4.size
  clear x0 x1 x2 x3 x4 x5 rs3 rn3 re3 rf3 HCR hq3 hq3'
  cases br
  · have HNO : Hid (¬ OfOk s n e) := fun g => Bool.noConfusion (HBR.out.symm.trans g.2.1)
    obtain ⟨⟨k0, k1, k2⟩, g0, g1, g2⟩ := rf4.three
    go_wp2_with fail
    exact bodyPost_ret (res2b (p := 7) (q := 6) rfl Try.underlying31 rfl (by kernel_rfl) rfl rfl (rf4.set3 _ _ _)) rfl ⟨⟨0, ⟨2, 0, 0⟩, rfl, fun _ => ⟨rfl, rfl⟩, fun g => absurd g HNO.out⟩, below_set3 hB4 (by first | omega | (simp; omega) | simp) _ _ _⟩
  have c0 := rs4.src
  obtain ⟨d0, d1, d2, d3, d4, d5, d6⟩ := rn4.nd
  obtain ⟨x0, x1, x2, x3, x4, x5⟩ := re4.ex6
  have HCK := Lib.hid (knows_any s A cap n a e A2 c2 w4 h1 h2 HL.out HOK.out HL2.out HM2.out HSZ.out (nds_keep (HS.out w4 hB4) (fun _ _ _ h => h) hs4) ((HN.out w4 hB4).more hs4) ((HX.out w4 hB4).more hs4))
  obtain ⟨bk, HBK⟩ : ∃ b, Hid (cB (KnowsP s n e) = b) := ⟨_, rfl⟩
  rw [HBK.out] at HCK
  go_wp2_with fail
  refine HCK.out.mono ?_
  rintro r w5 ⟨rfl, hb5⟩
  have rs5 := rs4.below hb5 rs4.lt
  have rn5 := rn4.below hb5 rn4.lt
  have re5 := re4.below hb5 re4.lt
  have rf5 := rf4.below hb5 rf4.lt
  have hB5 := hB4.trans (hb5.mono hs4)
  have hs5 := hB5.size
  clear c0 d0 d1 d2 d3 d4 d5 d6 x0 x1 x2 x3 x4 x5 rs4 rn4 re4 rf4 HCK
  cases bk
  · have HNO : Hid (¬ OfOk s n e) := fun g => cB_not.1 HBK.out g.2.2
    obtain ⟨⟨k0, k1, k2⟩, g0, g1, g2⟩ := rf5.three
    go_wp2_with fail
    exact bodyPost_ret (res2b (p := 7) (q := 6) rfl Try.underlying31 rfl (by kernel_rfl) rfl rfl (rf5.set3 _ _ _)) rfl ⟨⟨0, ⟨2, 0, 0⟩, rfl, fun _ => ⟨rfl, rfl⟩, fun g => absurd g HNO.out⟩, below_set3 hB5 (by first | omega | (simp; omega) | simp) _ _ _⟩
  have HYES : Hid (OfOk s n e) := ⟨HZ.out, HBR.out, cB_iff.1 HBK.out⟩
  have HTK := Lib.hid (knows_ty (scope_rt HZ.out) HBR.out (cB_iff.1 HBK.out))
  have c0 := rs5.src
  obtain ⟨d0, d1, d2, d3, d4, d5, d6⟩ := rn5.nd
  have rt0 : TpRow (w5.alloc (.cells #[.slice A s.length cap, .string n.name, .slice a.ai n.ins.length a.ci, .slice a.ao n.outs.length a.co, .slice a.av n.vars.length a.cv, .slice a.aq n.eqs.length a.cq, .int .i64 n.line, .int .i64 n.col, .int .i64 0, .int .i64 0, .int .i64 0] 100)) w5.heap.size ⟨s, A, cap, n, a⟩ ft0 := Row.new w5 _ _
  have bt : Below w5.heap.size w5 (w5.alloc (.cells #[.slice A s.length cap, .string n.name, .slice a.ai n.ins.length a.ci, .slice a.ao n.outs.length a.co, .slice a.av n.vars.length a.cv, .slice a.aq n.eqs.length a.cq, .int .i64 n.line, .int .i64 n.col, .int .i64 0, .int .i64 0, .int .i64 0] 100)) := (by repeat (first | (with_reducible assumption) | (with_reducible exact Below.refl _ _) | (with_reducible refine Below.drew ?_) | (with_reducible refine below_drewN' ?_ _) | (with_reducible refine Below.alloc ?_ (by first | assumption | omega | (simp; omega) | simp | (simp [World.setCell]; omega) | simp [World.setCell]) _) | (with_reducible refine Below.setCell ?_ (by first | assumption | omega | (simp; omega) | simp | (simp [World.setCell]; omega) | simp [World.setCell]) _)))
  go_upto_region 5 with (fail)
  clear c0 d0 d1 d2 d3 d4 d5 d6
  generalize hW7 : w5.alloc (.cells #[.slice A s.length cap, .string n.name, .slice a.ai n.ins.length a.ci, .slice a.ao n.outs.length a.co, .slice a.av n.vars.length a.cv, .slice a.aq n.eqs.length a.cq, .int .i64 n.line, .int .i64 n.col, .int .i64 0, .int .i64 0, .int .i64 0] 100) = w7 at *
  clear hW7
  have rf7 := rf5.below bt rf5.lt
  have re7 := re5.below bt re5.lt
  have hB7 := hB5.trans (bt.mono hs5)
  have hs7 := hB7.size
  have hrf := rf5.lt
  obtain ⟨g, HG⟩ : ∃ g, Hid (w5.heap.size = g) := ⟨_, rfl⟩
  have hgw : w5.heap.size = g := HG.out
  rw [hgw] at rt0
  rw [show w5.heap.size = g from hgw]
  have hlo : w.heap.size ≤ g := by omega
  have hrg : w.heap.size + 3 < g := by omega
  have HT7 : Hid (TpAt w7 w.heap.size g ⟨s, A, cap, n, a⟩ ft0) := ⟨rt0, hlo, HN.out w7 hB7, HS.out w7 hB7, HL.out, h1, HMC.out, fz0⟩
  clear hgw bt rt0
  obtain ⟨x0, x1, x2, x3, x4, x5⟩ := re7.ex6
  have HO := Lib.hid (of_tany ⟨s, A, cap, n, a⟩ w.heap.size g e ft0 A2 c2 w7 HT7.out HOK.out HL2.out HM2.out (HX.out w7 hB7) HTK.out)
  go_wp2_with fail
  refine HO.out.mono ?_
  rintro r w8 ⟨⟨kk, rfl, HKK⟩, ht8, hu8⟩
  have ht8' : TpAt w8 w.heap.size g ⟨s, A, cap, n, a⟩ (tyF s n e) := by have := ht8; rwa [ft2_l] at this
  have HK8 : Hid ((tyF s n e).err = 0 → kk = tyK s n e) := by have := HKK.out; rwa [ft2_l] at this
  have HT8 := Lib.hid ht8'
  have rf8 := Row.upd hu8 rf7 (by omega)
  have hB8 := hB7.trans (UpdM.bel hu8 hlo hs7)
  have hs8 := hB8.size
  have HBD := Lib.hid (bad_any ⟨s, A, cap, n, a⟩ _ g w8 HT8.out.row HT8.out.fz)
  clear x0 x1 x2 x3 x4 x5 ht8 ht8' hu8 HKK HO
  obtain ⟨f, HFX⟩ : ∃ f, Hid (tyF s n e = f) := ⟨_, rfl⟩
  rw [HFX.out] at HT8 HK8 HBD
  have hq8 := rf8.lt
  have hq8' : w.heap.size + 1 + 1 + 1 < w8.heap.size := hq8
  by_cases hbad : f.err = 0
  · have HB : Hid (badB f = false) := neq_no hbad
    have HZF : Hid (f = ft0) := HT8.out.fz hbad
    have HBZ := Lib.hid hbad
    clear hbad
    obtain ⟨⟨k0, k1, k2⟩, g0, g1, g2⟩ := rf8.three
    go_wp2_with fail
    refine HBD.out.mono ?_
    rintro r w9 ⟨rfl, rfl⟩
    rw [HB.out]
    go_wp2_with fail
    exact bodyPost_ret (res2b (p := 7) (q := 6) rfl Try.underlying31 rfl (by kernel_rfl) rfl rfl (rf8.set3 _ _ _)) rfl ⟨⟨kk, ft0, rfl, fun g => absurd HYES.out g, fun _ => ⟨by rw [HFX.out, HZF.out], fun _ => HK8.out HBZ.out, fun g => absurd rfl g⟩⟩, below_set3 hB8 (by first | omega | (simp; omega) | simp) _ _ _⟩
  · have HB : Hid (badB f = true) := neq_yes hbad
    have HBZ := Lib.hid hbad
    clear hbad
    obtain ⟨⟨k0, k1, k2⟩, g0, g1, g2⟩ := rf8.three
    obtain ⟨-, t8, t9, t10⟩ := HT8.out.row.tp
    go_wp2_with fail
    refine HBD.out.mono ?_
    rintro r w9 ⟨rfl, rfl⟩
    rw [HB.out]
    go_upto_region 7 with (fail)
    refine wp_region_held_drew (S := fun W => W = W) (by kernel_rfl) ?_ (fun hHeld => ?_)
    · (try dsimp only); (try rfl)
    refine wpAnyH_take (i := 0) (oi := { dst := some 45, op := _, type := _, pos := _, after := _, guard := _ }) (v := ?_) rfl (by kernel_rfl) (by kernel_rfl) (by kernel_rfl) (fun _ _ _ h => h) (Or.inl ⟨by kernel_rfl, ?_⟩) (by first | assumption | trivial) ?_
    rotate_left 1
    · intro w hSw; (try dsimp only at hSw); go_simp; (try with_reducible rfl)
    try simp only [Act.put, List.setIfInBounds_toArray, List.set_cons_zero, List.set_cons_succ]
    refine wpAnyH_take (i := 1) (oi := { dst := some 46, op := _, type := _, pos := _, after := _, guard := _ }) (v := ?_) rfl (by kernel_rfl) (by kernel_rfl) (by kernel_rfl) (fun _ _ _ h => h) (Or.inl ⟨by kernel_rfl, ?_⟩) (by first | assumption | trivial) ?_
    rotate_left 1
    · intro w hSw; (try dsimp only at hSw); go_simp; (try with_reducible rfl)
    try simp only [Act.put, List.setIfInBounds_toArray, List.set_cons_zero, List.set_cons_succ]
    refine wpAnyH_take (i := 2) (oi := { dst := some 47, op := _, type := _, pos := _, after := _, guard := _ }) (v := ?_) rfl (by kernel_rfl) (by kernel_rfl) (by kernel_rfl) (fun _ _ _ h => h) (Or.inl ⟨by kernel_rfl, ?_⟩) (by first | assumption | trivial) ?_
    rotate_left 1
    · intro w hSw; (try dsimp only at hSw); go_simp; (try with_reducible rfl)
    try simp only [Act.put, List.setIfInBounds_toArray, List.set_cons_zero, List.set_cons_succ]
    refine wpAnyH_take (i := 4) (oi := { dst := some 6, op := _, type := _, pos := _, after := _, guard := _ }) (v := ?_) rfl (by kernel_rfl) (by kernel_rfl) (by kernel_rfl) (fun _ _ _ h => h) (Or.inl ⟨by kernel_rfl, ?_⟩) (by first | assumption | trivial) ?_
    rotate_left 1
    · intro w hSw; (try dsimp only at hSw); go_simp; (try with_reducible rfl)
    try simp only [Act.put, List.setIfInBounds_toArray, List.set_cons_zero, List.set_cons_succ]
    refine wpAnyH_ready (rs := [3]) (by kernel_rfl) (by simp) ?_
    refine AllReadyH.cons (o := { dst := some 48, op := _, type := _, pos := _, after := _, guard := _ }) rfl (fun KK hKK => ?_) AllReadyH.nil
    go_simp
    refine hKK.out _ _ ?_ (fun hHeld => ?_)
    · (try dsimp only); (try rfl)
    clear hKK KK
    try simp only [Act.put, List.setIfInBounds_toArray, List.set_cons_zero, List.set_cons_succ]
    refine wpAnyH_ready (rs := [5]) (by kernel_rfl) (by simp) ?_
    refine AllReadyH.cons (o := { dst := none, op := _, type := _, pos := _, after := _, guard := _ }) rfl (fun KK hKK => ?_) AllReadyH.nil
    go_simp
    refine hKK.out _ _ ?_ (fun hHeld => ?_)
    · (try dsimp only); (try rfl)
    clear hKK KK
    try simp only [Act.put, List.setIfInBounds_toArray, List.set_cons_zero, List.set_cons_succ]
    refine wpAnyH_done (by kernel_rfl) ?_ _
    go_wp2_with fail
    exact bodyPost_ret (res2b (p := 7) (q := 6) rfl Try.underlying31 rfl (by kernel_rfl) rfl rfl (rf8.drew.set3 _ _ _)) rfl ⟨⟨0, f, rfl, fun g => absurd HYES.out g, fun _ => ⟨HFX.out.symm, fun g => absurd g HBZ.out, fun _ => rfl⟩⟩, below_set3 hB8.drew (by first | omega | (simp; omega) | simp) _ _ _⟩
end Go.Proofs.Ytolabbnchmmckaa
