/-
  The examples of calls hold: the contract of tompionlaw17.awake.
-/
import Derived.Test.YtabceednmgijoaaGreatAwC
import Derived.Test.YtabceednmgijoaaGreatEqR
namespace Go.Proofs.YtabceednmgijoaaGreat
open Go.RowKit Nm
theorem rowAt (W : World) (g : Nat) (hg : W.heap.size = g) (cs : Array Value) (t : TypeId) : Row (W.alloc (.cells cs t)) g cs t := hg ▸ Row.new W cs t
abbrev cVa : Array Value := #[.string ⟨#[97]⟩, .int .i64 1, .slice none 0 0, .int .i64 0, .int .i64 0]
abbrev cVb : Array Value := #[.string ⟨#[98]⟩, .int .i64 1, .slice none 0 0, .int .i64 0, .int .i64 0]
abbrev cQr (iS : Nat) (E : Ex) (A : Option Addr) (cap : Nat) : Array Value := #[.slice (some ⟨iS, 0, none⟩) 1 1, .int .i64 E.op, .string E.name, .int .i64 E.n, .slice A E.args.length cap, .int .i64 E.line, .int .i64 E.col, .int .i64 0, .int .i64 0]
theorem cn_mem {W : World} {iA iB iS iQ : Nat} {nm : ByteArray} {E : Ex} {A : Option Addr} {cap : Nat} (hn : nm.size ≤ 30) (ra : Row W iA cVa 49) (rb : Row W iB cVb 49) (rs : Row W iS #[.string bNm] 9) (rq : Row W iQ (cQr iS E A cap) 51)
    (ok : ExOk E) (h1 : E.args.length ≤ cap) (h2 : cap ≤ maxLen) (hx : IsExs W W.heap.size A E.args) : NdAt W W.heap.size (cN nm E) ⟨some ⟨iA, 0, none⟩, 1, some ⟨iB, 0, none⟩, 1, none, 0, some ⟨iQ, 0, none⟩, 1⟩ := by
  have sA : Vrs W W.heap.size (some ⟨iA, 0, none⟩) [cA] := sl_one (cs := [.string aNm, .int .i64 1, .slice none 0 0, .int .i64 0, .int .i64 0]) ra ra.lt ⟨none, 0, rfl, ⟨by simp [ByteArray.size, maxLen], wf_of (n := 1) (by omega), wf_of (n := 0) (by omega), wf_of (n := 0) (by omega)⟩, Nat.le_refl _, Nat.zero_le _, Sl.nil⟩
  have sB : Vrs W W.heap.size (some ⟨iB, 0, none⟩) [cB1] := sl_one (cs := [.string bNm, .int .i64 1, .slice none 0 0, .int .i64 0, .int .i64 0]) rb rb.lt ⟨none, 0, rfl, ⟨by simp [ByteArray.size, maxLen], wf_of (n := 1) (by omega), wf_of (n := 0) (by omega), wf_of (n := 0) (by omega)⟩, Nat.le_refl _, Nat.zero_le _, Sl.nil⟩
  have sS : Sl W W.heap.size 1 isStr (some ⟨iS, 0, none⟩) [bNm] := sl_one (cs := [.string bNm]) rs rs.lt ⟨rfl, by simp [ByteArray.size, maxLen]⟩
  have sQ : Eqs W W.heap.size (some ⟨iQ, 0, none⟩) [cQ E] := sl_one (cs := (cQr iS E A cap).toList) rq rq.lt ⟨some ⟨iS, 0, none⟩, 1, A, cap, rfl, ⟨ok, wf_of (n := 0) (by omega), wf_of (n := 0) (by omega)⟩, Nat.le_refl _, by unfold maxLen; decide, sS, h1, h2, hx⟩
  exact ⟨by show nm.size ≤ maxLen; unfold maxLen; omega, wf_of (n := 0) (by omega), wf_of (n := 0) (by omega), Nat.le_refl _, by show (1 : Nat) ≤ maxLen; unfold maxLen; decide, sA, Nat.le_refl _, by show (1 : Nat) ≤ maxLen; unfold maxLen; decide, sB, Nat.le_refl _, Nat.zero_le _, Sl.nil, Nat.le_refl _, by show (1 : Nat) ≤ maxLen; unfold maxLen; decide, sQ⟩
theorem vE_ok : ExOk vE := ⟨wf_of (n := 3) (by omega), by simp [Ex.name, ByteArray.size, maxLen], wf_of (n := 0) (by omega), wf_of (n := 0) (by omega), wf_of (n := 0) (by omega)⟩
theorem cE_ok (u : ByteArray) (hu : u.size ≤ 30) : ExOk (cE u) := ⟨wf_of (n := 4) (by omega), by simp [Ex.name, maxLen]; omega, wf_of (n := 0) (by omega), wf_of (n := 0) (by omega), wf_of (n := 0) (by omega)⟩
theorem vE_args {W : World} {B : Nat} : IsExs W B none vE.args := fun h => absurd h (by simp [Ex.args])
theorem cE_args {W : World} {g : Nat} {u : ByteArray} (r : Row W g #[.int .i64 3, .string ⟨#[97]⟩, .int .i64 0, .slice none 0 0, .int .i64 0, .int .i64 0] 45) : IsExs W W.heap.size (some ⟨g, 0, none⟩) (cE u).args := fun _ => by
  refine ⟨g, 0, rfl, r.lt, fun i x hi => ?_⟩
  match i, hi with
  | 0, hi =>
    have hi : vE = x := by simpa [Ex.args] using hi
    subst hi
    refine ⟨exCells vE none 0, fun j v hv => ?_, IsEx.mk' vE_ok (Nat.le_refl _) (Nat.zero_le _) vE_args⟩
    simp only [Nat.zero_mul, Nat.zero_add]
    exact (r.cell j).trans (by simpa [exCells, Ex.op, Ex.name, Ex.n, Ex.args, Ex.line, Ex.col] using hv)
set_option maxRecDepth 100000 in
set_option maxHeartbeats 1000000 in
theorem nodeV_any (nm : ByteArray) (w : World) (hn : nm.size ≤ 30) :
    Calls Tryz.prog 27 #[.string nm, .string ⟨#[]⟩] w fun r w' => (∃ a, r = .returned (ndV (cN nm vE) a) ∧ NdAt w' w'.heap.size (cN nm vE) a) ∧ Below w.heap.size w w' := by
  go_enter Tryz.func27, Tryz.ntmps27
  go_wp2_with fail
  generalize hW : World.alloc _ _ = W
  have hB : Below w.heap.size w W := by rw [← hW]; exact bE
  have r0 : Row W w.heap.size (ndArr (cN nm vE) ⟨some ⟨w.heap.size + 2, 0, none⟩, 1, some ⟨w.heap.size + 3, 0, none⟩, 1, none, 0, some ⟨w.heap.size + 5, 0, none⟩, 1⟩) 36 := by rw [← hW]; exact (((((rowAt _ w.heap.size (by simp) _ _).alloc _).alloc _).alloc _).alloc _).alloc _
  have ra : Row W (w.heap.size + 2) cVa 49 := by rw [← hW]; exact ((((rowAt _ (w.heap.size + 2) (by simp) _ _)).alloc _).alloc _).alloc _
  have rb : Row W (w.heap.size + 3) cVb 49 := by rw [← hW]; exact ((rowAt _ (w.heap.size + 3) (by simp) _ _).alloc _).alloc _
  have rs : Row W (w.heap.size + 4) #[.string bNm] 9 := by rw [← hW]; exact (rowAt _ (w.heap.size + 4) (by simp) _ _).alloc _
  have rq : Row W (w.heap.size + 5) (cQr (w.heap.size + 4) vE none 0) 51 := by rw [← hW]; exact rowAt _ (w.heap.size + 5) (by simp) _ _
  exact bodyPost_ret (res1 rfl Tryz.underlying36 rfl (by kernel_rfl) rfl r0) rfl ⟨⟨_, rfl, cn_mem hn ra rb rs rq vE_ok (Nat.le_refl _) (Nat.zero_le _) vE_args⟩, hB⟩
set_option maxRecDepth 100000 in
set_option maxHeartbeats 1000000 in
theorem nodeC_any (nm us : ByteArray) (w : World) (hn : nm.size ≤ 30) (hu : us.size ≤ 30) (e : us.toList.isEmpty = false) :
    Calls Tryz.prog 27 #[.string nm, .string us] w fun r w' => (∃ a, r = .returned (ndV (cN nm (cE us)) a) ∧ NdAt w' w'.heap.size (cN nm (cE us)) a) ∧ Below w.heap.size w w' := by
  go_enter Tryz.func27, Tryz.ntmps27
  go_wp2_with fail
  generalize hW : World.alloc _ _ = W
  have hB : Below w.heap.size w W := by rw [← hW]; exact bE
  have r0 : Row W w.heap.size (ndArr (cN nm (cE us)) ⟨some ⟨w.heap.size + 3, 0, none⟩, 1, some ⟨w.heap.size + 4, 0, none⟩, 1, none, 0, some ⟨w.heap.size + 6, 0, none⟩, 1⟩) 36 := by rw [← hW]; exact ((((((rowAt _ w.heap.size (by simp) _ _).alloc _).alloc _).alloc _).alloc _).alloc _).alloc _
  have rx : Row W (w.heap.size + 2) #[.int .i64 3, .string ⟨#[97]⟩, .int .i64 0, .slice none 0 0, .int .i64 0, .int .i64 0] 45 := by rw [← hW]; exact ((((rowAt _ (w.heap.size + 2) (by simp) _ _).alloc _).alloc _).alloc _).alloc _
  have ra : Row W (w.heap.size + 3) cVa 49 := by rw [← hW]; exact ((((rowAt _ (w.heap.size + 3) (by simp) _ _)).alloc _).alloc _).alloc _
  have rb : Row W (w.heap.size + 4) cVb 49 := by rw [← hW]; exact ((rowAt _ (w.heap.size + 4) (by simp) _ _).alloc _).alloc _
  have rs : Row W (w.heap.size + 5) #[.string bNm] 9 := by rw [← hW]; exact (rowAt _ (w.heap.size + 5) (by simp) _ _).alloc _
  have rq : Row W (w.heap.size + 6) (cQr (w.heap.size + 5) (cE us) (some ⟨w.heap.size + 2, 0, none⟩) 1) 51 := by rw [← hW]; exact rowAt _ (w.heap.size + 6) (by simp) _ _
  exact bodyPost_ret (res1 rfl Tryz.underlying36 rfl (by kernel_rfl) rfl r0) rfl ⟨⟨_, rfl, cn_mem hn ra rb rs rq (cE_ok us hu) (Nat.le_refl _) (by show (1 : Nat) ≤ maxLen; unfold maxLen; decide) (cE_args rx)⟩, hB⟩
/-- two nodes, in a block of their own -/
theorem nds_two {W : World} {g : Nat} {n m : Nd} {a b : NdA} (r : Row W g #[.string n.name, .slice a.ai n.ins.length a.ci, .slice a.ao n.outs.length a.co, .slice a.av n.vars.length a.cv, .slice a.aq n.eqs.length a.cq, .int .i64 n.line, .int .i64 n.col, .string m.name, .slice b.ai m.ins.length b.ci, .slice b.ao m.outs.length b.co, .slice b.av m.vars.length b.cv, .slice b.aq m.eqs.length b.cq, .int .i64 m.line, .int .i64 m.col] 36)
    (hn : NdAt W W.heap.size n a) (hm : NdAt W W.heap.size m b) : Nds W W.heap.size (some ⟨g, 0, none⟩) [n, m] := fun _ => by
  refine ⟨g, 0, rfl, r.lt, fun i x hi => ?_⟩
  match i, hi with
  | 0, hi =>
    simp at hi; subst hi
    refine ⟨ndCs n a, fun j v hv => ?_, a, rfl, hn⟩
    have hj : j < 7 := (List.getElem?_eq_some_iff.1 hv).1
    simp only [Nat.zero_mul, Nat.zero_add]
    refine (r.cell j).trans ?_
    have h7 : j = 0 ∨ j = 1 ∨ j = 2 ∨ j = 3 ∨ j = 4 ∨ j = 5 ∨ j = 6 := by omega
    rcases h7 with rfl | rfl | rfl | rfl | rfl | rfl | rfl <;> exact hv
  | 1, hi =>
    simp at hi; subst hi
    refine ⟨ndCs m b, fun j v hv => ?_, b, rfl, hm⟩
    have hj : j < 7 := (List.getElem?_eq_some_iff.1 hv).1
    simp only [Nat.one_mul, Nat.zero_add]
    refine (r.cell (7 + j)).trans ?_
    have h7 : j = 0 ∨ j = 1 ∨ j = 2 ∨ j = 3 ∨ j = 4 ∨ j = 5 ∨ j = 6 := by omega
    rcases h7 with rfl | rfl | rfl | rfl | rfl | rfl | rfl <;> exact hv
set_option maxRecDepth 100000 in
set_option maxHeartbeats 1000000 in
theorem awake17_any (w : World) : Calls Tryz.prog 10 #[] w fun r w' => r = .returned (.bool true) ∧ Below w.heap.size w w' := by
  go_enter Tryz.func10, Tryz.ntmps10
  go_wp2_with fail
  refine (nodeC_any mainNm gNm w (by decide) (by decide) (by decide +kernel)).mono ?_
  rintro r w1 ⟨⟨a1, rfl, hn1⟩, hb1⟩
  go_wp2_with fail
  refine (nodeV_any gNm w1 (by decide)).mono ?_
  rintro r w2 ⟨⟨a2, rfl, hn2⟩, hb2⟩
  have HG := Lib.hid good_calls
  have HR := Lib.hid ring_calls
  have HO := Lib.hid good_order
  have hb02 := hb1.trans (hb2.mono hb1.size)
  have hs02 := hb02.size
  obtain ⟨W3, hW3⟩ : ∃ W3, (w2.alloc (.cells #[.string mainNm, .slice a1.ai 1 a1.ci, .slice a1.ao 1 a1.co, .slice a1.av 0 a1.cv, .slice a1.aq 1 a1.cq, .int .i64 0, .int .i64 0, .string gNm, .slice a2.ai 1 a2.ci, .slice a2.ao 1 a2.co, .slice a2.av 0 a2.cv, .slice a2.aq 1 a2.cq, .int .i64 0, .int .i64 0] 36)).alloc (.cells #[.slice (some ⟨w2.heap.size, 0, none⟩) 2 2] 24) = W3 := ⟨_, rfl⟩
  have hb3 : Below w2.heap.size w2 W3 := by rw [← hW3]; exact bE
  have rs3 : Row W3 (w2.heap.size + 1) #[.slice (some ⟨w2.heap.size, 0, none⟩) 2 2] 24 := by rw [← hW3]; exact rowNew2 w2 _ _ _
  have rr3 : Row W3 w2.heap.size #[.string mainNm, .slice a1.ai 1 a1.ci, .slice a1.ao 1 a1.co, .slice a1.av 0 a1.cv, .slice a1.aq 1 a1.cq, .int .i64 0, .int .i64 0, .string gNm, .slice a2.ai 1 a2.ci, .slice a2.ao 1 a2.co, .slice a2.av 0 a2.cv, .slice a2.aq 1 a2.cq, .int .i64 0, .int .i64 0] 36 := by rw [← hW3]; exact (Row.new w2 _ _).alloc _
  have HN3 : Hid (Nds W3 W3.heap.size (some ⟨w2.heap.size, 0, none⟩) goodS) := nds_two (n := cN mainNm (cE gNm)) (m := cN gNm vE) rr3 (((hn1.below hb2).below (hb3.mono hb2.size)).more (Nat.le_trans hb2.size hb3.size)) ((hn2.below hb3).more hb3.size)
  have hB3 := hb02.trans (hb3.mono hs02)
  have hs3 := hB3.size
  go_upto_region 2 with (fail)
  try rw [hW3]
  clear hW3 rr3 hn1 hn2
  have c3 : W3.cell? ⟨w2.heap.size + 1, 0, none⟩ = some (.slice (some ⟨w2.heap.size, 0, none⟩) 2 2) := rs3.src
  have mx : (2 : Nat) ≤ maxLen := by unfold maxLen; decide
  have HC3 := Lib.hid (order_any goodS (some ⟨w2.heap.size, 0, none⟩) 2 W3 (sC_sm (.inr (.inl rfl)) (.inl rfl)) (Nat.le_refl _) mx HN3.out)
  go_wp2_with fail
  refine HC3.out.mono ?_
  rintro r w4 ⟨⟨v4, rfl, HV4⟩, hb4⟩
  have hg4 := HV4.out.1 (by rw [HG.out])
  rw [HO.out] at hg4
  rw [HG.out, cB_true (p := ft0.err = 0) rfl]
  have hB4 := hB3.trans (hb4.mono hs3)
  have hs4 := hB4.size
  obtain ⟨A4, c4, rfl, g1, g2, g3⟩ := hg4
  clear c3 HV4 HC3
  go_wp2_with fail
  refine (nodeC_any mainNm gNm w4 (by decide) (by decide) (by decide +kernel)).mono ?_
  rintro r w5 ⟨⟨a5, rfl, hn5⟩, hb5⟩
  go_wp2_with fail
  refine (nodeC_any gNm mainNm w5 (by decide) (by decide) (by decide +kernel)).mono ?_
  rintro r w6 ⟨⟨a6, rfl, hn6⟩, hb6⟩
  have hb46 := hb5.trans (hb6.mono hb5.size)
  have hs46 := hb46.size
  have hB6 := hB4.trans (hb46.mono hs4)
  have hs6 := hB6.size
  obtain ⟨W7, hW7⟩ : ∃ W7, (w6.alloc (.cells #[.string mainNm, .slice a5.ai 1 a5.ci, .slice a5.ao 1 a5.co, .slice a5.av 0 a5.cv, .slice a5.aq 1 a5.cq, .int .i64 0, .int .i64 0, .string gNm, .slice a6.ai 1 a6.ci, .slice a6.ao 1 a6.co, .slice a6.av 0 a6.cv, .slice a6.aq 1 a6.cq, .int .i64 0, .int .i64 0] 36)).alloc (.cells #[.slice (some ⟨w6.heap.size, 0, none⟩) 2 2] 24) = W7 := ⟨_, rfl⟩
  have hb7 : Below w6.heap.size w6 W7 := by rw [← hW7]; exact bE
  have rs7 : Row W7 (w6.heap.size + 1) #[.slice (some ⟨w6.heap.size, 0, none⟩) 2 2] 24 := by rw [← hW7]; exact rowNew2 w6 _ _ _
  have rr7 : Row W7 w6.heap.size #[.string mainNm, .slice a5.ai 1 a5.ci, .slice a5.ao 1 a5.co, .slice a5.av 0 a5.cv, .slice a5.aq 1 a5.cq, .int .i64 0, .int .i64 0, .string gNm, .slice a6.ai 1 a6.ci, .slice a6.ao 1 a6.co, .slice a6.av 0 a6.cv, .slice a6.aq 1 a6.cq, .int .i64 0, .int .i64 0] 36 := by rw [← hW7]; exact (Row.new w6 _ _).alloc _
  have HN7 : Hid (∀ W, Below W7.heap.size W7 W → Nds W W.heap.size (some ⟨w6.heap.size, 0, none⟩) ringS) := fun W hW => nds_keep (nds_two (n := cN mainNm (cE gNm)) (m := cN gNm (cE mainNm)) rr7 (((hn5.below hb6).below (hb7.mono hb6.size)).more (Nat.le_trans hb6.size hb7.size)) ((hn6.below hb7).more hb7.size)) (keeps_of hW) hW.size
  have hB7 := hB6.trans (hb7.mono hs6)
  have hs7 := hB7.size
  have HS4 : Hid (∀ W, Below W7.heap.size W7 W → Sl W W.heap.size 1 isStr A4 [gNm, mainNm]) := fun W hW => ((g3.below (hb46.trans ((hb7.trans (hW.mono hb7.size)).mono hs46))).more (Nat.le_trans (Nat.le_trans hs46 hb7.size) hW.size))
  go_upto_region 4 with (fail)
  try rw [hW7]
  clear hW7 rr7 hn5 hn6 g3
  have c7 : W7.cell? ⟨w6.heap.size + 1, 0, none⟩ = some (.slice (some ⟨w6.heap.size, 0, none⟩) 2 2) := rs7.src
  have HT : Hid (∀ W, Below W7.heap.size W7 W → Calls Tryz.prog 11 #[.slice A4 2 c4, .slice (some ⟨W.heap.size, 0, none⟩) 2 2] (W.alloc (.cells #[.string gNm, .string mainNm] 9)) fun r w' => r = .returned (.bool true) ∧ ∃ n, w' = (W.alloc (.cells #[.string gNm, .string mainNm] 9)).drewN n) := fun W hW => by
    have r := Row.new W #[.string gNm, .string mainNm] 9
    refine texts_self [gNm, mainNm] 2 A4 (some ⟨W.heap.size, 0, none⟩) c4 2 _ rfl g1 g2 (HS4.out _ (hW.alloc hW.size _)) (Nat.le_refl _) mx (fun _ => ⟨W.heap.size, 0, rfl, r.lt, fun i x hi => ⟨[.string x], fun j v hv => ?_, rfl, ?_⟩⟩)
    · have hj : j = 0 := by have := (List.getElem?_eq_some_iff.1 hv).1; simp at this; omega
      subst hj
      simp at hv; subst hv
      match i, hi with
      | 0, hi => simp at hi; subst hi; exact r.cell 0
      | 1, hi => simp at hi; subst hi; exact r.cell 1
    · have := List.mem_of_getElem? hi
      simp at this
      rcases this with rfl | rfl <;> simp [ByteArray.size, maxLen]
  have fe := field_flt ⟨29, 0, 0⟩
  have HC7 : Hid (∀ W, Below W7.heap.size W7 W → Calls Tryz.prog 14 #[srcV ringS (some ⟨w6.heap.size, 0, none⟩) 2] W fun r w' => r = .returned (ftV ⟨29, 0, 0⟩) ∧ Below W.heap.size W w') := fun W hW => by
    have h := check_calls ringS (some ⟨w6.heap.size, 0, none⟩) 2 W (sC_sm (.inr (.inl rfl)) (.inr (.inr rfl))) (Nat.le_refl _) mx (HN7.out W hW)
    rwa [HR.out] at h
  go_wp2_with fail
  refine (HT.out W7 (Below.refl _ _)).mono ?_
  rintro r w8 ⟨rfl, nn, rfl⟩
  have hb8 : Below W7.heap.size W7 ((W7.alloc (.cells #[.string gNm, .string mainNm] 9)).drewN nn) := bE
  have c8 : ((W7.alloc (.cells #[.string gNm, .string mainNm] 9)).drewN nn).cell? ⟨w6.heap.size + 1, 0, none⟩ = some (.slice (some ⟨w6.heap.size, 0, none⟩) 2 2) := old_cell hb8 c7
  go_wp2_with fail
  refine (HC7.out _ hb8).mono ?_
  rintro r w9 ⟨rfl, hb9⟩
  have hB9 := (hB7.trans (hb8.mono hs7)).trans (hb9.mono (Nat.le_trans hs7 hb8.size))
  go_wp2_with fail
  go_ret
  exact ⟨by first | rfl | simp, hB9⟩
end Go.Proofs.YtabceednmgijoaaGreat
