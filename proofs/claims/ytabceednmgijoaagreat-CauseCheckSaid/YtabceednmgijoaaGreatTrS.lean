/-
  Which variables, equations, nodes and sources are right: the contracts of package tree.
-/
import Derived.Test.YtabceednmgijoaaGreatScP
import Derived.Test.YtabceednmgijoaaGreatFewM
import Derived.Test.YtabceednmgijoaaGreatTreeRight
namespace Go.Proofs.YtabceednmgijoaaGreat
open Go.RowKit Nm
theorem bool_no {b : Bool} (h : ¬ b = true) : b = false := by simpa using h
theorem dec_yes {p : Prop} [Decidable p] (h : p) : decide p = true := decide_eq_true h
theorem dec_no {p : Prop} [Decidable p] (h : ¬ p) : decide p = false := decide_eq_false h
theorem eq_yes {a b : Int} (h : a = b) : (a == b) = true := by rw [beq_iff_eq]; exact h
theorem eq_no {a b : Int} (h : a ≠ b) : (a == b) = false := by rw [beq_eq_false_iff_ne]; exact h
theorem neq_no {a b : Int} (h : a = b) : (a != b) = false := by simp [h]
theorem neq_yes {a b : Int} (h : a ≠ b) : (a != b) = true := by simp [h]
abbrev eqV (q : Eqn) (A1 : Option Addr) (c1 : Nat) (A2 : Option Addr) (c2 : Nat) : Value := .agg (eqArr q A1 c1 A2 c2)
set_option maxRecDepth 100000 in
set_option maxHeartbeats 2000000 in
theorem variable_any (x : Vr) (A : Option Addr) (cap : Nat) (w : World) (ok : VrOk x) (h1 : x.clock.length ≤ cap) (h2 : cap ≤ maxLen) (h : Sl w w.heap.size 2 isLit A x.clock) :
    Calls Tryz.prog 104 #[vrV x A cap] w fun e w' => e = .returned (.bool (cB (VrRt x))) ∧ Below w.heap.size w w' := by
  have r1 := Row.new w (vrArr x A cap) 49
  have b1 : Below w.heap.size w (w.alloc (.cells (vrArr x A cap) 49)) := (Below.refl _ _).alloc (Nat.le_refl _) _
  have HS := Lib.hid (lits_keep h (keeps_of b1) (Nat.le_refl _))
  have g3 : cap ≤ 9223372036854775807 := by unfold maxLen at h2; omega
  have hnm := ok.name
  clear h ok
  go_enter Tryz.func104, Tryz.ntmps104
  go_upto_region 1 with (fail)
  generalize w.alloc (.cells (vrArr x A cap) 49) = W1 at *
  have hs1 := b1.size
  have l1 := r1.lt
  obtain ⟨c0, c1, c2, c3, c4⟩ := r1.vr
  go_wp2_with fail
  go_loopw [8] (fun i wr => ∃ k : Nat, k ≤ x.clock.length ∧ i = .int .i64 k ∧ Hid (∀ j, j < k → ∀ c, x.clock[j]? = some c → nameB c.name.toList = true) ∧ Below W1.heap.size W1 wr) (fun i _ => x.clock.length - (intOf i).toNat)
  case atStart => exact ⟨0, Nat.zero_le _, rfl, fun j h => absurd h (by omega), Below.refl _ _⟩
  case round =>
    obtain ⟨k, hk, rfl, HN, hbr⟩ := hrel
    have hszr := hbr.size
    have hB := b1.trans (hbr.mono hs1)
    have rr := r1.below hbr l1
    clear c0 c1 c2 c3 c4
    by_cases hlt : k < x.clock.length
    · obtain ⟨b, off, y, rfl, hb, hy, ys, d0, d1⟩ := (lits_keep HS.out (keeps_of (hbr.mono hs1)) (Nat.le_refl _)).lit hlt
      have HY := Lib.hid hy
      clear hy
      have ba : Below W1.heap.size W1 (wr.alloc (.cells #[.string y.name, .bool y.no] 81)) := hbr.alloc hszr _
      go_wp2_with fail
      refine (name_any y.name _ ys).mono ?_
      rintro e w2 ⟨rfl, hb2⟩
      have b2 := ba.trans (hb2.mono (by simp; omega))
      by_cases hP : nameB y.name.toList = true
      · have HN' := Lib.hid (step_upto (P := fun c : Lt => nameB c.name.toList = true) HN.out HY.out hP)
        rw [hP]
        clear hP
        go_wp2_with fail
        go_roundw
        case rel => exact ⟨k + 1, by omega, by go_num, HN', b2⟩
        case measure => simp [intOf]; omega
      · have HF : Hid (cB (VrRt x) = false) := cB_false (fun g => hP (g.1 y (List.mem_of_getElem? HY.out)))
        rw [bool_no hP]
        clear hP
        go_wp2_with fail
        go_ret
        exact ⟨ret_bool HF.out.symm, b1.trans (b2.mono hs1)⟩
    · obtain rfl : k = x.clock.length := by omega
      have HA : Hid (∀ c ∈ x.clock, nameB c.name.toList = true) := mem_upto HN.out
      obtain ⟨d0, d1, d2, d3, d4⟩ := rr.vr
      go_wp2_with fail
      refine (name_any x.name _ hnm).mono ?_
      rintro e w2 ⟨rfl, hb2⟩
      have r2 := rr.below hb2 rr.lt
      have b2 := hB.trans (hb2.mono (by omega))
      clear d0 d1 d2 d3 d4
      obtain ⟨d0, d1, d2, d3, d4⟩ := r2.vr
      by_cases hP : nameB x.name.toList = true
      rotate_left 1
      · have HF : Hid (cB (VrRt x) = false) := cB_false (fun g => hP g.2.1)
        rw [bool_no hP]
        clear hP
        go_wp2_with fail
        go_ret
        exact ⟨ret_bool HF.out.symm, b2⟩
      have HP := Lib.hid hP
      rw [hP]
      clear hP
      by_cases t : x.ty = 1 ∨ x.ty = 2
      rotate_left 1
      · have HF : Hid (cB (VrRt x) = false) := cB_false (fun g => t g.2.2.1)
        have e1 : (x.ty == 1) = false := eq_no (fun g => t (.inl g))
        have e2 : (x.ty == 2) = false := eq_no (fun g => t (.inr g))
        clear t
        go_wp2_with fail
        go_ret
        exact ⟨ret_bool HF.out.symm, b2⟩
      have HT := Lib.hid t
      have e12 : (x.ty == 1) = true ∨ ((x.ty == 1) = false ∧ (x.ty == 2) = true) := by
        by_cases e : x.ty = 1
        · exact .inl (eq_yes e)
        · exact .inr ⟨eq_no e, eq_yes (t.resolve_left e)⟩
      clear t
      by_cases hl : x.clock.length ≤ 4
      · have HF : Hid (cB (VrRt x) = true) := cB_true ⟨HA.out, HP.out, HT.out, hl⟩
        have e3 : decide ((x.clock.length : Int) ≤ 4) = true := dec_yes (by omega)
        rcases e12 with e1 | ⟨e1, e2⟩
        all_goals
          go_wp2_with fail
          go_ret
          exact ⟨ret_bool HF.out.symm, b2⟩
      · have HF : Hid (cB (VrRt x) = false) := cB_false (fun g => hl g.2.2.2)
        have e3 : decide ((x.clock.length : Int) ≤ 4) = false := dec_no (by omega)
        rcases e12 with e1 | ⟨e1, e2⟩
        all_goals
          go_wp2_with fail
          go_ret
          exact ⟨ret_bool HF.out.symm, b2⟩
set_option maxRecDepth 100000 in
set_option maxHeartbeats 2000000 in
theorem many_any (l : List Vr) (A : Option Addr) (cap : Nat) (lo hi : Int) (w : World) (h1 : l.length ≤ cap) (h2 : cap ≤ maxLen) (h : Vrs w w.heap.size A l) :
    Calls Tryz.prog 84 #[.slice A l.length cap, .int .i64 lo, .int .i64 hi] w fun e w' => e = .returned (.bool (cB (VrsRt l lo hi))) ∧ Below w.heap.size w w' := by
  have HS := Lib.hid h
  have g3 : cap ≤ 9223372036854775807 := by unfold maxLen at h2; omega
  clear h
  go_enter Tryz.func84, Tryz.ntmps84
  go_wp2_with fail
  go_loopw [11] (fun i wr => ∃ k : Nat, k ≤ l.length ∧ i = .int .i64 k ∧ Hid (∀ j, j < k → ∀ v, l[j]? = some v → VrRt v) ∧ Below w.heap.size w wr) (fun i _ => l.length - (intOf i).toNat)
  case atStart => exact ⟨0, Nat.zero_le _, rfl, fun j h => absurd h (by omega), Below.refl _ _⟩
  case round =>
    obtain ⟨k, hk, rfl, HN, hbr⟩ := hrel
    have hszr := hbr.size
    by_cases hlt : k < l.length
    · obtain ⟨b, off, x, A', cap', rfl, hb, hx, ok, g1, g2, hsl, c0, c1, c2, c3, c4⟩ := (vrs_keep HS.out (keeps_of hbr) (Nat.le_refl _)).vr hlt
      have HX := Lib.hid hx
      have HSL := Lib.hid hsl
      have ba : Below wr.heap.size wr (wr.alloc (.cells (vrArr x A' cap') 49)) := (Below.refl _ _).alloc (Nat.le_refl _) _
      clear hx hsl
      go_wp2_with fail
      refine (variable_any x A' cap' _ ok g1 g2 (lits_keep HSL.out (keeps_of (ba.mono hszr)) (by simp; omega))).mono ?_
      rintro e w2 ⟨rfl, hb2⟩
      have b2 := (hbr.trans (ba.mono hszr)).trans (hb2.mono (by simp; omega))
      by_cases hP : VrRt x
      · have HN' := Lib.hid (step_upto (P := VrRt) HN.out HX.out hP)
        rw [cB_true hP]
        clear hP
        go_wp2_with fail
        go_roundw
        case rel => exact ⟨k + 1, by omega, by go_num, HN', b2⟩
        case measure => simp [intOf]; omega
      · have HF : Hid (cB (VrsRt l lo hi) = false) := cB_false (fun g => hP (g.1 x (List.mem_of_getElem? HX.out)))
        rw [cB_false hP]
        clear hP
        go_wp2_with fail
        go_ret
        exact ⟨ret_bool HF.out.symm, b2⟩
    · obtain rfl : k = l.length := by omega
      have HA : Hid (∀ v ∈ l, VrRt v) := mem_upto HN.out
      by_cases e1 : lo ≤ l.length
      · have e1' : decide (lo ≤ (l.length : Int)) = true := dec_yes e1
        by_cases e2 : (l.length : Int) ≤ hi
        · have e2' : decide ((l.length : Int) ≤ hi) = true := dec_yes e2
          have HF : Hid (cB (VrsRt l lo hi) = true) := cB_true ⟨HA.out, e1, e2⟩
          clear e1 e2
          go_wp2_with fail
          go_ret
          exact ⟨ret_bool HF.out.symm, hbr⟩
        · have e2' : decide ((l.length : Int) ≤ hi) = false := dec_no e2
          have HF : Hid (cB (VrsRt l lo hi) = false) := cB_false (fun g => e2 g.2.2)
          clear e1 e2
          go_wp2_with fail
          go_ret
          exact ⟨ret_bool HF.out.symm, hbr⟩
      · have e1' : decide (lo ≤ (l.length : Int)) = false := dec_no e1
        have HF : Hid (cB (VrsRt l lo hi) = false) := cB_false (fun g => e1 g.2.1)
        clear e1
        go_wp2_with fail
        go_ret
        exact ⟨ret_bool HF.out.symm, hbr⟩
set_option maxRecDepth 100000 in
set_option maxHeartbeats 2000000 in
theorem equation_any (q : Eqn) (A1 : Option Addr) (k1 : Nat) (A2 : Option Addr) (k2 : Nat) (w : World) (ok : EqnOk q) (sm : Small q.right) (h1 : q.left.length ≤ k1) (m1 : k1 ≤ maxLen) (s1 : Sl w w.heap.size 1 isStr A1 q.left) (h2 : q.right.args.length ≤ k2) (m2 : k2 ≤ maxLen) (s2 : IsExs w w.heap.size A2 q.right.args) :
    Calls Tryz.prog 82 #[eqV q A1 k1 A2 k2] w fun e w' => e = .returned (.bool (cB (EqnRt q))) ∧ Below w.heap.size w w' := by
  have r1 := Row.new w (eqArr q A1 k1 A2 k2) 51
  have b1 : Below w.heap.size w (w.alloc (.cells (eqArr q A1 k1 A2 k2) 51)) := (Below.refl _ _).alloc (Nat.le_refl _) _
  have HS := Lib.hid (strs_keep s1 (keeps_of b1) (Nat.le_refl _))
  have HE := Lib.hid (exs_keep s2 (keeps_of b1) (Nat.le_refl _))
  have HSM := Lib.hid sm
  have HOK := Lib.hid ok
  have g3 : k1 ≤ 9223372036854775807 := by unfold maxLen at m1; omega
  clear s1 s2 sm ok
  go_enter Tryz.func82, Tryz.ntmps82
  go_upto_region 1 with (fail)
  generalize w.alloc (.cells (eqArr q A1 k1 A2 k2) 51) = W1 at *
  have hs1 := b1.size
  have l1 := r1.lt
  obtain ⟨c0, c1, c2, c3, c4, c5, c6, c7, c8⟩ := r1.eqn
  go_wp2_with fail
  go_loopw [8] (fun i wr => ∃ k : Nat, k ≤ q.left.length ∧ i = .int .i64 k ∧ Hid (∀ j, j < k → ∀ c, q.left[j]? = some c → nameB c.toList = true) ∧ Below W1.heap.size W1 wr) (fun i _ => q.left.length - (intOf i).toNat)
  case atStart => exact ⟨0, Nat.zero_le _, rfl, fun j h => absurd h (by omega), Below.refl _ _⟩
  case round =>
    obtain ⟨k, hk, rfl, HN, hbr⟩ := hrel
    have hszr := hbr.size
    have hB := b1.trans (hbr.mono hs1)
    have rr := r1.below hbr l1
    clear c0 c1 c2 c3 c4 c5 c6 c7 c8
    by_cases hlt : k < q.left.length
    · obtain ⟨b, off, y, rfl, hb, hy, ys, d0⟩ := (strs_keep HS.out (keeps_of (hbr.mono hs1)) (Nat.le_refl _)).str hlt
      have HY := Lib.hid hy
      clear hy
      go_wp2_with fail
      refine (name_any y _ ys).mono ?_
      rintro e w2 ⟨rfl, hb2⟩
      have b2 := hbr.trans (hb2.mono hszr)
      by_cases hP : nameB y.toList = true
      · have HN' := Lib.hid (step_upto (P := fun c : ByteArray => nameB c.toList = true) HN.out HY.out hP)
        rw [hP]
        clear hP
        go_wp2_with fail
        go_roundw
        case rel => exact ⟨k + 1, by omega, by go_num, HN', b2⟩
        case measure => simp [intOf]; omega
      · have HF : Hid (cB (EqnRt q) = false) := cB_false (fun g => hP (g.1 y (List.mem_of_getElem? HY.out)))
        rw [bool_no hP]
        clear hP
        go_wp2_with fail
        go_ret
        exact ⟨ret_bool HF.out.symm, b1.trans (b2.mono hs1)⟩
    · obtain rfl : k = q.left.length := by omega
      have HA : Hid (∀ c ∈ q.left, nameB c.toList = true) := mem_upto HN.out
      obtain ⟨d0, d1, d2, d3, d4, d5, d6, d7, d8⟩ := rr.eqn
      by_cases e1 : 1 ≤ q.left.length
      rotate_left 1
      · have e1' : decide ((1 : Int) ≤ (q.left.length : Int)) = false := dec_no (by omega)
        have HF : Hid (cB (EqnRt q) = false) := cB_false (fun g => e1 g.2.1)
        clear e1
        go_wp2_with fail
        go_ret
        exact ⟨ret_bool HF.out.symm, hB⟩
      have e1' : decide ((1 : Int) ≤ (q.left.length : Int)) = true := dec_yes (by omega)
      by_cases e2 : q.left.length ≤ 8
      rotate_left 1
      · have e2' : decide ((q.left.length : Int) ≤ 8) = false := dec_no (by omega)
        have HF : Hid (cB (EqnRt q) = false) := cB_false (fun g => e2 g.2.2.1)
        clear e2
        go_wp2_with fail
        go_ret
        exact ⟨ret_bool HF.out.symm, hB⟩
      have e2' : decide ((q.left.length : Int) ≤ 8) = true := dec_yes (by omega)
      go_wp2_with fail
      refine (right_any q.right A2 k2 _ HOK.out.right h2 m2 (exs_keep HE.out (keeps_of (hbr.mono hs1)) (by omega)) (by have := HSM.out.size; omega)).mono ?_
      rintro e w2 ⟨rfl, hb2⟩
      have b2 := hB.trans (hb2.mono (by omega))
      by_cases hP : exRight q.right = true
      · have HF : Hid (cB (EqnRt q) = true) := cB_true ⟨HA.out, e1, e2, hP⟩
        rw [hP]
        clear hP
        go_wp2_with fail
        go_ret
        exact ⟨ret_bool HF.out.symm, b2⟩
      · have HF : Hid (cB (EqnRt q) = false) := cB_false (fun g => hP g.2.2.2)
        rw [bool_no hP]
        clear hP
        go_wp2_with fail
        go_ret
        exact ⟨ret_bool HF.out.symm, b2⟩
set_option maxRecDepth 100000 in
set_option maxHeartbeats 4000000 in
theorem node_any (n : Nd) (a : NdA) (w : World) (sm : NdSm n) (h : NdAt w w.heap.size n a) :
    Calls Tryz.prog 68 #[ndV n a] w fun e w' => e = .returned (.bool (cB (NdRt n))) ∧ Below w.heap.size w w' := by
  have r1 := Row.new w (ndArr n a) 36
  have b1 : Below w.heap.size w (w.alloc (.cells (ndArr n a) 36)) := (Below.refl _ _).alloc (Nat.le_refl _) _
  have H := Lib.hid (h.below b1)
  have HSM := Lib.hid sm
  have hq2 := h.mq
  have hq1 := h.lq
  have hnm := h.name
  have g3 : a.cq ≤ 9223372036854775807 := by unfold maxLen at hq2; omega
  clear h sm
  go_enter Tryz.func68, Tryz.ntmps68
  go_upto_region 1 with (fail)
  generalize w.alloc (.cells (ndArr n a) 36) = W1 at *
  have hs1 := b1.size
  have l1 := r1.lt
  obtain ⟨c0, c1, c2, c3, c4, c5, c6⟩ := r1.nd
  go_wp2_with fail
  go_loopw [8] (fun i wr => ∃ k : Nat, k ≤ n.eqs.length ∧ i = .int .i64 k ∧ Hid (∀ j, j < k → ∀ c, n.eqs[j]? = some c → EqnRt c) ∧ Below W1.heap.size W1 wr) (fun i _ => n.eqs.length - (intOf i).toNat)
  case atStart => exact ⟨0, Nat.zero_le _, rfl, fun j h => absurd h (by omega), Below.refl _ _⟩
  case round =>
    obtain ⟨k, hk, rfl, HN, hbr⟩ := hrel
    have hszr := hbr.size
    have hB := b1.trans (hbr.mono hs1)
    have rr := r1.below hbr l1
    clear c0 c1 c2 c3 c4 c5 c6
    by_cases hlt : k < n.eqs.length
    · obtain ⟨b, off, q, A1, k1, A2, k2, haq, hb, hq, ok, lq1, mq1, sl1, lq2, mq2, sl2, d0, d1, d2, d3, d4, d5, d6, d7, d8⟩ := (eqs_keep H.out.sq (keeps_of (hbr.mono hs1)) (Nat.le_refl _)).eqn hlt
      have HX := Lib.hid hq
      have HO := Lib.hid ok
      have HS1 := Lib.hid sl1
      have HS2 := Lib.hid sl2
      have hsmq := Lib.hid (HSM.out.eq q (List.mem_of_getElem? hq)).right
      have HAQ := Lib.hid haq
      rw [haq]
      clear hq ok sl1 sl2 haq
      have ba : Below wr.heap.size wr (wr.alloc (.cells (eqArr q A1 k1 A2 k2) 51)) := (Below.refl _ _).alloc (Nat.le_refl _) _
      go_wp2_with fail
      refine (equation_any q A1 k1 A2 k2 _ HO.out hsmq.out lq1 mq1 (strs_keep HS1.out (keeps_of (ba.mono (by omega))) (by simp; omega)) lq2 mq2 (exs_keep HS2.out (keeps_of (ba.mono (by omega))) (by simp; omega))).mono ?_
      rintro e w2 ⟨rfl, hb2⟩
      have b2 := (hbr.trans (ba.mono hszr)).trans (hb2.mono (by simp; omega))
      by_cases hP : EqnRt q
      · have HN' := Lib.hid (step_upto (P := EqnRt) HN.out HX.out hP)
        rw [cB_true hP]
        clear hP
        go_wp2_with fail
        go_roundw
        case rel => exact ⟨k + 1, by omega, by go_num, HN', b2⟩
        case measure => simp [intOf]; omega
      · have HF : Hid (cB (NdRt n) = false) := cB_false (fun g => hP (g.1 q (List.mem_of_getElem? HX.out)))
        rw [cB_false hP]
        clear hP
        go_wp2_with fail
        go_ret
        exact ⟨ret_bool HF.out.symm, b1.trans (b2.mono hs1)⟩
    · obtain rfl : k = n.eqs.length := by omega
      have HA : Hid (∀ q ∈ n.eqs, EqnRt q) := mem_upto HN.out
      obtain ⟨d0, d1, d2, d3, d4, d5, d6⟩ := rr.nd
      go_wp2_with fail
      refine (name_any n.name _ hnm).mono ?_
      rintro e w2 ⟨rfl, hb2⟩
      have r2 := rr.below hb2 rr.lt
      have b2 := hB.trans (hb2.mono (by omega))
      have hs2 := b2.size
      clear d0 d1 d2 d3 d4 d5 d6
      obtain ⟨d0, d1, d2, d3, d4, d5, d6⟩ := r2.nd
      by_cases hP : nameB n.name.toList = true
      rotate_left 1
      · have HF : Hid (cB (NdRt n) = false) := cB_false (fun g => hP g.2.1)
        rw [bool_no hP]
        clear hP
        go_wp2_with fail
        go_ret
        exact ⟨ret_bool HF.out.symm, b2⟩
      have HP := Lib.hid hP
      rw [hP]
      clear hP
      by_cases e1 : n.eqs.length < 1
      · have e1' : decide ((n.eqs.length : Int) < 1) = true := dec_yes (by omega)
        have HF : Hid (cB (NdRt n) = false) := cB_false (fun g => by have := g.2.2.1; omega)
        go_wp2_with fail
        go_ret
        exact ⟨ret_bool HF.out.symm, b2⟩
      have e1' : decide ((n.eqs.length : Int) < 1) = false := dec_no (by omega)
      by_cases e2 : 48 < n.eqs.length
      · have e2' : decide ((48 : Int) < (n.eqs.length : Int)) = true := dec_yes (by omega)
        have HF : Hid (cB (NdRt n) = false) := cB_false (fun g => by have := g.2.2.2.1; omega)
        go_wp2_with fail
        go_ret
        exact ⟨ret_bool HF.out.symm, b2⟩
      have e2' : decide ((48 : Int) < (n.eqs.length : Int)) = false := dec_no (by omega)
      go_wp2_with fail
      refine (many_any n.ins a.ai a.ci 1 8 w2 H.out.li H.out.mi (vrs_keep H.out.si (keeps_of ((hbr.mono hs1).trans (hb2.mono (by omega)))) hs2)).mono ?_
      rintro e w3 ⟨rfl, hb3⟩
      have r3 := r2.below hb3 r2.lt
      have b3 := b2.trans (hb3.mono hs2)
      have hs3 := b3.size
      clear d0 d1 d2 d3 d4 d5 d6
      obtain ⟨d0, d1, d2, d3, d4, d5, d6⟩ := r3.nd
      by_cases h1 : VrsRt n.ins 1 8
      rotate_left 1
      · have HF : Hid (cB (NdRt n) = false) := cB_false (fun g => h1 g.2.2.2.2.1)
        rw [cB_false h1]
        clear h1
        go_wp2_with fail
        go_ret
        exact ⟨ret_bool HF.out.symm, b3⟩
      have H1 := Lib.hid h1
      rw [cB_true h1]
      clear h1
      go_wp2_with fail
      refine (many_any n.outs a.ao a.co 1 8 w3 H.out.lo H.out.mo (vrs_keep H.out.so (keeps_of (((hbr.mono hs1).trans (hb2.mono (by omega))).trans (hb3.mono hs2))) hs3)).mono ?_
      rintro e w4 ⟨rfl, hb4⟩
      have r4 := r3.below hb4 r3.lt
      have b4 := b3.trans (hb4.mono hs3)
      have hs4 := b4.size
      clear d0 d1 d2 d3 d4 d5 d6
      obtain ⟨d0, d1, d2, d3, d4, d5, d6⟩ := r4.nd
      by_cases h1 : VrsRt n.outs 1 8
      rotate_left 1
      · have HF : Hid (cB (NdRt n) = false) := cB_false (fun g => h1 g.2.2.2.2.2.1)
        rw [cB_false h1]
        clear h1
        go_wp2_with fail
        go_ret
        exact ⟨ret_bool HF.out.symm, b4⟩
      have H2 := Lib.hid h1
      rw [cB_true h1]
      clear h1
      go_wp2_with fail
      refine (many_any n.vars a.av a.cv 0 40 w4 H.out.lv H.out.mv (vrs_keep H.out.sv (keeps_of ((((hbr.mono hs1).trans (hb2.mono (by omega))).trans (hb3.mono hs2)).trans (hb4.mono hs3))) hs4)).mono ?_
      rintro e w5 ⟨rfl, hb5⟩
      have b5 := b4.trans (hb5.mono hs4)
      by_cases h1 : VrsRt n.vars 0 40
      · have HF : Hid (cB (NdRt n) = true) := cB_true ⟨HA.out, HP.out, by omega, by omega, H1.out, H2.out, h1⟩
        rw [cB_true h1]
        clear h1
        go_wp2_with fail
        go_ret
        exact ⟨ret_bool HF.out.symm, b5⟩
      · have HF : Hid (cB (NdRt n) = false) := cB_false (fun g => h1 g.2.2.2.2.2.2)
        rw [cB_false h1]
        clear h1
        go_wp2_with fail
        go_ret
        exact ⟨ret_bool HF.out.symm, b5⟩
theorem Row.src {W : World} {b : Nat} {x0 : Value} {t : TypeId} (h : Row W b #[x0] t) : W.cell? ⟨b, 0, none⟩ = some x0 := (h.cell 0).trans rfl
set_option maxRecDepth 100000 in
set_option maxHeartbeats 2000000 in
theorem source_any (s : List Nd) (A : Option Addr) (cap : Nat) (w : World) (sm : SrcSm s) (h1 : s.length ≤ cap) (h2 : cap ≤ maxLen) (h : Nds w w.heap.size A s) :
    Calls Tryz.prog 42 #[srcV s A cap] w fun e w' => e = .returned (.bool (cB (SrcRt s))) ∧ Below w.heap.size w w' := by
  have r1 := Row.new w #[.slice A s.length cap] 24
  have b1 : Below w.heap.size w (w.alloc (.cells #[.slice A s.length cap] 24)) := (Below.refl _ _).alloc (Nat.le_refl _) _
  have HS := Lib.hid (nds_keep h (keeps_of b1) (Nat.le_refl _))
  have HSM := Lib.hid sm
  have g3 : cap ≤ 9223372036854775807 := by unfold maxLen at h2; omega
  clear h sm
  go_enter Tryz.func42, Tryz.ntmps42
  go_upto_region 1 with (fail)
  generalize w.alloc (.cells #[.slice A s.length cap] 24) = W1 at *
  have hs1 := b1.size
  have l1 := r1.lt
  have c0 := r1.src
  go_wp2_with fail
  go_loopw [8] (fun i wr => ∃ k : Nat, k ≤ s.length ∧ i = .int .i64 k ∧ Hid (∀ j, j < k → ∀ c, s[j]? = some c → NdRt c) ∧ Below W1.heap.size W1 wr) (fun i _ => s.length - (intOf i).toNat)
  case atStart => exact ⟨0, Nat.zero_le _, rfl, fun j h => absurd h (by omega), Below.refl _ _⟩
  case round =>
    obtain ⟨k, hk, rfl, HN, hbr⟩ := hrel
    have hszr := hbr.size
    have hB := b1.trans (hbr.mono hs1)
    have rr := r1.below hbr l1
    clear c0
    by_cases hlt : k < s.length
    · obtain ⟨b, off, n, a, rfl, hb, hn, hat, d0, d1, d2, d3, d4, d5, d6⟩ := (nds_keep HS.out (keeps_of (hbr.mono hs1)) (Nat.le_refl _)).nd hlt
      have HX := Lib.hid hn
      have hsm := Lib.hid (HSM.out.all n (List.mem_of_getElem? hn))
      have HAT := Lib.hid hat
      clear hn hat
      have ba : Below wr.heap.size wr (wr.alloc (.cells (ndArr n a) 36)) := (Below.refl _ _).alloc (Nat.le_refl _) _
      go_wp2_with fail
      refine (node_any n a _ hsm.out (HAT.out.keep (keeps_of (ba.mono (by omega))) (by simp; omega))).mono ?_
      rintro e w2 ⟨rfl, hb2⟩
      have b2 := (hbr.trans (ba.mono hszr)).trans (hb2.mono (by simp; omega))
      by_cases hP : NdRt n
      · have HN' := Lib.hid (step_upto (P := NdRt) HN.out HX.out hP)
        rw [cB_true hP]
        clear hP
        go_wp2_with fail
        go_roundw
        case rel => exact ⟨k + 1, by omega, by go_num, HN', b2⟩
        case measure => simp [intOf]; omega
      · have HF : Hid (cB (SrcRt s) = false) := cB_false (fun g => hP (g.1 n (List.mem_of_getElem? HX.out)))
        rw [cB_false hP]
        clear hP
        go_wp2_with fail
        go_ret
        exact ⟨ret_bool HF.out.symm, b1.trans (b2.mono hs1)⟩
    · obtain rfl : k = s.length := by omega
      have HA : Hid (∀ n ∈ s, NdRt n) := mem_upto HN.out
      have d0 := rr.src
      by_cases e1 : 1 ≤ s.length
      · have e1' : decide ((1 : Int) ≤ (s.length : Int)) = true := dec_yes (by omega)
        by_cases e2 : s.length ≤ 16
        · have e2' : decide ((s.length : Int) ≤ 16) = true := dec_yes (by omega)
          have HF : Hid (cB (SrcRt s) = true) := cB_true ⟨HA.out, e1, e2⟩
          go_wp2_with fail
          go_ret
          exact ⟨ret_bool HF.out.symm, hB⟩
        · have e2' : decide ((s.length : Int) ≤ 16) = false := dec_no (by omega)
          have HF : Hid (cB (SrcRt s) = false) := cB_false (fun g => e2 g.2.2)
          go_wp2_with fail
          go_ret
          exact ⟨ret_bool HF.out.symm, hB⟩
      · have e1' : decide ((1 : Int) ≤ (s.length : Int)) = false := dec_no (by omega)
        have HF : Hid (cB (SrcRt s) = false) := cB_false (fun g => e1 g.2.1)
        go_wp2_with fail
        go_ret
        exact ⟨ret_bool HF.out.symm, hB⟩
end Go.Proofs.YtabceednmgijoaaGreat
