/-
  On what a name hangs at once: the contracts of cause.Hangs and Wants.
-/
import Derived.Test.YtabceednmgijoaaGreatCauA
namespace Go.Proofs.YtabceednmgijoaaGreat
open Go.RowKit
attribute [local go_sem ↓] Go.wp_at_zero Go.wp_at_succ
/-- what scope.Var gives, for its clock alone -/
theorem svarC_any (n : Nd) (a : NdA) (nm : ByteArray) (w : World) (h : NdAt w w.heap.size n a) (sm : NdSm n) :
    Calls Tryz.prog 39 #[ndV n a, .string nm] w fun e w' => (∃ (x : Vr) (A : Option Addr) (cap : Nat) (b : Bool), e = .returned (.tuple #[vrV x A cap, .bool b]) ∧ Hid (x.clock = clockOf n nm) ∧ x.clock.length ≤ 6 ∧ x.clock.length ≤ cap ∧ cap ≤ maxLen ∧ Sl w' w.heap.size 2 isLit A x.clock) ∧ Below w.heap.size w w' := by
  refine (svar_any n a nm w h (by have := sm.len; omega)).mono fun e w' hr => ?_
  obtain ⟨⟨k, x, A, cap, h1, h2, rfl, h3, h4, h5, h6⟩ | ⟨h1, rfl⟩, hb⟩ := hr
  · exact ⟨⟨x, A, cap, true, rfl, (clock_at h1 h2).symm, (sm.all x (List.mem_of_getElem? h2)).clock, h4, h5, h6⟩, hb⟩
  · exact ⟨⟨vr0, none, 0, false, rfl, (clock_no h1).symm, Nat.zero_le _, Nat.le_refl _, Nat.zero_le _, Sl.nil⟩, hb⟩
theorem names_snoc {l : List Lt} {k : Nat} {c : Lt} (h : l[k]? = some c) : (l.take (k + 1)).map Lt.name = (l.take k).map Lt.name ++ [c.name] := by
  obtain ⟨h1, h2⟩ := List.getElem?_eq_some_iff.1 h
  rw [List.take_succ_eq_append_getElem h1, h2]
  simp
set_option maxRecDepth 100000 in
set_option maxHeartbeats 1000000 in
theorem hangs_any (n : Nd) (a : NdA) (nm : ByteArray) (w : World) (sm : NdSm n) (hn : NdAt w w.heap.size n a) :
    Calls Tryz.prog 19 #[ndV n a, .string nm] w fun r w' => (∃ v, r = .returned v ∧ SlV w' w'.heap.size 1 isStr v (hangsF n nm)) ∧ Below w.heap.size w w' := by
  have HN : Hid (∀ W, Below w.heap.size w W → NdAt W w.heap.size n a) := fun W hW => hn.below hW
  have HSM := Lib.hid sm
  have hmm := @run_makeMap Tryz.prog
  have hmq := hn.mq
  have hnq := sm.eqs
  have hlq := hn.lq
  have hmq' : a.cq ≤ 9223372036854775807 := by unfold maxLen at hmq; omega
  have rn1 := (Row.new w (ndArr n a) 36).alloc (.map #[] 0)
  have b1 : Below w.heap.size w ((w.alloc (.cells (ndArr n a) 36)).alloc (.map #[] 0)) := bE
  have m1 : MetS ((w.alloc (.cells (ndArr n a) 36)).alloc (.map #[] 0)) (w.heap.size + 1) [] := by
    have h := mets_made (w.alloc (.cells (ndArr n a) 36))
    rwa [World.size_alloc] at h
  clear hn sm
  go_enter Tryz.func19, Tryz.ntmps19
  go_upto_region 2 with (fail)
  generalize (w.alloc (.cells (ndArr n a) 36)).alloc (.map #[] 0) = W1 at *
  have hs1 := b1.size
  have hl1 := m1.lt
  obtain ⟨c0, c1, cc2, c3, c4, c5, c6⟩ := rn1.nd
  go_upto_region 3 with (go_at_call 39; refine Calls.mono (svarC_any n a nm W1 ((HN.out W1 b1).more hs1) HSM.out) ?_; rintro r w2 ⟨⟨x, A', cap', bv, rfl, HCK, hc6, g1, g2, hx⟩, hb2⟩)
  have hs2 := hb2.size
  have rv3 := Row.new w2 (vrArr x A' cap') 49
  have ba : Below w2.heap.size w2 (w2.alloc (.cells (vrArr x A' cap') 49)) := bE
  generalize hW3 : w2.alloc (.cells (vrArr x A' cap') 49) = w3 at *
  clear hW3
  have hb3 := hb2.trans (ba.mono hs2)
  have hB3 := b1.trans (hb3.mono hs1)
  have hs3 := hB3.size
  have rn3 := rn1.below hb3 rn1.lt
  have m3 := m1.below hb3 m1.lt
  have HX3 : Hid (Sl w3 W1.heap.size 2 isLit A' x.clock) := lits_keep hx (fun p u _ hc => old_cell ba hc) (Nat.le_refl _)
  clear c0 c1 cc2 c3 c4 c5 c6 hx rn1 m1
  obtain ⟨c0, c1, cc2, c3, c4, c5, c6⟩ := rn3.nd
  go_wp2_with fail
  refine (sdefine_any n a nm w3 ((HN.out w3 hB3).more hs3)).mono ?_
  rintro r w4 ⟨hr, hb4⟩
  have hB4 := hB3.trans (hb4.mono hs3)
  have hs4 := hB4.size
  have rn4 := rn3.below hb4 rn3.lt
  have rv4 := rv3.below hb4 rv3.lt
  have m4 := m3.below hb4 m3.lt
  have HX4 : Hid (Sl w4 W1.heap.size 2 isLit A' x.clock) := lits_keep HX3.out (fun p u _ hc => old_cell hb4 hc) (Nat.le_refl _)
  clear c0 c1 cc2 c3 c4 c5 c6 rn3 rv3 m3 HX3
  rcases hr with ⟨i, j, rfl, HD⟩ | ⟨rfl, HD⟩
  rotate_left 1
  · have HS := Lib.hid (sorted_all m4 (by simp))
    have HU : Hid (insAll [] [] = hangsF n nm) := by show _ = _; unfold hangsF; rw [hangsL_no HD.out]
    rw [HU.out] at HS
    go_wp2_with (first | (go_at_call 30; refine Calls.mono (keys_all _ _) ?_; rintro e w5 ⟨rfl, rfl⟩) | (go_at_call 29; refine Calls.mono HS.out ?_; rintro e w9 ⟨v, rfl, hS, hb9⟩))
    go_ret
    exact ⟨⟨v, rfl, hS⟩, hB4.trans (hb9.mono hs4)⟩
  have hi : i < n.eqs.length := by obtain ⟨q', hq', _⟩ := HD.out; exact (List.getElem?_eq_some_iff.1 hq').1
  obtain ⟨c0, c1, cc2, c3, c4, c5, c6⟩ := rn4.nd
  obtain ⟨b, off, q, A1, k1, A2, k2, hA, hb, hq, ok, lq1, mq1, sl1, lq2, mq2, sl2, d0, d1, d2, d3, d4, d5, d6, d7, d8⟩ := (HN.out w4 hB4).sq.eqn hi
  have HQ := Lib.hid hq
  have HL := Lib.hid (hangsL_def HD.out hq)
  have HSQ := Lib.hid (HSM.out.eq q (List.mem_of_getElem? hq)).right
  rw [hA] at c4
  have i0 : (0 : Int) ≤ (i : Int) := by omega
  have i1 : (i : Int) < (n.eqs.length : Int) := by omega
  have hsz := HSQ.out.size
  have HW := Lib.hid (wants_any q.right A2 k2 (w.heap.size + 1) [] w4 ok.right lq2 mq2 (exs_keep sl2 (fun _ _ _ h => h) hs4) m4 (by simp; omega))
  clear hA hq ok sl1 sl2
  go_wp2_with fail
  refine HW.out.mono ?_
  rintro r w5 ⟨rfl, ⟨L5, m5, hL5, HL5⟩, u5⟩
  simp only [List.length_nil, Nat.zero_add] at hL5
  have rv5 := mupd_row u5 m4 rv4
  have HX5 : Hid (Sl w5 W1.heap.size 2 isLit A' x.clock) := lits_keep HX4.out (mupd_keeps u5 m4) (Nat.le_refl _)
  have hB5 : Below w.heap.size w w5 := hB4.trans (u5.below (fun k e => by omega) hs4)
  have hs5 := hB5.size
  have g2' : cap' ≤ 9223372036854775807 := by unfold maxLen at g2; omega
  clear HW c0 c1 cc2 c3 c4 c5 c6 d0 d1 d2 d3 d4 d5 d6 d7 d8 rn4 rv4 m4 u5 HX4
  obtain ⟨v0, v1, v2, v3, v4⟩ := rv5.vr
  go_wp2_with fail
  clear v0 v1 v2 v3 v4
  go_loopw [39] (fun t wr => ∃ (p : Nat) (L : List ByteArray), p ≤ x.clock.length ∧ t = .int .i64 p ∧ MetS wr (w.heap.size + 1) L ∧ L.length ≤ 900 + p ∧ Hid (∀ y, y ∈ L ↔ y ∈ wantsL q.right ∨ y ∈ (x.clock.take p).map Lt.name) ∧ UpdM (w.heap.size + 1) w5 wr ∧ Below w.heap.size w wr) (fun t _ => x.clock.length - (intOf t).toNat)
  case atStart => exact ⟨0, L5, Nat.zero_le _, rfl, m5, by omega, (fun y => by rw [HL5.out]; simp), Upd.refl _ _, hB5⟩
  case round =>
    obtain ⟨p, L, hp, rfl, m6, hL6, HL6, u6, hB6⟩ := hrel
    have hs6 := hB6.size
    by_cases hlt : p < x.clock.length
    rotate_left 1
    · obtain rfl : p = x.clock.length := by omega
      have HS := Lib.hid (sorted_all m6 (by omega))
      have HU : Hid (insAll [] L = hangsF n nm) := rising_eq (insAll_rising List.Pairwise.nil) (hangsF_rising n nm) fun y => by
        rw [insAll_mem, hangsF_mem, HL.out, HL6.out, List.take_length, HCK.out, List.mem_append]
        simp
      rw [HU.out] at HS
      go_wp2_with (first | (go_at_call 30; refine Calls.mono (keys_all _ _) ?_; rintro e w5 ⟨rfl, rfl⟩) | (go_at_call 29; refine Calls.mono HS.out ?_; rintro e w9 ⟨v, rfl, hS, hb9⟩))
      go_ret
      exact ⟨⟨v, rfl, hS⟩, hB6.trans (hb9.mono hs6)⟩
    obtain ⟨b', off', c, hA', hb', hc, hsc, e0, e1⟩ := (lits_keep HX5.out (mupd_keeps u6 m5) (Nat.le_refl _)).lit hlt
    subst hA'
    have HC := Lib.hid hc
    have i2 : (0 : Int) ≤ (p : Int) := by omega
    have i3 : (p : Int) < (x.clock.length : Int) := by omega
    have ba6 : Below wr.heap.size wr (wr.alloc (.cells #[.string c.name, .bool c.no] 81)) := bE
    have m7 := m6.alloc (.cells #[.string c.name, .bool c.no] 81)
    have u7 := u6.trans (UpdM.of ba6)
    have hB7 := hB6.trans (ba6.mono hs6)
    have r7 := Row.new wr #[.string c.name, .bool c.no] 81
    clear hc
    go_upto_region 9 with (fail)
    clear e0 e1
    generalize hW7 : wr.alloc (.cells #[.string c.name, .bool c.no] 81) = w7 at *
    clear hW7
    have e0 : w7.cell? ⟨wr.heap.size, 0, none⟩ = some (.string c.name) := (r7.cell 0).trans rfl
    have e1 : w7.cell? ⟨wr.heap.size, 1, none⟩ = some (.bool c.no) := (r7.cell 1).trans rfl
    go_wp2_with (at_mapUpdate; refine wpList_mets rfl _ _ _ rfl (w.heap.size + 1) L rfl m7 (by omega) c.name rfl hsc rfl ?_; intro w8 m8 hg8)
    have u8 := UpdM.grown u7 hg8
    have hB8 := hB7.grown hg8 hB7.size (fun k e => by cases e; omega)
    have HL8 : Hid (∀ y, y ∈ putN L c.name ↔ y ∈ wantsL q.right ∨ y ∈ (x.clock.take (p + 1)).map Lt.name) := fun y => by
      rw [putN_mem, HL6.out, names_snoc HC.out, List.mem_append, List.mem_singleton, or_assoc]
    go_wp2_with fail
    go_roundw
    case rel => exact ⟨p + 1, _, by omega, by go_num, m8, (by have := putN_len (l := L) (nm := c.name); omega), HL8, u8, hB8⟩
    case measure => first | (simp [intOf]; omega) | simp [intOf]
end Go.Proofs.YtabceednmgijoaaGreat
