/-
  On what a name hangs at once, by the document: the contract of tompionref20.Hangs.
-/
import Derived.Test.YtabceednmgijoaaGreatRc1
import Derived.Test.YtabceednmgijoaaGreatCauB
namespace Go.Proofs.YtabceednmgijoaaGreat
open Go.RowKit
attribute [local go_sem ↓] Go.wp_at_zero Go.wp_at_succ
theorem all_more (L M : List ByteArray) : insAll (insAll [] L) M = insAll [] (L ++ M) := (insAll_append [] L M).symm
set_option maxRecDepth 100000 in
set_option maxHeartbeats 1000000 in
theorem rhangs20_any (n : Nd) (a : NdA) (nm : ByteArray) (w : World) (sm : NdSm n) (hn : NdAt w w.heap.size n a) :
    Calls Tryz.prog 56 #[ndV n a, .string nm] w fun r w' => (∃ v, r = .returned v ∧ SlV w' w'.heap.size 1 isStr v (hangsF n nm)) ∧ Below w.heap.size w w' := by
  have HN : Hid (∀ W, Below w.heap.size w W → NdAt W w.heap.size n a) := fun W hW => hn.below hW
  have HSM := Lib.hid sm
  have hmq := hn.mq
  have hnq := sm.eqs
  have hlq := hn.lq
  have hvl := sm.len
  have hmq' : a.cq ≤ 9223372036854775807 := by unfold maxLen at hmq; omega
  have rn1 := Row.new w (ndArr n a) 36
  have b1 : Below w.heap.size w (w.alloc (.cells (ndArr n a) 36)) := bE
  clear hn sm
  go_enter Tryz.func56, Tryz.ntmps56
  go_upto_region 1 with (fail)
  generalize w.alloc (.cells (ndArr n a) 36) = W1 at *
  have hs1 := b1.size
  obtain ⟨c0, c1, cc2, c3, c4, c5, c6⟩ := rn1.nd
  go_wp2_with fail
  refine (rdefine_any n a nm W1 ((HN.out W1 b1).more hs1)).mono ?_
  rintro r w2 ⟨⟨x, y, rfl, HD⟩, hb2⟩
  have rn2 := rn1.below hb2 rn1.lt
  have hB2 := b1.trans (hb2.mono hs1)
  have hs2 := hB2.size
  clear c0 c1 cc2 c3 c4 c5 c6 rn1 b1 hb2 hs1
  rcases HD.out with ⟨i, j, rfl, rfl, hd⟩ | ⟨rfl, rfl, hd⟩
  rotate_left 1
  · have HE : Hid (hangsF n nm = []) := by show _ = _; unfold hangsF; rw [hangsL_no hd]; rfl
    clear hd HD
    go_wp2_with fail
    go_ret
    exact ⟨⟨_, rfl, by rw [HE.out]; exact SlV.nil⟩, hB2⟩
  have hi : i < n.eqs.length := by obtain ⟨q', hq', _⟩ := hd; exact (List.getElem?_eq_some_iff.1 hq').1
  obtain ⟨c0, c1, cc2, c3, c4, c5, c6⟩ := rn2.nd
  obtain ⟨b, off, q, A1, k1, A2, k2, hA, hb, hq, ok, lq1, mq1, sl1, lq2, mq2, sl2, d0, d1, d2, d3, d4, d5, d6, d7, d8⟩ := (HN.out w2 hB2).sq.eqn hi
  have HL := Lib.hid (hangsL_def hd hq)
  have HSQ := Lib.hid (HSM.out.eq q (List.mem_of_getElem? hq)).right
  rw [hA] at c4
  have i0 : (0 : Int) ≤ (i : Int) := by omega
  have i1 : (i : Int) < (n.eqs.length : Int) := by omega
  have hsz := HSQ.out.size
  have HW := Lib.hid (rwants_any q.right A2 k2 w2 ok.right lq2 mq2 (exs_keep sl2 (fun _ _ _ h => h) hs2) (by omega))
  have hwl := wants_len q.right
  clear hA hq ok sl1 sl2 hd HD
  go_wp2_with fail
  refine HW.out.mono ?_
  rintro r w3 ⟨⟨v3, rfl, hv3⟩, hb3⟩
  have rn3 := rn2.below hb3 rn2.lt
  have hB3 := hB2.trans (hb3.mono hs2)
  have hs3 := hB3.size
  clear c0 c1 cc2 c3 c4 c5 c6 d0 d1 d2 d3 d4 d5 d6 d7 d8 HW rn2 hb3
  obtain ⟨c0, c1, cc2, c3, c4, c5, c6⟩ := rn3.nd
  go_wp2_with fail
  refine (rvar_any n a nm w3 ((HN.out w3 hB3).more hs3) (by omega)).mono ?_
  rintro r w4 ⟨rfl, hb4⟩
  have rn4 := rn3.below hb4 rn3.lt
  have hB4 := hB3.trans (hb4.mono hs3)
  have hs4 := hB4.size
  have hv4 := (hv3.below hb4).more hb4.size
  clear c0 c1 cc2 c3 c4 c5 c6 rn3 hb4 hv3
  rcases var_cases n nm with ⟨k, x, h1, h2, _⟩ | h1
  rotate_left 1
  · have HE : Hid (hangsF n nm = wantsF q.right) := by show _ = _; unfold hangsF; rw [HL.out, clock_no h1, List.map_nil, List.append_nil]; rfl
    rw [h1]
    go_wp2_with fail
    go_ret
    exact ⟨⟨_, rfl, by rw [HE.out]; exact hv4⟩, hB4⟩
  have HE : Hid (hangsF n nm = insAll (wantsF q.right) (x.clock.map Lt.name)) := by show _ = _; unfold hangsF wantsF; rw [HL.out, clock_at h1 h2, all_more]
  rw [h1]
  have hkl := (List.getElem?_eq_some_iff.1 h2).1
  have HXV := Lib.hid h2
  have hcl := (HSM.out.all x (List.mem_of_getElem? h2)).clock
  have j0 : (0 : Int) ≤ (k : Int) := by omega
  have j1 : (k : Int) < ((vrs n).length : Int) := by omega
  obtain ⟨c0, c1, cc2, c3, c4, c5, c6⟩ := rn4.nd
  clear h1 h2
  go_wp2_with fail
  refine (rvars_any w4.heap.size n a w4 (Nat.le_refl _) ((HN.out w4 hB4).more hs4) (by omega)).mono ?_
  rintro r w5 ⟨⟨v5, rfl, hv5⟩, hb5⟩
  obtain ⟨A5, c5', rfl, g1, g2, g3⟩ := hv5.sl
  obtain ⟨b', off', x', A', cap', hA', hb', hx, okx, q1, q2, hxs, e0, e1, e2, e3, e4⟩ := g3.vr hkl
  obtain rfl : x = x' := by
    have := HXV.out
    rw [hx] at this
    injection this with this
    exact this.symm
  subst hA'
  have hB5 := hB4.trans (hb5.mono hs4)
  have hs5 := hB5.size
  have hv6 := (hv4.below hb5).more hb5.size
  have HXS : Hid (∀ W, Below w5.heap.size w5 W → Sl W w5.heap.size 2 isLit A' x.clock) := fun W hW => lits_keep (hxs.more hb5.size) (keeps_of hW) (Nat.le_refl _)
  have q2' : cap' ≤ 9223372036854775807 := by unfold maxLen at q2; omega
  have g2' : c5' ≤ 9223372036854775807 := by unfold maxLen at g2; omega
  clear c0 c1 cc2 c3 c4 c5 c6 hv4 hv5 g3 hx okx hxs
  go_wp2_with fail
  clear e0 e1 e2 e3 e4
  go_loopw [7, 10] (fun o t wr => ∃ p : Nat, p ≤ x.clock.length ∧ t = .int .i64 p ∧ SlV wr wr.heap.size 1 isStr o (insAll (wantsF q.right) ((x.clock.take p).map Lt.name)) ∧ Below w5.heap.size w5 wr) (fun _ t _ => x.clock.length - (intOf t).toNat)
  case atStart => exact ⟨0, Nat.zero_le _, rfl, by rw [List.take_zero, List.map_nil, insAll_nil]; exact hv6, Below.refl _ _⟩
  case round =>
    clear hv6
    obtain ⟨p, hp, rfl, hv, hb6⟩ := hrel
    have hs6 := hb6.size
    by_cases hlt : p < x.clock.length
    rotate_left 1
    · obtain rfl : p = x.clock.length := by omega
      rw [List.take_length, ← HE.out] at hv
      go_wp2_with fail
      go_ret
      exact ⟨⟨_, rfl, hv⟩, hB5.trans (hb6.mono hs5)⟩
    obtain ⟨b2, off2, c, hA2, hb2, hc, hsc, f0, f1⟩ := (HXS.out wr hb6).lit hlt
    subst hA2
    have HC := Lib.hid hc
    have p0 : (0 : Int) ≤ (p : Int) := by omega
    have p1 : (p : Int) < (x.clock.length : Int) := by omega
    have hil := insAll_len (l := wantsF q.right) (m := (x.clock.take p).map Lt.name)
    have hil2 := insAll_len (l := []) (m := wantsL q.right)
    rw [List.length_map, List.length_take] at hil
    simp only [List.length_nil, Nat.zero_add] at hil2
    obtain ⟨Lk, HLK⟩ : ∃ Lk, Hid (insAll (wantsF q.right) ((x.clock.take p).map Lt.name) = Lk) := ⟨_, rfl⟩
    have hbd : (insAll (wantsF q.right) ((x.clock.take p).map Lt.name)).length < 900000 := by unfold wantsF at hil ⊢; omega
    rw [HLK.out] at hv hbd
    obtain ⟨A7, c7, rfl, u1, u2, u3⟩ := hv
    have HR := Lib.hid (rsorted_any Lk _ A7 c7 c.name wr rfl u1 u2 hbd hsc u3)
    clear hil
    clear hc u3
    go_wp2_with fail
    refine HR.out.mono ?_
    rintro r w8 ⟨⟨v8, rfl, hv8⟩, hb8⟩
    go_wp2_with fail
    go_roundw
    case rel => exact ⟨p + 1, by omega, by go_num, (by rw [names_snoc HC.out, insAll_snoc, HLK.out]; exact hv8), hb6.trans (hb8.mono hs6)⟩
    case measure => first | (simp [intOf]; omega) | simp [intOf]
end Go.Proofs.YtabceednmgijoaaGreat
