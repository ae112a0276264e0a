/-
  Which nodes a node calls, by the document: the contract of tompionref17.Uses.
-/
import Derived.Test.YtabceednmgijoaaGreatStA
import Derived.Test.YtabceednmgijoaaGreatCalP
namespace Go.Proofs.YtabceednmgijoaaGreat
open Go.RowKit
attribute [local go_sem ↓] Go.wp_at_zero Go.wp_at_succ
/-- the calls among so many first ones of an expression's parts -/
noncomputable def callsUp (e : Ex) (j : Nat) : List ByteArray := (((exList e).take j).filter (fun x => cB (x.op = 4))).map Ex.name
theorem callsUp_zero (e : Ex) : callsUp e 0 = [] := rfl
theorem callsUp_yes {e x : Ex} {j : Nat} (h : (exList e)[j]? = some x) (h4 : x.op = 4) : callsUp e (j + 1) = callsUp e j ++ [x.name] := by
  obtain ⟨h1, h2⟩ := List.getElem?_eq_some_iff.1 h
  unfold callsUp
  rw [List.take_succ_eq_append_getElem h1, h2]
  simp [cB_true h4]
theorem callsUp_no {e x : Ex} {j : Nat} (h : (exList e)[j]? = some x) (h4 : x.op ≠ 4) : callsUp e (j + 1) = callsUp e j := by
  obtain ⟨h1, h2⟩ := List.getElem?_eq_some_iff.1 h
  unfold callsUp
  rw [List.take_succ_eq_append_getElem h1, h2]
  simp [cB_false h4]
theorem callsUp_end (e : Ex) : callsUp e (exList e).length = callsOf e := by unfold callsUp callsOf; rw [List.take_length]
theorem callsUp_len (e : Ex) (j : Nat) : (callsUp e j).length ≤ (exList e).length := by
  unfold callsUp
  rw [List.length_map]
  exact Nat.le_trans (List.length_filter_le _ _) (by rw [List.length_take]; omega)
theorem callTo_len {n : Nd} (sm : NdSm n) : ∀ k, (callTo n k).length ≤ k * 900
  | 0 => by rw [callTo_zero]; exact Nat.zero_le _
  | k + 1 => by
    have ih := callTo_len sm k
    cases hq : n.eqs[k]? with
    | none =>
      have : callTo n (k + 1) = callTo n k := by
        unfold callTo
        have hl := List.getElem?_eq_none_iff.1 hq
        rw [List.take_of_length_le (by omega), List.take_of_length_le hl]
      rw [this]
      exact Nat.le_trans ih (Nat.mul_le_mul_right _ (Nat.le_succ k))
    | some q =>
      rw [callTo_succ hq, List.length_append]
      have h1 := callsUp_len q.right (exList q.right).length
      rw [callsUp_end] at h1
      have h2 := (sm.eq q (List.mem_of_getElem? hq)).right.size
      unfold exSize at h2
      omega
set_option maxRecDepth 100000 in
set_option maxHeartbeats 1000000 in
theorem ruses_any (n : Nd) (a : NdA) (w : World) (sm : NdSm n) (hn : NdAt w w.heap.size n a) :
    Calls Tryz.prog 13 #[ndV n a] w fun r w' => (∃ v, r = .returned v ∧ SlV w' w'.heap.size 1 isStr v (usesF n)) ∧ Below w.heap.size w w' := by
  have HN : Hid (∀ W, Below w.heap.size w W → NdAt W w.heap.size n a) := fun W hW => hn.below hW
  have HSM := Lib.hid sm
  have hmq := hn.mq
  have hnq := sm.eqs
  have hlq := hn.lq
  have hmq' : a.cq ≤ 9223372036854775807 := by unfold maxLen at hmq; omega
  have rn1 := Row.new w (ndArr n a) 36
  have b1 : Below w.heap.size w (w.alloc (.cells (ndArr n a) 36)) := bE
  clear hn sm
  go_enter Tryz.func13, Tryz.ntmps13
  go_upto_region 1 with (fail)
  generalize w.alloc (.cells (ndArr n a) 36) = W1 at *
  have hs1 := b1.size
  go_wp2_with fail
  go_loopw [3, 4] (fun o i wr => ∃ k : Nat, k ≤ n.eqs.length ∧ i = .int .i64 k ∧ SlV wr wr.heap.size 1 isStr o (insAll [] (callTo n k)) ∧ Below W1.heap.size W1 wr) (fun _ i _ => n.eqs.length - (intOf i).toNat)
  case atStart => exact ⟨0, Nat.zero_le _, rfl, SlV.nil, Below.refl _ _⟩
  case round =>
    obtain ⟨k, hk, rfl, hv, hbr⟩ := hrel
    have hB := b1.trans (hbr.mono hs1)
    have hsB := hB.size
    have hszr := hbr.size
    have rn := rn1.below hbr rn1.lt
    obtain ⟨c0, c1, cc2, c3, c4, c5, c6⟩ := rn.nd
    by_cases hlt : k < n.eqs.length
    rotate_left 1
    · obtain rfl : k = n.eqs.length := by omega
      go_wp2_with fail
      go_ret
      exact ⟨⟨_, rfl, hv⟩, hB⟩
    obtain ⟨b, off, q, A1, k1, A2, k2, hA, hb, hq, ok, lq1, mq1, sl1, lq2, mq2, sl2, d0, d1, d2, d3, d4, d5, d6, d7, d8⟩ := (HN.out wr hB).sq.eqn hlt
    rw [hA] at c4
    have HQ := Lib.hid hq
    have HSZ := Lib.hid (HSM.out.eq q (List.mem_of_getElem? hq)).right.size
    have hexl := HSZ.out
    unfold exSize at hexl
    have i0 : (0 : Int) ≤ (k : Int) := by omega
    have i1 : (k : Int) < (n.eqs.length : Int) := by omega
    have HLS := Lib.hid (list_any wr.heap.size q.right A2 k2 wr ok.right lq2 mq2 (Nat.le_refl _) (exs_keep sl2 (fun _ _ _ h => h) hsB) (by have := HSZ.out; omega))
    clear hA hq ok sl1 sl2
    go_wp2_with fail
    refine HLS.out.mono ?_
    rintro r w2 ⟨v2, css, rfl, hown, hare, hb2⟩
    obtain ⟨A3, c3', rfl, hn3, hl3, hm3, hx3⟩ := own_exs hown hare hb2.size
    have hs2 := hb2.size
    have hv2 : SlV w2 w2.heap.size 1 isStr _ (insAll [] (callTo n k)) := (hv.below hb2).more hs2
    have HX : Hid (∀ W, Below w2.heap.size w2 W → IsExs W w2.heap.size A3 (exList q.right)) := fun W hW => exs_keep hx3 (keeps_of hW) (Nat.le_refl _)
    have hcl := callTo_len HSM.out k
    have hm3' : c3' ≤ 9223372036854775807 := by unfold maxLen at hm3; omega
    clear c0 c1 cc2 c3 c4 c5 c6 d0 d1 d2 d3 d4 d5 d6 d7 d8 hown hare hx3 HLS
    go_wp2_with fail
    go_loopw [3, 6] (fun o i wr => ∃ j : Nat, j ≤ (exList q.right).length ∧ i = .int .i64 j ∧ SlV wr wr.heap.size 1 isStr o (insAll [] (callTo n k ++ callsUp q.right j)) ∧ Below w2.heap.size w2 wr) (fun _ i _ => (exList q.right).length - (intOf i).toNat)
    case atStart => exact ⟨0, Nat.zero_le _, rfl, by rw [callsUp_zero, List.append_nil]; exact hv2, Below.refl _ _⟩
    case round =>
      clear hv hv2
      obtain ⟨j, hj, rfl, hv, hb3⟩ := hrel
      have hs3 := hb3.size
      by_cases hlj : j < (exList q.right).length
      rotate_left 1
      · obtain rfl : j = (exList q.right).length := by omega
        rw [callsUp_end, ← callTo_succ HQ.out] at hv
        go_wp2_with fail
        go_roundw
        case rel => exact ⟨k + 1, by omega, by go_num, hv, hbr.trans ((hb2.trans (hb3.mono hs2)).mono hszr)⟩
        case measure => first | (simp [intOf]; omega) | simp [intOf]
      obtain ⟨b3, off3, y, A', cap', hA', hb', hyk, hym, hok', hcap', hmax', hy', d0, d1, d2, d3, d4, d5⟩ := (HX.out wr hb3).at_ hlj
      subst hA'
      have HY := Lib.hid hyk
      have i2 : (0 : Int) ≤ (j : Int) := by omega
      have i3 : (j : Int) < ((exList q.right).length : Int) := by omega
      have hcu := callsUp_len q.right j
      have hnl := insAll_len (l := []) (m := callTo n k ++ callsUp q.right j)
      simp only [List.length_append, List.length_nil, Nat.zero_add] at hnl
      obtain ⟨A5, c5, rfl, g1, g2, g3⟩ := hv
      have HV := Lib.hid g3
      clear hyk hy' g3
      by_cases h4 : y.op = 4
      · have o4 := eq_yes h4
        have HC := Lib.hid (callsUp_yes HY.out h4)
        have HR := Lib.hid (rsorted_any _ _ A5 c5 y.name wr rfl g1 g2 (by omega) hok'.name HV.out)
        clear h4
        go_wp2_with fail
        refine HR.out.mono ?_
        rintro r w5 ⟨⟨v5, rfl, hv5⟩, hb5⟩
        go_wp2_with fail
        go_roundw
        case rel => exact ⟨j + 1, by omega, by go_num, (by rw [HC.out, ← List.append_assoc, insAll_snoc]; exact hv5), hb3.trans (hb5.mono hs3)⟩
        case measure => first | (simp [intOf]; omega) | simp [intOf]
      · have o4 := eq_no h4
        have HC := Lib.hid (callsUp_no HY.out h4)
        clear h4
        go_wp2_with fail
        go_roundw
        case rel => exact ⟨j + 1, by omega, by go_num, (by rw [HC.out]; exact ⟨A5, c5, rfl, g1, g2, HV.out⟩), hb3⟩
        case measure => first | (simp [intOf]; omega) | simp [intOf]
end Go.Proofs.YtabceednmgijoaaGreat
