/-
  What an expression wants at once, by the document: the contracts of tompionref20.All and Wants.
-/
import Derived.Test.YtabceednmgijoaaGreatStA
import Derived.Test.YtabceednmgijoaaGreatCauA
namespace Go.Proofs.YtabceednmgijoaaGreat
open Go.RowKit
attribute [local go_sem ↓] Go.wp_at_zero Go.wp_at_succ
theorem take_snoc {l : List ByteArray} {k : Nat} {x : ByteArray} (h : l[k]? = some x) : l.take (k + 1) = l.take k ++ [x] := by
  obtain ⟨q1, q2⟩ := List.getElem?_eq_some_iff.1 h
  rw [List.take_succ_eq_append_getElem q1, q2]
set_option maxRecDepth 100000 in
set_option maxHeartbeats 1000000 in
theorem rall_any (l m : List ByteArray) (la lm : Nat) (A B : Option Addr) (ca cb : Nat) (w : World) (hla : l.length = la) (hlm : m.length = lm) (h1 : la ≤ ca) (h2 : ca ≤ maxLen) (h3 : lm ≤ cb) (h4 : cb ≤ maxLen) (hl : l.length + m.length < 900000) (ha : Sl w w.heap.size 1 isStr A l) (hb : Sl w w.heap.size 1 isStr B m) :
    Calls Tryz.prog 58 #[.slice A la ca, .slice B lm cb] w fun e w' => (∃ v, e = .returned v ∧ SlV w' w'.heap.size 1 isStr v (insAll l m)) ∧ Below w.heap.size w w' := by
  subst hla
  subst hlm
  have HB := Lib.hid hb
  have hv : SlV w w.heap.size 1 isStr (.slice A l.length ca) l := ⟨A, ca, rfl, h1, h2, ha⟩
  have h4' : cb ≤ 9223372036854775807 := by unfold maxLen at h4; omega
  clear ha hb
  go_enter Tryz.func58, Tryz.ntmps58
  go_wp2_with fail
  go_loopw [0, 5] (fun o t wr => ∃ k : Nat, k ≤ m.length ∧ t = .int .i64 k ∧ SlV wr wr.heap.size 1 isStr o (insAll l (m.take k)) ∧ Below w.heap.size w wr) (fun _ t _ => m.length - (intOf t).toNat)
  case atStart => exact ⟨0, Nat.zero_le _, rfl, by rw [List.take_zero, insAll_nil]; exact hv, Below.refl _ _⟩
  case round =>
    clear hv
    obtain ⟨k, hk, rfl, hv, hB⟩ := hrel
    have hs := hB.size
    by_cases hlt : k < m.length
    rotate_left 1
    · obtain rfl : k = m.length := by omega
      rw [List.take_length] at hv
      go_wp2_with fail
      go_ret
      exact ⟨⟨_, rfl, hv⟩, hB⟩
    obtain ⟨b, off, x, hA, hb', hx, hsx, e0⟩ := (HB.out.below hB).str hlt
    subst hA
    have HX := Lib.hid hx
    have i0 : (0 : Int) ≤ (k : Int) := by omega
    have i1 : (k : Int) < (m.length : Int) := by omega
    have hil := insAll_len (l := l) (m := m.take k)
    rw [List.length_take] at hil
    obtain ⟨A5, c5, rfl, g1, g2, g3⟩ := hv
    have HR := Lib.hid (rsorted_any _ _ A5 c5 x wr rfl g1 g2 (by omega) hsx g3)
    clear hx g3
    go_wp2_with fail
    refine HR.out.mono ?_
    rintro r w5 ⟨⟨v5, rfl, hv5⟩, hb5⟩
    go_wp2_with fail
    go_roundw
    case rel => exact ⟨k + 1, by omega, by go_num, (by rw [take_snoc HX.out, insAll_snoc]; exact hv5), hB.trans (hb5.mono hs)⟩
    case measure => first | (simp [intOf]; omega) | simp [intOf]
theorem wantTo_len (e : Ex) (ih : ∀ x ∈ e.args, (wantsL x).length ≤ exSize x) : ∀ k, k ≤ e.args.length → (wantTo e k).length ≤ (lTo e k).length
  | 0, _ => by
    rw [wantTo_zero, lTo_zero]
    unfold ownW
    split <;> simp
  | k + 1, h => by
    have h1 := wantTo_len e ih k (by omega)
    have hx : e.args[k]? = some e.args[k] := List.getElem?_eq_getElem (by omega)
    have h2 := ih _ (List.mem_of_getElem? hx)
    rw [lTo_succ hx, List.length_append]
    unfold exSize at h2
    by_cases he : Early e.op k
    · rw [wantTo_yes hx he, List.length_append]
      omega
    · rw [wantTo_no hx he]
      omega
theorem wants_len (e : Ex) : (wantsL e).length ≤ exSize e := by
  induction e using Ex.ind with
  | h e ih =>
    rw [wantTo_end]
    have := wantTo_len e ih e.args.length (Nat.le_refl _)
    rw [← lTo_end] at this
    exact this
noncomputable def wantsF (e : Ex) : List ByteArray := insAll [] (wantsL e)
theorem wants_step {L M : List ByteArray} : insAll (insAll [] L) (insAll [] M) = insAll [] (L ++ M) := rising_eq (insAll_rising (insAll_rising List.Pairwise.nil)) (insAll_rising List.Pairwise.nil) fun x => by
  simp only [insAll_mem, List.mem_append, List.not_mem_nil, false_or]
theorem own_all (e : Ex) : insAll [] (ownW e) = ownW e := by
  unfold ownW
  split
  · simp [insAll, ins, insR]
  · rfl
set_option maxRecDepth 100000 in
set_option maxHeartbeats 1000000 in
theorem rwants_any (e : Ex) : ∀ (A2 : Option Addr) (cap2 : Nat) (w : World), ExOk e → e.args.length ≤ cap2 → cap2 ≤ maxLen → IsExs w w.heap.size A2 e.args → exSize e ≤ 1000 →
    Calls Tryz.prog 78 #[exV e A2 cap2] w fun r w' => (∃ v, r = .returned v ∧ SlV w' w'.heap.size 1 isStr v (wantsF e)) ∧ Below w.heap.size w w' := by
  induction e using Ex.ind with
  | h e ih =>
    intro A2 cap2 w ok h1 h2 hx hlen
    have HI := Lib.hid ih
    have rx1 := Row.new w (exA e A2 cap2) 45
    have b1 : Below w.heap.size w (w.alloc (.cells (exA e A2 cap2) 45)) := bE
    have HX := Lib.hid hx
    have hnm := ok.name
    have hsp := exSize_pos e
    have h2' : cap2 ≤ 9223372036854775807 := by unfold maxLen at h2; omega
    clear ih hx ok
    go_enter Tryz.func78, Tryz.ntmps78
    go_upto_region 2 with (fail)
    generalize w.alloc (.cells (exA e A2 cap2) 45) = W1 at *
    have hs1 := b1.size
    obtain ⟨x0, x1, x2, x3, x4, x5⟩ := rx1.ex6
    obtain ⟨P, HP⟩ : ∃ P : Bool, Hid (namesB e.op = P) := ⟨_, rfl⟩
    go_cut [17] (fun v17 W => v17 = .bool P ∧ W = W1)
    case first =>
      cases P
      · rcases names_no HP.out with ⟨o3, o24 | ⟨o24, o26⟩⟩
        all_goals
          go_wp2_with fail
          go_meet
          exact ⟨by first | rfl | simp_all, rfl⟩
      · rcases names_yes HP.out with o3 | ⟨o3, o24, o26⟩
        all_goals
          go_wp2_with fail
          go_meet
          exact ⟨by first | rfl | simp_all, rfl⟩
    obtain ⟨rfl, rfl⟩ := hcut
    rename_i hKK
    refine hKK _ _ ?_
    go_cut [3] (fun v3 W => SlV W W.heap.size 1 isStr v3 (insAll [] (wantTo e 0)) ∧ Below wc.heap.size wc W)
    case first =>
      have HO0 : Hid (insAll [] (wantTo e 0) = ownW e) := by show _ = _; rw [wantTo_zero, own_all]
      cases P
      · have HO : Hid (ownW e = []) := if_neg (by rw [HP.out]; decide)
        go_wp2_with fail
        go_meet
        exact ⟨by rw [HO0.out, HO.out]; exact SlV.nil, Below.refl _ _⟩
      · have HO : Hid (ownW e = [e.name]) := if_pos HP.out
        go_wp2_with (at_builtin; refine wpList_append_str rfl _ _ rfl wc.heap.size [] 0 _ rfl (World.ownsRow_nil _ _ _ _) rfl wc.heap.size e.name rfl (((Row.new wc #[.string e.name] 9).cell 0).trans rfl) (by simp) (by simp) ?_; intro v2 w2 o2 g2)
        go_meet
        refine ⟨by rw [HO0.out, HO.out]; exact own_strs o2 (fun y hy => by simp at hy; subst hy; exact hnm), ((Below.refl _ _).alloc (Nat.le_refl _) _).grown g2 (by simp) (fun k e => by cases e)⟩
    obtain ⟨hv, hbc⟩ := hcut
    have rx2 := rx1.below hbc rx1.lt
    have hB2 := b1.trans (hbc.mono hs1)
    have hs2 := hB2.size
    obtain ⟨x0, x1, x2, x3, x4, x5⟩ := rx2.ex6
    clear rx1 b1 hbc hs1 HP
    obtain ⟨w2, rfl⟩ : ∃ w2 : World, w2 = wc := ⟨_, rfl⟩
    go_wp2_with fail
    clear x0 x1 x2 x3 x4 x5
    go_loopw [3, 4] (fun o t wr => ∃ k : Nat, k ≤ e.args.length ∧ t = .int .i64 k ∧ SlV wr wr.heap.size 1 isStr o (insAll [] (wantTo e k)) ∧ Below w2.heap.size w2 wr) (fun _ t _ => e.args.length - (intOf t).toNat)
    case atStart => exact ⟨0, Nat.zero_le _, rfl, hv, Below.refl _ _⟩
    case round =>
      clear hv
      obtain ⟨k, hk, rfl, hv, hb3⟩ := hrel
      have hB3 := hB2.trans (hb3.mono hs2)
      have hs3 := hB3.size
      have hs23 := hb3.size
      have rx3 := rx2.below hb3 rx2.lt
      obtain ⟨x0, x1, x2, x3, x4, x5⟩ := rx3.ex6
      by_cases hlt : k < e.args.length
      rotate_left 1
      · obtain rfl : k = e.args.length := by omega
        rw [← wantTo_end] at hv
        go_wp2_with fail
        go_ret
        exact ⟨⟨_, rfl, hv⟩, hB3⟩
      obtain ⟨b, off, y, A', cap', hA, hb, hyk, hym, hok', hcap', hmax', hy', d0, d1, d2, d3, d4, d5⟩ := (exs_keep HX.out (keeps_of hB3) (Nat.le_refl _)).at_ hlt
      subst hA
      have HYK := Lib.hid hyk
      have i0 : (0 : Int) ≤ (k : Int) := by omega
      have i1 : (k : Int) < (e.args.length : Int) := by omega
      have hly := exSize_arg hym
      have HW := Lib.hid (HI.out y hym A' cap' wr hok' hcap' hmax' (exs_keep hy' (fun _ _ _ h => h) hs3) (by omega))
      have hwl := wants_len y
      have hwt := wantTo_len e (fun x _ => wants_len x) k hk
      have hlt2 := lTo_le e k
      obtain ⟨A5, c5, rfl, g1, g2, g3⟩ := hv
      clear hyk hy'
      rcases early_no e.op k with ⟨q1, HE⟩ | ⟨q1, q2, q3, HE⟩ | ⟨q1, q2, HE⟩ | ⟨q1, q2, q3, HE⟩
      · have o1 : (e.op != 21) = false := neq_no q1
        have HWT := Lib.hid (wantTo_no HYK.out HE)
        clear q1 HE
        go_wp2_with fail
        go_roundw
        case rel => exact ⟨k + 1, by omega, by go_num, (by rw [HWT.out]; exact ⟨A5, c5, rfl, g1, g2, g3⟩), hb3⟩
        case measure => first | (simp [intOf]; omega) | simp [intOf]
      · have o1 : (e.op != 21) = true := neq_yes q1
        have o2 : (e.op != 22) = false := neq_no q2
        have o3 : ((k : Int) == 0) = false := by rw [beq_eq_false_iff_ne]; omega
        have HWT := Lib.hid (wantTo_no HYK.out HE)
        clear q1 q2 HE
        go_wp2_with fail
        go_roundw
        case rel => exact ⟨k + 1, by omega, by go_num, (by rw [HWT.out]; exact ⟨A5, c5, rfl, g1, g2, g3⟩), hb3⟩
        case measure => first | (simp [intOf]; omega) | simp [intOf]
      · have o1 : (e.op != 21) = true := neq_yes q1
        have o2 : (e.op != 22) = true := neq_yes q2
        have HWT := Lib.hid (wantTo_yes HYK.out HE)
        clear q1 q2 HE
        go_wp2_with fail
        refine HW.out.mono ?_
        rintro r w5 ⟨⟨v5, rfl, hv5⟩, hb5⟩
        obtain ⟨A6, c6, rfl, u1, u2, u3⟩ := hv5
        have hil := insAll_len (l := []) (m := wantTo e k)
        have hil2 := insAll_len (l := []) (m := wantsL y)
        simp only [List.length_nil, Nat.zero_add] at hil hil2
        have HA := Lib.hid (rall_any _ _ _ _ A5 A6 c5 c6 w5 rfl rfl g1 g2 u1 u2 (by unfold wantsF; omega) ((g3.below hb5).more hb5.size) u3)
        clear g3 u3 x0 x1 x2 x3 x4 x5 d0 d1 d2 d3 d4 d5
        go_wp2_with fail
        refine HA.out.mono ?_
        rintro r w7 ⟨⟨v7, rfl, hv7⟩, hb7⟩
        go_wp2_with fail
        go_roundw
        case rel => exact ⟨k + 1, by omega, by go_num, (by rw [HWT.out, ← wants_step]; exact hv7), hb3.trans ((hb5.trans (hb7.mono hb5.size)).mono hs23)⟩
        case measure => first | (simp [intOf]; omega) | simp [intOf]
      · have o1 : (e.op != 21) = true := neq_yes q1
        have o2 : (e.op != 22) = false := neq_no q2
        have HWT := Lib.hid (wantTo_yes HYK.out HE)
        have o3 : ((k : Int) == 0) = true := by rw [q3]; rfl
        clear q1 q2 q3 HE
        go_wp2_with fail
        refine HW.out.mono ?_
        rintro r w5 ⟨⟨v5, rfl, hv5⟩, hb5⟩
        obtain ⟨A6, c6, rfl, u1, u2, u3⟩ := hv5
        have hil := insAll_len (l := []) (m := wantTo e k)
        have hil2 := insAll_len (l := []) (m := wantsL y)
        simp only [List.length_nil, Nat.zero_add] at hil hil2
        have HA := Lib.hid (rall_any _ _ _ _ A5 A6 c5 c6 w5 rfl rfl g1 g2 u1 u2 (by unfold wantsF; omega) ((g3.below hb5).more hb5.size) u3)
        clear g3 u3 x0 x1 x2 x3 x4 x5 d0 d1 d2 d3 d4 d5
        go_wp2_with fail
        refine HA.out.mono ?_
        rintro r w7 ⟨⟨v7, rfl, hv7⟩, hb7⟩
        go_wp2_with fail
        go_roundw
        case rel => exact ⟨k + 1, by omega, by go_num, (by rw [HWT.out, ← wants_step]; exact hv7), hb3.trans ((hb5.trans (hb7.mono hb5.size)).mono hs23)⟩
        case measure => first | (simp [intOf]; omega) | simp [intOf]
end Go.Proofs.YtabceednmgijoaaGreat
