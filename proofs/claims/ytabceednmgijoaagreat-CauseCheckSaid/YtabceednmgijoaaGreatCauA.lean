/-
  What an expression wants at once: the contracts of cause.wants and Wants.
-/
import Derived.Test.YtabceednmgijoaaGreatCauP
import Derived.Test.YtabceednmgijoaaGreatMpS
import Derived.Test.YtabceednmgijoaaGreatUsA
import Derived.Test.YtabceednmgijoaaGreatScG
namespace Go.Proofs.YtabceednmgijoaaGreat
open Go.RowKit
attribute [local go_sem ↓] Go.wp_at_zero Go.wp_at_succ
section
variable {w w' a : World} {bm B b : Nat} {l : List ByteArray}
theorem mupd_cell (h : UpdM bm w w') (hm : MetS w bm l) {p : Addr} {u : Value} (hc : w.cell? p = some u) : w'.cell? p = some u := by
  have hb := block_lt_of_cell hc
  by_cases e : p.block = bm
  · obtain ⟨es, clock, h0⟩ := hm.isMap
    rw [← e] at h0
    simp [World.cell?, h0] at hc
  · have := h.block p.block hb e
    simp only [World.cell?, this]
    exact hc
theorem mupd_keeps (h : UpdM bm w w') (hm : MetS w bm l) : Keeps B w w' := fun _ _ _ hc => mupd_cell h hm hc
theorem mupd_row (h : UpdM bm w w') (hm : MetS w bm l) {cs : Array Value} {t : TypeId} (hr : Row w b cs t) : Row w' b cs t := by
  refine (h.block b hr.lt fun e => ?_).trans hr
  obtain ⟨es, clock, h0⟩ := hm.isMap
  have h1 : w.heap[b]? = some (.cells cs t (0, 0)) := hr
  rw [e, h0] at h1
  cases h1
end
theorem early_no (op : Int) (k : Nat) : (op = 21 ∧ ¬ Early op k) ∨ (op ≠ 21 ∧ op = 22 ∧ 0 < k ∧ ¬ Early op k) ∨ (op ≠ 21 ∧ op ≠ 22 ∧ Early op k) ∨ (op ≠ 21 ∧ op = 22 ∧ k = 0 ∧ Early op k) := by
  by_cases h : op = 21
  · exact .inl ⟨h, fun g => g.1 h⟩
  · by_cases h2 : op = 22
    · by_cases h3 : k = 0
      · exact .inr (.inr (.inr ⟨h, h2, h3, h, .inr h3⟩))
      · exact .inr (.inl ⟨h, h2, by omega, fun g => g.2.elim (fun f => f h2) h3⟩)
    · exact .inr (.inr (.inl ⟨h, h2, h, .inl h2⟩))
/-- what cause.wants leaves -/
def WantRes (e : Ex) (bm : Nat) (L : List ByteArray) (w : World) (r : Ending) (w' : World) : Prop :=
  r = .returned (.tuple #[]) ∧ (∃ L', MetS w' bm L' ∧ L'.length ≤ L.length + exSize e ∧ Hid (∀ x, x ∈ L' ↔ x ∈ L ∨ x ∈ wantsL e)) ∧ UpdM bm w w'
set_option maxRecDepth 100000 in
set_option maxHeartbeats 1000000 in
theorem wants_any (e : Ex) : ∀ (A2 : Option Addr) (cap2 bm : Nat) (L : List ByteArray) (w : World), ExOk e → e.args.length ≤ cap2 → cap2 ≤ maxLen → IsExs w w.heap.size A2 e.args → MetS w bm L → L.length + exSize e ≤ 900000 →
    Calls Tryz.prog 41 #[exV e A2 cap2, .map (some bm)] w (WantRes e bm L w) := by
  induction e using Ex.ind with
  | h e ih =>
    intro A2 cap2 bm L w ok h1 h2 hx hM hlen
    have HI := Lib.hid ih
    have rx1 := Row.new w (exA e A2 cap2) 45
    have b1 : Below w.heap.size w (w.alloc (.cells (exA e A2 cap2) 45)) := bE
    have HX := Lib.hid hx
    have hnm := ok.name
    have hbm := hM.lt
    have hM1 := hM.alloc (.cells (exA e A2 cap2) 45)
    have u1 : UpdM bm w (w.alloc (.cells (exA e A2 cap2) 45)) := Upd.of_below b1
    have hsp := exSize_pos e
    have h2' : cap2 ≤ 9223372036854775807 := by unfold maxLen at h2; omega
    clear ih hx ok
    go_enter Tryz.func41, Tryz.ntmps41
    go_upto_region 1 with (fail)
    generalize w.alloc (.cells (exA e A2 cap2) 45) = W1 at *
    have hs1 := b1.size
    have hl1 := rx1.lt
    obtain ⟨x0, x1, x2, x3, x4, x5⟩ := rx1.ex6
    go_cut [7] (fun v7 W => v7 = .int .i64 e.op ∧ W = W1)
    case first =>
      go_wp2_with fail
      go_meet
      exact ⟨rfl, rfl⟩
    obtain ⟨rfl, rfl⟩ := hcut
    rename_i hKK
    refine hKK _ _ ?_
    go_cut [] (fun W => ∃ L1, MetS W bm L1 ∧ L1.length ≤ L.length + 1 ∧ Hid (∀ x, x ∈ L1 ↔ x ∈ L ∨ x ∈ ownW e) ∧ Row W w.heap.size (exA e A2 cap2) 45 ∧ UpdM bm w W)
    case first =>
      by_cases hnb : namesB e.op = true
      · have hcs : (e.op == 3) = true ∨ ((e.op == 3) = false ∧ (e.op == 24) = true) ∨ ((e.op == 3) = false ∧ (e.op == 24) = false ∧ (e.op == 25) = true) ∨ ((e.op == 3) = false ∧ (e.op == 24) = false ∧ (e.op == 25) = false ∧ (e.op == 26) = true) := by
          rcases names_four hnb with g | g | g | g
          · exact .inl (eq_yes g)
          · exact .inr (.inl ⟨eq_no (by omega), eq_yes g⟩)
          · exact .inr (.inr (.inl ⟨eq_no (by omega), eq_no (by omega), eq_yes g⟩))
          · exact .inr (.inr (.inr ⟨eq_no (by omega), eq_no (by omega), eq_no (by omega), eq_yes g⟩))
        have HO : Hid (ownW e = [e.name]) := if_pos hnb
        clear hnb
        rcases hcs with o3 | ⟨o3, o24⟩ | ⟨o3, o24, o25⟩ | ⟨o3, o24, o25, o26⟩
        all_goals
          go_wp2_with (at_mapUpdate; refine wpList_mets rfl _ _ _ rfl bm L rfl hM1 (by omega) e.name rfl hnm rfl ?_; intro w2 m2 hg2)
          go_meet
          exact ⟨_, m2, putN_len, (by show ∀ _, _; intro x; rw [putN_mem, HO.out, List.mem_singleton]), row_map rx1 hM1 hg2, UpdM.grown u1 hg2⟩
      · have HO : Hid (ownW e = []) := if_neg hnb
        obtain ⟨n3, n24, n25, n26⟩ := names_not (bool_no hnb)
        have o3 := eq_no n3
        have o24 := eq_no n24
        have o25 := eq_no n25
        have o26 := eq_no n26
        clear n3 n24 n25 n26 hnb
        go_wp2_with fail
        go_meet
        exact ⟨L, hM1, by omega, (by show ∀ _, _; intro x; rw [HO.out]; simp), rx1, u1⟩
    case rest =>
      obtain ⟨L1, m2, hL1, HL1, rx2, u2⟩ := hcut
      obtain ⟨w2, rfl⟩ : ∃ w2 : World, w2 = wc := ⟨_, rfl⟩
      clear x0 x1 x2 x3 x4 x5
      obtain ⟨x0, x1, x2, x3, x4, x5⟩ := rx2.ex6
      go_wp2_with fail
      clear x0 x1 x2 x3 x4 x5
      go_loopw [19] (fun i wr => ∃ (k : Nat) (Lk : List ByteArray), k ≤ e.args.length ∧ i = .int .i64 k ∧ MetS wr bm Lk ∧ Lk.length ≤ L.length + (lTo e k).length ∧ Hid (∀ x, x ∈ Lk ↔ x ∈ L ∨ x ∈ wantTo e k) ∧ Row wr w.heap.size (exA e A2 cap2) 45 ∧ UpdM bm w wr ∧ w.heap.size < wr.heap.size) (fun i _ => e.args.length - (intOf i).toNat)
      case atStart => exact ⟨0, L1, Nat.zero_le _, rfl, m2, by rw [lTo_zero]; exact hL1, (by rw [wantTo_zero]; exact HL1.out), rx2, u2, rx2.lt⟩
      case round =>
        obtain ⟨k, Lk, hk, rfl, m3, hLk, HLk, rx3, u3, hl3⟩ := hrel
        have hs3 := u3.size
        obtain ⟨x0, x1, x2, x3, x4, x5⟩ := rx3.ex6
        by_cases hlt : k < e.args.length
        rotate_left 1
        · obtain rfl : k = e.args.length := by omega
          go_wp2_with fail
          go_end0
          exact ⟨rfl, ⟨Lk, m3, by rw [← lTo_end] at hLk; exact hLk, (by rw [wantTo_end]; exact HLk.out)⟩, u3⟩
        obtain ⟨b, off, y, A', cap', hA, hb, hyk, hym, hok', hcap', hmax', hy', d0, d1, d2, d3, d4, d5⟩ := (exs_keep HX.out (mupd_keeps u3 hM) (Nat.le_refl _)).at_ hlt
        subst hA
        have HYK := Lib.hid hyk
        have HLT : Hid ((lTo e (k + 1)).length = (lTo e k).length + exSize y) := by show _ = _; rw [lTo_succ hyk, List.length_append]; rfl
        have hle := lTo_le e (k + 1)
        have i0 : (0 : Int) ≤ (k : Int) := by omega
        have i1 : (k : Int) < (e.args.length : Int) := by omega
        have ry := Row.new wr (exA y A' cap') 45
        have ba : Below wr.heap.size wr (wr.alloc (.cells (exA y A' cap') 45)) := bE
        have m4 := m3.alloc (.cells (exA y A' cap') 45)
        have rx4 := rx3.alloc (.cells (exA y A' cap') 45)
        have u4 := u3.trans (UpdM.of ba)
        have HY4 : Hid (IsExs (wr.alloc (.cells (exA y A' cap') 45)) (wr.alloc (.cells (exA y A' cap') 45)).heap.size A' y.args) := exs_keep hy' (fun p u _ hc => old_cell ba hc) (by have := ba.size; omega)
        clear hyk hy' x0 x1 x2 x3 x4 x5
        go_upto_region 10 with (fail)
        clear d0 d1 d2 d3 d4 d5
        generalize hW4 : wr.alloc (.cells (exA y A' cap') 45) = w4 at *
        clear hW4
        have hl4 := rx4.lt
        obtain ⟨x0, x1, x2, x3, x4, x5⟩ := rx4.ex6
        obtain ⟨d0, d1, d2, d3, d4, d5⟩ := ry.ex6
        rw [HLT.out] at hle
        have HW := Lib.hid (HI.out y hym A' cap' bm Lk w4 hok' hcap' hmax' HY4.out m4 (by omega))
        rcases early_no e.op k with ⟨q1, HE⟩ | ⟨q1, q2, q3, HE⟩ | ⟨q1, q2, HE⟩ | ⟨q1, q2, q3, HE⟩
        · have o1 := eq_yes q1
          have HWT := Lib.hid (wantTo_no HYK.out HE)
          clear q1 HE
          go_wp2_with fail
          go_roundw
          case rel => exact ⟨k + 1, Lk, by omega, by go_num, m4, by rw [HLT.out]; omega, (by rw [HWT.out]; exact HLk.out), rx4, u4, hl4⟩
          case measure => first | (simp [intOf]; omega) | simp [intOf]
        · have o1 := eq_no q1
          have o2 := eq_yes q2
          have HWT := Lib.hid (wantTo_no HYK.out HE)
          have i2 : (0 : Int) < (k : Int) := by omega
          clear q1 q2 HE
          go_wp2_with fail
          go_roundw
          case rel => exact ⟨k + 1, Lk, by omega, by go_num, m4, by rw [HLT.out]; omega, (by rw [HWT.out]; exact HLk.out), rx4, u4, hl4⟩
          case measure => first | (simp [intOf]; omega) | simp [intOf]
        · have o1 := eq_no q1
          have o2 := eq_no q2
          have HWT := Lib.hid (wantTo_yes HYK.out HE)
          clear q1 q2 HE
          go_wp2_with fail
          refine HW.out.mono ?_
          rintro r w5 ⟨rfl, ⟨L5, m5, hL5, HL5⟩, u5⟩
          have rx5 := mupd_row u5 m4 rx4
          have u05 := u4.trans u5
          go_wp2_with fail
          go_roundw
          case rel => exact ⟨k + 1, L5, by omega, by go_num, m5, (by rw [HLT.out]; omega), (by rw [HWT.out]; intro x; rw [HL5.out, HLk.out, List.mem_append, or_assoc]), rx5, u05, rx5.lt⟩
          case measure => first | (simp [intOf]; omega) | simp [intOf]
        · have o1 := eq_no q1
          have o2 := eq_yes q2
          have HWT := Lib.hid (wantTo_yes HYK.out HE)
          subst q3
          clear q1 q2 HE
          go_wp2_with fail
          refine HW.out.mono ?_
          rintro r w5 ⟨rfl, ⟨L5, m5, hL5, HL5⟩, u5⟩
          have rx5 := mupd_row u5 m4 rx4
          have u05 := u4.trans u5
          go_wp2_with fail
          go_roundw
          case rel => exact ⟨0 + 1, L5, by omega, by go_num, m5, (by rw [HLT.out]; omega), (by rw [HWT.out]; intro x; rw [HL5.out, HLk.out, List.mem_append, or_assoc]), rx5, u05, rx5.lt⟩
          case measure => first | (simp [intOf]; omega) | simp [intOf]
end Go.Proofs.YtabceednmgijoaaGreat
