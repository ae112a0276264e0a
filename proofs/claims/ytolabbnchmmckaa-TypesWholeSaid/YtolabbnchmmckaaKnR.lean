/-
  Whether all names in an expression are somebody's: plain, and the contract of tompionref16.Knows.
-/
import Derived.Test.YtolabbnchmmckaaRfUz
import Derived.Test.YtolabbnchmmckaaTreeList
namespace Go.Proofs.Ytolabbnchmmckaa
open Go.RowKit
attribute [local go_sem ↓] Go.wp_at_zero Go.wp_at_succ
def KnX (s : List Nd) (n : Nd) (x : Ex) : Prop := (namesB x.op = true → x.name ∈ nms (vrs n)) ∧ (x.op = 4 → ∃ m, nodeAt s x.name = some m ∧ m.ins.length = x.args.length)
def KnowsP (s : List Nd) (n : Nd) (e : Ex) : Prop := ∀ x ∈ exList e, KnX s n x
theorem knows_ty {s : List Nd} {n : Nd} {e : Ex} (hs : SrcRt s) (hr : exRight e = true) (h : KnowsP s n e) : TyKn s n e := by
  simp only [exRight, Bool.and_eq_true, List.all_eq_true] at hr
  refine fun x hx => ⟨hr.1 x hx, (h x hx).1, fun h4 => ?_⟩
  obtain ⟨m, hm, hl⟩ := (h x hx).2 h4
  exact ⟨m, hm, hl, node_outs hs hm⟩
theorem ty_knows {s : List Nd} {n : Nd} {e : Ex} (h : TyKn s n e) : KnowsP s n e := fun x hx => ⟨(h x hx).name, fun h4 => by
  obtain ⟨m, hm, hl, _⟩ := (h x hx).call h4
  exact ⟨m, hm, hl⟩⟩
theorem knows_upto {s : List Nd} {n : Nd} {e : Ex} (h : ∀ j, j < (exList e).length → ∀ x, (exList e)[j]? = some x → KnX s n x) : KnowsP s n e := fun x hx => by
  obtain ⟨j, hj⟩ := List.getElem?_of_mem hx
  exact h j (List.getElem?_eq_some_iff.1 hj).1 x hj
theorem knows_not {s : List Nd} {n : Nd} {e x : Ex} {j : Nat} (hj : (exList e)[j]? = some x) (h : ¬ KnX s n x) : ¬ KnowsP s n e := fun g => h (g x (List.mem_of_getElem? hj))
set_option linter.unusedSimpArgs false in
set_option maxRecDepth 100000 in
set_option maxHeartbeats 4000000 in
theorem rknows_any (s : List Nd) (A : Option Addr) (cap : Nat) (n : Nd) (a : NdA) (e : Ex) (A2 : Option Addr) (cap2 : Nat) (w : World) (h1 : s.length ≤ cap) (h2 : cap ≤ maxLen) (hl : (vrs n).length ≤ 10000) (ok : ExOk e) (hk2 : e.args.length ≤ cap2) (hm2 : cap2 ≤ maxLen) (hsz : exSize e ≤ 1000000)
    (hs : Nds w w.heap.size A s) (hn : NdAt w w.heap.size n a) (hx : IsExs w w.heap.size A2 e.args) :
    Calls Try.prog 49 #[srcV s A cap, ndV n a, exV e A2 cap2] w fun r w' => r = .returned (.bool (cB (KnowsP s n e))) ∧ Below w.heap.size w w' := by
  have rs1 := ((Row.new w #[.slice A s.length cap] 45).alloc (.cells (ndArr n a) 40)).alloc (.cells (exA e A2 cap2) 26)
  have rn1 := (rowNew2 w (.cells #[.slice A s.length cap] 45) (ndArr n a) 40).alloc (.cells (exA e A2 cap2) 26)
  have re1 := rowNew3 w (.cells #[.slice A s.length cap] 45) (.cells (ndArr n a) 40) (exA e A2 cap2) 26
  have b1 : Below w.heap.size w (((w.alloc (.cells #[.slice A s.length cap] 45)).alloc (.cells (ndArr n a) 40)).alloc (.cells (exA e A2 cap2) 26)) := (by repeat (first | (with_reducible assumption) | (with_reducible exact Below.refl _ _) | (with_reducible refine Below.drew ?_) | (with_reducible refine below_drewN' ?_ _) | (with_reducible refine Below.alloc ?_ (by first | assumption | omega | (simp; omega) | simp | (simp [World.setCell]; omega) | simp [World.setCell]) _) | (with_reducible refine Below.setCell ?_ (by first | assumption | omega | (simp; omega) | simp | (simp [World.setCell]; omega) | simp [World.setCell]) _)))
  have HS : Hid (∀ W, Below w.heap.size w W → Nds W w.heap.size A s) := fun W hW => nds_keep hs (keeps_of hW) (Nat.le_refl _)
  have HN : Hid (∀ W, Below w.heap.size w W → NdAt W W.heap.size n a) := fun W hW => (hn.below hW).more hW.size
  have HX : Hid (∀ W, Below w.heap.size w W → IsExs W w.heap.size A2 e.args) := fun W hW => hx.below hW
  have HL := Lib.hid hl
  have HOK := Lib.hid ok
  have HK2 := Lib.hid hk2
  have HM2 := Lib.hid hm2
  have HSZ := Lib.hid hsz
  have h2' : cap ≤ 9223372036854775807 := by unfold maxLen at h2; omega
  clear hs hn hx hl ok hk2 hm2 hsz
  go_enter Try.func49, Try.ntmps49
  go_upto_region 1 with (fail)
  generalize ((w.alloc (.cells #[.slice A s.length cap] 45)).alloc (.cells (ndArr n a) 40)).alloc (.cells (exA e A2 cap2) 26) = W1 at *
  have hs1 := b1.size
  obtain ⟨x0, x1, x2, x3, x4, x5⟩ := re1.ex6
  go_wp2_with fail
  refine (list_any w.heap.size e A2 cap2 W1 HOK.out HK2.out HM2.out hs1 (HX.out W1 b1) HSZ.out).mono ?_
  rintro r w2 ⟨v, css, rfl, hown, hare, hb2⟩
  have hB2 := b1.trans (hb2.mono hs1)
  have hs2 := hB2.size
  obtain ⟨AL, cL, rfl, hnL, lL, mL, hxL⟩ := own_exs hown hare hs2
  have HXL := Lib.hid hxL
  have mL' : cL ≤ 9223372036854775807 := by unfold maxLen at mL; omega
  have rs2 := rs1.below hb2 rs1.lt
  have rn2 := rn1.below hb2 rn1.lt
  have HSZ2 : Hid ((exList e).length ≤ 1000000) := HSZ.out
  clear hown hare hnL hxL x0 x1 x2 x3 x4 x5 rs1 rn1 re1
  obtain ⟨L, HLL⟩ : ∃ L, Hid (exList e = L) := ⟨_, rfl⟩
  rw [HLL.out] at lL HXL HSZ2 ⊢
  have hL6 := HSZ2.out
  go_wp2_with fail
  go_loopw [8] (fun i wr => ∃ j : Nat, j ≤ L.length ∧ i = .int .i64 j ∧ Hid (∀ i, i < j → ∀ x, L[i]? = some x → KnX s n x) ∧ Below w2.heap.size w2 wr) (fun i _ => L.length - (intOf i).toNat)
  case atStart => exact ⟨0, Nat.zero_le _, rfl, fun j h => absurd h (by omega), Below.refl _ _⟩
  case round =>
    obtain ⟨j, hj, rfl, HJ, hbj⟩ := hrel
    have hszj := hbj.size
    have rs3 := rs2.below hbj rs2.lt
    have rn3 := rn2.below hbj rn2.lt
    have hB3 := hB2.trans (hbj.mono hs2)
    have hs3 := hB3.size
    by_cases hlj : j < L.length
    rotate_left 1
    · obtain rfl : j = L.length := by omega
      have HE : Hid (KnowsP s n e) := knows_upto (by rw [HLL.out]; exact HJ.out)
      go_wp2_with fail
      go_ret
      exact ⟨ret_bool (cB_true HE.out).symm, hB3⟩
    obtain ⟨b3, off3, x, A3, cap3, hA3, hb3, hxk, hxm, hok3, hcap3, hmax3, hx3, e0, e1, e2, e3, e4, e5⟩ := (HXL.out.below hbj).at_ hlj
    subst hA3
    have HXK := Lib.hid hxk
    have hmax3' : cap3 ≤ 9223372036854775807 := by unfold maxLen at hmax3; omega
    have rx := Row.new wr (exA x A3 cap3) 26
    have bx : Below wr.heap.size wr (wr.alloc (.cells (exA x A3 cap3) 26)) := (by repeat (first | (with_reducible assumption) | (with_reducible exact Below.refl _ _) | (with_reducible refine Below.drew ?_) | (with_reducible refine below_drewN' ?_ _) | (with_reducible refine Below.alloc ?_ (by first | assumption | omega | (simp; omega) | simp | (simp [World.setCell]; omega) | simp [World.setCell]) _) | (with_reducible refine Below.setCell ?_ (by first | assumption | omega | (simp; omega) | simp | (simp [World.setCell]; omega) | simp [World.setCell]) _)))
    have hb3' : b3 < wr.heap.size := by omega
    clear hxk hxm hx3 hok3
    go_upto_region 6 with (fail)
    clear e0 e1 e2 e3 e4 e5
    generalize hWx : wr.alloc (.cells (exA x A3 cap3) 26) = wx at *
    clear hWx
    have hsx := bx.size
    have rsx := rs3.below bx rs3.lt
    have rnx := rn3.below bx rn3.lt
    have hBx := hB3.trans (bx.mono hs3)
    have hsBx := hBx.size
    have hbx2 := hbj.trans (bx.mono hszj)
    obtain ⟨e0, e1, e2, e3, e4, e5⟩ := rx.ex6
    obtain ⟨c0, c1, cc2, c3, c4, c5, c6⟩ := rnx.nd
    have z0 := rsx.src
    have HNOT : Hid (¬ KnX s n x → cB (KnowsP s n e) = false) := fun g => cB_false (knows_not (j := j) (by rw [HLL.out]; exact HXK.out) g)
    by_cases hnb : namesB x.op = true
    · have hcs : ((x.op == 3) = true) ∨ ((x.op == 3) = false ∧ decide ((24 : Int) ≤ x.op) = true ∧ decide (x.op ≤ 26) = true) := by
        rcases names_four hnb with g | g | g | g
        · exact .inl (eq_yes g)
        · exact .inr ⟨eq_no (by omega), dec_yes (by omega), dec_yes (by omega)⟩
        · exact .inr ⟨eq_no (by omega), dec_yes (by omega), dec_yes (by omega)⟩
        · exact .inr ⟨eq_no (by omega), dec_yes (by omega), dec_yes (by omega)⟩
      have o4 : (x.op == 4) = false := eq_no (by rcases names_four hnb with g | g | g | g <;> omega)
      have HNB := Lib.hid hnb
      have HM := Lib.hid (rvar_any n a x.name wx (HN.out wx hBx) HL.out)
      have HI : Hid (∃ i, Hid (varIdx n x.name = i)) := ⟨_, rfl⟩
      obtain ⟨i, HIX⟩ := HI.out
      rw [HIX.out] at HM
      clear hnb
      by_cases hi : i < 0
      · have k0 : decide (i < 0) = true := dec_yes hi
        have HE : Hid (cB (KnowsP s n e) = false) := HNOT.out fun g => absurd (g.1 HNB.out) (var_neg.1 (by rw [HIX.out]; exact hi))
        clear hi
        rcases hcs with o3 | ⟨o3, o24, o26⟩
        all_goals
          go_wp2_with fail
          refine HM.out.mono ?_
          rintro r w4 ⟨rfl, hb4⟩
          go_wp2_with fail
          go_ret
          exact ⟨ret_bool HE.out.symm, hBx.trans (hb4.mono hsBx)⟩
      · have k0 : decide (i < 0) = false := dec_no hi
        have HKX : Hid (KnX s n x) := ⟨fun _ => var_mem.1 (by rw [HIX.out]; omega), fun h4 => by
          have := names_four HNB.out
          omega⟩
        have HJ' := Lib.hid (step_uptoI (P := fun _ x => KnX s n x) HJ.out HXK.out HKX.out)
        clear hi
        rcases hcs with o3 | ⟨o3, o24, o26⟩
        all_goals
          go_wp2_with fail
          refine HM.out.mono ?_
          rintro r w4 ⟨rfl, hb4⟩
          have rx4 := rx.below hb4 rx.lt
          clear e0 e1 e2 e3 e4 e5 c0 c1 cc2 c3 c4 c5 c6 z0
          obtain ⟨e0, e1, e2, e3, e4, e5⟩ := rx4.ex6
          go_wp2_with fail
          go_roundw
          case rel => exact ⟨j + 1, by omega, by go_num, HJ', hbx2.trans (hb4.mono hbx2.size)⟩
          case measure => first | (simp [intOf]; omega) | simp [intOf]
    · obtain ⟨n3, n24, n25, n26⟩ := names_not (bool_no hnb)
      have o3 : (x.op == 3) = false := eq_no n3
      have hr : decide ((24 : Int) ≤ x.op) = false ∨ (decide ((24 : Int) ≤ x.op) = true ∧ decide (x.op ≤ 26) = false) := by
        by_cases g : (24 : Int) ≤ x.op
        · exact .inr ⟨dec_yes g, dec_no (by omega)⟩
        · exact .inl (dec_no g)
      have HNB := Lib.hid hnb
      clear n3 n24 n25 n26 hnb
      by_cases h4 : x.op = 4
      rotate_left 1
      · have o4 : (x.op == 4) = false := eq_no h4
        have HKX : Hid (KnX s n x) := ⟨fun g => absurd g HNB.out, fun g => absurd g h4⟩
        have HJ' := Lib.hid (step_uptoI (P := fun _ x => KnX s n x) HJ.out HXK.out HKX.out)
        clear h4
        rcases hr with o24 | ⟨o24, o26⟩
        all_goals
          go_wp2_with fail
          go_roundw
          case rel => exact ⟨j + 1, by omega, by go_num, HJ', hbx2⟩
          case measure => first | (simp [intOf]; omega) | simp [intOf]
      have o4 : (x.op == 4) = true := eq_yes h4
      have o24 : decide ((24 : Int) ≤ x.op) = false := dec_no (by omega)
      have HO4 := Lib.hid h4
      have HM := Lib.hid (rnode_any s A cap x.name wx h1 h2 (nds_keep (HS.out wx hBx) (fun _ _ _ h => h) hsBx))
      clear h4 hr
      obtain ⟨k, m, hki, hkm, hme, hma⟩ | ⟨hki, hma⟩ := node_cases s x.name
      rotate_left 1
      · rw [hki] at HM
        have HE : Hid (cB (KnowsP s n e) = false) := HNOT.out fun g => by
          obtain ⟨m, hm, _⟩ := g.2 HO4.out
          rw [hma] at hm
          cases hm
        clear hki hma
        have k0 : decide ((-1 : Int) < 0) = true := rfl
        go_wp2_with fail
        refine HM.out.mono ?_
        rintro r w4 ⟨rfl, hb4⟩
        have hB4 := hBx.trans (hb4.mono hsBx)
        go_upto_region 10 with (fail)
        refine wp_region_held_drew (S := fun W => W = W) (by kernel_rfl) ?_ (fun hHeld => ?_)
        · (try dsimp only); (try rfl)
        refine wpAnyH_take (i := 0) (oi := { dst := some 50, op := _, type := _, pos := _, after := _, guard := _ }) (v := ?_) rfl (by kernel_rfl) (by kernel_rfl) (by kernel_rfl) (fun _ _ _ h => h) (Or.inl ⟨by kernel_rfl, ?_⟩) (by first | assumption | trivial) ?_
        rotate_left 1
        · intro w hSw; (try dsimp only at hSw); go_simp; (try with_reducible rfl)
        try simp only [Act.put, List.setIfInBounds_toArray, List.set_cons_zero, List.set_cons_succ]
        refine wpAnyH_take (i := 1) (oi := { dst := some 51, op := _, type := _, pos := _, after := _, guard := _ }) (v := ?_) rfl (by kernel_rfl) (by kernel_rfl) (by kernel_rfl) (fun _ _ _ h => h) (Or.inl ⟨by kernel_rfl, ?_⟩) (by first | assumption | trivial) ?_
        rotate_left 1
        · intro w hSw; (try dsimp only at hSw); go_simp; (try with_reducible rfl)
        try simp only [Act.put, List.setIfInBounds_toArray, List.set_cons_zero, List.set_cons_succ]
        refine wpAnyH_take (i := 2) (oi := { dst := some 52, op := _, type := _, pos := _, after := _, guard := _ }) (v := ?_) rfl (by kernel_rfl) (by kernel_rfl) (by kernel_rfl) (fun _ _ _ h => h) (Or.inl ⟨by kernel_rfl, ?_⟩) (by first | assumption | trivial) ?_
        rotate_left 1
        · intro w hSw; (try dsimp only at hSw); go_simp; (try with_reducible rfl)
        try simp only [Act.put, List.setIfInBounds_toArray, List.set_cons_zero, List.set_cons_succ]
        refine wpAnyH_take (i := 3) (oi := { dst := some 53, op := _, type := _, pos := _, after := _, guard := _ }) (v := undef) rfl (by kernel_rfl) (by kernel_rfl) (by kernel_rfl) (fun _ _ _ h => h) (Or.inr ⟨by kernel_rfl, rfl⟩) (by first | assumption | trivial) ?_
        try simp only [Act.put, List.setIfInBounds_toArray, List.set_cons_zero, List.set_cons_succ]
        refine wpAnyH_take (i := 4) (oi := { dst := some 54, op := _, type := _, pos := _, after := _, guard := _ }) (v := undef) rfl (by kernel_rfl) (by kernel_rfl) (by kernel_rfl) (fun _ _ _ h => h) (Or.inr ⟨by kernel_rfl, rfl⟩) (by first | assumption | trivial) ?_
        try simp only [Act.put, List.setIfInBounds_toArray, List.set_cons_zero, List.set_cons_succ]
        refine wpAnyH_take (i := 5) (oi := { dst := some 55, op := _, type := _, pos := _, after := _, guard := _ }) (v := undef) rfl (by kernel_rfl) (by kernel_rfl) (by kernel_rfl) (fun _ _ _ h => h) (Or.inr ⟨by kernel_rfl, rfl⟩) (by first | assumption | trivial) ?_
        try simp only [Act.put, List.setIfInBounds_toArray, List.set_cons_zero, List.set_cons_succ]
        refine wpAnyH_take (i := 6) (oi := { dst := some 56, op := _, type := _, pos := _, after := _, guard := _ }) (v := undef) rfl (by kernel_rfl) (by kernel_rfl) (by kernel_rfl) (fun _ _ _ h => h) (Or.inr ⟨by kernel_rfl, rfl⟩) (by first | assumption | trivial) ?_
        try simp only [Act.put, List.setIfInBounds_toArray, List.set_cons_zero, List.set_cons_succ]
        refine wpAnyH_take (i := 7) (oi := { dst := some 57, op := _, type := _, pos := _, after := _, guard := _ }) (v := undef) rfl (by kernel_rfl) (by kernel_rfl) (by kernel_rfl) (fun _ _ _ h => h) (Or.inr ⟨by kernel_rfl, rfl⟩) (by first | assumption | trivial) ?_
        try simp only [Act.put, List.setIfInBounds_toArray, List.set_cons_zero, List.set_cons_succ]
        refine wpAnyH_take (i := 8) (oi := { dst := some 58, op := _, type := _, pos := _, after := _, guard := _ }) (v := undef) rfl (by kernel_rfl) (by kernel_rfl) (by kernel_rfl) (fun _ _ _ h => h) (Or.inr ⟨by kernel_rfl, rfl⟩) (by first | assumption | trivial) ?_
        try simp only [Act.put, List.setIfInBounds_toArray, List.set_cons_zero, List.set_cons_succ]
        refine wpAnyH_take (i := 9) (oi := { dst := some 59, op := _, type := _, pos := _, after := _, guard := _ }) (v := undef) rfl (by kernel_rfl) (by kernel_rfl) (by kernel_rfl) (fun _ _ _ h => h) (Or.inr ⟨by kernel_rfl, rfl⟩) (by first | assumption | trivial) ?_
        try simp only [Act.put, List.setIfInBounds_toArray, List.set_cons_zero, List.set_cons_succ]
        refine wpAnyH_take (i := 10) (oi := { dst := some 60, op := _, type := _, pos := _, after := _, guard := _ }) (v := undef) rfl (by kernel_rfl) (by kernel_rfl) (by kernel_rfl) (fun _ _ _ h => h) (Or.inr ⟨by kernel_rfl, rfl⟩) (by first | assumption | trivial) ?_
        try simp only [Act.put, List.setIfInBounds_toArray, List.set_cons_zero, List.set_cons_succ]
        refine wpAnyH_take (i := 11) (oi := { dst := some 61, op := _, type := _, pos := _, after := _, guard := _ }) (v := undef) rfl (by kernel_rfl) (by kernel_rfl) (by kernel_rfl) (fun _ _ _ h => h) (Or.inr ⟨by kernel_rfl, rfl⟩) (by first | assumption | trivial) ?_
        try simp only [Act.put, List.setIfInBounds_toArray, List.set_cons_zero, List.set_cons_succ]
        refine wpAnyH_take (i := 12) (oi := { dst := some 62, op := _, type := _, pos := _, after := _, guard := _ }) (v := undef) rfl (by kernel_rfl) (by kernel_rfl) (by kernel_rfl) (fun _ _ _ h => h) (Or.inr ⟨by kernel_rfl, rfl⟩) (by first | assumption | trivial) ?_
        try simp only [Act.put, List.setIfInBounds_toArray, List.set_cons_zero, List.set_cons_succ]
        refine wpAnyH_take (i := 13) (oi := { dst := some 63, op := _, type := _, pos := _, after := _, guard := _ }) (v := undef) rfl (by kernel_rfl) (by kernel_rfl) (by kernel_rfl) (fun _ _ _ h => h) (Or.inr ⟨by kernel_rfl, rfl⟩) (by first | assumption | trivial) ?_
        try simp only [Act.put, List.setIfInBounds_toArray, List.set_cons_zero, List.set_cons_succ]
        refine wpAnyH_take (i := 14) (oi := { dst := some 64, op := _, type := _, pos := _, after := _, guard := _ }) (v := ?_) rfl (by kernel_rfl) (by kernel_rfl) (by kernel_rfl) (fun _ _ _ h => h) (Or.inl ⟨by kernel_rfl, ?_⟩) (by first | assumption | trivial) ?_
        rotate_left 1
        · intro w hSw; (try dsimp only at hSw); go_simp; (try with_reducible rfl)
        try simp only [Act.put, List.setIfInBounds_toArray, List.set_cons_zero, List.set_cons_succ]
        refine wpAnyH_done (by kernel_rfl) ?_ _
        go_wp2_with fail
        go_ret
        exact ⟨ret_bool HE.out.symm, hB4.drew⟩
      · rw [hki] at HM
        have hkl := (List.getElem?_eq_some_iff.1 hkm).1
        obtain ⟨b, off, m2, am, hA, hb, hm2', hmat, d0, d1, d2, d3, d4, d5, d6⟩ := (HS.out wx hBx).nd hkl
        obtain rfl : m = m2 := Option.some.inj (hkm.symm.trans hm2')
        have HMA := Lib.hid hma
        have gi := hmat.mi
        subst hA
        have i0 : (0 : Int) ≤ (k : Int) := by omega
        have i1 : (k : Int) < (s.length : Int) := by omega
        have k0 : decide ((k : Int) < 0) = false := dec_no (by omega)
        clear hki hkm hme hma hm2' hmat d0 d2 d3 d4 d5 d6
        go_wp2_with fail
        refine HM.out.mono ?_
        rintro r w4 ⟨rfl, hb4⟩
        have rx4 := rx.below hb4 rx.lt
        have rs4 := rsx.below hb4 rsx.lt
        have d14 := old_cell hb4 d1
        have hB4 := hBx.trans (hb4.mono hsBx)
        have hbx4 := hbx2.trans (hb4.mono hbx2.size)
        clear e0 e1 e2 e3 e4 e5 c0 c1 cc2 c3 c4 c5 c6 z0 d1
        obtain ⟨e0, e1, e2, e3, e4, e5⟩ := rx4.ex6
        have z0 := rs4.src
        go_upto_region 10 with (fail)
        by_cases hlen : m.ins.length = x.args.length
        · have q0 : ((m.ins.length : Int) != (x.args.length : Int)) = false := neq_no (by omega)
          have HKX : Hid (KnX s n x) := ⟨fun g => absurd g HNB.out, fun _ => ⟨m, HMA.out, hlen⟩⟩
          have HJ' := Lib.hid (step_uptoI (P := fun _ x => KnX s n x) HJ.out HXK.out HKX.out)
          clear hlen
          go_quiet (fail)
          go_wp2_with fail
          go_roundw
          case rel => exact ⟨j + 1, by omega, by go_num, HJ', below_drewN' hbx4 nq⟩
          case measure => first | (simp [intOf]; omega) | simp [intOf]
        · have q0 : ((m.ins.length : Int) != (x.args.length : Int)) = true := neq_yes (by omega)
          have HE : Hid (cB (KnowsP s n e) = false) := HNOT.out fun g => by
            obtain ⟨m', hm', hl'⟩ := g.2 HO4.out
            rw [HMA.out] at hm'
            injection hm' with hm'
            subst hm'
            exact hlen hl'
          clear hlen
          go_quiet (fail)
          go_wp2_with fail
          go_ret
          exact ⟨ret_bool HE.out.symm, below_drewN' hB4 nq⟩
end Go.Proofs.Ytolabbnchmmckaa
