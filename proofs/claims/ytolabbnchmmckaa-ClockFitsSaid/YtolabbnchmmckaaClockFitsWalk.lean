/-
  ClockFits: the walk.
-/
import Derived.Test.YtolabbnchmmckaaClkH
import Derived.Test.YtolabbnchmmckaaFewM
namespace Go.Proofs.Ytolabbnchmmckaa
open Go.RowKit Nm
attribute [local go_sem ↓] Go.wp_at_zero Go.wp_at_succ
theorem fit_of_small {e : Ex} {on : List Lt} (h : Small e ∧ exSize e ≤ 200) (h' : on.length ≤ 10) : on.length + exSize e ≤ 1000 := by omega
set_option maxRecDepth 100000 in
set_option maxHeartbeats 8000000 in
theorem clockFits_walk (n : Nd) (a : NdA) (e : Ex) (A : Option Addr) (cap : Nat) (on : List Lt) (A2 : Option Addr) (c2 : Nat) (w : World) (hn : NdAt w w.heap.size n a) (hok : ExOk e) (hcap : e.args.length ≤ cap) (hmax : cap ≤ maxLen) (hx : IsExs w w.heap.size A e.args)
    (hc2 : on.length ≤ c2) (hm2 : c2 ≤ maxLen) (hcl : Sl w w.heap.size 2 isLit A2 on) :
    Calls Try.prog 5 #[ndV n a, exV e A cap, .slice A2 on.length c2] w fun r w' => r = .returned (.bool true) ∧ Below w.heap.size w w' := by
  have b1 : Below w.heap.size w ((w.alloc (.cells (ndArr n a) 40)).alloc (.cells (exArr e A cap) 26)) := ((Below.refl _ _).alloc (Nat.le_refl _) _).alloc (by simp) _
  have rn1 := (Row.new w (ndArr n a) 40).alloc (.cells (exArr e A cap) 26)
  have re1 := rowNew2 w (.cells (ndArr n a) 40) (exArr e A cap) 26
  have HN := Lib.hid hn
  have HX := Lib.hid hx
  have HC := Lib.hid hcl
  have hm2' : c2 ≤ 9223372036854775807 := by unfold maxLen at hm2; omega
  clear hn hx hcl
  go_enter Try.func5, Try.ntmps5
  go_upto_region 1 with (fail)
  generalize ((w.alloc (.cells (ndArr n a) 40)).alloc (.cells (exArr e A cap) 26)) = W1 at *
  have hs1 := b1.size
  go_wp2_with fail
  refine (awake18_any W1).mono ?_
  rintro r W2 ⟨rfl, hb2⟩
  have rn2 := rn1.below hb2 rn1.lt
  have re2 := re1.below hb2 re1.lt
  have b2 := b1.trans (hb2.mono hs1)
  have hs2 := b2.size
  clear rn1 re1 b1 hb2 hs1
  obtain ⟨c0, c1, cc2, c3, c4, c5, c6⟩ := rn2.nd
  have rs := Row.new W2 (ndArr n a) 40
  have b3 : Below W2.heap.size W2 (W2.alloc (.cells (ndArr n a) 40)) := (Below.refl _ _).alloc (Nat.le_refl _) _
  have HS : Hid (Nds (W2.alloc (.cells (ndArr n a) 40)) (W2.alloc (.cells (ndArr n a) 40)).heap.size (some ⟨W2.heap.size, 0, none⟩) [n]) :=
    sl_one (cs := ndCs n a) rs rs.lt ⟨a, rfl, HN.out.keep (keeps_of (b2.trans (b3.mono hs2))) (by simp; omega)⟩
  go_wp2_with fail
  refine (fewNodes_any [n] (some ⟨W2.heap.size, 0, none⟩) 1 (W2.alloc (.cells (ndArr n a) 40)) (Nat.le_refl _) (by decide) HS.out).mono ?_
  rintro r W3 ⟨⟨bf, rfl, HFN⟩, hb3⟩
  have rn3 := rn2.below (b3.trans (hb3.mono (by simp))) rn2.lt
  have re3 := re2.below (b3.trans (hb3.mono (by simp))) re2.lt
  have b3' := b2.trans ((b3.trans (hb3.mono (by simp))).mono hs2)
  have hs3 := b3'.size
  clear rn2 re2 b2 b3 hb3 hs2 HS rs c0 c1 cc2 c3 c4 c5 c6
  cases bf
  · go_wp2_with fail
    go_ret
    exact ⟨rfl, b3'⟩
  have HSM : Hid (NdSm n) := (HFN.out (by first | rfl | trivial)).all n (by simp)
  clear HFN
  obtain ⟨x0, x1, x2, x3, x4, x5⟩ := re3.ex
  go_wp2_with fail
  refine (few_any e A cap W3 hok hcap hmax (exs_keep HX.out (keeps_of b3') hs3)).mono ?_
  rintro r W4 ⟨rfl, hb4⟩
  have rn4 := rn3.below hb4 rn3.lt
  have re4 := re3.below hb4 re3.lt
  have b4 := b3'.trans (hb4.mono hs3)
  have hs4 := b4.size
  clear rn3 re3 b3' hb4 hs3 x0 x1 x2 x3 x4 x5
  by_cases hfew : fewB e = true
  rotate_left 1
  · have hfew' : fewB e = false := by simpa using hfew
    rw [hfew']
    clear hfew hfew'
    go_wp2_with fail
    go_ret
    exact ⟨rfl, b4⟩
  have HFS := Lib.hid (few_small hfew)
  rw [hfew]
  clear hfew
  by_cases hon : 10 < on.length
  · have hon' : decide (10 < (on.length : Int)) = true := by simp; omega
    go_wp2_with fail
    go_ret
    exact ⟨rfl, b4⟩
  have hon' : decide (10 < (on.length : Int)) = false := by simp; omega
  have HSZ := Lib.hid (fit_of_small (on := on) HFS.out (by omega))
  obtain ⟨x0, x1, x2, x3, x4, x5⟩ := re4.ex
  go_wp2_with fail
  refine (rnames_any e A cap W4 hok hcap hmax (exs_keep HX.out (keeps_of b4) hs4) (by have := HFS.out.2; omega)).mono ?_
  rintro r W5 ⟨⟨v5, rfl, hso⟩, hb5⟩
  obtain ⟨A5, k5, rfl, hl5, hm5, hs5⟩ := hso.sl
  have rn5 := rn4.below hb5 rn4.lt
  have re5 := re4.below hb5 re4.lt
  have b5 := b4.trans (hb5.mono hs4)
  have hs5' := b5.size
  have hm5' : k5 ≤ 9223372036854775807 := by unfold maxLen at hm5; omega
  have HS5 := Lib.hid hs5
  clear rn4 re4 b4 hb5 hs4 x0 x1 x2 x3 x4 x5 hso hs5
  obtain ⟨x0, x1, x2, x3, x4, x5⟩ := re5.ex
  have HKB : Hid (knownB n e = (exRight e && (nmsOf (exList e)).all (fun nm => decide (0 ≤ varIdx n nm)))) := rfl
  go_wp2_with fail
  refine (rright_any e A cap W5 hok hcap hmax (exs_keep HX.out (keeps_of b5) hs5') HFS.out.1).mono ?_
  rintro r W6 ⟨rfl, hb6⟩
  have rn6 := rn5.below hb6 rn5.lt
  have re6 := re5.below hb6 re5.lt
  have b6 := b5.trans (hb6.mono hs5')
  have hs6 := b6.size
  have HS6 := Lib.hid (strs_keep HS5.out (keeps_of hb6) hb6.size)
  clear rn5 re5 b5 hb6 hs5' x0 x1 x2 x3 x4 x5 HS5
  generalize hgl : nmsOf (exList e) = l at *
  clear hgl
  generalize hgr : exRight e = rt at *
  clear hgr
  go_wp2_with fail
  go_loopw [8, 38] (fun v i wr => ∃ (k : Nat) (K : Bool), k ≤ l.length ∧ i = .int .i64 k ∧ v = .bool K ∧ Hid (K = (rt && (l.take k).all (fun nm => decide (0 ≤ varIdx n nm)))) ∧ Below W6.heap.size W6 wr) (fun _ i _ => l.length - (intOf i).toNat)
  case atStart => exact ⟨0, rt, Nat.zero_le _, rfl, rfl, (by simp : rt = (rt && true)), Below.refl _ _⟩
  case round =>
    obtain ⟨k, K, hk, rfl, rfl, HK, hbr⟩ := hrel
    have hszr := hbr.size
    have rnr := rn6.below hbr rn6.lt
    have bB := b6.trans (hbr.mono hs6)
    by_cases hlt : k < l.length
    · obtain ⟨b, off, nm, rfl, hb, hxk, hsx, d0⟩ := (strs_keep HS6.out (keeps_of hbr) (Nat.le_refl _)).str hlt
      have HA := Lib.hid (all_snoc (p := fun nm => decide (0 ≤ varIdx n nm)) hxk)
      obtain ⟨c0, c1, cc2, c3, c4, c5, c6⟩ := rnr.nd
      clear hxk
      go_wp2_with fail
      refine (of_any n a nm wr ((HN.out.below bB).more bB.size) HSM.out).mono ?_
      rintro r W7 ⟨⟨A7, k7, rfl, l7, m7, s7⟩, hb7⟩
      have rn7 := rnr.below hb7 rnr.lt
      have b7 := bB.trans (hb7.mono bB.size)
      have hs7 := hb7.size
      have HS7 := Lib.hid s7
      clear s7 c0 c1 cc2 c3 c4 c5 c6
      obtain ⟨c0, c1, cc2, c3, c4, c5, c6⟩ := rn7.nd
      by_cases hv : 0 ≤ varIdx n nm
      · have HV := Lib.hid hv
        have HK2 : Hid (K = (rt && (l.take (k + 1)).all (fun nm => decide (0 ≤ varIdx n nm)))) := by
          show _ = _
          rw [HA.out, ← Bool.and_assoc, ← HK.out, decide_eq_true hv, Bool.and_true]
        have hvd : decide (0 ≤ varIdx n nm) = true := decide_eq_true hv
        rw [cB_true hv]
        clear hv
        go_wp2_with fail
        refine (rvar_any n a nm W7 ((HN.out.below b7).more b7.size) (by have := HSM.out.len; omega)).mono ?_
        rintro r W8 ⟨rfl, hb8⟩
        have rn8 := rn7.below hb8 rn7.lt
        have b8 := b7.trans (hb8.mono b7.size)
        have hs8 := hb8.size
        clear c0 c1 cc2 c3 c4 c5 c6
        obtain ⟨c0, c1, cc2, c3, c4, c5, c6⟩ := rn8.nd
        have HR := Lib.hid (rof_any n a nm W8 ((HN.out.below b8).more b8.size) HSM.out HV.out)
        cases K
        all_goals
          go_wp2_with fail
          refine HR.out.mono ?_
          rintro r W9 ⟨⟨v9, rfl, A9, k9, rfl, l9, m9, s9⟩, hb9⟩
          have hs9 := hb9.size
          have HE := Lib.hid (rlits_any (clockOf n nm) (clockOf n nm) A7 A9 k7 k9 W9.heap.size W9 l7 m7 (lits_keep HS7.out (keeps_of (hb8.trans (hb9.mono hs8))) (by omega)) l9 m9 s9)
          have b9 := b8.trans (hb9.mono b8.size)
          clear s9
          go_wp2_with fail
          refine HE.out.mono ?_
          rintro r W10 ⟨rfl, nn, rfl⟩
          first | rw [cB_true trivial] | rw [cB_true rfl]
          clear HE
          go_wp2_with fail
          go_roundw
          case rel => exact ⟨k + 1, _, by omega, by go_num, rfl, HK2, below_drewN' (hbr.trans ((hb7.mono hszr).trans ((hb8.mono (by omega)).trans (hb9.mono (by omega))))) nn⟩
          case measure => simp [intOf]; omega
      · have hv1 : varIdx n nm = -1 := (var_cases n nm).elim (fun ⟨k', _, h, _⟩ => absurd (by rw [h]; omega) hv) id
        have HK2 : Hid (false = (rt && (l.take (k + 1)).all (fun nm => decide (0 ≤ varIdx n nm)))) := by
          show _ = _
          rw [HA.out, decide_eq_false hv, Bool.and_false, Bool.and_false]
        have HC0 := Lib.hid (clock_no hv1)
        have hvd : decide (0 ≤ varIdx n nm) = false := decide_eq_false hv
        rw [cB_false hv, HC0.out]
        clear hv hv1
        go_wp2_with fail
        refine (rvar_any n a nm W7 ((HN.out.below b7).more b7.size) (by have := HSM.out.len; omega)).mono ?_
        rintro r W8 ⟨rfl, hb8⟩
        cases K
        all_goals
          go_wp2_with fail
          go_roundw
          case rel => exact ⟨k + 1, false, by omega, by go_num, rfl, HK2, hbr.trans ((hb7.mono hszr).trans (hb8.mono (by omega)))⟩
          case measure => simp [intOf]; omega
    · obtain rfl : k = l.length := by omega
      have HK3 : Hid (knownB n e = K) := by show _ = _; rw [HKB.out, HK.out, List.take_length]
      have rer := re6.below hbr re6.lt
      obtain ⟨c0, c1, cc2, c3, c4, c5, c6⟩ := rnr.nd
      obtain ⟨x0, x1, x2, x3, x4, x5⟩ := rer.ex
      clear HK HKB
      go_wp2_with fail
      refine (sfits_any n a HSM.out e A cap on A2 c2 wr ((HN.out.below bB).more bB.size) hok hcap hmax (exs_keep HX.out (keeps_of bB) bB.size) HSZ.out hc2 hm2 (lits_keep HC.out (keeps_of bB) bB.size)).mono ?_
      rintro r W7 ⟨rfl, hb7⟩
      have rn7 := rnr.below hb7 rnr.lt
      have re7 := rer.below hb7 rer.lt
      have b7 := bB.trans (hb7.mono bB.size)
      clear c0 c1 cc2 c3 c4 c5 c6 x0 x1 x2 x3 x4 x5
      cases K
      · have HF : Hid (fitsTop n e on = ⟨2, 0, 0⟩) := by show _ = _; unfold fitsTop; rw [HK3.out]; rfl
        rw [HF.out]
        go_wp2_with fail
        go_ret
        exact ⟨rfl, b7.alloc b7.size _⟩
      · have HF : Hid (fitsTop n e on = fitsP n e on) := by show _ = _; unfold fitsTop; rw [if_pos HK3.out]
        rw [HF.out]
        have HRF : Hid (∀ W : World, Below W7.heap.size W7 W → Calls Try.prog 29 #[ndV n a, exV e A cap, .slice A2 on.length c2] W fun r w' => r = .returned (ftV (fitsP n e on)) ∧ Below W.heap.size W w') := fun W hW => by
          have hB := b7.trans (hW.mono b7.size)
          exact rfits_any n a HSM.out e A cap on A2 c2 W ((HN.out.below hB).more hB.size) hok hcap hmax (exs_keep HX.out (keeps_of hB) hB.size) (known_all HK3.out) HSZ.out hc2 hm2 (lits_keep HC.out (keeps_of hB) hB.size)
        generalize fitsP n e on = f at *
        have hs7 := b7.size
        have b8 : Below W7.heap.size W7 (W7.alloc (.cells (ftArr f) 31)) := (Below.refl _ _).alloc (Nat.le_refl _) _
        have rF := Row.new W7 (ftArr f) 31
        have rn8 := rn7.below b8 rn7.lt
        have re8 := re7.below b8 re7.lt
        go_upto_region 19 with (fail)
        generalize W7.alloc (.cells (ftArr f) 31) = W8 at *
        have HKK : Hid (∀ W : World, Below W8.heap.size W8 W → (W.cell? ⟨W7.heap.size, 0, none⟩ = some (.int .i64 f.err) ∧ W.cell? ⟨W7.heap.size, 1, none⟩ = some (.int .i64 f.line) ∧ W.cell? ⟨W7.heap.size, 2, none⟩ = some (.int .i64 f.col)) ∧ (W.cell? ⟨w.heap.size, 0, none⟩ = some (.string n.name) ∧ W.cell? ⟨w.heap.size, 1, none⟩ = some (.slice a.ai n.ins.length a.ci) ∧ W.cell? ⟨w.heap.size, 2, none⟩ = some (.slice a.ao n.outs.length a.co) ∧ W.cell? ⟨w.heap.size, 3, none⟩ = some (.slice a.av n.vars.length a.cv) ∧ W.cell? ⟨w.heap.size, 4, none⟩ = some (.slice a.aq n.eqs.length a.cq) ∧ W.cell? ⟨w.heap.size, 5, none⟩ = some (.int .i64 n.line) ∧ W.cell? ⟨w.heap.size, 6, none⟩ = some (.int .i64 n.col)) ∧ (W.cell? ⟨w.heap.size + 1, 0, none⟩ = some (.int .i64 e.op) ∧ W.cell? ⟨w.heap.size + 1, 1, none⟩ = some (.string e.name) ∧ W.cell? ⟨w.heap.size + 1, 2, none⟩ = some (.int .i64 e.n) ∧ W.cell? ⟨w.heap.size + 1, 3, none⟩ = some (.slice A e.args.length cap) ∧ W.cell? ⟨w.heap.size + 1, 4, none⟩ = some (.int .i64 e.line) ∧ W.cell? ⟨w.heap.size + 1, 5, none⟩ = some (.int .i64 e.col))) := fun W hW => ⟨(rF.below hW rF.lt).three.1, (rn8.below hW rn8.lt).nd, (re8.below hW re8.lt).ex⟩
        obtain ⟨⟨f0, f1, f2⟩, ⟨c0, c1, cc2, c3, c4, c5, c6⟩, ⟨x0, x1, x2, x3, x4, x5⟩⟩ := HKK.out W8 (Below.refl _ _)
        have hs8 := b8.size
        have e0 : (f.err == f.err) = true := by simp
        have e1 : (f.line == f.line) = true := by simp
        have e2 : (f.col == f.col) = true := by simp
        go_region_held3 (fun W => (W.cell? ⟨W7.heap.size, 0, none⟩ = some (.int .i64 f.err) ∧ W.cell? ⟨W7.heap.size, 1, none⟩ = some (.int .i64 f.line) ∧ W.cell? ⟨W7.heap.size, 2, none⟩ = some (.int .i64 f.col)) ∧ (W.cell? ⟨w.heap.size, 0, none⟩ = some (.string n.name) ∧ W.cell? ⟨w.heap.size, 1, none⟩ = some (.slice a.ai n.ins.length a.ci) ∧ W.cell? ⟨w.heap.size, 2, none⟩ = some (.slice a.ao n.outs.length a.co) ∧ W.cell? ⟨w.heap.size, 3, none⟩ = some (.slice a.av n.vars.length a.cv) ∧ W.cell? ⟨w.heap.size, 4, none⟩ = some (.slice a.aq n.eqs.length a.cq) ∧ W.cell? ⟨w.heap.size, 5, none⟩ = some (.int .i64 n.line) ∧ W.cell? ⟨w.heap.size, 6, none⟩ = some (.int .i64 n.col)) ∧ (W.cell? ⟨w.heap.size + 1, 0, none⟩ = some (.int .i64 e.op) ∧ W.cell? ⟨w.heap.size + 1, 1, none⟩ = some (.string e.name) ∧ W.cell? ⟨w.heap.size + 1, 2, none⟩ = some (.int .i64 e.n) ∧ W.cell? ⟨w.heap.size + 1, 3, none⟩ = some (.slice A e.args.length cap) ∧ W.cell? ⟨w.heap.size + 1, 4, none⟩ = some (.int .i64 e.line) ∧ W.cell? ⟨w.heap.size + 1, 5, none⟩ = some (.int .i64 e.col)))
          (first | exact HKK.out _ (by repeat (first | exact hb9 | exact Below.refl _ _ | refine Below.drew ?_ | refine below_drewN' ?_ _ | refine Below.alloc ?_ (by first | omega | (simp; omega) | simp) _ | refine Below.setCell ?_ (by first | omega | (simp; omega) | simp) _)) | go_keep)
          (first | ((go_at_call 29); (refine (HRF.out _ (Below.trans b8 (by repeat (first | exact Below.refl _ _ | exact Below.refl _ _ | refine Below.drew ?_ | refine below_drewN' ?_ _ | refine Below.alloc ?_ (by first | omega | (simp; omega) | simp) _ | refine Below.setCell ?_ (by first | omega | (simp; omega) | simp) _)))).mono ?_); rintro r W9 ⟨rfl, hb9'⟩; (have hb9 : Below W8.heap.size W8 W9 := Below.trans (by repeat (first | exact Below.refl _ _ | exact Below.refl _ _ | refine Below.drew ?_ | refine below_drewN' ?_ _ | refine Below.alloc ?_ (by first | omega | (simp; omega) | simp) _ | refine Below.setCell ?_ (by first | omega | (simp; omega) | simp) _)) (hb9'.mono (by first | exact Nat.le_refl _ | (simp; omega) | simp)))))
        all_goals
          go_wp2_with fail
          go_ret
          exact ⟨by first | rfl | simp, by first | exact b7.trans ((b8.trans (hb9.mono hs8)).mono hs7) | exact (b7.trans ((b8.trans (hb9.mono hs8)).mono hs7)).drew⟩
end Go.Proofs.Ytolabbnchmmckaa
