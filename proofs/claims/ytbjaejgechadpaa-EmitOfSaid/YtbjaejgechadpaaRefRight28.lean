/-
  The contracts of tompionref28's skipped and Right.
-/
import Derived.Test.YtbjaejgechadpaaRefTakes
namespace Go.Proofs.Ytbjaejgechadpaa
open Go.RowKit Vf
section
variable {p : Pg} {vi vo vc vd : Value}
def skips (p : Pg) (i j : Nat) : Prop := ∃ x, p.code[j]? = some x ∧ (x.op = 30 ∨ x.op = 31) ∧ (i : Int) - j ≤ x.k
theorem skips_no {i k : Nat} {x : In5} (hx : p.code[k]? = some x) (h : ¬ ((x.op = 30 ∨ x.op = 31) ∧ (i : Int) - k ≤ x.k)) : ¬ skips p i k := fun ⟨y, hy, h1⟩ => by
  rw [hx] at hy
  injection hy with hy
  rw [← hy] at h1
  exact h h1
theorem skipped_no {i : Nat} (h : ∀ j, j < i → ¬ skips p i j) : ¬ skipped p i := fun ⟨k, x, hk, hx, h1, h2⟩ => h k hk ⟨x, hx, h1, h2⟩
set_option maxRecDepth 100000 in
set_option maxHeartbeats 2000000 in
theorem skipped_any {i : Nat} (hi : i ≤ p.code.length) (w : World) (h : PgAt w w.heap.size p vi vo vc vd) :
    Calls Try.prog 53 #[pgV p vi vo vc vd, .int .i64 i] w fun e w' => e = .returned (.bool (cB (skipped p i))) ∧ Below w.heap.size w w' := by
  obtain ⟨⟨Ai, ci, rfl, li, mi, si⟩, ⟨Ao, co, rfl, lo, mo, so⟩, hreg, ⟨Ac, cc, rfl, lc, mc, sc⟩, ⟨Ad, cd, rfl, ld, md, sd⟩⟩ := h
  have md' : cd ≤ 9223372036854775807 := by unfold maxLen at md; omega
  have b0 : Below w.heap.size w (w.alloc (.cells #[.slice Ai p.ins.length ci, .slice Ao p.outs.length co, .int .i64 p.regs, .slice Ac p.cells.length cc, .slice Ad p.code.length cd] 26)) := (Below.refl _ _).alloc (Nat.le_refl _) _
  have sd0 := sd.below b0
  clear sd si so sc
  go_enter Try.func53, Try.ntmps53
  go_wp2_with fail
  go_loop [5] (fun s => ∃ k : Nat, k ≤ i ∧ s = .int .i64 k ∧ Hid (∀ j, j < k → ¬ skips p i j)) (fun s => i - (intOf s).toNat)
  case atStart => exact ⟨0, Nat.zero_le _, rfl, fun j h => absurd h (by omega)⟩
  case round =>
    obtain ⟨k, hk, rfl, HN⟩ := hrel
    by_cases hlt : k < i
    · obtain ⟨b, off, x, rfl, hb, hxk, hok, c0, c1, c2, c3, c4⟩ := sd0.in5 (show k < p.code.length by omega)
      have hkl : (k : Int) < p.code.length := by omega
      have hkw := hok.k.le
      by_cases ho : x.op = 30 ∨ x.op = 31
      · by_cases hs : (i : Int) - k ≤ x.k
        · have HF := Lib.hid (cB_true (show skipped p i from ⟨k, x, hlt, hxk, ho, hs⟩))
          clear hxk
          rcases ho with ho | ho
          · have o1 : (x.op == 30) = true := by simp [ho]
            clear ho
            go_wp2_with fail
            go_ret
            exact ⟨ret_bool HF.out.symm, b0⟩
          · have o1 : (x.op == 30) = false := by simp [ho]
            have o2 : (x.op == 31) = true := by simp [ho]
            clear ho
            go_wp2_with fail
            go_ret
            exact ⟨ret_bool HF.out.symm, b0⟩
        · have HN' := Lib.hid (upto_succ HN.out (skips_no hxk (fun g => hs g.2)))
          clear hxk
          rcases ho with ho | ho
          · have o1 : (x.op == 30) = true := by simp [ho]
            clear ho
            go_wp2_with fail
            go_round
            case rel => exact ⟨k + 1, by omega, by go_num, HN'⟩
            case measure => simp [intOf]; omega
          · have o1 : (x.op == 30) = false := by simp [ho]
            have o2 : (x.op == 31) = true := by simp [ho]
            clear ho
            go_wp2_with fail
            go_round
            case rel => exact ⟨k + 1, by omega, by go_num, HN'⟩
            case measure => simp [intOf]; omega
      · have HN' := Lib.hid (upto_succ HN.out (skips_no hxk (fun g => ho g.1)))
        have o1 : (x.op == 30) = false := by simp; omega
        have o2 : (x.op == 31) = false := by simp; omega
        clear hxk ho
        go_wp2_with fail
        go_round
        case rel => exact ⟨k + 1, by omega, by go_num, HN'⟩
        case measure => simp [intOf]; omega
    · obtain rfl : k = i := by omega
      have HF := Lib.hid (cB_false (skipped_no HN.out))
      go_wp2_with fail
      go_ret
      exact ⟨ret_bool HF.out.symm, b0⟩

theorem right_no {k : Nat} {x : In5} (hx : p.code[k]? = some x) (h : ¬ instrRight p k x) : ¬ rightOk p := fun g => h (g.2.1 k x hx)
theorem right_outs {o : Nat} (ho : o < p.outs.length) (h : outCount p o p.code ≠ 1) : ¬ rightOk p := fun g => h (g.2.2 o ho)
theorem right_yes (hm : mayOk p) (h1 : ∀ j, j < p.code.length → ∀ x, p.code[j]? = some x → instrRight p j x) (h2 : ∀ o, o < p.outs.length → outCount p o p.code = 1) : rightOk p :=
  ⟨hm, fun i x hx => h1 i (List.getElem?_eq_some_iff.1 hx).1 x hx, h2⟩
theorem outCount_snoc {o : Int} {x : In5} : ∀ l : List In5, outCount p o (l ++ [x]) = outCount p o l + (if x.op = 29 ∧ x.k = o then 1 else 0)
  | [] => by simp [outCount]
  | y :: l => by rw [List.cons_append, outCount, outCount, outCount_snoc l]; omega
theorem outCount_take {o : Int} {k : Nat} {x : In5} (hx : p.code[k]? = some x) : outCount p o (p.code.take (k + 1)) = outCount p o (p.code.take k) + (if x.op = 29 ∧ x.k = o then 1 else 0) := by
  obtain ⟨h, e⟩ := List.getElem?_eq_some_iff.1 hx
  rw [List.take_succ_eq_append_getElem h, outCount_snoc, e]
theorem outCount_le {o : Int} : ∀ l : List In5, outCount p o l ≤ l.length
  | [] => by simp [outCount]
  | y :: l => by rw [outCount, List.length_cons]; have := outCount_le (o := o) l; split <;> omega
set_option maxRecDepth 100000 in
set_option maxHeartbeats 8000000 in
theorem kright_any (w : World) (h : PgAt w w.heap.size p vi vo vc vd) :
    Calls Try.prog 16 #[pgV p vi vo vc vd] w fun e w' => e = .returned (.bool (cB (rightOk p))) ∧ Below w.heap.size w w' := by
  have HP := Lib.hid h
  have b0 : Below w.heap.size w (w.alloc (.cells #[vi, vo, .int .i64 p.regs, vc, vd] 26)) := (Below.refl _ _).alloc (Nat.le_refl _) _
  have hM := Lib.hid (rmay_any p vi vo vc vd _ (h.next b0))
  clear b0
  obtain ⟨⟨Ai, ci, rfl, li, mi, si⟩, ⟨Ao, co, rfl, lo, mo, so⟩, hreg, ⟨Ac, cc, rfl, lc, mc, sc⟩, ⟨Ad, cd, rfl, ld, md, sd⟩⟩ := h
  have mo' : co ≤ 9223372036854775807 := by unfold maxLen at mo; omega
  have md' : cd ≤ 9223372036854775807 := by unfold maxLen at md; omega
  clear si so sc
  go_enter Try.func16, Try.ntmps16
  go_wp2_with fail
  refine hM.out.mono ?_
  rintro e w0 ⟨rfl, hb0⟩
  have hbox0 : Below (w.heap.size + 1) (w.alloc (.cells #[.slice Ai p.ins.length ci, .slice Ao p.outs.length co, .int .i64 p.regs, .slice Ac p.cells.length cc, .slice Ad p.code.length cd] 26)) w0 := by simpa using hb0
  obtain ⟨⟨q0, q1, q2, q3, q4⟩, hbel0, hsz0⟩ := pgBox hbox0
  generalize hV : cB (mayOk p) = V at *
  have HV := Lib.hid hV
  clear hV hb0 hM
  cases V
  · have HF := Lib.hid (cB_false (fun g : rightOk p => cB_not.1 HV.out g.1))
    go_wp2_with fail
    go_ret
    exact ⟨ret_bool HF.out.symm, hbel0⟩
  have HM := Lib.hid (cB_iff.1 HV.out)
  go_wp2_with fail
  go_loopw [3] (fun s wr => ∃ k : Nat, k ≤ p.code.length ∧ s = .int .i64 k ∧ Hid (∀ j, j < k → ∀ x, p.code[j]? = some x → instrRight p j x) ∧ Below (w.heap.size + 1) (w.alloc (.cells #[.slice Ai p.ins.length ci, .slice Ao p.outs.length co, .int .i64 p.regs, .slice Ac p.cells.length cc, .slice Ad p.code.length cd] 26)) wr) (fun s _ => p.code.length - (intOf s).toNat)
  case atStart => exact ⟨0, Nat.zero_le _, rfl, fun j h => absurd h (by omega), hbox0⟩
  case round =>
    clear hbox0 hbel0 hsz0 q0 q1 q2 q3 q4
    obtain ⟨k, hk, rfl, HN, hbox⟩ := hrel
    obtain ⟨⟨q0, q1, q2, q3, q4⟩, hbel, hsz⟩ := pgBox hbox
    by_cases hlt : k < p.code.length
    · obtain ⟨b, off, x, rfl, hb, hxk, hok, c0, c1, c2, c3, c4⟩ := (sd.below hbel).in5 hlt
      have HK := Lib.hid hxk
      have hkl : (k : Int) < p.code.length := by omega
      clear hxk
      have HI := Lib.hid (HM.out.2.1 x (List.mem_of_getElem? HK.out))
      have hA1 := hbox.alloc (by omega) (.cells #[.int .i64 x.op, .int .i64 x.a, .int .i64 x.b, .int .i64 x.c, .int .i64 x.k] 30)
      have bX1 := Row.new wr #[.int .i64 x.op, .int .i64 x.a, .int .i64 x.b, .int .i64 x.c, .int .i64 x.k] 30
      go_upto_region 7 with (fail)
      generalize wr.alloc (.cells #[.int .i64 x.op, .int .i64 x.a, .int .i64 x.b, .int .i64 x.c, .int .i64 x.k] 30) = W1 at *
      generalize wr.heap.size = gx at *
      clear q0 q1 q2 q3 q4 hbel hbox c0 c1 c2 c3 c4
      obtain ⟨⟨q0, q1, q2, q3, q4⟩, hbel1, hsz1⟩ := pgBox hA1
      have hP1 := HP.out.next hbel1
      have x0 := bX1.cell 0
      have x1 := bX1.cell 1
      have x2 := bX1.cell 2
      have x3 := bX1.cell 3
      have x4 := bX1.cell 4
      simp only [List.getElem?_toArray, List.getElem?_cons_zero, List.getElem?_cons_succ] at x0 x1 x2 x3 x4
      go_wp2_with fail
      refine (rtakes_any _ HK.out hP1 HI.out).mono ?_
      rintro e w2 ⟨rfl, hb2⟩
      have hA2 := hA1.trans (hb2.mono hsz1)
      have bX2 := bX1.below hb2 bX1.lt
      clear q0 q1 q2 q3 q4 x0 x1 x2 x3 x4 hb2 hP1 hbel1
      obtain ⟨⟨q0, q1, q2, q3, q4⟩, hbel2, hsz2⟩ := pgBox hA2
      have hP2 := HP.out.next hbel2
      have x0 := bX2.cell 0
      have x1 := bX2.cell 1
      have x2 := bX2.cell 2
      have x3 := bX2.cell 3
      have x4 := bX2.cell 4
      simp only [List.getElem?_toArray, List.getElem?_cons_zero, List.getElem?_cons_succ] at x0 x1 x2 x3 x4
      generalize hV2 : cB (takesOk p (pairs p k) k x) = V2 at *
      have HV2 := Lib.hid hV2
      clear hV2
      cases V2
      · have HF := Lib.hid (cB_false (right_no HK.out (fun g => cB_not.1 HV2.out g.1)))
        go_wp2_with fail
        go_ret
        exact ⟨ret_bool HF.out.symm, hbel2⟩
      have HT := Lib.hid (cB_iff.1 HV2.out)
      clear HV2
      by_cases ho : x.op < 29
      · go_wp2_with fail
        refine (gives_all (by omega) x _ HK.out hP2).mono ?_
        rintro e w3 ⟨rfl, hb3⟩
        have hA3 := hA2.trans (hb3.mono hsz2)
        have bX3 := bX2.below hb3 bX2.lt
        clear q0 q1 q2 q3 q4 x0 x1 x2 x3 x4 hb3 hP2 hbel2
        obtain ⟨⟨q0, q1, q2, q3, q4⟩, hbel3, hsz3⟩ := pgBox hA3
        have hP3 := HP.out.next hbel3
        have x0 := bX3.cell 0
        have x1 := bX3.cell 1
        have x2 := bX3.cell 2
        have x3 := bX3.cell 3
        have x4 := bX3.cell 4
        simp only [List.getElem?_toArray, List.getElem?_cons_zero, List.getElem?_cons_succ] at x0 x1 x2 x3 x4
        generalize hG : givesOf p (pairs p k) x = G at *
        have HG := Lib.hid hG
        clear hG
        have o29 : (x.op == 29) = false := by simp; omega
        by_cases hr : p.regs ≤ x.a
        · have HF := Lib.hid (cB_false (right_no HK.out (fun g => by have := (g.2.1 ho).1; omega)))
          go_wp2_with fail
          go_ret
          exact ⟨ret_bool HF.out.symm, hbel3⟩
        go_wp2_with fail
        refine (kind_all k (by omega) x.a _ hP3).mono ?_
        rintro e w4 ⟨rfl, hb4⟩
        have hA4 := hA3.trans (hb4.mono hsz3)
        have bX4 := bX3.below hb4 bX3.lt
        clear q0 q1 q2 q3 q4 x0 x1 x2 x3 x4 hb4 hP3 hbel3
        obtain ⟨⟨q0, q1, q2, q3, q4⟩, hbel4, hsz4⟩ := pgBox hA4
        have hP4 := HP.out.next hbel4
        have x0 := bX4.cell 0
        have x1 := bX4.cell 1
        have x2 := bX4.cell 2
        have x3 := bX4.cell 3
        have x4 := bX4.cell 4
        simp only [List.getElem?_toArray, List.getElem?_cons_zero, List.getElem?_cons_succ] at x0 x1 x2 x3 x4
        generalize hQ : kindAcc (pairs p k) x.a 0 = Q at *
        have HQ := Lib.hid hQ
        clear hQ
        by_cases hq : Q = 0
        · have q' : (Q != 0) = false := by simp [hq]
          have HQ0 := Lib.hid hq
          clear hq
          by_cases hg : G = 1 ∨ G = 2
          · have HN' := Lib.hid (upto_succ HN.out (fun y hy => by
              rw [HK.out] at hy; injection hy with hy; rw [← hy]
              exact ⟨HT.out, fun _ => ⟨by omega, HQ.out.trans HQ0.out, by rw [HG.out]; exact hg⟩, fun g => absurd g (by omega)⟩))
            rcases hg with rfl | rfl
            all_goals
              go_wp2_with fail
              go_roundw
              case rel => exact ⟨k + 1, by omega, by go_num, HN', hA4⟩
              case measure => simp [intOf]; omega
          · have HF := Lib.hid (cB_false (right_no HK.out (fun g => hg (by have := (g.2.1 ho).2.2; rw [HG.out] at this; exact this))))
            have g1 : (G != 1) = true := by simp; omega
            have g2 : (G != 2) = true := by simp; omega
            clear hg
            go_wp2_with fail
            go_ret
            exact ⟨ret_bool HF.out.symm, hbel4⟩
        · have q' : (Q != 0) = true := by simp [hq]
          have HF := Lib.hid (cB_false (right_no HK.out (fun g => hq (HQ.out.symm.trans (g.2.1 ho).2.1))))
          clear hq
          go_wp2_with fail
          go_ret
          exact ⟨ret_bool HF.out.symm, hbel4⟩
      · by_cases o29 : x.op = 29
        · have o29' : (x.op == 29) = true := by simp [o29]
          have HO := Lib.hid o29
          clear o29
          go_wp2_with fail
          refine (skipped_any (i := k) (by omega) _ hP2).mono ?_
          rintro e w3 ⟨rfl, hb3⟩
          have hA3 := hA2.trans (hb3.mono hsz2)
          have bX3 := bX2.below hb3 bX2.lt
          clear q0 q1 q2 q3 q4 x0 x1 x2 x3 x4 hb3 hP2 hbel2
          obtain ⟨⟨q0, q1, q2, q3, q4⟩, hbel3, hsz3⟩ := pgBox hA3
          have hP3 := HP.out.next hbel3
          have x0 := bX3.cell 0
          have x1 := bX3.cell 1
          have x2 := bX3.cell 2
          have x3 := bX3.cell 3
          have x4 := bX3.cell 4
          simp only [List.getElem?_toArray, List.getElem?_cons_zero, List.getElem?_cons_succ] at x0 x1 x2 x3 x4
          generalize hV3 : cB (skipped p k) = V3 at *
          have HV3 := Lib.hid hV3
          clear hV3
          cases V3
          · have HN' := Lib.hid (upto_succ HN.out (fun y hy => by
              rw [HK.out] at hy; injection hy with hy; rw [← hy]
              exact ⟨HT.out, fun g => absurd g (by omega), fun _ => cB_not.1 HV3.out⟩))
            go_wp2_with fail
            go_roundw
            case rel => exact ⟨k + 1, by omega, by go_num, HN', hA3⟩
            case measure => simp [intOf]; omega
          · have HF := Lib.hid (cB_false (right_no HK.out (fun g => g.2.2 HO.out (cB_iff.1 HV3.out))))
            go_wp2_with fail
            go_ret
            exact ⟨ret_bool HF.out.symm, hbel3⟩
        · have o29' : (x.op == 29) = false := by simp [o29]
          have HN' := Lib.hid (upto_succ HN.out (fun y hy => by
            rw [HK.out] at hy; injection hy with hy; rw [← hy]
            exact ⟨HT.out, fun g => absurd g (by omega), fun g => absurd g o29⟩))
          clear o29
          go_wp2_with fail
          go_roundw
          case rel => exact ⟨k + 1, by omega, by go_num, HN', hA2⟩
          case measure => simp [intOf]; omega
    · obtain rfl : k = p.code.length := by omega
      have HC := Lib.hid HN.out
      clear HN hk hlt
      have HSD := Lib.hid (sd.below hbel)
      generalize wr = W0 at *
      go_wp2_with fail
      go_loop [6] (fun s => ∃ o : Nat, o ≤ p.outs.length ∧ s = .int .i64 o ∧ Hid (∀ j, j < o → outCount p j p.code = 1)) (fun s => p.outs.length - (intOf s).toNat)
      case atStart => exact ⟨0, Nat.zero_le _, rfl, fun j h => absurd h (by omega)⟩
      case round =>
        obtain ⟨o, ho, rfl, HN⟩ := hrel
        by_cases hlt : o < p.outs.length
        · go_wp2_with fail
          go_loop [7, 8] (fun t s => ∃ k : Nat, k ≤ p.code.length ∧ s = .int .i64 k ∧ t = .int .i64 (outCount p o (p.code.take k) : Nat)) (fun _ s => p.code.length - (intOf s).toNat)
          case atStart => exact ⟨0, Nat.zero_le _, rfl, rfl⟩
          case round =>
            obtain ⟨k, hk, rfl, rfl⟩ := hrel
            have hcl := outCount_le (p := p) (o := o) (p.code.take k)
            have htl : (p.code.take k).length ≤ k := List.length_take_le _ _
            by_cases hlt2 : k < p.code.length
            · obtain ⟨b, off, x, rfl, hb, hxk, hok, c0, c1, c2, c3, c4⟩ := HSD.out.in5 hlt2
              have hkl : (k : Int) < p.code.length := by omega
              have HS := Lib.hid (outCount_take (o := (o : Int)) hxk)
              clear hxk
              generalize outCount p o (p.code.take k) = T at *
              by_cases h29 : x.op = 29
              · have h29' : (x.op == 29) = true := by simp [h29]
                by_cases hko : x.k = o
                · have hko' : (x.k == (o : Int)) = true := by simp [hko]
                  have HS' := Lib.hid (show outCount p o (p.code.take (k + 1)) = T + 1 by rw [HS.out, if_pos ⟨h29, hko⟩])
                  clear h29 hko HS
                  go_wp2_with fail
                  go_round
                  case rel => exact ⟨k + 1, by omega, by go_num, by rw [HS'.out]; go_num⟩
                  case measure => simp [intOf]; omega
                · have hko' : (x.k == (o : Int)) = false := by simp [hko]
                  have HS' := Lib.hid (show outCount p o (p.code.take (k + 1)) = T by rw [HS.out, if_neg (fun g => hko g.2)]; rfl)
                  clear h29 hko HS
                  go_wp2_with fail
                  go_round
                  case rel => exact ⟨k + 1, by omega, by go_num, by rw [HS'.out]⟩
                  case measure => simp [intOf]; omega
              · have h29' : (x.op == 29) = false := by simp [h29]
                have HS' := Lib.hid (show outCount p o (p.code.take (k + 1)) = T by rw [HS.out, if_neg (fun g => h29 g.1)]; rfl)
                clear h29 HS
                go_wp2_with fail
                go_round
                case rel => exact ⟨k + 1, by omega, by go_num, by rw [HS'.out]⟩
                case measure => simp [intOf]; omega
            · obtain rfl : k = p.code.length := by omega
              have HE := Lib.hid (show outCount p o (p.code.take p.code.length) = outCount p o p.code by rw [List.take_length])
              generalize outCount p o (p.code.take p.code.length) = T at *
              by_cases h1 : T = 1
              · have h1' : ((T : Int) != 1) = false := by simp; omega
                have HN' := Lib.hid (upto_succ HN.out (HE.out.symm.trans h1))
                clear h1
                go_wp2_with fail
                go_round
                case rel => exact ⟨o + 1, by omega, by go_num, HN'⟩
                case measure => simp [intOf]; omega
              · have h1' : ((T : Int) != 1) = true := by simp; omega
                have HF := Lib.hid (cB_false (right_outs hlt (fun g => h1 (HE.out.trans g))))
                clear h1
                go_wp2_with fail
                go_ret
                exact ⟨ret_bool HF.out.symm, hbel⟩
        · obtain rfl : o = p.outs.length := by omega
          have HF := Lib.hid (cB_true (right_yes HM.out HC.out HN.out))
          go_wp2_with fail
          go_ret
          exact ⟨ret_bool HF.out.symm, hbel⟩
end
end Go.Proofs.Ytbjaejgechadpaa
