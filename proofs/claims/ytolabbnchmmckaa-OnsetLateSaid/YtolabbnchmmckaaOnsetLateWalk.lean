/-
  The walk of the law OnsetLate.
-/
import Derived.Test.YtolabbnchmmckaaOnsetAwake
namespace Go.Proofs.Ytolabbnchmmckaa
open Go.RowKit Nm
namespace onsetLate
set_option maxRecDepth 100000 in
set_option maxHeartbeats 4000000 in
theorem walk (e : Ex) (A : Option Addr) (cap : Nat) (w : World) (hok : ExOk e) (hcap : e.args.length ≤ cap) (hmax : cap ≤ maxLen) (hx : IsExs w w.heap.size A e.args) :
    Calls Try.prog 3 #[exV e A cap] w fun r w' => r = .returned (.bool true) ∧ Below w.heap.size w w' := by
  go_enter Try.func3, Try.ntmps3
  go_wp2_with fail
  refine (awake19_any _).mono ?_
  rintro r w1 ⟨rfl, hb1⟩
  have bE1 : Row w1 w.heap.size #[.int .i64 e.op, .string e.name, .int .i64 e.n, .slice A e.args.length cap, .int .i64 e.line, .int .i64 e.col] 26 := (Row.new w _ _).below hb1 (by simp)
  have hB1 : Below w.heap.size w w1 := ((Below.refl _ _).alloc (Nat.le_refl _) _).trans (hb1.mono (by simp))
  clear hb1
  have c0 := bE1.cell 0
  have c1 := bE1.cell 1
  have c2 := bE1.cell 2
  have c3 := bE1.cell 3
  have c4 := bE1.cell 4
  have c5 := bE1.cell 5
  simp only [List.getElem?_toArray, List.getElem?_cons_zero, List.getElem?_cons_succ] at c0 c1 c2 c3 c4 c5
  go_wp2_with fail
  refine (few_any e A cap _ hok hcap hmax ((hx.below hB1).more hB1.size)).mono ?_
  rintro r w2 ⟨rfl, hb2⟩
  have bE2 := bE1.below hb2 bE1.lt
  have hB2 := hB1.trans (hb2.mono hB1.size)
  clear hb2 bE1 c0 c1 c2 c3 c4 c5
  generalize hF : fewB e = Fw at *
  have HF := Lib.hid hF
  clear hF
  cases Fw
  · go_wp2_with fail
    go_ret
    exact ⟨rfl, hB2⟩
  · obtain ⟨hsm, hsz⟩ := few_small HF.out
    have HSm := Lib.hid hsm
    clear HF hsm
    have c0 := bE2.cell 0
    have c1 := bE2.cell 1
    have c2 := bE2.cell 2
    have c3 := bE2.cell 3
    have c4 := bE2.cell 4
    have c5 := bE2.cell 5
    simp only [List.getElem?_toArray, List.getElem?_cons_zero, List.getElem?_cons_succ] at c0 c1 c2 c3 c4 c5
    go_wp2_with fail
    refine (lateTop_any e A cap _ hok hcap hmax ((hx.below hB2).more hB2.size) (by omega)).mono ?_
    rintro r w3 ⟨rfl, hb3⟩
    have bE3 := bE2.below hb3 bE2.lt
    have hB3 := hB2.trans (hb3.mono hB2.size)
    clear hb3 bE2 c0 c1 c2 c3 c4 c5
    go_upto_region 6 with (fail)
    generalize hT : lateTop e = T at *
    obtain ⟨L, f⟩ := T
    have HT := Lib.hid hT
    clear hT
    have bE4 := bE3.alloc (.cells #[.int .i64 f.err, .int .i64 f.line, .int .i64 f.col] 31)
    have bF4 := Row.new w3 #[.int .i64 f.err, .int .i64 f.line, .int .i64 f.col] 31
    have hB4 := hB3.alloc hB3.size (.cells #[.int .i64 f.err, .int .i64 f.line, .int .i64 f.col] 31)
    generalize w3.alloc (.cells #[.int .i64 f.err, .int .i64 f.line, .int .i64 f.col] 31) = W4 at *
    clear bE3 hB3
    have c0 := bE4.cell 0
    have c1 := bE4.cell 1
    have c2 := bE4.cell 2
    have c3 := bE4.cell 3
    have c4 := bE4.cell 4
    have c5 := bE4.cell 5
    simp only [List.getElem?_toArray, List.getElem?_cons_zero, List.getElem?_cons_succ] at c0 c1 c2 c3 c4 c5
    go_wp2_with fail
    refine (rright_any e A cap _ hok hcap hmax ((hx.below hB4).more hB4.size) HSm.out).mono ?_
    rintro r w5 ⟨rfl, hb5⟩
    have bE5 := bE4.below hb5 bE4.lt
    have bF5 := bF4.below hb5 bF4.lt
    have hB5 := hB4.trans (hb5.mono hB4.size)
    have HT2 : Hid (if exRight e = true then lateR e = (L, f) else (false, ⟨2, 0, 0⟩) = (L, f)) := by
      have := HT.out
      unfold lateTop at this
      show (if exRight e = true then lateR e = (L, f) else (false, ⟨2, 0, 0⟩) = (L, f))
      split <;> rename_i hr <;> (first | rw [if_pos hr] at this | rw [if_neg hr] at this) <;> exact this
    clear hb5 bE4 bF4 HT c0 c1 c2 c3 c4 c5
    generalize exRight e = R at *
    cases R
    · have HT3 : Hid ((false, (⟨2, 0, 0⟩ : Fl)) = (L, f)) := HT2.out
      obtain ⟨rfl, rfl⟩ : L = false ∧ f = ⟨2, 0, 0⟩ := by have := HT3.out; injection this with h1 h2; exact ⟨h1.symm, h2.symm⟩
      clear HT2 HT3
      have f0 := bF5.cell 0
      have f1 := bF5.cell 1
      have f2 := bF5.cell 2
      simp only [List.getElem?_toArray, List.getElem?_cons_zero, List.getElem?_cons_succ] at f0 f1 f2
      go_wp2_with fail
      go_ret
      exact ⟨rfl, hB5⟩
    · have HT3 : Hid (lateR e = (L, f)) := HT2.out
      clear HT2
      have c0 := bE5.cell 0
      have c1 := bE5.cell 1
      have c2 := bE5.cell 2
      have c3 := bE5.cell 3
      have c4 := bE5.cell 4
      have c5 := bE5.cell 5
      simp only [List.getElem?_toArray, List.getElem?_cons_zero, List.getElem?_cons_succ] at c0 c1 c2 c3 c4 c5
      go_wp2_with fail
      refine (rwrong_any e A cap _ hcap hmax ((hx.below hB5).more hB5.size)).mono ?_
      rintro r w6 ⟨rfl, hb6⟩
      have bE6 := bE5.below hb6 bE5.lt
      have bF6 := bF5.below hb6 bF5.lt
      have hB6 := hB5.trans (hb6.mono hB5.size)
      clear hb6 bE5 bF5 c0 c1 c2 c3 c4 c5
      have hL := HT3.out
      rw [late_is] at hL
      have HL : Hid (L = (((rwrong e).err == 0) && rlate e)) := by injection hL with h1 h2; exact h1.symm
      obtain rfl : f = rwrong e := by injection hL with h1 h2; exact h2.symm
      clear hL HT3
      go_upto_region 9 with (fail)
      generalize rwrong e = f at *
      have bE7 := bE6.alloc (.cells #[.int .i64 f.err, .int .i64 f.line, .int .i64 f.col] 31)
      have bF7 := bF6.alloc (.cells #[.int .i64 f.err, .int .i64 f.line, .int .i64 f.col] 31)
      have bG7 := Row.new w6 #[.int .i64 f.err, .int .i64 f.line, .int .i64 f.col] 31
      have hB7 := hB6.alloc hB6.size (.cells #[.int .i64 f.err, .int .i64 f.line, .int .i64 f.col] 31)
      generalize w6.alloc (.cells #[.int .i64 f.err, .int .i64 f.line, .int .i64 f.col] 31) = W7 at *
      clear bE6 bF6 hB6
      have c0 := bE7.cell 0
      have c1 := bE7.cell 1
      have c2 := bE7.cell 2
      have c3 := bE7.cell 3
      have c4 := bE7.cell 4
      have c5 := bE7.cell 5
      simp only [List.getElem?_toArray, List.getElem?_cons_zero, List.getElem?_cons_succ] at c0 c1 c2 c3 c4 c5
      have f0 := bF7.cell 0
      have f1 := bF7.cell 1
      have f2 := bF7.cell 2
      have g0 := bG7.cell 0
      have g1 := bG7.cell 1
      have g2 := bG7.cell 2
      simp only [List.getElem?_toArray, List.getElem?_cons_zero, List.getElem?_cons_succ] at f0 f1 f2 g0 g1 g2
      cases hE : (f.err == 0)
      · have HL2 := HL.out
        rw [hE, Bool.false_and] at HL2
        subst HL2
        go_wp2_with fail
        go_ret
        exact ⟨rfl, hB7⟩
      · have HL2 := HL.out
        rw [hE, Bool.true_and] at HL2
        go_wp2_with fail
        refine (rlate_any e A cap _ hcap hmax ((hx.below hB7).more hB7.size)).mono ?_
        rintro r w8 ⟨rfl, hb8⟩
        rw [← HL2]
        clear HL2 HL
        go_wp2_with fail
        go_ret
        refine ⟨ret_bool ?_, hB7.trans (hb8.mono hB7.size)⟩
        simp
end onsetLate
end Go.Proofs.Ytolabbnchmmckaa
