/-
  The walk of the law OnsetBegins.
-/
import Derived.Test.YtolabbnchmmckaaOnsetAwake
namespace Go.Proofs.Ytolabbnchmmckaa
open Go.RowKit Nm
namespace onsetBegins

theorem right_sub {e x : Ex} (h : exRight e = true) (hx : x ∈ e.args) : exRight x = true := by
  unfold exRight at h ⊢
  simp only [Bool.and_eq_true, List.all_eq_true, decide_eq_true_eq] at h ⊢
  refine ⟨fun y hy => h.1 y (exList_sub hx hy), ?_⟩
  have h2 := h.2
  rw [exHeight_eq] at h2
  have : exHeight x ≤ maxL (e.args.map exHeight) := by
    have key : ∀ l : List Nat, ∀ x ∈ l, x ≤ maxL l := by
      intro l
      induction l with
      | nil => intro x hx; cases hx
      | cons z l ih =>
        intro x hx
        simp only [maxL]
        rcases List.mem_cons.1 hx with rfl | hx
        · omega
        · have := ih x hx; omega
    exact key _ _ (List.mem_map_of_mem hx)
  omega
/-- what comes of an arrow whose parts are not wrong -/
theorem begins (a b : Ex) (hr : exRight (preE (arE a b)) = true) (ha : (lateTop a).2.err = 0) (hb : (lateTop b).2.err = 0) :
    lateTop (arE a b) = (if (lateTop a).1 = true then (false, ⟨31, 0, 0⟩) else (false, flOk)) ∧ ((lateTop a).1 = false → lateTop (preE (arE a b)) = (true, flOk)) := by
  have r1 : exRight (arE a b) = true := right_sub hr (by simp [preE, Ex.args])
  have ra : exRight a = true := right_sub r1 (by simp [arE, Ex.args])
  have rb : exRight b = true := right_sub r1 (by simp [arE, Ex.args])
  have ta : lateTop a = lateR a := by unfold lateTop; rw [if_pos ra]
  have tb : lateTop b = lateR b := by unfold lateTop; rw [if_pos rb]
  rw [ta] at ha ⊢
  rw [tb] at hb
  have e1 : lateTop (arE a b) = if (lateR a).1 = true then (false, ⟨31, 0, 0⟩) else (false, flOk) := by
    unfold lateTop
    rw [if_pos r1, lateR_eq, show (arE a b).args = [a, b] from rfl]
    unfold lateC
    rw [List.map_cons, List.map_cons, List.map_nil, List.find?_eq_none.2 (by
      intro x hx
      simp only [List.mem_cons, List.not_mem_nil, or_false] at hx
      rcases hx with rfl | rfl <;> simp [ha, hb])]
    rfl
  refine ⟨e1, fun hf => ?_⟩
  have e2 : lateR (arE a b) = (false, flOk) := by
    have : lateTop (arE a b) = lateR (arE a b) := by unfold lateTop; rw [if_pos r1]
    rw [← this, e1, hf]; rfl
  unfold lateTop
  rw [if_pos hr, lateR_eq, show (preE (arE a b)).args = [arE a b] from rfl, List.map_cons, List.map_nil, e2]
  rfl
theorem small_ar {a b : Ex} (ha : Small a) (hb : Small b) (h : exSize a ≤ 200) (h' : exSize b ≤ 200) : Small (preE (arE a b)) ∧ exSize (arE a b) ≤ 1000 := by
  have s1 : exSize (arE a b) = exSize a + exSize b + 1 := by unfold exSize; rw [listAr]; simp
  have s2 : exSize (preE (arE a b)) = exSize (arE a b) + 1 := by unfold exSize; rw [listP]; simp
  refine ⟨⟨by omega, fun x hx => ?_⟩, by omega⟩
  rw [listP, listAr] at hx
  simp only [List.mem_cons, List.mem_append] at hx
  rcases hx with rfl | rfl | hx | hx
  · simp [preE, Ex.name, ByteArray.size]
  · simp [arE, Ex.name, ByteArray.size]
  · exact ha.names x hx
  · exact hb.names x hx
theorem arr_at {W : World} {g : Nat} {a b : Ex} {A B : Option Addr} {ca cb : Nat} (hr : Row W g #[.int .i64 a.op, .string a.name, .int .i64 a.n, .slice A a.args.length ca, .int .i64 a.line, .int .i64 a.col, .int .i64 b.op, .string b.name, .int .i64 b.n, .slice B b.args.length cb, .int .i64 b.line, .int .i64 b.col] 26)
    (ha : IsEx W W.heap.size a (exCells a A ca)) (hb : IsEx W W.heap.size b (exCells b B cb)) : IsExs W W.heap.size (some ⟨g, 0, none⟩) (arE a b).args :=
  rowEx (css := [exCells a A ca, exCells b B cb]) hr rfl ((ExsAre.one ha).append (ExsAre.one hb)) (Nat.le_refl _)

set_option maxRecDepth 100000 in
set_option maxHeartbeats 8000000 in
theorem walk (a : Ex) (A : Option Addr) (ca : Nat) (b : Ex) (B : Option Addr) (cb : Nat) (w : World) (oka : ExOk a) (lena : a.args.length ≤ ca) (maxa : ca ≤ maxLen) (ata : IsExs w w.heap.size A a.args) (okb : ExOk b) (lenb : b.args.length ≤ cb) (maxb : cb ≤ maxLen) (atb : IsExs w w.heap.size B b.args) :
    Calls Try.prog 4 #[exV a A ca, exV b B cb] w fun r w' => r = .returned (.bool true) ∧ Below w.heap.size w w' := by
  go_enter Try.func4, Try.ntmps4
  go_wp2_with fail
  refine (awake19_any _).mono ?_
  rintro r w1 ⟨rfl, hb1⟩
  have bA : Row w1 w.heap.size #[.int .i64 a.op, .string a.name, .int .i64 a.n, .slice A a.args.length ca, .int .i64 a.line, .int .i64 a.col] 26 := ((Row.new w _ _).alloc _).below hb1 (by simp; omega)
  have bB : Row w1 (w.heap.size + 1) #[.int .i64 b.op, .string b.name, .int .i64 b.n, .slice B b.args.length cb, .int .i64 b.line, .int .i64 b.col] 26 := (rowNew2 w _ _ _).below hb1 (by simp)
  have hB : Below w.heap.size w w1 := (((Below.refl _ _).alloc (Nat.le_refl _) _).alloc (by simp) _).trans (hb1.mono (by simp; omega))
  clear hb1
  have x0 := bA.cell 0
  have x1 := bA.cell 1
  have x2 := bA.cell 2
  have x3 := bA.cell 3
  have x4 := bA.cell 4
  have x5 := bA.cell 5
  simp only [List.getElem?_toArray, List.getElem?_cons_zero, List.getElem?_cons_succ] at x0 x1 x2 x3 x4 x5
  have y0 := bB.cell 0
  have y1 := bB.cell 1
  have y2 := bB.cell 2
  have y3 := bB.cell 3
  have y4 := bB.cell 4
  have y5 := bB.cell 5
  simp only [List.getElem?_toArray, List.getElem?_cons_zero, List.getElem?_cons_succ] at y0 y1 y2 y3 y4 y5
  go_wp2_with fail
  refine (few_any a A ca _ oka lena maxa ((ata.below hB).more hB.size)).mono ?_
  rintro r w2 ⟨rfl, hb2⟩
  replace bA := bA.below hb2 bA.lt
  replace bB := bB.below hb2 bB.lt
  replace hB := hB.trans (hb2.mono hB.size)
  clear hb2 x0 x1 x2 x3 x4 x5 y0 y1 y2 y3 y4 y5
  generalize hF : fewB a = Fw at *
  have HF := Lib.hid hF
  clear hF
  cases Fw
  · go_wp2_with fail
    go_ret
    exact ⟨rfl, hB⟩
  obtain ⟨sma, sza⟩ := few_small HF.out
  have HSa := Lib.hid sma
  clear HF sma
  have x0 := bA.cell 0
  have x1 := bA.cell 1
  have x2 := bA.cell 2
  have x3 := bA.cell 3
  have x4 := bA.cell 4
  have x5 := bA.cell 5
  simp only [List.getElem?_toArray, List.getElem?_cons_zero, List.getElem?_cons_succ] at x0 x1 x2 x3 x4 x5
  have y0 := bB.cell 0
  have y1 := bB.cell 1
  have y2 := bB.cell 2
  have y3 := bB.cell 3
  have y4 := bB.cell 4
  have y5 := bB.cell 5
  simp only [List.getElem?_toArray, List.getElem?_cons_zero, List.getElem?_cons_succ] at y0 y1 y2 y3 y4 y5
  go_wp2_with fail
  refine (few_any b B cb _ okb lenb maxb ((atb.below hB).more hB.size)).mono ?_
  rintro r w3 ⟨rfl, hb3⟩
  replace bA := bA.below hb3 bA.lt
  replace bB := bB.below hb3 bB.lt
  replace hB := hB.trans (hb3.mono hB.size)
  clear hb3 x0 x1 x2 x3 x4 x5 y0 y1 y2 y3 y4 y5
  generalize hF : fewB b = Fw at *
  have HF := Lib.hid hF
  clear hF
  cases Fw
  · go_wp2_with fail
    go_ret
    exact ⟨rfl, hB⟩
  obtain ⟨smb, szb⟩ := few_small HF.out
  have HSb := Lib.hid smb
  clear HF smb
  have x0 := bA.cell 0
  have x1 := bA.cell 1
  have x2 := bA.cell 2
  have x3 := bA.cell 3
  have x4 := bA.cell 4
  have x5 := bA.cell 5
  simp only [List.getElem?_toArray, List.getElem?_cons_zero, List.getElem?_cons_succ] at x0 x1 x2 x3 x4 x5
  have y0 := bB.cell 0
  have y1 := bB.cell 1
  have y2 := bB.cell 2
  have y3 := bB.cell 3
  have y4 := bB.cell 4
  have y5 := bB.cell 5
  simp only [List.getElem?_toArray, List.getElem?_cons_zero, List.getElem?_cons_succ] at y0 y1 y2 y3 y4 y5
  go_wp2_with fail
  refine (lateTop_any a A ca _ oka lena maxa ((ata.below hB).more hB.size) (by omega)).mono ?_
  rintro r w4 ⟨rfl, hbn⟩
  replace bA := bA.below hbn bA.lt
  replace bB := bB.below hbn bB.lt
  replace hB := hB.trans (hbn.mono hB.size)
  clear hbn x0 x1 x2 x3 x4 x5 y0 y1 y2 y3 y4 y5
  go_upto_region 6 with (fail)
  generalize hTf : lateTop a = Tf at *
  obtain ⟨Lf, f⟩ := Tf
  have HTf := Lib.hid hTf
  clear hTf
  replace bA := bA.alloc (.cells #[.int .i64 f.err, .int .i64 f.line, .int .i64 f.col] 31)
  replace bB := bB.alloc (.cells #[.int .i64 f.err, .int .i64 f.line, .int .i64 f.col] 31)
  have bf := Row.new w4 #[.int .i64 f.err, .int .i64 f.line, .int .i64 f.col] 31
  replace hB := hB.alloc hB.size (.cells #[.int .i64 f.err, .int .i64 f.line, .int .i64 f.col] 31)
  have hgf : w4.heap.size = w4.heap.size := rfl
  generalize w4.alloc (.cells #[.int .i64 f.err, .int .i64 f.line, .int .i64 f.col] 31) = Wf at *
  generalize w4.heap.size = gf at *
  clear hgf
  have x0 := bA.cell 0
  have x1 := bA.cell 1
  have x2 := bA.cell 2
  have x3 := bA.cell 3
  have x4 := bA.cell 4
  have x5 := bA.cell 5
  simp only [List.getElem?_toArray, List.getElem?_cons_zero, List.getElem?_cons_succ] at x0 x1 x2 x3 x4 x5
  have y0 := bB.cell 0
  have y1 := bB.cell 1
  have y2 := bB.cell 2
  have y3 := bB.cell 3
  have y4 := bB.cell 4
  have y5 := bB.cell 5
  simp only [List.getElem?_toArray, List.getElem?_cons_zero, List.getElem?_cons_succ] at y0 y1 y2 y3 y4 y5
  go_wp2_with fail
  refine (lateTop_any b B cb _ okb lenb maxb ((atb.below hB).more hB.size) (by omega)).mono ?_
  rintro r w5 ⟨rfl, hbn⟩
  replace bA := bA.below hbn bA.lt
  replace bB := bB.below hbn bB.lt
  replace bf := bf.below hbn bf.lt
  replace hB := hB.trans (hbn.mono hB.size)
  clear hbn x0 x1 x2 x3 x4 x5 y0 y1 y2 y3 y4 y5
  go_upto_region 7 with (fail)
  generalize hTg : lateTop b = Tg at *
  obtain ⟨Lg, g⟩ := Tg
  have HTg := Lib.hid hTg
  clear hTg
  replace bA := bA.alloc (.cells #[.int .i64 g.err, .int .i64 g.line, .int .i64 g.col] 31)
  replace bB := bB.alloc (.cells #[.int .i64 g.err, .int .i64 g.line, .int .i64 g.col] 31)
  replace bf := bf.alloc (.cells #[.int .i64 g.err, .int .i64 g.line, .int .i64 g.col] 31)
  have bg := Row.new w5 #[.int .i64 g.err, .int .i64 g.line, .int .i64 g.col] 31
  replace hB := hB.alloc hB.size (.cells #[.int .i64 g.err, .int .i64 g.line, .int .i64 g.col] 31)
  have hgg : w5.heap.size = w5.heap.size := rfl
  generalize w5.alloc (.cells #[.int .i64 g.err, .int .i64 g.line, .int .i64 g.col] 31) = Wg at *
  generalize w5.heap.size = gg at *
  clear hgg
  have x0 := bA.cell 0
  have x1 := bA.cell 1
  have x2 := bA.cell 2
  have x3 := bA.cell 3
  have x4 := bA.cell 4
  have x5 := bA.cell 5
  simp only [List.getElem?_toArray, List.getElem?_cons_zero, List.getElem?_cons_succ] at x0 x1 x2 x3 x4 x5
  have y0 := bB.cell 0
  have y1 := bB.cell 1
  have y2 := bB.cell 2
  have y3 := bB.cell 3
  have y4 := bB.cell 4
  have y5 := bB.cell 5
  simp only [List.getElem?_toArray, List.getElem?_cons_zero, List.getElem?_cons_succ] at y0 y1 y2 y3 y4 y5
  go_upto_region 8 with (fail)
  have bR : Row ((Wg.alloc (.cells #[.int .i64 a.op, .string a.name, .int .i64 a.n, .slice A a.args.length ca, .int .i64 a.line, .int .i64 a.col, .int .i64 b.op, .string b.name, .int .i64 b.n, .slice B b.args.length cb, .int .i64 b.line, .int .i64 b.col] 26)).alloc (.cells #[.int .i64 23, .string ⟨#[]⟩, .int .i64 0, .slice (some ⟨Wg.heap.size, 0, none⟩) 2 2, .int .i64 0, .int .i64 0] 26)) Wg.heap.size #[.int .i64 a.op, .string a.name, .int .i64 a.n, .slice A a.args.length ca, .int .i64 a.line, .int .i64 a.col, .int .i64 b.op, .string b.name, .int .i64 b.n, .slice B b.args.length cb, .int .i64 b.line, .int .i64 b.col] 26 := (Row.new Wg _ _).alloc _
  have bC : Row ((Wg.alloc (.cells #[.int .i64 a.op, .string a.name, .int .i64 a.n, .slice A a.args.length ca, .int .i64 a.line, .int .i64 a.col, .int .i64 b.op, .string b.name, .int .i64 b.n, .slice B b.args.length cb, .int .i64 b.line, .int .i64 b.col] 26)).alloc (.cells #[.int .i64 23, .string ⟨#[]⟩, .int .i64 0, .slice (some ⟨Wg.heap.size, 0, none⟩) 2 2, .int .i64 0, .int .i64 0] 26)) (Wg.heap.size + 1) #[.int .i64 23, .string ⟨#[]⟩, .int .i64 0, .slice (some ⟨Wg.heap.size, 0, none⟩) 2 2, .int .i64 0, .int .i64 0] 26 := rowNew2 Wg _ _ _
  have bf' : Row ((Wg.alloc (.cells #[.int .i64 a.op, .string a.name, .int .i64 a.n, .slice A a.args.length ca, .int .i64 a.line, .int .i64 a.col, .int .i64 b.op, .string b.name, .int .i64 b.n, .slice B b.args.length cb, .int .i64 b.line, .int .i64 b.col] 26)).alloc (.cells #[.int .i64 23, .string ⟨#[]⟩, .int .i64 0, .slice (some ⟨Wg.heap.size, 0, none⟩) 2 2, .int .i64 0, .int .i64 0] 26)) gf #[.int .i64 f.err, .int .i64 f.line, .int .i64 f.col] 31 := (bf.alloc _).alloc _
  have bg' : Row ((Wg.alloc (.cells #[.int .i64 a.op, .string a.name, .int .i64 a.n, .slice A a.args.length ca, .int .i64 a.line, .int .i64 a.col, .int .i64 b.op, .string b.name, .int .i64 b.n, .slice B b.args.length cb, .int .i64 b.line, .int .i64 b.col] 26)).alloc (.cells #[.int .i64 23, .string ⟨#[]⟩, .int .i64 0, .slice (some ⟨Wg.heap.size, 0, none⟩) 2 2, .int .i64 0, .int .i64 0] 26)) gg #[.int .i64 g.err, .int .i64 g.line, .int .i64 g.col] 31 := (bg.alloc _).alloc _
  replace hB := (hB.alloc hB.size (.cells #[.int .i64 a.op, .string a.name, .int .i64 a.n, .slice A a.args.length ca, .int .i64 a.line, .int .i64 a.col, .int .i64 b.op, .string b.name, .int .i64 b.n, .slice B b.args.length cb, .int .i64 b.line, .int .i64 b.col] 26)).alloc (by have := hB.size; simp; omega) (.cells #[.int .i64 23, .string ⟨#[]⟩, .int .i64 0, .slice (some ⟨Wg.heap.size, 0, none⟩) 2 2, .int .i64 0, .int .i64 0] 26)
  generalize (Wg.alloc (.cells #[.int .i64 a.op, .string a.name, .int .i64 a.n, .slice A a.args.length ca, .int .i64 a.line, .int .i64 a.col, .int .i64 b.op, .string b.name, .int .i64 b.n, .slice B b.args.length cb, .int .i64 b.line, .int .i64 b.col] 26)).alloc (.cells #[.int .i64 23, .string ⟨#[]⟩, .int .i64 0, .slice (some ⟨Wg.heap.size, 0, none⟩) 2 2, .int .i64 0, .int .i64 0] 26) = Wr at *
  clear bf bg bA bB x0 x1 x2 x3 x4 x5 y0 y1 y2 y3 y4 y5
  generalize Wg.heap.size = gr at *
  have hAr : IsExs Wr Wr.heap.size (some ⟨gr, 0, none⟩) (arE a b).args := arr_at bR ((IsEx.mk' oka lena maxa ata).below hB |>.more hB.size) ((IsEx.mk' okb lenb maxb atb).below hB |>.more hB.size)
  obtain ⟨smP, szA⟩ := small_ar HSa.out HSb.out sza szb
  have HSP := Lib.hid smP
  clear bR ata atb smP HSa HSb sza szb
  have c0 := bC.cell 0
  have c1 := bC.cell 1
  have c2 := bC.cell 2
  have c3 := bC.cell 3
  have c4 := bC.cell 4
  have c5 := bC.cell 5
  simp only [List.getElem?_toArray, List.getElem?_cons_zero, List.getElem?_cons_succ] at c0 c1 c2 c3 c4 c5
  have f0 := bf'.cell 0
  have f1 := bf'.cell 1
  have f2 := bf'.cell 2
  simp only [List.getElem?_toArray, List.getElem?_cons_zero, List.getElem?_cons_succ] at f0 f1 f2
  have g0 := bg'.cell 0
  have g1 := bg'.cell 1
  have g2 := bg'.cell 2
  simp only [List.getElem?_toArray, List.getElem?_cons_zero, List.getElem?_cons_succ] at g0 g1 g2
  cases hf : (f.err != 0)
  rotate_left
  · go_wp2_with fail
    go_ret
    exact ⟨rfl, hB⟩
  cases hg : (g.err != 0)
  rotate_left
  · go_wp2_with fail
    go_ret
    exact ⟨rfl, hB⟩
  go_wp2_with fail
  refine (pre_any (arE a b) (some ⟨gr, 0, none⟩) 2 _ (arE_ok a b) (Nat.le_refl _) (by unfold maxLen; omega) hAr).mono ?_
  rintro r w6 ⟨v6, rfl, ⟨A6, c6, rfl, ok6, len6, max6, at6⟩, hb6⟩
  go_wp2_with fail
  refine (rright_any (preE (arE a b)) A6 c6 _ ok6 len6 max6 at6 HSP.out).mono ?_
  rintro r w7 ⟨rfl, hb7⟩
  have hb67 := hb6.trans (hb7.mono hb6.size)
  have bC7 := bC.below hb67 bC.lt
  have hAr7 := (hAr.below hb67).more hb67.size
  replace hB := hB.trans (hb67.mono hB.size)
  clear hb6 hb7 hb67 at6 hAr bC bf' bg' c0 c1 c2 c3 c4 c5 f0 f1 f2 g0 g1 g2
  generalize hR : exRight (preE (arE a b)) = R at *
  have HR := Lib.hid hR
  clear hR
  cases R
  · go_wp2_with fail
    go_ret
    exact ⟨rfl, hB⟩
  have hbg := begins a b HR.out (by rw [HTf.out]; simpa using hf) (by rw [HTg.out]; simpa using hg)
  rw [HTf.out] at hbg
  have HG1 := Lib.hid hbg.1
  have HG2 := Lib.hid hbg.2
  clear hbg HR HTf HTg hf hg
  have c0 := bC7.cell 0
  have c1 := bC7.cell 1
  have c2 := bC7.cell 2
  have c3 := bC7.cell 3
  have c4 := bC7.cell 4
  have c5 := bC7.cell 5
  simp only [List.getElem?_toArray, List.getElem?_cons_zero, List.getElem?_cons_succ] at c0 c1 c2 c3 c4 c5
  go_wp2_with fail
  refine (lateTop_any (arE a b) (some ⟨gr, 0, none⟩) 2 _ (arE_ok a b) (Nat.le_refl _) (by unfold maxLen; omega) hAr7 (by omega)).mono ?_
  rintro r w8 ⟨rfl, hb8⟩
  have bC8 := bC7.below hb8 bC7.lt
  have hAr8 := (hAr7.below hb8).more hb8.size
  replace hB := hB.trans (hb8.mono hB.size)
  clear hb8 bC7 hAr7 c0 c1 c2 c3 c4 c5
  cases Lf
  · have HG3 : Hid (lateTop (arE a b) = (false, flOk)) := HG1.out
    have HG4 : Hid (lateTop (preE (arE a b)) = (true, flOk)) := HG2.out rfl
    clear HG1 HG2
    rw [HG3.out]
    go_upto_region 13 with (fail)
    have bC9 := bC8.alloc (.cells #[.int .i64 0, .int .i64 0, .int .i64 0] 31)
    have bh9 := Row.new w8 #[.int .i64 0, .int .i64 0, .int .i64 0] 31
    have hAr9 : IsExs (w8.alloc (.cells #[.int .i64 0, .int .i64 0, .int .i64 0] 31)) (w8.alloc (.cells #[.int .i64 0, .int .i64 0, .int .i64 0] 31)).heap.size (some ⟨gr, 0, none⟩) (arE a b).args := (hAr8.below ((Below.refl _ _).alloc (Nat.le_refl _) (.cells #[.int .i64 0, .int .i64 0, .int .i64 0] 31))).more (by simp)
    replace hB := hB.alloc hB.size (.cells #[.int .i64 0, .int .i64 0, .int .i64 0] 31)
    generalize w8.alloc (.cells #[.int .i64 0, .int .i64 0, .int .i64 0] 31) = W9 at *
    generalize w8.heap.size = g9 at *
    clear bC8 hAr8
    have c0 := bC9.cell 0
    have c1 := bC9.cell 1
    have c2 := bC9.cell 2
    have c3 := bC9.cell 3
    have c4 := bC9.cell 4
    have c5 := bC9.cell 5
    simp only [List.getElem?_toArray, List.getElem?_cons_zero, List.getElem?_cons_succ] at c0 c1 c2 c3 c4 c5
    go_wp2_with fail
    refine (pre_any (arE a b) (some ⟨gr, 0, none⟩) 2 _ (arE_ok a b) (Nat.le_refl _) (by unfold maxLen; omega) hAr9).mono ?_
    rintro r w10 ⟨v10, rfl, ⟨A10, c10, rfl, ok10, len10, max10, at10⟩, hb10⟩
    go_wp2_with fail
    refine (lateTop_any (preE (arE a b)) A10 c10 _ ok10 len10 max10 at10 (by have := HSP.out.size; omega)).mono ?_
    rintro r w11 ⟨rfl, hb11⟩
    rw [HG4.out]
    have hb := hb10.trans (hb11.mono hb10.size)
    have bh11 := bh9.below hb bh9.lt
    have hl11 := bh11.lt
    replace hB := hB.trans (hb.mono hB.size)
    clear hb hb10 hb11 at10 bC9 hAr9 bh9 c0 c1 c2 c3 c4 c5
    have h0 := bh11.cell 0
    simp only [List.getElem?_toArray, List.getElem?_cons_zero] at h0
    go_wp2_with fail
    go_ret
    exact ⟨rfl, hB.alloc hB.size _⟩
  · have HG3 : Hid (lateTop (arE a b) = (false, ⟨31, 0, 0⟩)) := HG1.out
    clear HG1 HG2
    rw [HG3.out]
    go_wp2_with fail
    go_ret
    exact ⟨rfl, hB.alloc hB.size _⟩
end onsetBegins
end Go.Proofs.Ytolabbnchmmckaa
