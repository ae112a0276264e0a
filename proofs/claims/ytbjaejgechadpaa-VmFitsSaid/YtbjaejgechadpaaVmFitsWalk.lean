/-
  The walk of the law VmFits.
-/
import Derived.Test.YtbjaejgechadpaaVmLaw
import Derived.Test.YtbjaejgechadpaaVmFitsB
namespace Go.Proofs.Ytbjaejgechadpaa
open Go.RowKit Vf
/-- a row of numbers among rows -/
def isRowV (w : World) (B : Nat) (l : List Int) (cs : List Value) : Prop := ∃ v, cs = [v] ∧ SlV w B 1 isInt v l
def RowsIs (w : World) (l : List (List Int)) (v : Value) : Prop := SlV w w.heap.size 1 (isRowV w w.heap.size) v l
section
variable {H : Type} {enc : TypeId × Value → H} {w : World} {spare : Nat → Bool} {held : Bool}
theorem isRowV_len (y : List Int) (cs : List Value) (h : isRowV w w.heap.size y cs) : cs.length = 1 := by obtain ⟨v, rfl, _⟩ := h; rfl
set_option maxRecDepth 100000 in
theorem open_row (n : Nat) (cs : List Value) (x : DataW H × List MemPlace) (h : DataW.trod enc Try.prog w 0 spare held n 22 cs = some x) : ∃ l, isRowV w w.heap.size l cs := by
  rcases DataW.trod_slice Try.underlying22 h with ⟨hc, _⟩ | ⟨a', len', cap', elems, rest, k, hk, hc, _⟩
  all_goals
    subst hc
    obtain ⟨l, hl⟩ := open_ints h
    exact ⟨l, _, rfl, hl⟩
set_option maxRecDepth 100000 in
theorem open_rowsV {base : Nat} {v : Value} {d : DataW H} {p : List MemPlace} {r : Reach} (hv : Value.okWide Try.prog w r base 40 v) (h : DataW.Trod enc Try.prog w 0 spare held 40 v d p) : ∃ l, RowsIs w l v := by
  obtain ⟨a, len, cap, rfl⟩ := WideShapes.okWide_slice Try.underlying40 hv
  obtain ⟨fuel, hf⟩ := h
  exact open_sl Try.underlying40 cells_ints (by decide) fuel (fun n _ cs x h => open_row n cs x h) isRowV_len [] hf
end
theorem row_at {w wr : World} {A : Option Addr} {rows : List (List Int)} {k : Nat} (h : Sl w w.heap.size 1 (isRowV w w.heap.size) A rows) (hb : Below w.heap.size w wr) (hk : k < rows.length) :
    ∃ b off l v, A = some ⟨b, off, none⟩ ∧ b < w.heap.size ∧ rows[k]? = some l ∧ wr.cell? ⟨b, off + k, none⟩ = some v ∧ SlV wr w.heap.size 1 isInt v l := by
  obtain ⟨b, off, l, cs, h1, h2, h3, ⟨v, rfl, h4⟩, h5⟩ := h.at_ hk
  refine ⟨b, off, l, v, h1, h2, h3, ?_, h4.below hb⟩
  have := h5 0 v rfl
  rw [Nat.mul_one, Nat.add_zero] at this
  exact (hb.cell (p := ⟨b, off + k, none⟩) h2).trans this
theorem fits_of {ts vs : List Int} (ht : typesOk ts) (h : insFit ts vs) : fitsOk ts vs := ⟨ht, h.1, fun i t v h1 h2 h3 => by
  have := h.2 i (List.getElem?_eq_some_iff.1 h1).1 ((getI_some h1).trans h3)
  rwa [getI_some h2] at this⟩
namespace vmFits
attribute [local go_sem ↓] Go.wp_at_zero Go.wp_at_succ
theorem slv_below {w w' : World} {v : Value} {l : List Int} (h : SlV w w.heap.size 1 isInt v l) (hb : Below w.heap.size w w') : SlV w' w'.heap.size 1 isInt v l := (h.below hb).more hb.size
/-- what a tick leaves fits -/
theorem tick_next {p : Pg} {cells inn : List Int} (h : TI p p.code.length (tick p cells inn).1) : machFits p (tick p cells inn).1.next := ⟨h.nlen, h.nfit⟩
theorem tick_outs {p : Pg} {cells inn : List Int} (ht : typesOk p.outs) (h : TI p p.code.length (tick p cells inn).1) : fitsOk p.outs (tick p cells inn).1.out := fits_of ht ⟨h.olen, h.ofit⟩
set_option maxRecDepth 100000 in
set_option maxHeartbeats 3000000 in
theorem walk0 (p : Pg) (vi vo vc vd : Value) (rows : List (List Int)) (v1 : Value) (w : World) (h : PgAt w w.heap.size p vi vo vc vd) (h1 : RowsIs w rows v1) :
    Calls Try.prog 6 #[pgV p vi vo vc vd, v1] w fun e w' => e = .returned (.bool true) ∧ Below w.heap.size w w' := by
  have b0 : Below w.heap.size w (w.alloc (.cells #[vi, vo, .int .i64 p.regs, vc, vd] 26)) := (Below.refl _ _).alloc (Nat.le_refl _) _
  have bP := Row.new w #[vi, vo, .int .i64 p.regs, vc, vd] 26
  have HP := Lib.hid h
  obtain ⟨Ar, cr, rfl, lr, mr, sr⟩ := h1
  have mr' : cr ≤ 9223372036854775807 := by unfold maxLen at mr; omega
  obtain ⟨⟨Ai, ci, rfl, li, mi, si⟩, ⟨Ao, co, rfl, lo, mo, so⟩, hreg, ⟨Ac, cc, rfl, lc, mc, sc⟩, ⟨Ad, cd, rfl, ld, md, sd⟩⟩ := h
  have md' : cd ≤ 9223372036854775807 := by unfold maxLen at md; omega
  have HZ : Hid (AllIn (firstZ p)) := fun v hv => by
    obtain ⟨c, hc, rfl⟩ := List.mem_map.1 hv
    exact wf_In (sc.all (P := fun c => Wf c.2) (fun x cs h => h.2.2) c hc)
  have HCd := Lib.hid (pg_in HP.out)
  go_enter Try.func6, Try.ntmps6
  go_wp2_with fail
  refine (awake29_any _).mono ?_
  rintro e w1 ⟨rfl, hb1⟩
  have b1 := b0.trans (hb1.mono b0.size)
  have bP1 := bP.below hb1 bP.lt
  clear hb1 bP b0
  have q0 := bP1.cell 0
  have q1 := bP1.cell 1
  have q2 := bP1.cell 2
  have q3 := bP1.cell 3
  have q4 := bP1.cell 4
  simp only [List.getElem?_toArray, List.getElem?_cons_zero, List.getElem?_cons_succ] at q0 q1 q2 q3 q4
  go_wp2_with fail
  refine (few_any p _ _ _ _ _ (HP.out.next b1)).mono ?_
  rintro e w2 ⟨rfl, hb2⟩
  have b2 := b1.trans (hb2.mono b1.size)
  have bP2 := bP1.below hb2 bP1.lt
  clear hb2 bP1 b1 q0 q1 q2 q3 q4
  generalize hV : cB (fewOk p) = V at *
  have HV := Lib.hid hV
  clear hV
  have q0 := bP2.cell 0
  have q1 := bP2.cell 1
  have q2 := bP2.cell 2
  have q3 := bP2.cell 3
  have q4 := bP2.cell 4
  simp only [List.getElem?_toArray, List.getElem?_cons_zero, List.getElem?_cons_succ] at q0 q1 q2 q3 q4
  cases V
  · go_wp2_with fail
    go_ret
    exact ⟨rfl, b2⟩
  by_cases hl1 : 12 < rows.length
  · go_wp2_with fail
    go_ret
    exact ⟨rfl, b2⟩
  go_wp2_with fail
  refine (new_any p _ _ _ _ _ (HP.out.next b2)).mono ?_
  rintro e w3 ⟨hb3, ⟨hr, M, vi', vo', vc', vd', rfl, hM⟩ | ⟨hno, rfl⟩⟩
  rotate_left 1
  · have b3 := b2.trans (hb3.mono b2.size)
    clear hb3
    go_wp2_with fail
    go_ret
    exact ⟨rfl, b3⟩
  have b3 := b2.trans (hb3.mono b2.size)
  have bP3 := bP2.below hb3 bP2.lt
  clear hb3 q0 q1 q2 q3 q4 bP2 b2 HV
  have HR := Lib.hid hr
  have HM := Lib.hid hM
  have hcl := hr.1.2.2.2.2.2.2.1
  clear hr hM
  go_wp2_with fail
  refine (mfirst_any HM.out (by omega)).mono ?_
  rintro e w4 ⟨v4, rfl, hown4, hb4⟩
  have b4 := b3.trans (hb4.mono b3.size)
  have bP4 := bP3.below hb4 bP3.lt
  have HM4 := Lib.hid (HM.out.below hb4)
  have S4 := Lib.hid (own_ints hown4 HZ.out)
  have HF4 := Lib.hid (mfits_any HM4.out (firstZ p) v4 S4.out)
  rw [cB_true (first_fits HR.out.1)] at HF4
  clear hown4 hb4 HM bP3 b3
  go_wp2_with fail
  refine HF4.out.mono ?_
  rintro e w5 ⟨rfl, hb5⟩
  have b5 := b4.trans (hb5.mono b4.size)
  have bP5 := bP4.below hb5 bP4.lt
  have HM5 := Lib.hid (HM4.out.below hb5)
  have S5 := Lib.hid (slv_below S4.out hb5)
  clear hb5 HM4 S4 HF4 bP4 b4
  go_wp2_with fail
  have hP5 : w.heap.size < w5.heap.size := bP5.lt
  go_loopw [7, 41] (fun c i wr => ∃ (k : Nat) (cl : List Int), k ≤ rows.length ∧ i = .int .i64 k ∧ Hid (machFits p cl) ∧ SlV wr wr.heap.size 1 isInt c cl ∧ Below w5.heap.size w5 wr) (fun _ i _ => rows.length - (intOf i).toNat)
  case atStart => exact ⟨0, firstZ p, Nat.zero_le _, rfl, first_fits HR.out.1, S5.out, Below.refl _ _⟩
  case round =>
    clear S5
    obtain ⟨k, cl, hk, rfl, HF, hS, hb⟩ := hrel
    have br := b5.trans (hb.mono b5.size)
    have bPr := bP5.below hb bP5.lt
    have HMr := Lib.hid (HM5.out.below hb)
    have HS := Lib.hid hS
    clear hS
    have q0 := bPr.cell 0
    have q1 := bPr.cell 1
    have q4 := bPr.cell 4
    simp only [List.getElem?_toArray, List.getElem?_cons_zero, List.getElem?_cons_succ] at q0 q1 q4
    by_cases hlt : k < rows.length
    · obtain ⟨b, off, l, vl, rfl, hbb, hlk, d0, hl⟩ := row_at sr br hlt
      have HL := Lib.hid (hl.more br.size)
      obtain ⟨Al, cl', rfl, ll, ml, sl⟩ := hl
      clear hlk
      by_cases h20 : 20 < l.length
      · go_wp2_with fail
        go_ret
        exact ⟨rfl, br⟩
      go_wp2_with fail
      refine (rfits04_any p.ins l Ai Al ci cl' w.heap.size _ li mi ll ml (si.below br) sl).mono ?_
      rintro e w' ⟨rfl, rfl⟩
      generalize hV : cB (fitsOk p.ins l) = V at *
      have HV := Lib.hid hV
      clear hV
      cases V
      · go_wp2_with fail
        go_ret
        exact ⟨rfl, br⟩
      have HFi := Lib.hid (cB_iff.1 HV.out)
      clear HV
      have hclen : cl.length ≤ 100000 := by have := HF.out.1; omega
      go_wp2_with fail
      refine (tick_any HR.out HMr.out cl l _ _ HS.out HL.out hclen).mono ?_
      rintro e w6 ⟨hb6, ⟨_, _, vn, vp, rfl, t1, t2⟩ | ⟨no, _⟩⟩
      rotate_left 1
      · exact absurd ⟨HF.out, HFi.out⟩ no
      have HTI := Lib.hid (tick_inv HR.out HF.out (fits_ins HFi.out) (slv_in HS.out) (slv_in HL.out) HCd.out)
      have hnle : (tick p cl l).2 ≤ p.code.length := trun_le _ _ _
      have b6 := br.trans (hb6.mono br.size)
      have bP6 := bPr.below hb6 bPr.lt
      have HM6 := Lib.hid (HMr.out.below hb6)
      have T1 := Lib.hid t1
      have hbx := hb.trans (hb6.mono hb.size)
      have HF6 := Lib.hid (mfits_any HM6.out _ vn t1)
      rw [cB_true (tick_next HTI.out)] at HF6
      obtain ⟨Ap, cp, rfl, lp, mp, sp⟩ := t2
      have HFo := Lib.hid (cB_true (tick_outs HR.out.1.2.2.2.1 HTI.out))
      have HFn := Lib.hid (tick_next HTI.out)
      clear q0 q1 q4 bPr br HMr HS HL d0 sl hb6 t1 HTI hb
      generalize (tick p cl l).2 = N at *
      go_wp2_with fail
      refine HF6.out.mono ?_
      rintro e w7 ⟨rfl, hb7⟩
      have b7 := b6.trans (hb7.mono b6.size)
      have bP7 := bP6.below hb7 bP6.lt
      have q1 := bP7.cell 1
      have q4 := bP7.cell 4
      simp only [List.getElem?_toArray, List.getElem?_cons_zero, List.getElem?_cons_succ] at q1 q4
      have hby := hbx.trans (hb7.mono hbx.size)
      have T7 := Lib.hid (slv_below T1.out hb7)
      have HC := Lib.hid (rfits04_any p.outs (tick p cl l).1.out Ao Ap co cp w7.heap.size w7 lo mo lp mp ((so.below b7).more b7.size) ((sp.below hb7).more hb7.size))
      rw [HFo.out] at HC
      clear hb7 HF6 sp bP6 b6 hbx T1
      go_wp2_with fail
      refine HC.out.mono ?_
      rintro e w' ⟨rfl, rfl⟩
      go_wp2_with fail
      go_roundw
      case rel => exact ⟨k + 1, (tick p cl l).1.next, by omega, by go_num, HFn, T7.out, hby⟩
      case measure => simp [intOf]; omega
    · go_wp2_with fail
      go_ret
      exact ⟨rfl, br⟩
theorem walk (p : Pg) (v : Value) (l1 : List (List Int)) (v1 : Value) (w : World) (h : PgIs w p v) (h1 : RowsIs w l1 v1) : Calls Try.prog 6 #[v, v1] w fun e w' => e = .returned (.bool true) ∧ Below w.heap.size w w' := by
  obtain ⟨vi, vo, vc, vd, rfl, ha⟩ := h
  exact walk0 p vi vo vc vd l1 v1 w ha h1
end vmFits
end Go.Proofs.Ytbjaejgechadpaa
