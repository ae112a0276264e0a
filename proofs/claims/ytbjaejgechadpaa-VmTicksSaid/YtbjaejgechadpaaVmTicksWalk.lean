/-
  The walk of the law VmTicks.
-/
import Derived.Test.YtbjaejgechadpaaRefTick29
import Derived.Test.YtbjaejgechadpaaRefSame
namespace Go.Proofs.Ytbjaejgechadpaa.vmTicks
open Go.RowKit Vf
attribute [local go_sem ↓] Go.wp_at_zero Go.wp_at_succ
theorem slv_below {w w' : World} {v : Value} {l : List Int} (h : SlV w w.heap.size 1 isInt v l) (hb : Below w.heap.size w w') : SlV w' w'.heap.size 1 isInt v l := (h.below hb).more hb.size
theorem slv_drew {w : World} {v : Value} {l : List Int} (h : SlV w w.heap.size 1 isInt v l) (n : Nat) : SlV (w.drewN n) (w.drewN n).heap.size 1 isInt v l := slv_below h (below_drewN' (Below.refl _ _) n)
set_option maxRecDepth 100000 in
set_option maxHeartbeats 8000000 in
theorem walk0 (p : Pg) (vi vo vc vd : Value) (cells inn : List Int) (v1 v2 : Value) (w : World) (h : PgAt w w.heap.size p vi vo vc vd) (h1 : IntsIs w cells v1) (h2 : IntsIs w inn v2) :
    Calls Try.prog 10 #[pgV p vi vo vc vd, v1, v2] w fun e w' => e = .returned (.bool true) ∧ Below w.heap.size w w' := by
  have b0 : Below w.heap.size w (w.alloc (.cells #[vi, vo, .int .i64 p.regs, vc, vd] 26)) := (Below.refl _ _).alloc (Nat.le_refl _) _
  have bP := Row.new w #[vi, vo, .int .i64 p.regs, vc, vd] 26
  have HP := Lib.hid h
  have H1 := Lib.hid h1.1
  have H2 := Lib.hid h2.1
  have N1 := Lib.hid h1.2
  have HZ : Hid (AllIn (firstZ p)) := fun v hv => by
    obtain ⟨c, hc, rfl⟩ := List.mem_map.1 hv
    obtain ⟨A, cc, _, _, _, sc⟩ := HP.out.cells
    exact wf_In (sc.all (P := fun c => Wf c.2) (fun x cs h => h.2.2) c hc)
  obtain ⟨A1, c1, rfl, l1, m1, s1⟩ := h1.1
  obtain ⟨A2, c2, rfl, l2, m2, s2⟩ := h2.1
  clear h h1 h2 s1 s2
  go_enter Try.func10, Try.ntmps10
  go_wp2_with fail
  refine (awake29_any _).mono ?_
  rintro e w1 ⟨rfl, hb1⟩
  have b1 := b0.trans (hb1.mono b0.size)
  have bP1 := bP.below hb1 bP.lt
  clear hb1 bP b0
  go_wp2_with fail
  refine (tick_nil _ _ _).mono ?_
  rintro e w' ⟨rfl, rfl⟩
  go_wp2_with fail
  refine (fits_nil _ _).mono ?_
  rintro e w' ⟨rfl, rfl⟩
  go_wp2_with fail
  refine (first_nil _).mono ?_
  rintro e w' ⟨rfl, rfl⟩
  go_wp2_with fail
  refine (program_nil _).mono ?_
  rintro e w2 ⟨rfl, hb2⟩
  have b2 := b1.trans (hb2.mono b1.size)
  have bP2 := bP1.below hb2 bP1.lt
  clear hb2 bP1 b1
  have HS := Lib.hid (rsame_any pg0 _ _ _ _ _ _ _ _ w2 (pg0_at w2) (pg0_at w2))
  go_wp2_with fail
  refine HS.out.mono ?_
  rintro e w3 ⟨rfl, hb3⟩
  have b3 := b2.trans (hb3.mono b2.size)
  have bP3 := bP2.below hb3 bP2.lt
  clear hb3 bP2 b2 HS
  have q0 := bP3.cell 0
  have q1 := bP3.cell 1
  have q2 := bP3.cell 2
  have q3 := bP3.cell 3
  have q4 := bP3.cell 4
  simp only [List.getElem?_toArray, List.getElem?_cons_zero, List.getElem?_cons_succ] at q0 q1 q2 q3 q4
  go_wp2_with fail
  refine (few_any p _ _ _ _ _ (HP.out.next b3)).mono ?_
  rintro e w4 ⟨rfl, hb4⟩
  have b4 := b3.trans (hb4.mono b3.size)
  have bP4 := bP3.below hb4 bP3.lt
  clear hb4 bP3 b3 q0 q1 q2 q3 q4
  generalize hV : cB (fewOk p) = V at *
  have HV := Lib.hid hV
  clear hV
  have q0 := bP4.cell 0
  have q1 := bP4.cell 1
  have q2 := bP4.cell 2
  have q3 := bP4.cell 3
  have q4 := bP4.cell 4
  simp only [List.getElem?_toArray, List.getElem?_cons_zero, List.getElem?_cons_succ] at q0 q1 q2 q3 q4
  cases V
  · go_wp2_with fail
    go_ret
    exact ⟨rfl, b4⟩
  by_cases hl1 : 100 < cells.length
  · go_wp2_with fail
    go_ret
    exact ⟨rfl, b4⟩
  by_cases hl2 : 20 < inn.length
  · go_wp2_with fail
    go_ret
    exact ⟨rfl, b4⟩
  go_wp2_with fail
  refine (new_any p _ _ _ _ _ (HP.out.next b4)).mono ?_
  rintro e w5 ⟨hb5, hnew⟩
  have b5 := b4.trans (hb5.mono b4.size)
  have bP5 := bP4.below hb5 bP4.lt
  clear hb5 q0 q1 q2 q3 q4 bP4 b4 HV
  have q0 := bP5.cell 0
  have q1 := bP5.cell 1
  have q2 := bP5.cell 2
  have q3 := bP5.cell 3
  have q4 := bP5.cell 4
  simp only [List.getElem?_toArray, List.getElem?_cons_zero, List.getElem?_cons_succ] at q0 q1 q2 q3 q4
  have HRR := Lib.hid (rright_any w5 (HP.out.next b5))
  rcases hnew with ⟨hr, M, vi', vo', vc', vd', rfl, hM⟩ | ⟨hno, rfl⟩
  rotate_left 1
  · rw [cB_false hno] at HRR
    go_wp2_with fail
    refine HRR.out.mono ?_
    rintro e w6 ⟨rfl, hb6⟩
    have b6 := b5.trans (hb6.mono b5.size)
    clear hb6
    go_wp2_with fail
    go_ret
    exact ⟨rfl, b6⟩
  rw [cB_true hr] at HRR
  have HR := Lib.hid hr
  have HM := Lib.hid hM
  have hcl := hr.1.2.2.2.2.2.2.1
  clear hr hM
  go_wp2_with fail
  refine HRR.out.mono ?_
  rintro e w6 ⟨rfl, hb6⟩
  have b6 := b5.trans (hb6.mono b5.size)
  have bPx := (bP5.below hb6 bP5.lt).drew
  have hMx := (HM.out.below hb6).below (Below.refl _ _).drew
  have bx := b6.drew
  clear hb6 HRR q0 q1 q2 q3 q4 bP5 b5 HM
  have q0 := bPx.cell 0
  have q1 := bPx.cell 1
  have q2 := bPx.cell 2
  have q3 := bPx.cell 3
  have q4 := bPx.cell 4
  simp only [List.getElem?_toArray, List.getElem?_cons_zero, List.getElem?_cons_succ] at q0 q1 q2 q3 q4
  go_wp2_with fail
  have HFr := Lib.hid (first_fits HR.out.1)
  go_upto_region 12 with (fail)
  go_cut [104] (fun t W2 => t = .bool false ∧ Row W2 w.heap.size #[vi, vo, .int .i64 p.regs, vc, vd] 26 ∧ MachAt W2 M p vi' vo' vc' vd' ∧ Below w.heap.size w W2)
  case first =>
    go_region_held3 (fun w' => w'.cell? ⟨w.heap.size, 0, none⟩ = some vi ∧ w'.cell? ⟨w.heap.size, 1, none⟩ = some vo ∧ w'.cell? ⟨w.heap.size, 2, none⟩ = some (.int .i64 p.regs) ∧ w'.cell? ⟨w.heap.size, 3, none⟩ = some vc ∧ w'.cell? ⟨w.heap.size, 4, none⟩ = some vd)
      (first | exact ⟨bPx.cell 0, bPx.cell 1, bPx.cell 2, bPx.cell 3, bPx.cell 4⟩)
      (first | (go_at_call 37; refine (program_any hMx).mono ?_; rintro e wa ⟨rfl, hba⟩; have bx := bx.trans (hba.mono bx.size); have bPx := bPx.below hba bPx.lt; have hMx := hMx.below hba) | (go_at_call 36; refine (rsame_any p _ _ _ _ _ _ _ _ _ hMx.pg (HP.out.next bx)).mono ?_; rintro e wb ⟨rfl, hbb⟩; have bx := bx.trans (hbb.mono bx.size); have bPx := bPx.below hbb bPx.lt; have hMx := hMx.below hbb) | (go_at_call 21; refine (mfirst_any hMx (by omega)).mono ?_; rintro e wc ⟨vf, rfl, hownf, hbc⟩; have sf := own_ints hownf HZ.out; have bx := bx.trans (hbc.mono bx.size); have bPx := bPx.below hbc bPx.lt; have hMx := hMx.below hbc) | (go_at_call 38; refine (rfirst_any p _ _ _ _ _ (HP.out.next bx) (by omega)).mono ?_; rintro e wd ⟨vg, rfl, howng, hbd⟩; have sg := own_ints howng HZ.out; have sf := slv_below sf hbd; have bx := bx.trans (hbd.mono bx.size); have bPx := bPx.below hbd bPx.lt; have hMx := hMx.below hbd) | (go_at_call 20; refine (ints_same _ _ _ _ _ sf sg).mono ?_; rintro e we ⟨rfl, ne, rfl⟩; have hbe := below_drewN' (Below.refl wd.heap.size wd) ne; have bx := bx.trans (hbe.mono bx.size); have bPx := bPx.below hbe bPx.lt; have hMx := hMx.below hbe) | (go_at_call 22; refine (mfits_any hMx cells _ (slv_below H1.out bx)).mono ?_; rintro e wf ⟨rfl, hbf⟩; have bx := bx.trans (hbf.mono bx.size); have bPx := bPx.below hbf bPx.lt; have hMx := hMx.below hbf) | (go_at_call 39; refine (rfits29_any p HR.out.1 _ _ _ _ _ (HP.out.next bx) cells _ (slv_below H1.out bx)).mono ?_; rintro e wg ⟨rfl, hbg⟩; have bx := bx.trans (hbg.mono bx.size); have bPx := bPx.below hbg bPx.lt; have hMx := hMx.below hbg))
    all_goals
      go_wp2_with fail
      go_meet
      exact ⟨by simp, bPx, hMx, bx⟩
  case rest =>
    obtain ⟨rfl, bP7, hM7, b7⟩ := hcut
    clear q0 q1 q2 q3 q4 bPx hMx bx b6
    have q0 := bP7.cell 0
    have q1 := bP7.cell 1
    have q2 := bP7.cell 2
    have q3 := bP7.cell 3
    have q4 := bP7.cell 4
    simp only [List.getElem?_toArray, List.getElem?_cons_zero, List.getElem?_cons_succ] at q0 q1 q2 q3 q4
    have HM7 := Lib.hid hM7
    clear hM7
    go_wp2_with fail
    refine (tick_any HR.out HM7.out cells inn _ _ (slv_below H1.out b7) (slv_below H2.out b7) (by omega)).mono ?_
    rintro e w8 ⟨hb8, ht8⟩
    have b8 := b7.trans (hb8.mono b7.size)
    have bP8 := bP7.below hb8 bP7.lt
    clear q0 q1 q2 q3 q4 bP7 b7 hb8 HM7
    have q0 := bP8.cell 0
    have q1 := bP8.cell 1
    have q2 := bP8.cell 2
    have q3 := bP8.cell 3
    have q4 := bP8.cell 4
    simp only [List.getElem?_toArray, List.getElem?_cons_zero, List.getElem?_cons_succ] at q0 q1 q2 q3 q4
    have HT := Lib.hid (rtick_any p HR.out _ _ _ _ w8 (HP.out.next b8) cells inn _ _ ⟨slv_below H1.out b8, N1.out⟩ (slv_below H2.out b8) (by omega))
    rcases ht8 with ⟨f1, f2, vn1, vo1, rfl, t1, t2⟩ | ⟨no, rfl⟩
    · have T1 := Lib.hid t1
      have T2 := Lib.hid t2
      clear t1 t2
      go_wp2_with fail
      refine HT.out.mono ?_
      rintro e w9 ⟨hb9, ⟨_, _, vn2, vo2, rfl, t3, t4⟩ | ⟨no, _⟩⟩
      rotate_left 1
      · exact absurd ⟨f1, f2⟩ no
      have b9 := b8.trans (hb9.mono b8.size)
      have U1 := Lib.hid (slv_below T1.out hb9)
      have U2 := Lib.hid (slv_below T2.out hb9)
      have U3 := Lib.hid t3
      have U4 := Lib.hid t4
      clear t3 t4 T1 T2 hb9 HT
      generalize ((tick p cells inn).2 : Nat) = N at *
      go_wp2_with fail
      refine (ints_same _ _ _ _ _ U1.out U3.out).mono ?_
      rintro e wc ⟨rfl, nc, rfl⟩
      go_wp2_with fail
      refine (ints_same _ _ _ _ _ (slv_drew U2.out _) (slv_drew U4.out _)).mono ?_
      rintro e wd ⟨rfl, nd, rfl⟩
      go_wp2_with fail
      go_ret
      exact ⟨by simp, below_drewN' b9 _⟩
    · go_wp2_with fail
      refine HT.out.mono ?_
      rintro e w9 ⟨hb9, ⟨f1, f2, _⟩ | ⟨_, rfl⟩⟩
      · exact absurd ⟨f1, f2⟩ no
      have b9 := b8.trans (hb9.mono b8.size)
      clear hb9 HT
      go_wp2_with fail
      refine (ints_same [] _ _ 0 _ SlV.nil SlV.nil).mono ?_
      rintro e wc ⟨rfl, nc, rfl⟩
      go_wp2_with fail
      refine (ints_same [] _ _ 0 _ SlV.nil SlV.nil).mono ?_
      rintro e wd ⟨rfl, nd, rfl⟩
      go_wp2_with fail
      go_ret
      exact ⟨by simp, below_drewN' b9 _⟩
theorem walk (p : Pg) (v : Value) (l1 : List Int) (v1 : Value) (l2 : List Int) (v2 : Value) (w : World) (h : PgIs w p v) (h1 : IntsIs w l1 v1) (h2 : IntsIs w l2 v2) : Calls Try.prog 10 #[v, v1, v2] w fun e w' => e = .returned (.bool true) ∧ Below w.heap.size w w' := by
  obtain ⟨vi, vo, vc, vd, rfl, ha⟩ := h
  exact walk0 p vi vo vc vd l1 l2 v1 v2 w ha h1 h2
end Go.Proofs.Ytbjaejgechadpaa.vmTicks
