/-
  The contract of a machine's Tick.
-/
import Derived.Test.YtbjaejgechadpaaVmB
import Derived.Test.YtbjaejgechadpaaVmFitsA
namespace Go.Proofs.Ytbjaejgechadpaa
open Go.RowKit Vf
attribute [local go_sem ↓] Go.wp_at_zero Go.wp_at_succ
theorem results_tmp4 {fn : Func} {t u v x : Tmp} (h : fn.results = #[.tmp t, .tmp u, .tmp v, .tmp x]) (tmps : Array Value) (P : Program) (w : World) :
    (results fn tmps).run P w = .ok (.tuple #[tmps.getD t undef, tmps.getD u undef, tmps.getD v undef, tmps.getD x undef]) w := by simp [results, h]
theorem TI.passN {p : Pg} (hr : rightOk p) {s : Tk} {i : Nat} : ∀ m : Nat, i + m ≤ p.code.length → TI p i s → TI p (i + m) s
  | 0, _, h => h
  | m + 1, hm, h => by
    have := TI.passN hr m (by omega) h
    exact this.pass hr (List.getElem?_eq_getElem (show i + m < p.code.length by omega))
theorem fits_ins {ts vs : List Int} (h : fitsOk ts vs) : insFit ts vs := ⟨h.2.1, fun j hj h2 => by
  have hv : j < vs.length := by rw [h.2.1]; exact hj
  have e1 : getI ts j = ts[j] := getI_some (List.getElem?_eq_getElem hj)
  have e2 : getI vs j = vs[j] := getI_some (List.getElem?_eq_getElem hv)
  rw [e2]
  exact h.2.2 j _ _ (List.getElem?_eq_getElem hj) (List.getElem?_eq_getElem hv) (e1.symm.trans h2)⟩
theorem wf_In {n : Int} (h : Wf n) : Z.In n := h.le
theorem slv_in {w : World} {B : Nat} {v : Value} {l : List Int} (h : SlV w B 1 isInt v l) : AllIn l := by
  obtain ⟨A, c, _, _, _, s⟩ := h
  exact s.all (fun x cs h => wf_In h.2)
theorem pg_in {w : World} {B : Nat} {p : Pg} {vi vo vc vd : Value} (h : PgAt w B p vi vo vc vd) : codeIn p := by
  obtain ⟨A, c, _, _, _, s⟩ := h.code
  exact s.all (fun x cs h => wf_In h.2.k)
/-- the loop of a tick -/
structure TLoop (p : Pg) (cells inn : List Int) (k n : Nat) (s : Tk) : Prop where
  le : k ≤ p.code.length
  ti : TI p k s
  st : (trun cells inn (p.code.drop k) 0 s).1 = (tick p cells inn).1
  nn : (trun cells inn (p.code.drop k) 0 s).2 + n = (tick p cells inn).2
theorem tloop_start {p : Pg} {cells inn : List Int} (hc : machFits p cells) (hcI : AllIn cells) : TLoop p cells inn 0 0 (tk0 p cells) :=
  ⟨Nat.zero_le _, tk0_inv hc hcI, by rw [List.drop_zero]; rfl, by rw [List.drop_zero]; rfl⟩
theorem tskip_in {p : Pg} {s : Tk} {i : Nat} {x : In5} (hs : Vf.Safe p i x) (hi : i < p.code.length) : 0 ≤ tskip s x ∧ tskip s x ≤ (p.code.length : Int) - 1 - i := by
  unfold tskip
  split
  · rename_i h
    exact hs.k30 (by omega)
  · omega
theorem tloop_next {p : Pg} {cells inn : List Int} {k n : Nat} {s : Tk} {x : In5} (hr : rightOk p) (hx : p.code[k]? = some x) (hc : machFits p cells) (hi : insFit p.ins inn) (hcI : AllIn cells) (hiI : AllIn inn) (hk : codeIn p) (h : TLoop p cells inn k n s) :
    TLoop p cells inn (k + (tskip s x).toNat + 1) (n + 1) (texec cells inn s x) := by
  have hkl : k < p.code.length := (List.getElem?_eq_some_iff.1 hx).1
  have hs := tskip_in (s := s) (right_safe hr hx) hkl
  have e : k + (tskip s x).toNat + 1 = k + 1 + (tskip s x).toNat := by omega
  have hst := trun_step (cells := cells) (inn := inn) (s := s) hx
  rw [e]
  refine ⟨by omega, TI.passN hr _ (by omega) (h.ti.step hr hx hc hi hcI hiI (hk x (List.mem_of_getElem? hx))), ?_, ?_⟩
  · rw [← h.st, hst]
  · rw [← h.nn, hst]; omega
def TickIs (p : Pg) (cells inn : List Int) (w : World) (e : Ending) (w' : World) : Prop := Below w.heap.size w w' ∧
  ((machFits p cells ∧ fitsOk p.ins inn ∧ ∃ vn vo, e = .returned (.tuple #[vn, vo, .int .i64 ((tick p cells inn).2 : Nat), .int .i64 0]) ∧ SlV w' w'.heap.size 1 isInt vn (tick p cells inn).1.next ∧ SlV w' w'.heap.size 1 isInt vo (tick p cells inn).1.out) ∨
   (¬ (machFits p cells ∧ fitsOk p.ins inn) ∧ e = .returned (.tuple #[.slice none 0 0, .slice none 0 0, .int .i64 0, .int .i64 41])))
theorem Row.belowSelf {W W' : World} {b : Nat} {cs : Array Value} {t : TypeId} (h : Row W b cs t) (hb : Below W.heap.size W W') : Row W' b cs t := h.below hb h.lt
theorem tk_new {w W : World} {T R O : Nat} {vn v1 v2 : Value} {p : Pg} {cells inn : List Int} (hr1 : p.regs ≤ 1600) (ho1 : p.outs.length ≤ 8)
    (rT : Row W T #[.slice (some ⟨R, 0, none⟩) p.regs.toNat p.regs.toNat, v1, vn, v2, .slice (some ⟨O, 0, none⟩) p.outs.length p.outs.length] 85)
    (rR : Row W R (Array.replicate p.regs.toNat (.int .i64 0)) 3) (rO : Row W O (Array.replicate p.outs.length (.int .i64 0)) 3)
    (next : W.ownsRow w.heap.size 3 1 vn cells.length (ints cells)) (hb : Below w.heap.size w W) (h1 : SlV w w.heap.size 1 isInt v1 cells) (h2 : SlV w w.heap.size 1 isInt v2 inn)
    (bT : w.heap.size ≤ T) (bR : w.heap.size ≤ R) (bO : w.heap.size ≤ O) (TR : T ≠ R) (TO : T ≠ O) (RO : R ≠ O) (nn : ∀ k, vn.ownBlock = some k → k ≠ T ∧ k ≠ R ∧ k ≠ O) :
    TkAt W w.heap.size T R O v1 vn v2 cells inn (tk0 p cells) := by
  refine ⟨?_, ?_, ?_, next, h1.below hb, h2.below hb, bT, bR, bO, TR, TO, RO, nn, ?_, ?_⟩
  · simpa [tk0] using rT
  · rw [map_rep] at rR; exact rR
  · rw [map_rep] at rO; exact rO
  · simp [tk0]; omega
  · simp [tk0]; omega
theorem in_Wf {n : Int} (h : Z.In n) : Wf n := wf_of h
theorem row_slv {w : World} {O B : Nat} {l : List Int} {t : TypeId} (r : Row w O (l.map (Value.int .i64)).toArray t) (hB : O < B) (hl : l.length ≤ 1600) (hi : AllIn l) : SlV w B 1 isInt (.slice (some ⟨O, 0, none⟩) l.length l.length) l := by
  refine ⟨_, _, rfl, Nat.le_refl _, by unfold maxLen; omega, fun _ => ⟨O, 0, rfl, hB, fun i x hx => ⟨[.int .i64 x], fun j u hu => ?_, rfl, in_Wf (hi x (List.mem_of_getElem? hx))⟩⟩⟩
  match j, hu with
  | 0, hu =>
    simp at hu
    rw [r.cell]
    simp [hx, hu]
theorem own_ints {w : World} {base : Nat} {e : TypeId} {v : Value} {n : Nat} {l : List Int} (h : w.ownsRow base e 1 v n (ints l)) (hi : AllIn l) : SlV w w.heap.size 1 isInt v l := by
  rw [← intC_flat] at h
  exact own_slv (rel := isInt) h (fun x hx => ⟨rfl, in_Wf (hi x hx)⟩) intC_len (by decide)
theorem tloop_end {p : Pg} {cells inn : List Int} {k n : Nat} {s : Tk} (h : TLoop p cells inn k n s) (hk : ¬ k < p.code.length) : s = (tick p cells inn).1 ∧ n = (tick p cells inn).2 := by
  have h1 := h.st
  have h2 := h.nn
  rw [List.drop_eq_nil_of_le (by omega)] at h1 h2
  exact ⟨h1, by rw [← h2]; show n = 0 + n; omega⟩
theorem tkx_below {w wr w2 : World} {R O : Nat} {vn : Value} (hb : Below w.heap.size w wr) (hu : Upd (tkX R O vn) wr w2) (bR : w.heap.size ≤ R) (bO : w.heap.size ≤ O) (bN : ∀ k, vn.ownBlock = some k → w.heap.size ≤ k) : Below w.heap.size w w2 :=
  hb.trans (hu.below (fun k hk => by rcases hk with rfl | rfl | hk; exact bR; exact bO; exact bN k hk) hb.size)
set_option linter.unusedSimpArgs false in
set_option maxRecDepth 100000 in
set_option maxHeartbeats 8000000 in
theorem tick_any {w : World} {M : Nat} {p : Pg} {vi vo vc vd : Value} (hr : rightOk p) (h : MachAt w M p vi vo vc vd) (cells inn : List Int) (v1 v2 : Value) (h1 : SlV w w.heap.size 1 isInt v1 cells) (h2 : SlV w w.heap.size 1 isInt v2 inn) (hcl : cells.length ≤ 100000) :
    Calls Try.prog 19 #[.pointer (some ⟨M, 0, none⟩), v1, v2] w (TickIs p cells inn w) := by
  have HI := Lib.hid (is_any h)
  have HF := Lib.hid (mfits_any h cells v1 h1)
  have HR := Lib.hid hr
  have HM := Lib.hid h
  have HC1 := Lib.hid (slv_in h1)
  have HC2 := Lib.hid (slv_in h2)
  have HCd := Lib.hid (pg_in h.pg)
  have H1 := Lib.hid h1
  have H2 := Lib.hid h2
  have hr0 := hr.1.2.2.2.2.1
  have hr1 := hr.1.2.2.2.2.2.1
  have ho1 := hr.1.2.2.2.1.2.2
  obtain ⟨Ai, ci, rfl, li, mi, si⟩ := h.pg.ins
  obtain ⟨Ao, co, rfl, lo, mo, so⟩ := h.pg.outs
  obtain ⟨Ad, cd, rfl, ld, md, sd⟩ := h.pg.code
  have mo' : co ≤ 9223372036854775807 := by unfold maxLen at mo; omega
  have md' : cd ≤ 9223372036854775807 := by unfold maxLen at md; omega
  obtain ⟨A1, c1, rfl, l1, m1, s1⟩ := h1
  obtain ⟨A2, c2, rfl, l2, m2, s2⟩ := h2
  clear hr h so
  go_enter Try.func19, Try.ntmps19
  go_wp2_with fail
  refine HI.out.mono ?_
  rintro e w' ⟨rfl, rfl⟩
  go_wp2_with fail
  refine HF.out.mono ?_
  rintro e w1 ⟨rfl, hb1⟩
  have hM1 := HM.out.below hb1
  have q0 : w1.cell? ⟨M, 0, none⟩ = some (.slice Ai p.ins.length ci) := hM1.row.cell 0
  generalize hV : cB (machFits p cells) = V at *
  have HV := Lib.hid hV
  clear hV
  cases V
  · go_wp2_with fail
    refine bodyPost_ret (results_tmp4 rfl _ _ _) rfl ?_
    exact ⟨hb1, .inr ⟨fun g => cB_not.1 HV.out g.1, rfl⟩⟩
  have HFc := Lib.hid (cB_iff.1 HV.out)
  clear HV HI HF
  go_wp2_with fail
  refine (rowFits_any p.ins inn Ai A2 ci c2 w.heap.size _ li mi l2 m2 (si.below hb1) (s2.below hb1)).mono ?_
  rintro e w' ⟨rfl, rfl⟩
  generalize hV : cB (fitsOk p.ins inn) = V at *
  have HV := Lib.hid hV
  clear hV
  cases V
  · go_wp2_with fail
    refine bodyPost_ret (results_tmp4 rfl _ _ _) rfl ?_
    exact ⟨hb1, .inr ⟨fun g => cB_not.1 HV.out g.2, rfl⟩⟩
  have HFi := Lib.hid (cB_iff.1 HV.out)
  clear HV
  have q1 : w1.cell? ⟨M, 1, none⟩ = some (.slice Ao p.outs.length co) := hM1.row.cell 1
  have q2 : w1.cell? ⟨M, 2, none⟩ = some (.int .i64 p.regs) := hM1.row.cell 2
  have hMlt := hM1.row.lt
  have mk1 := make_ints p.regs hr0 hr1
  have mk2 := make_ints p.outs.length (by omega) (by omega)
  have HCl : Hid (∀ (W : World), Below w1.heap.size w1 W → Calls Try.prog 56 #[.slice A1 cells.length c1] W (fun e w' => ∃ A3 c3, e = .returned (.slice A3 cells.length c3) ∧ w'.ownsRow W.heap.size 3 1 (.slice A3 cells.length c3) cells.length (ints cells) ∧ Below W.heap.size W w' ∧ Below w1.heap.size w1 w')) := by
    intro W hb
    refine (clone_int cells _ W (((H1.out.below hb1).below (hb.mono hb1.size)).more (Nat.le_trans hb1.size hb.size)) hcl).mono ?_
    rintro e w3 ⟨v3, rfl, hown3, hb3⟩
    obtain ⟨A3, c3, hv3, _, _, _⟩ := own_rd hown3
    subst hv3
    rw [intC_flat] at hown3
    exact ⟨A3, c3, rfl, hown3, hb3, hb.trans (hb3.mono hb.size)⟩
  go_upto_region 5 with (fail)
  go_cut [10] (fun t W2 => ∃ T R O vn, t = .pointer (some ⟨T, 0, none⟩) ∧ TkAt W2 w.heap.size T R O (.slice A1 cells.length c1) vn (.slice A2 inn.length c2) cells inn (tk0 p cells) ∧ Below w.heap.size w W2)
  case first =>
    go_region_held3 (fun w' => w'.cell? ⟨M, 1, none⟩ = some (.slice Ao p.outs.length co) ∧ w'.cell? ⟨M, 2, none⟩ = some (.int .i64 p.regs))
      (first | go_keep)
      (first | (go_at_call 56; refine (HCl.out _ (by repeat (first | exact Below.refl _ _ | refine Below.drew ?_ | refine Below.alloc ?_ (by simp; try omega) _))).mono ?_; rintro e w3 ⟨A3, c3, rfl, hown3, hb3, hb13⟩; have k1 : w3.cell? ⟨M, 1, none⟩ = some (.slice Ao p.outs.length co) := (hb13.cell (p := ⟨M, 1, none⟩) hMlt).trans q1; have k2 : w3.cell? ⟨M, 2, none⟩ = some (.int .i64 p.regs) := (hb13.cell (p := ⟨M, 2, none⟩) hMlt).trans q2; have hMlt3 : M < w3.heap.size := Nat.lt_of_lt_of_le hMlt hb13.size))
    all_goals
      have z3 := hb3.size
      have z1 := hb1.size
      have z4 := hb13.size
      have hlt := hown3.lt
      simp only [World.size_alloc, World.size_drew] at z3 hlt
      go_wp2_with fail
      go_meet
      refine ⟨_, _, _, _, rfl, tk_new hr1 ho1 (by first | exact Row.new _ _ _ | exact rowNew2 _ _ _ _ | exact rowNew3 _ _ _ _ _) ?_ ?_ ?_ ?_ H1.out H2.out (by omega) (by omega) (by omega) (by omega) (by omega) (by omega) (fun k hk => by have := hlt k hk; omega), ?_⟩
      · first | exact (Row.belowSelf ((Row.new _ _ _).alloc _).drew hb3).alloc _ | exact (Row.belowSelf (rowNew2 _ _ _ _).drew hb3).alloc _ | exact ((Row.belowSelf (Row.new _ _ _).drew hb3).alloc _).alloc _ | exact (Row.new _ _ _).alloc _ | exact ((Row.new _ _ _).alloc _).alloc _ | exact (rowNew2 _ _ _ _).alloc _
      · first | exact (Row.belowSelf ((Row.new _ _ _).alloc _).drew hb3).alloc _ | exact (Row.belowSelf (rowNew2 _ _ _ _).drew hb3).alloc _ | exact ((Row.belowSelf (Row.new _ _ _).drew hb3).alloc _).alloc _ | exact (Row.new _ _ _).alloc _ | exact ((Row.new _ _ _).alloc _).alloc _ | exact (rowNew2 _ _ _ _).alloc _
      · first | exact own_base (hown3.alloc _) (by simp only [World.size_alloc, World.size_drew]; omega) | exact own_base ((hown3.alloc _).alloc _) (by simp only [World.size_alloc, World.size_drew]; omega) | exact own_base (((hown3.alloc _).alloc _).alloc _) (by simp only [World.size_alloc, World.size_drew]; omega)
      · refine hb1.trans (Below.mono (B := w1.heap.size) ?_ hb1.size)
        repeat (first | exact hb13 | refine Below.drew ?_ | refine Below.alloc ?_ (by simp only [World.size_alloc, World.size_drew]; omega) _ | refine Below.alloc ?_ (by omega) _)
      · refine hb1.trans (Below.mono (B := w1.heap.size) ?_ hb1.size)
        repeat (first | exact hb13 | refine Below.drew ?_ | refine Below.alloc ?_ (by simp only [World.size_alloc, World.size_drew]; omega) _ | refine Below.alloc ?_ (by omega) _)
  case rest =>
    obtain ⟨T, R, O, vn, rfl, hT0, hbc⟩ := hcut
    clear q0 q1 q2 hMlt mk1 mk2 HCl hM1 hb1
    go_wp2_with fail
    go_loopw [11, 8] (fun i st wr => ∃ (k n : Nat) (s : Tk), i = .int .i64 k ∧ st = .int .i64 n ∧ k ≤ p.code.length ∧ n ≤ k ∧ Hid (TLoop p cells inn k n s) ∧ TkAt wr w.heap.size T R O (.slice A1 cells.length c1) vn (.slice A2 inn.length c2) cells inn s ∧ Below w.heap.size w wr) (fun i _ _ => p.code.length - (intOf i).toNat)
    case atStart => exact ⟨0, 0, _, rfl, rfl, Nat.zero_le _, Nat.le_refl _, tloop_start HFc.out HC1.out, hT0, hbc⟩
    case round =>
      clear hT0 hbc
      obtain ⟨k, n, s, rfl, rfl, hkl, hnk, HN, hT, hb⟩ := hrel
      have q4 : wr.cell? ⟨M, 4, none⟩ = some (.slice Ad p.code.length cd) := (HM.out.below hb).row.cell 4
      by_cases hlt : k < p.code.length
      · obtain ⟨b, off, x, rfl, hbb, hxk, hok, d0, d1, d2, d3, d4⟩ := (sd.below hb).in5 hlt
        have HK := Lib.hid hxk
        have hkl' : (k : Int) < p.code.length := by omega
        have hsk := tskip_in (s := s) (right_safe HR.out hxk) hlt
        have HN' := Lib.hid (tloop_next HR.out hxk HFc.out (fits_ins HFi.out) HC1.out HC2.out HCd.out HN.out)
        have HD := Lib.hid (does_any wr w.heap.size T R O _ vn _ cells inn s p k x trivial hT (right_safe HR.out hxk) (by have := HN.out.ti.rlen; omega) HN.out.ti.olen HN.out.ti.nlen HFc.out.1 HFi.out.2.1)
        have bR := hT.bR
        have bO := hT.bO
        have bN : Hid (∀ k, vn.ownBlock = some k → w.heap.size ≤ k) := fun k hk => (hT.next.lt k hk).1
        clear hxk hT HN
        generalize tskip s x = sk at *
        generalize texec cells inn s x = s2 at *
        obtain ⟨m, rfl⟩ := Int.eq_ofNat_of_zero_le hsk.1
        obtain ⟨_, hsk1⟩ := hsk
        rw [Int.toNat_natCast] at HN'
        have hm1 : k + m + 1 ≤ p.code.length := by omega
        go_wp2_with fail
        refine HD.out.mono ?_
        rintro e w2 ⟨rfl, hT2, hu2⟩
        have hb2 := tkx_below hb hu2 bR bO bN.out
        clear hu2 hb HD
        go_wp2_with fail
        go_roundw
        case rel => exact ⟨k + m + 1, n + 1, s2, by go_num, by go_num, hm1, by omega, HN', hT2, hb2⟩
        case measure => simp [intOf]; omega
      · obtain ⟨he1, he2⟩ := tloop_end HN.out hlt
        have l2 : wr.cell? ⟨T, 2, none⟩ = some vn := hT.row.cell 2
        have l4 : wr.cell? ⟨T, 4, none⟩ = some (.slice (some ⟨O, 0, none⟩) s.out.length s.out.length) := hT.row.cell 4
        have hti := HN.out.ti
        have hz := hT.out.lt
        have S1 := Lib.hid (own_ints hT.next hti.nin)
        have S2 := Lib.hid (row_slv hT.out hz hT.ol hti.oin)
        obtain ⟨An, cn, rfl, _, _, _⟩ := own_rd hT.next
        have HE1 := Lib.hid he1
        have HE2 := Lib.hid he2
        clear he1 he2 hti hT HN
        go_wp2_with fail
        go_quiet (fail)
        go_wp2_with fail
        refine bodyPost_ret (results_tmp4 rfl _ _ _) rfl ?_
        refine ⟨below_drewN' hb _, .inl ⟨HFc.out, HFi.out, .slice An s.next.length cn, .slice (some ⟨O, 0, none⟩) s.out.length s.out.length, by rw [← HE2.out]; rfl, ?_, ?_⟩⟩
        · rw [← HE1.out]; exact S1.out
        · rw [← HE1.out]; exact S2.out
end Go.Proofs.Ytbjaejgechadpaa
