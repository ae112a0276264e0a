/-
  The typer in memory; what is noted of a fault, and of a name that is to be a Bool's: the contracts of types' bad, need and truth.
-/
import Derived.Test.YtolabbnchmmckaaTyP
import Derived.Test.YtolabbnchmmckaaScG
namespace Go.Proofs.Ytolabbnchmmckaa
open Go.RowKit
attribute [local go_sem ↓] Go.wp_at_zero Go.wp_at_succ
theorem Upd.cellk {X : Nat → Prop} {w w' : World} (h : Upd X w w') {p : Addr} (hp : p.block < w.heap.size) (hX : ¬ X p.block) : w'.cell? p = w.cell? p := World.cell?_of_block (h.block p.block hp hX)
structure Tp where
  s : List Nd
  A : Option Addr
  cap : Nat
  n : Nd
  a : NdA
abbrev tpArr (T : Tp) (f : Ft) : Array Value := #[.slice T.A T.s.length T.cap, .string T.n.name, .slice T.a.ai T.n.ins.length T.a.ci, .slice T.a.ao T.n.outs.length T.a.co, .slice T.a.av T.n.vars.length T.a.cv, .slice T.a.aq T.n.eqs.length T.a.cq, .int .i64 T.n.line, .int .i64 T.n.col, .int .i64 f.err, .int .i64 f.line, .int .i64 f.col]
abbrev TpRow (W : World) (g : Nat) (T : Tp) (f : Ft) : Prop := Row W g (tpArr T f) 100
structure TpAt (W : World) (B g : Nat) (T : Tp) (f : Ft) : Prop where
  row : TpRow W g T f
  lo : B ≤ g
  n : NdAt W B T.n T.a
  s : Nds W B T.A T.s
  hl : (vrs T.n).length ≤ 10000
  lc : T.s.length ≤ T.cap
  mc : T.cap ≤ maxLen
  fz : Fz f
def TpL (w : World) (B g : Nat) (T : Tp) (f : Ft) (w' : World) : Prop := TpAt w' B g T f ∧ UpdM g w w'
section
variable {W W' : World} {B g : Nat} {T : Tp} {f f' : Ft}
theorem TpAt.size (h : TpAt W B g T f) : B ≤ W.heap.size := by have := h.row.lt; have := h.lo; omega
theorem UpdM.bel (h : UpdM g W W') (hB : B ≤ g) (hs : B ≤ W.heap.size) : Below B W W' := Upd.below h (fun _ e => e ▸ hB) hs
theorem TpAt.step (h : TpAt W B g T f) (hr : TpRow W' g T f') (hu : UpdM g W W') (hz : Fz f') : TpAt W' B g T f' :=
  have hb := hu.bel h.lo h.size
  ⟨hr, h.lo, h.n.below hb, nds_keep h.s (keeps_of hb) (Nat.le_refl _), h.hl, h.lc, h.mc, hz⟩
theorem TpAt.bel (h : TpAt W B g T f) (hb : Below W.heap.size W W') : TpAt W' B g T f := h.step (h.row.below hb h.row.lt) (UpdM.of hb) h.fz
theorem TpAt.ndw (h : TpAt W B g T f) : NdAt W W.heap.size T.n T.a := h.n.more h.size
theorem TpAt.srw (h : TpAt W B g T f) : Nds W W.heap.size T.A T.s := nds_keep h.s (keeps_of (Below.refl B W)) h.size
theorem TpAt.lt (h : TpAt W B g T f) : g < W.heap.size := h.row.lt
theorem Row.upd (hu : UpdM g W W') {b : Nat} {cs : Array Value} {t : TypeId} (hr : Row W b cs t) (hne : b ≠ g) : Row W' b cs t := Upd.row hu hr hne
theorem Row.tp {t : TypeId} (h : Row W g (tpArr T f) t) : (W.cell? ⟨g, 0, none⟩ = some (.slice T.A T.s.length T.cap) ∧ W.cell? ⟨g, 1, none⟩ = some (.string T.n.name) ∧ W.cell? ⟨g, 2, none⟩ = some (.slice T.a.ai T.n.ins.length T.a.ci) ∧ W.cell? ⟨g, 3, none⟩ = some (.slice T.a.ao T.n.outs.length T.a.co) ∧
    W.cell? ⟨g, 4, none⟩ = some (.slice T.a.av T.n.vars.length T.a.cv) ∧ W.cell? ⟨g, 5, none⟩ = some (.slice T.a.aq T.n.eqs.length T.a.cq) ∧ W.cell? ⟨g, 6, none⟩ = some (.int .i64 T.n.line) ∧ W.cell? ⟨g, 7, none⟩ = some (.int .i64 T.n.col)) ∧
    (W.cell? ⟨g, 8, none⟩ = some (.int .i64 f.err) ∧ W.cell? ⟨g, 9, none⟩ = some (.int .i64 f.line) ∧ W.cell? ⟨g, 10, none⟩ = some (.int .i64 f.col)) :=
  ⟨⟨(h.cell 0).trans rfl, (h.cell 1).trans rfl, (h.cell 2).trans rfl, (h.cell 3).trans rfl, (h.cell 4).trans rfl, (h.cell 5).trans rfl, (h.cell 6).trans rfl, (h.cell 7).trans rfl⟩, (h.cell 8).trans rfl, (h.cell 9).trans rfl, (h.cell 10).trans rfl⟩
theorem tp_set {t : TypeId} (h : Row W g (tpArr T f) t) (e l c : Int) : Row (((W.setCell ⟨g, 8, none⟩ (.int .i64 e)).setCell ⟨g, 9, none⟩ (.int .i64 l)).setCell ⟨g, 10, none⟩ (.int .i64 c)) g (tpArr T ⟨e, l, c⟩) t := by
  have := ((h.set 8 (.int .i64 e)).set 9 (.int .i64 l)).set 10 (.int .i64 c)
  simpa using this
theorem upd_set (h : UpdM g W W') (y0 y1 y2 : Value) : UpdM g W (((W'.setCell ⟨g, 8, none⟩ y0).setCell ⟨g, 9, none⟩ y1).setCell ⟨g, 10, none⟩ y2) :=
  Upd.setCell (Upd.setCell (Upd.setCell h (p := ⟨g, 8, none⟩) rfl y0) (p := ⟨g, 9, none⟩) rfl y1) (p := ⟨g, 10, none⟩) rfl y2
end
def badB (f : Ft) : Bool := f.err != 0
set_option maxRecDepth 100000 in
set_option maxHeartbeats 1000000 in
theorem bad_any (T : Tp) (f : Ft) (g : Nat) (w : World) (h : TpRow w g T f) (hz : Fz f) :
    Calls Try.prog 80 #[.pointer (some ⟨g, 0, none⟩)] w fun r w' => r = .returned (.bool (badB f)) ∧ w = w' := by
  obtain ⟨-, t8, t9, t10⟩ := h.tp
  by_cases hf : f.err = 0
  · obtain rfl := hz hf
    clear hf
    go_enter Try.func80, Try.ntmps80
    go_wp2_with fail
    go_ret
    exact ⟨rfl, rfl⟩
  · have hn := neq_yes hf
    have he : (f.err == 0) = false := by rw [beq_eq_false_iff_ne]; exact hf
    have HB : Hid (badB f = true) := hn
    clear hf
    go_enter Try.func80, Try.ntmps80
    go_wp2_with fail
    go_ret
    exact ⟨ret_bool HB.out.symm, rfl⟩
set_option maxRecDepth 100000 in
set_option maxHeartbeats 1000000 in
theorem need_any (T : Tp) (f : Ft) (B g : Nat) (b : Bool) (l c : Int) (w : World) (h : TpAt w B g T f) :
    Calls Try.prog 110 #[.pointer (some ⟨g, 0, none⟩), .bool b, .agg #[.int .i64 l, .int .i64 c]] w fun r w' => r = .returned (.tuple #[]) ∧ TpL w B g T (ft2 f (needF b l c)) w' := by
  have b1 : Below w.heap.size w (w.alloc (.cells #[.int .i64 l, .int .i64 c] 24)) := (by repeat (first | (with_reducible assumption) | (with_reducible exact Below.refl _ _) | (with_reducible refine Below.drew ?_) | (with_reducible refine below_drewN' ?_ _) | (with_reducible refine Below.alloc ?_ (by first | assumption | omega | (simp; omega) | simp | (simp [World.setCell]; omega) | simp [World.setCell]) _) | (with_reducible refine Below.setCell ?_ (by first | assumption | omega | (simp; omega) | simp | (simp [World.setCell]; omega) | simp [World.setCell]) _)))
  have rp := Row.new w #[.int .i64 l, .int .i64 c] 24
  have hr := h.row.below b1 h.row.lt
  have HU : Hid (UpdM g w (w.alloc (.cells #[.int .i64 l, .int .i64 c] 24))) := UpdM.of b1
  have H := Lib.hid h
  clear h
  cases b
  · have HBD := Lib.hid (bad_any T f g _ hr H.out.fz)
    obtain ⟨p0, p1⟩ := (show (w.alloc (.cells #[.int .i64 l, .int .i64 c] 24)).cell? ⟨w.heap.size, 0, none⟩ = some (.int .i64 l) ∧ (w.alloc (.cells #[.int .i64 l, .int .i64 c] 24)).cell? ⟨w.heap.size, 1, none⟩ = some (.int .i64 c) from ⟨(rp.cell 0).trans rfl, (rp.cell 1).trans rfl⟩)
    have z8 := hr.frozen 8
    have z9 := hr.frozen 9
    have z10 := hr.frozen 10
    obtain ⟨-, t8, t9, t10⟩ := hr.tp
    have HS := Lib.hid (tp_set hr 28 l c)
    have HRW := Lib.hid hr
    go_enter Try.func110, Try.ntmps110
    go_upto_region 1 with (fail)
    clear rp b1 hr
    generalize w.alloc (.cells #[.int .i64 l, .int .i64 c] 24) = W1 at *
    by_cases hf : f.err = 0
    · have HE : Hid (ft2 f (needF false l c) = ⟨28, l, c⟩) := by show _ = _; rw [ft2_0 hf, need_no]
      obtain rfl := H.out.fz hf
      clear hf
      go_wp2_with fail
      refine HBD.out.mono ?_
      rintro r w2 ⟨rfl, rfl⟩
      go_wp2_with fail
      go_end0
      rw [HE.out]
      exact ⟨rfl, H.out.step HS.out (upd_set HU.out _ _ _) (fun g => absurd g (by show ¬ (28 : Int) = 0; decide)), upd_set HU.out _ _ _⟩
    · have HE : Hid (ft2 f (needF false l c) = f) := ft2_1 hf
      have HB : Hid (badB f = true) := neq_yes hf
      clear hf
      go_wp2_with fail
      refine HBD.out.mono ?_
      rintro r w2 ⟨rfl, rfl⟩
      rw [HB.out]
      go_wp2_with fail
      go_end0
      rw [HE.out]
      exact ⟨rfl, H.out.step HRW.out HU.out H.out.fz, HU.out⟩
  · have HE : Hid (ft2 f (needF true l c) = f) := ft2_zero H.out.fz
    have HR : Hid (TpRow (w.alloc (.cells #[.int .i64 l, .int .i64 c] 24)) g T f) := hr
    go_enter Try.func110, Try.ntmps110
    go_wp2_with fail
    go_end0
    rw [HE.out]
    exact ⟨rfl, H.out.step HR.out HU.out H.out.fz, HU.out⟩
set_option maxRecDepth 100000 in
set_option maxHeartbeats 1000000 in
theorem truth_any (T : Tp) (f : Ft) (B g : Nat) (nm : ByteArray) (l c : Int) (w : World) (h : TpAt w B g T f) :
    Calls Try.prog 78 #[.pointer (some ⟨g, 0, none⟩), .string nm, .agg #[.int .i64 l, .int .i64 c]] w fun r w' => r = .returned (.tuple #[]) ∧ TpL w B g T (ft2 f (needF (tyOf T.n nm == 2) l c)) w' := by
  have b1 : Below w.heap.size w (w.alloc (.cells #[.int .i64 l, .int .i64 c] 24)) := (by repeat (first | (with_reducible assumption) | (with_reducible exact Below.refl _ _) | (with_reducible refine Below.drew ?_) | (with_reducible refine below_drewN' ?_ _) | (with_reducible refine Below.alloc ?_ (by first | assumption | omega | (simp; omega) | simp | (simp [World.setCell]; omega) | simp [World.setCell]) _) | (with_reducible refine Below.setCell ?_ (by first | assumption | omega | (simp; omega) | simp | (simp [World.setCell]; omega) | simp [World.setCell]) _)))
  have rp := Row.new w #[.int .i64 l, .int .i64 c] 24
  have H1 := Lib.hid (h.bel b1)
  have hl := h.lt
  clear h
  go_enter Try.func78, Try.ntmps78
  go_upto_region 1 with (fail)
  generalize w.alloc (.cells #[.int .i64 l, .int .i64 c] 24) = W1 at *
  have hs1 := b1.size
  obtain ⟨⟨t0, t1, t2, t3, t4, t5, t6, t7⟩, -⟩ := H1.out.row.tp
  have HV := Lib.hid (svar1_any T.n T.a nm W1 H1.out.ndw H1.out.hl)
  go_wp2_with fail
  refine HV.out.mono ?_
  rintro r w2 ⟨⟨x, A', cap', rfl, HY, HNo⟩, hb2⟩
  have HX : Hid (x.ty = tyOf T.n nm) := by
    show _ = _
    by_cases hm : nm ∈ nms (vrs T.n)
    · obtain ⟨k, h1, h2, _⟩ := HY.out hm
      exact (ty_at h1 h2).symm
    · obtain ⟨rfl, _, _⟩ := HNo.out hm
      rw [ty_no hm]
  obtain ⟨bv, HBV⟩ : ∃ bv, Hid (cB (nm ∈ nms (vrs T.n)) = bv) := ⟨_, rfl⟩
  rw [HBV.out]
  clear HY HNo HBV HV t0 t1 t2 t3 t4 t5 t6 t7
  have H2 := Lib.hid (H1.out.bel hb2)
  have b2 := b1.trans (hb2.mono hs1)
  have hs2 := b2.size
  have rp2 := rp.below hb2 rp.lt
  have bx : Below w2.heap.size w2 (w2.alloc (.cells (vrArr x A' cap') 64)) := (by repeat (first | (with_reducible assumption) | (with_reducible exact Below.refl _ _) | (with_reducible refine Below.drew ?_) | (with_reducible refine below_drewN' ?_ _) | (with_reducible refine Below.alloc ?_ (by first | assumption | omega | (simp; omega) | simp | (simp [World.setCell]; omega) | simp [World.setCell]) _) | (with_reducible refine Below.setCell ?_ (by first | assumption | omega | (simp; omega) | simp | (simp [World.setCell]; omega) | simp [World.setCell]) _)))
  have rx := Row.new w2 (vrArr x A' cap') 64
  go_upto_region 2 with (fail)
  generalize w2.alloc (.cells (vrArr x A' cap') 64) = w3 at *
  have H3 := Lib.hid (H2.out.bel bx)
  have b3 := b2.trans (bx.mono hs2)
  have rp3 := rp2.below bx rp2.lt
  obtain ⟨d0, d1, d2, d3, d4⟩ := rx.vr
  have p0 := (rp3.cell 0).trans rfl
  have p1 := (rp3.cell 1).trans rfl
  obtain ⟨bt, HBT⟩ : ∃ bt, Hid ((x.ty == 2) = bt) := ⟨_, rfl⟩
  have q0 : (x.ty == 2) = bt := HBT.out
  have HN := Lib.hid (need_any T f B g bt l c w3 H3.out)
  have HU : Hid (UpdM g w w3) := UpdM.of b3
  have HE : Hid (bt = (tyOf T.n nm == 2)) := by show _ = _; rw [← HX.out]; exact q0.symm
  go_wp2_with fail
  refine HN.out.mono ?_
  rintro r w4 ⟨rfl, h4⟩
  go_wp2_with fail
  go_end0
  rw [← HE.out]
  exact ⟨rfl, h4.1, Upd.trans HU.out h4.2⟩
end Go.Proofs.Ytolabbnchmmckaa
