/-
  Which expressions are right: the contract of tree.Right.
-/
import Derived.Test.YtabceednmgijoaaGreatTreeAll
import Derived.Test.YtabceednmgijoaaGreatTreePlain
import Derived.Test.YtabceednmgijoaaGreatRefRight
namespace Go.Proofs.YtabceednmgijoaaGreat
open Go.RowKit Go.Shelf Nm

attribute [local go_sem] Oper.semAt_some

theorem keepC_putObj {X : Nat → Prop} (W : World) (l : Nat) (o o' : Obj) (h : W.heap[l]? = some o) (ho : o.isCells = false) : KeepC X W (W.putObj l o') := by
  refine ⟨(grownBy_putObj' W l o').size, fun b cs t f _ hb => ((grownBy_putObj' W l o').block b (Array.getElem?_eq_some_iff.1 hb).1 (fun e => ?_)).trans hb⟩
  injection e with e
  subst e
  rw [hb] at h
  injection h with h
  subst h
  cases ho
theorem Row.keep {X : Nat → Prop} {W W' : World} {b : Nat} {cs : Array Value} {t : TypeId} (h : Row W b cs t) (hk : KeepC X W W') (hX : ¬ X b) : Row W' b cs t := hk.same b cs t (0, 0) hX h
theorem Row.own {W W' : World} {b : Nat} {cs : Array Value} {t : TypeId} {row : Option Nat} (h : Row W b cs t) (hg : W.grownBy W' row) (hr : ∀ r, row = some r → ∃ o : Obj, W.heap[r]? = some o ∧ o.isCells = false) : Row W' b cs t := by
  refine (hg.block b h.lt fun e => ?_).trans h
  obtain ⟨o, ho, hc⟩ := hr b e.symm
  rw [show W.heap[b]? = _ from h] at ho
  cases ho
  cases hc
theorem keeps_below {W W' : World} (h : Below W.heap.size W W') : KeepsOthers W W' := ⟨h.size, fun k _ hk _ => (h.block k (Array.getElem?_eq_some_iff.1 hk).1).trans hk⟩

set_option maxRecDepth 100000 in
set_option maxHeartbeats 4000000 in
theorem right_any (e : Ex) (A : Option Addr) (cap : Nat) (w : World) (hok : ExOk e) (hcap : e.args.length ≤ cap) (hmax : cap ≤ maxLen) (hx : IsExs w w.heap.size A e.args) (hs : exSize e ≤ 1000000) :
    Calls Tryz.prog 101 #[exV e A cap] w fun r w' => r = .returned (.bool (exRight e)) ∧ Below w.heap.size w w' := by
  refine (callsIn_wide (n := 9)).1 ?_
  have HE := Lib.hid (show exRight e = ((exList e).all plainB && decide (exHeight e ≤ 30)) from rfl)
  refine callsIn_of_wp_marks Tryz.func101 rfl trivial ?_ rfl
  simp only [Tryz.ntmps101, List.size_toArray, List.length_cons, List.length_nil, Nat.reduceAdd, Nat.reduceSub, Array.replicate_succ, Array.replicate_zero, List.push_toArray, List.append_toArray, List.nil_append, List.cons_append]
  gi_wp2_with (refine ⟨trivial, ?_⟩; gi_at_call 28; refine (all_in _ _ trivial rfl _ _ _ _).mono ?_; rintro r w' ⟨rfl, rfl⟩)
  have bE : Row (((w.alloc (.cells #[.int .i64 e.op, .string e.name, .int .i64 e.n, .slice A e.args.length cap, .int .i64 e.line, .int .i64 e.col] 45)).alloc (.cells #[.bool false] 4)).alloc (.cells #[.int .i64 e.op, .string e.name, .int .i64 e.n, .slice A e.args.length cap, .int .i64 e.line, .int .i64 e.col] 45)) w.heap.size #[.int .i64 e.op, .string e.name, .int .i64 e.n, .slice A e.args.length cap, .int .i64 e.line, .int .i64 e.col] 45 := ((Row.new w _ _).alloc _).alloc _
  have bR : Row (((w.alloc (.cells #[.int .i64 e.op, .string e.name, .int .i64 e.n, .slice A e.args.length cap, .int .i64 e.line, .int .i64 e.col] 45)).alloc (.cells #[.bool false] 4)).alloc (.cells #[.int .i64 e.op, .string e.name, .int .i64 e.n, .slice A e.args.length cap, .int .i64 e.line, .int .i64 e.col] 45)) (w.heap.size + 1) #[.bool false] 4 := by
    have := (Row.new (w.alloc (.cells #[.int .i64 e.op, .string e.name, .int .i64 e.n, .slice A e.args.length cap, .int .i64 e.line, .int .i64 e.col] 45)) #[.bool false] 4).alloc (.cells #[.int .i64 e.op, .string e.name, .int .i64 e.n, .slice A e.args.length cap, .int .i64 e.line, .int .i64 e.col] 45)
    rwa [World.size_alloc] at this
  have bA : Row (((w.alloc (.cells #[.int .i64 e.op, .string e.name, .int .i64 e.n, .slice A e.args.length cap, .int .i64 e.line, .int .i64 e.col] 45)).alloc (.cells #[.bool false] 4)).alloc (.cells #[.int .i64 e.op, .string e.name, .int .i64 e.n, .slice A e.args.length cap, .int .i64 e.line, .int .i64 e.col] 45)) (w.heap.size + 2) #[.int .i64 e.op, .string e.name, .int .i64 e.n, .slice A e.args.length cap, .int .i64 e.line, .int .i64 e.col] 45 := by
    have := Row.new ((w.alloc (.cells #[.int .i64 e.op, .string e.name, .int .i64 e.n, .slice A e.args.length cap, .int .i64 e.line, .int .i64 e.col] 45)).alloc (.cells #[.bool false] 4)) #[.int .i64 e.op, .string e.name, .int .i64 e.n, .slice A e.args.length cap, .int .i64 e.line, .int .i64 e.col] 45
    rwa [World.size_alloc, World.size_alloc] at this
  have hB0 : Below w.heap.size w (((w.alloc (.cells #[.int .i64 e.op, .string e.name, .int .i64 e.n, .slice A e.args.length cap, .int .i64 e.line, .int .i64 e.col] 45)).alloc (.cells #[.bool false] 4)).alloc (.cells #[.int .i64 e.op, .string e.name, .int .i64 e.n, .slice A e.args.length cap, .int .i64 e.line, .int .i64 e.col] 45)) := (((Below.refl _ w).alloc (Nat.le_refl _) _).alloc (by simp) _).alloc (by simp; omega) _
  have hsz : (((w.alloc (.cells #[.int .i64 e.op, .string e.name, .int .i64 e.n, .slice A e.args.length cap, .int .i64 e.line, .int .i64 e.col] 45)).alloc (.cells #[.bool false] 4)).alloc (.cells #[.int .i64 e.op, .string e.name, .int .i64 e.n, .slice A e.args.length cap, .int .i64 e.line, .int .i64 e.col] 45)).heap.size = w.heap.size + 3 := by simp
  obtain ⟨W0, hW0⟩ : ∃ W0, ((w.alloc (.cells #[.int .i64 e.op, .string e.name, .int .i64 e.n, .slice A e.args.length cap, .int .i64 e.line, .int .i64 e.col] 45)).alloc (.cells #[.bool false] 4)).alloc (.cells #[.int .i64 e.op, .string e.name, .int .i64 e.n, .slice A e.args.length cap, .int .i64 e.line, .int .i64 e.col] 45) = W0 := ⟨_, rfl⟩
  rw [hW0] at bE bR bA hB0 hsz ⊢
  clear hW0
  refine wpIn_rangeFunc_ownH rfl (by decide) (gf := 59) (lb := #[.pointer (some ⟨w.heap.size + 2, 0, none⟩)]) rfl trivial (enters_of Tryz.func59 (by kernel_rfl) rfl)
    (all_stops _ rfl _ trivial trivial rfl (w.heap.size + 2) w.heap.size (fun _ => False) e A cap W0 (fun _ h => h.elim) hok hcap hmax (by omega) (by omega) (fun j u hu => by rw [bA.cell]; simpa [exCells] using hu) (hx.below hB0))
    (fun h k => h.trans k) (fun W l o o' _ h ho _ => keepC_putObj W l o o' h ho) (Below.refl _ _) (fun _ => rfl)
    (fun pre W => ((Row W w.heap.size #[.int .i64 e.op, .string e.name, .int .i64 e.n, .slice A e.args.length cap, .int .i64 e.line, .int .i64 e.col] 45 ∧ Row W (w.heap.size + 1) #[.bool false] 4) ∧ Hid (∀ x ∈ pre, plainB x.ex = true)) ∧ Below w.heap.size w W)
    (fun c pre W => ((Row W w.heap.size #[.int .i64 e.op, .string e.name, .int .i64 e.n, .slice A e.args.length cap, .int .i64 e.line, .int .i64 e.col] 45 ∧ Row W (w.heap.size + 1) #[.bool false] 4) ∧ Hid (c = .ret ∧ ∃ x ∈ pre, plainB x.ex = false)) ∧ Below w.heap.size w W)
    (OwnFrom.and (OwnFrom.and (OwnFrom.and (fun s X Y row hs hg hr => hs.own hg (fun r e => (hr r e).2)) (fun s X Y row hs hg hr => hs.own hg (fun r e => (hr r e).2))) (ownFrom_pure _ _)) (ownFrom_below (Nat.le_refl _) (by omega)))
    (fun c => OwnFrom.and (OwnFrom.and (OwnFrom.and (fun s X Y row hs hg hr => hs.own hg (fun r e => (hr r e).2)) (fun s X Y row hs hg hr => hs.own hg (fun r e => (hr r e).2))) (ownFrom_pure _ _)) (ownFrom_below (Nat.le_refl _) (by omega)))
    ⟨⟨⟨bE, bR⟩, fun x h => absurd h (by simp)⟩, hB0⟩
    (fun x a' W => ∃ Bx, w.heap.size + 1 < Bx ∧ Row W Bx #[.int .i64 x.ex.op, .string x.ex.name, .int .i64 x.ex.n, .slice x.A x.ex.args.length x.cap, .int .i64 x.ex.line, .int .i64 x.ex.col] 45 ∧ a' = { tmps := #[exV e A cap, .pointer (some ⟨w.heap.size, 0, none⟩), .pointer (some ⟨w.heap.size + 1, 0, none⟩), .pointer (some ⟨Bx, 0, none⟩), exV e A cap, .func (.func 59) #[] #[.pointer (some ⟨w.heap.size + 2, 0, none⟩)], x.v, undef, undef, undef, undef, undef, undef], defers := [] })
    (fun x a' _ X Y row hs hg hr => by obtain ⟨Bx, h1, h2, h3⟩ := hs; exact ⟨Bx, h1, h2.own hg (fun r e => (hr r e).2), h3⟩)
    ?assign ?body ?done ?stop
  case assign =>
    rintro l pre x W K ⟨⟨⟨bE1, bR1⟩, HP⟩, hB1⟩ hK
    gi_wp2
    exact hK _ _ ((KeepsOthers.alloc _ _).from _) (KeepC.alloc _ _ _) ⟨⟨⟨bE1.alloc _, bR1.alloc _⟩, HP⟩, hB1.alloc hB1.size _⟩ ⟨W.heap.size, bR1.lt, Row.new W _ _, rfl⟩
  case body =>
    rintro l pre x a' W hl _ ⟨⟨⟨bE1, bR1⟩, HP⟩, hB1⟩ ⟨Bx, hBx, bX, rfl⟩ hlt
    have c0 := bX.cell 0
    have c1 := bX.cell 1
    have c2 := bX.cell 2
    have c3 := bX.cell 3
    have c4 := bX.cell 4
    have c5 := bX.cell 5
    have fR := bR1.frozen 0
    have cR := bR1.cell 0
    simp only [List.getElem?_toArray, List.getElem?_cons_zero, List.getElem?_cons_succ] at c0 c1 c2 c3 c4 c5 cR
    gi_wp2_with (refine ⟨trivial, ?_⟩; gi_at_call 116; refine (CallsIn.inRound l (callsIn_wide.2 (plain_any x.ex x.A x.cap _ x.ok (by have := x.len; have := x.max; omega)))).mono ?_; rintro r W2 ⟨rfl, hb2⟩; have bR2 := bR1.below hb2 bR1.lt; have fR2 := bR2.frozen 0; have cR2 := bR2.cell 0; simp only [List.getElem?_toArray, List.getElem?_cons_zero] at cR2; generalize hP : plainB x.ex = P at *; have HX := Lib.hid hP; clear hP; cases P)
    · refine ⟨((keeps_below hb2).trans (KeepsOthers.setCell _ _ _)).from _, ⟨⟨⟨(bE1.below hb2 bE1.lt).far (by simp) _, bR2.set 0 _⟩, ⟨rfl, x, by simp, HX.out⟩⟩, ?_⟩⟩
      exact (hB1.trans (hb2.mono hB1.size)).setCell (p := ⟨w.heap.size + 1, 0, none⟩) (by simp) _
    · exact ⟨(keeps_below hb2).from _, KeepC.below hb2, ⟨⟨⟨bE1.below hb2 bE1.lt, bR2⟩, fun y hy => (List.mem_append.1 hy).elim (HP.out y) (fun h => by simp at h; rw [h]; exact HX.out)⟩, hB1.trans (hb2.mono hB1.size)⟩⟩
  case done =>
    rintro D ys W hD hys ⟨⟨⟨bE1, bR1⟩, HP⟩, hB1⟩ hK
    have HF := Lib.hid (show exRight e = decide (exHeight e ≤ 30) from by
      rw [HE.out, show (exList e).all plainB = true from List.all_eq_true.2 fun y hy => by
        rw [← hys] at hy
        obtain ⟨x, hx, rfl⟩ := List.mem_map.1 hy
        exact HP.out x hx, Bool.true_and])
    have c0 := bE1.cell 0
    have c1 := bE1.cell 1
    have c2 := bE1.cell 2
    have c3 := bE1.cell 3
    have c4 := bE1.cell 4
    have c5 := bE1.cell 5
    simp only [List.getElem?_toArray, List.getElem?_cons_zero, List.getElem?_cons_succ] at c0 c1 c2 c3 c4 c5
    gi_wp2_with (refine ⟨trivial, ?_⟩; gi_at_call 117; refine (callsIn_wide.2 (height_any e A cap _ hcap hmax ((hx.below hB1).more hB1.size) hs)).mono ?_; rintro r W2 ⟨rfl, hb2⟩; have bR2 := bR1.below hb2 bR1.lt; have fR2 := bR2.frozen 0; have cR2 := bR2.cell 0; simp only [List.getElem?_toArray, List.getElem?_cons_zero] at cR2; have hK2 := (keeps_below hb2).same D _ hK rfl)
    have hK3 : (W2.setCell ⟨w.heap.size + 1, 0, none⟩ (.bool (decide ((exHeight e : Int) ≤ 30)))).heap[D]? = some (.deferred (some [])) := (KeepsOthers.setCell W2 _ _).same D _ hK2 rfl
    refine ⟨by simp, .inl ⟨_, _, rfl, run_takeDeferred hK3, ?_⟩⟩
    have hc5 := cell_kept ((bR2.set 0 (.bool (decide ((exHeight e : Int) ≤ 30)))).cell 0) (grownBy_putObj' _ D (.deferred none)) (fun r e => by cases e; exact ⟨_, hK3, rfl⟩)
    refine ⟨.bool (decide ((exHeight e : Int) ≤ 30)), ?_, by rw [HF.out]; congr 2; rw [Bool.eq_iff_iff]; simp; omega, ((hB1.trans (hb2.mono hB1.size)).setCell (p := ⟨w.heap.size + 1, 0, none⟩) (by simp) _).trans (belowK_b (w := w) (Nat.le_refl _) _ D _ _ (by omega) hK3 rfl rfl)⟩
    simp [results, Tryz.f101, go_sem, hc5]
  case stop =>
    rintro D c pre W hD hpre ⟨⟨⟨bE1, bR1⟩, HP⟩, hB1⟩ hK
    obtain ⟨rfl, x, hxp, hxf⟩ := HP.out
    have HF := Lib.hid (show exRight e = false from by
      rw [HE.out, show (exList e).all plainB = false from List.all_eq_false.2 ⟨x.ex, hpre.subset (List.mem_map_of_mem hxp), by simp [hxf]⟩, Bool.false_and])
    clear HP hxf hxp
    gi_wp2
    refine ⟨by simp, .inl ⟨_, _, rfl, run_takeDeferred hK, ?_⟩⟩
    have hc5 := cell_kept (bR1.cell 0) (grownBy_putObj' _ D (.deferred none)) (fun r e => by cases e; exact ⟨_, hK, rfl⟩)
    refine ⟨.bool false, ?_, by rw [HF.out], hB1.trans (belowK_b (w := w) (Nat.le_refl _) W D _ _ (by omega) hK rfl rfl)⟩
    simp [results, Tryz.f101, go_sem, hc5]
end Go.Proofs.YtabceednmgijoaaGreat
