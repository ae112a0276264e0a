/-
  The law of verify: the chapter's example; programs of few parts; the walk of VerifyRight.
-/
import Derived.Test.YtbjaejgechadpaaRefRight28
import Derived.Test.YtbjaejgechadpaaVRight
namespace Go.Proofs.Ytbjaejgechadpaa
open Go.RowKit Vf
attribute [local go_sem ↓] Go.wp_at_zero Go.wp_at_succ

theorem sl_row {α : Type} {w : World} {B b size off : Nat} {rel : α → List Value → Prop} {l : List α} {cs : Array Value} {t : TypeId} (r : Row w b cs t) (hb : b < B)
    (h : ∀ i x, l[i]? = some x → ∃ vs : List Value, (∀ j u, vs[j]? = some u → cs[off + i * size + j]? = some u) ∧ rel x vs) : Sl w B size rel (some ⟨b, off, none⟩) l := fun _ =>
  ⟨b, off, rfl, hb, fun i x hi => by
    obtain ⟨vs, h1, h2⟩ := h i x hi
    exact ⟨vs, fun j u hu => (r.cell _).trans (h1 j u hu), h2⟩⟩
theorem wf_small {n : Int} (h : -1000 ≤ n ∧ n ≤ 1000) : Wf n := wf_of (by omega)
def thr : Pg := ⟨[1], [1], 1, [], [⟨28, 0, 0, 0, 0⟩, ⟨29, 0, 0, 0, 0⟩]⟩
def thq : Pg := ⟨[1], [1], 1, [], [⟨29, 0, 0, 0, 0⟩]⟩
theorem thr_may : mayOk thr := by
  refine ⟨?_, ?_, ?_, ?_, ?_, ?_, ?_, ?_⟩ <;> simp [thr, typesOk, instrOk, hasA, hasAB, hasABC]
theorem thr_right : rightOk thr := by
  refine (verify_is thr).1 ⟨thr_may, fun k hk => ?_, by decide⟩
  have hl : thr.code.length = 2 := rfl
  rw [hl] at hk
  rcases (by omega : k = 0 ∨ k = 1 ∨ k = 2) with rfl | rfl | rfl <;> decide
theorem thq_wrong : ¬ rightOk thq := fun h => by
  have := ((verify_is thq).2 h).2.1 1 (by decide)
  exact absurd this (by decide)
theorem wf0 : Wf 0 := wf_small (by decide)
theorem ok0 (op : Int) (h : -1000 ≤ op ∧ op ≤ 1000) : In5Ok ⟨op, 0, 0, 0, 0⟩ := ⟨wf_small h, wf0, wf0, wf0, wf0⟩
theorem rowNew4 (W : World) (o o' o'' : Obj) (cs : Array Value) (t : TypeId) : Row ((((W.alloc o).alloc o').alloc o'').alloc (.cells cs t)) (W.heap.size + 1 + 1 + 1) cs t := by
  have := Row.new (((W.alloc o).alloc o').alloc o'') cs t
  rwa [World.size_alloc, World.size_alloc, World.size_alloc] at this
theorem sl_one {w : World} {b B : Nat} {t : TypeId} (r : Row w b #[.int .i64 1] t) (hb : b < B) : SlV w B 1 isInt (.slice (some ⟨b, 0, none⟩) 1 1) [1] :=
  ⟨_, 1, rfl, Nat.le_refl _, by unfold maxLen; omega, sl_row r hb fun i x hi => by
    match i, hi with
    | 0, hi =>
      simp at hi; subst hi
      exact ⟨[.int .i64 1], fun j u hu => (by match j, hu with | 0, hu => simpa using hu), rfl, wf_small (by decide)⟩⟩
def Row10 (w : World) (b : Nat) : Prop := Row w b #[.int .i64 28, .int .i64 0, .int .i64 0, .int .i64 0, .int .i64 0, .int .i64 29, .int .i64 0, .int .i64 0, .int .i64 0, .int .i64 0] 30
theorem sl_two {w : World} {b B : Nat} (r : Row10 w b) (hb : b < B) : SlV w B 5 isIn5 (.slice (some ⟨b, 0, none⟩) 2 2) thr.code :=
  ⟨_, 2, rfl, Nat.le_refl _, by unfold maxLen; omega, sl_row r hb fun i x hi => by
    match i, hi with
    | 0, hi =>
      simp [thr] at hi; subst hi
      exact ⟨[.int .i64 28, .int .i64 0, .int .i64 0, .int .i64 0, .int .i64 0], fun j u hu => (by match j, hu with | 0, hu => exact hu | 1, hu => exact hu | 2, hu => exact hu | 3, hu => exact hu | 4, hu => exact hu), rfl, ok0 28 (by decide)⟩
    | 1, hi =>
      simp [thr] at hi; subst hi
      exact ⟨[.int .i64 29, .int .i64 0, .int .i64 0, .int .i64 0, .int .i64 0], fun j u hu => (by match j, hu with | 0, hu => exact hu | 1, hu => exact hu | 2, hu => exact hu | 3, hu => exact hu | 4, hu => exact hu), rfl, ok0 29 (by decide)⟩⟩
theorem sl_last {w : World} {b B : Nat} (r : Row10 w b) (hb : b < B) : SlV w B 5 isIn5 (.slice (some ⟨b, 5, none⟩) 1 1) thq.code :=
  ⟨_, 1, rfl, Nat.le_refl _, by unfold maxLen; omega, sl_row r hb fun i x hi => by
    match i, hi with
    | 0, hi =>
      simp [thq] at hi; subst hi
      exact ⟨[.int .i64 29, .int .i64 0, .int .i64 0, .int .i64 0, .int .i64 0], fun j u hu => (by match j, hu with | 0, hu => exact hu | 1, hu => exact hu | 2, hu => exact hu | 3, hu => exact hu | 4, hu => exact hu), rfl, ok0 29 (by decide)⟩⟩
/-- what the example leads to -/
structure ThrAt (w : World) (bi bo bd : Nat) : Prop where
  ins : Row w bi #[.int .i64 1] 3
  outs : Row w bo #[.int .i64 1] 3
  code : Row10 w bd
theorem ThrAt.below {w w' : World} {bi bo bd : Nat} (h : ThrAt w bi bo bd) (hb : Below w.heap.size w w') : ThrAt w' bi bo bd :=
  ⟨h.ins.below hb h.ins.lt, h.outs.below hb h.outs.lt, Row.below h.code hb (Row.lt h.code)⟩
theorem ThrAt.thr {w : World} {bi bo bd : Nat} (h : ThrAt w bi bo bd) : PgAt w w.heap.size thr (.slice (some ⟨bi, 0, none⟩) 1 1) (.slice (some ⟨bo, 0, none⟩) 1 1) (.slice none 0 0) (.slice (some ⟨bd, 0, none⟩) 2 2) :=
  ⟨sl_one h.ins h.ins.lt, sl_one h.outs h.outs.lt, wf_small (by decide), SlV.nil, sl_two h.code (Row.lt h.code)⟩
theorem ThrAt.thq {w : World} {bi bo bd : Nat} (h : ThrAt w bi bo bd) : PgAt w w.heap.size thq (.slice (some ⟨bi, 0, none⟩) 1 1) (.slice (some ⟨bo, 0, none⟩) 1 1) (.slice none 0 0) (.slice (some ⟨bd, 5, none⟩) 1 1) :=
  ⟨sl_one h.ins h.ins.lt, sl_one h.outs h.outs.lt, wf_small (by decide), SlV.nil, sl_last h.code (Row.lt h.code)⟩
def ThrOut (w : World) (e : Ending) (w' : World) : Prop := ∃ bi bo bd, e = .returned (.agg #[.slice (some ⟨bi, 0, none⟩) 1 1, .slice (some ⟨bo, 0, none⟩) 1 1, .int .i64 1, .slice none 0 0, .slice (some ⟨bd, 0, none⟩) 2 2]) ∧ ThrAt w' bi bo bd ∧ Below w.heap.size w w'
set_option maxRecDepth 100000 in
set_option maxHeartbeats 2000000 in
theorem through_any (w : World) : Calls Try.prog 46 #[] w (ThrOut w) := by
  go_enter Try.func46, Try.ntmps46
  go_wp2_with fail
  refine bodyPost_ret (v := .agg #[.slice (some ⟨w.heap.size + 1, 0, none⟩) 1 1, .slice (some ⟨w.heap.size + 1 + 1, 0, none⟩) 1 1, .int .i64 1, .slice none 0 0, .slice (some ⟨w.heap.size + 1 + 1 + 1, 0, none⟩) 2 2]) (by simp [results, Try.results46, go_sem]) rfl ⟨_, _, _, rfl, ⟨((rowNew2 _ _ _ _).alloc _).alloc _, (rowNew3 _ _ _ _ _).alloc _, rowNew4 _ _ _ _ _ _⟩, ((((Below.refl _ _).alloc (Nat.le_refl _) _).alloc (by simp) _).alloc (by simp; omega) _).alloc (by simp; omega) _⟩
theorem vr_thr {w : World} {bi bo bd : Nat} (h : ThrAt w bi bo bd) : Calls Try.prog 15 #[.agg #[.slice (some ⟨bi, 0, none⟩) 1 1, .slice (some ⟨bo, 0, none⟩) 1 1, .int .i64 1, .slice none 0 0, .slice (some ⟨bd, 0, none⟩) 2 2]] w fun e w' => e = .returned (.bool true) ∧ Below w.heap.size w w' := by
  have := vright_any thr _ _ _ _ w h.thr
  rw [cB_true thr_right] at this
  exact this
theorem vr_thq {w : World} {bi bo bd : Nat} (h : ThrAt w bi bo bd) : Calls Try.prog 15 #[.agg #[.slice (some ⟨bi, 0, none⟩) 1 1, .slice (some ⟨bo, 0, none⟩) 1 1, .int .i64 1, .slice none 0 0, .slice (some ⟨bd, 5, none⟩) 1 1]] w fun e w' => e = .returned (.bool false) ∧ Below w.heap.size w w' := by
  have := vright_any thq _ _ _ _ w h.thq
  rw [cB_false thq_wrong] at this
  exact this
def fewOk (p : Pg) : Prop := p.ins.length ≤ 20 ∧ p.outs.length ≤ 20 ∧ p.cells.length ≤ 80 ∧ p.code.length ≤ 60
set_option maxRecDepth 100000 in
set_option maxHeartbeats 2000000 in
theorem few_any (p : Pg) (vi vo vc vd : Value) (w : World) (h : PgAt w w.heap.size p vi vo vc vd) :
    Calls Try.prog 14 #[pgV p vi vo vc vd] w fun e w' => e = .returned (.bool (cB (fewOk p))) ∧ Below w.heap.size w w' := by
  obtain ⟨⟨Ai, ci, rfl, li, mi, si⟩, ⟨Ao, co, rfl, lo, mo, so⟩, hreg, ⟨Ac, cc, rfl, lc, mc, sc⟩, ⟨Ad, cd, rfl, ld, md, sd⟩⟩ := h
  clear si so sc sd
  go_enter Try.func14, Try.ntmps14
  go_wp2_with fail
  all_goals
    go_ret
    refine ⟨ret_bool ?_, (Below.refl _ _).alloc (Nat.le_refl _) _⟩
    rw [Bool.eq_iff_iff, cB_iff]
    simp [fewOk] at *
    try omega
set_option maxRecDepth 100000 in
set_option maxHeartbeats 2000000 in
theorem awake28_any (w : World) : Calls Try.prog 13 #[] w fun e w' => e = .returned (.bool true) ∧ Below w.heap.size w w' := by
  go_enter Try.func13, Try.ntmps13
  go_wp2_with fail
  refine (through_any _).mono ?_
  rintro e w1 ⟨bi, bo, bd, rfl, hT, hb1⟩
  have HT := Lib.hid hT
  have HB1 := Lib.hid hb1
  have hdz : bd < w1.heap.size := Row.lt hT.code
  clear hT hb1
  go_wp2_with fail
  have b2 := (Below.refl w1.heap.size w1).alloc (Nat.le_refl _) (.cells #[.slice (some ⟨bi, 0, none⟩) 1 1, .slice (some ⟨bo, 0, none⟩) 1 1, .int .i64 1, .slice none 0 0, .slice (some ⟨bd, 0, none⟩) 2 2] 26)
  have b3 := b2.alloc (by simp) (.cells #[.slice (some ⟨bi, 0, none⟩) 1 1, .slice (some ⟨bo, 0, none⟩) 1 1, .int .i64 1, .slice none 0 0, .slice (some ⟨bd, 5, none⟩) 1 1] 26)
  have hT3 := HT.out.below b3
  have rQ := rowNew2 w1 (.cells #[.slice (some ⟨bi, 0, none⟩) 1 1, .slice (some ⟨bo, 0, none⟩) 1 1, .int .i64 1, .slice none 0 0, .slice (some ⟨bd, 0, none⟩) 2 2] 26) #[.slice (some ⟨bi, 0, none⟩) 1 1, .slice (some ⟨bo, 0, none⟩) 1 1, .int .i64 1, .slice none 0 0, .slice (some ⟨bd, 5, none⟩) 1 1] 26
  refine (vr_thr hT3).mono ?_
  rintro e w4 ⟨rfl, hb4⟩
  have hT4 := Lib.hid (hT3.below hb4)
  have rQ4 := rQ.below hb4 rQ.lt
  have q0 := rQ4.cell 0
  have q1 := rQ4.cell 1
  have q2 := rQ4.cell 2
  have q3 := rQ4.cell 3
  have q4 := rQ4.cell 4
  simp only [List.getElem?_toArray, List.getElem?_cons_zero, List.getElem?_cons_succ] at q0 q1 q2 q3 q4
  have HB4 := Lib.hid (HB1.out.trans ((b3.trans (hb4.mono b3.size)).mono HB1.out.size))
  clear b2 b3 hT3 rQ hb4 rQ4
  go_wp2_with fail
  refine (vr_thq hT4.out).mono ?_
  rintro e w5 ⟨rfl, hb5⟩
  have HB5 := Lib.hid (HB4.out.trans (hb5.mono HB4.out.size))
  clear hb5
  go_wp2_with fail
  go_ret
  exact ⟨rfl, HB5.out⟩
end Go.Proofs.Ytbjaejgechadpaa
