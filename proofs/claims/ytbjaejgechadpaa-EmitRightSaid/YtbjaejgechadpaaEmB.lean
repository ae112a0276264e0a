/-
  emit: steps of one clock, side by side.
-/
import Derived.Test.YtbjaejgechadpaaEmA
import Derived.Test.YtbjaejgechadpaaNmA
import Derived.Shelf.Abstract
namespace Go.Proofs.Ytbjaejgechadpaa
open Go.RowKit Vf Fo
attribute [local go_sem ↓] Go.wp_at_zero Go.wp_at_succ
theorem quiet_of1 {P : Program} {f : FuncId} {args : Array Value} {w : World} {n : Nat} {v : Value}
    (h : Calls P f args (w.drewN n) fun e w' => e = .returned v ∧ ∃ m, w' = (w.drewN n).drewN m) : Calls P f args (w.drewN n) fun e w'' => e = .returned v ∧ ∃ m, w'' = w.drewN m :=
  h.mono fun _ _ ⟨he, m, hm⟩ => ⟨he, n + m, by rw [hm, World.drewN_drewN]⟩
/-- only instructions' rows, from a block on, and one block are changed -/
structure FrI (base P : Nat) (w w' : World) : Prop where
  os : w'.os = w.os
  tape : w'.tape = w.tape
  output : w'.output = w.output
  size : w.heap.size ≤ w'.heap.size
  block : ∀ k, k < w.heap.size → k ≠ P → (k < base ∨ ∀ cur fz, w.heap[k]? ≠ some (.cells cur 30 fz)) → w'.heap[k]? = w.heap[k]?
section
variable {base P : Nat} {a w w' : World}
theorem FrI.refl (base P : Nat) (w : World) : FrI base P w w := ⟨rfl, rfl, rfl, Nat.le_refl _, fun _ _ _ _ => rfl⟩
theorem FrI.trans (h : FrI base P a w) (g : FrI base P w w') : FrI base P a w' :=
  ⟨g.os.trans h.os, g.tape.trans h.tape, g.output.trans h.output, Nat.le_trans h.size g.size, fun k hk hP hh => by
    have e := h.block k hk hP hh
    exact (g.block k (Nat.lt_of_lt_of_le hk h.size) hP (hh.imp id fun q cur fz => by rw [e]; exact q cur fz)).trans e⟩
theorem FrI.of_below (h : Below w.heap.size w w') : FrI base P w w' := ⟨h.os, h.tape, h.output, h.size, fun k hk _ _ => h.block k hk⟩
theorem FrI.below (h : FrI base P w w') (hb : base ≤ P) (hw : base ≤ w.heap.size) : Below base w w' := ⟨h.os, h.tape, h.output, h.size, fun k hk => h.block k (by omega) (by omega) (.inl hk)⟩
theorem FrI.set {i : Nat} (v : Value) : FrI base P w (w.setCell ⟨P, i, none⟩ v) := by
  have u := Upd.setCell (X := fun k => k = P) (p := ⟨P, i, none⟩) (Upd.refl _ w) rfl v
  exact ⟨u.os, u.tape, u.output, u.size, fun k hk hP _ => u.block k hk hP⟩
theorem FrI.grown {v : Value} {n size : Nat} {xs : List Value} (ho : w.ownsRow base 30 size v n xs) (hg : w.grownBy w' v.ownBlock) : FrI base P w w' := by
  refine ⟨hg.os, hg.tape, hg.output, hg.size, fun k hk hP hh => hg.block k hk fun e => ?_⟩
  rcases ho.2 with ⟨h0, _⟩ | ⟨g, c, cur, h1, h2, h3, _⟩
  · subst h0; cases e
  · subst h1
    have e' : k = g := by injection e
    subst e'
    rcases hh with hh | hh
    · omega
    · exact hh cur (0, 0) h3
theorem FrI.row {b : Nat} {cs : Array Value} {t : TypeId} (h : FrI base P w w') (r : Row w b cs t) (hb : b ≠ P) (ht : t ≠ 30) : Row w' b cs t :=
  (h.block b r.lt hb (.inr fun cur fz e => by
    have e2 := r
    unfold Row at e2
    rw [e] at e2
    injection e2 with e2
    injection e2 with _ e2 _
    exact ht e2.symm)).trans r
theorem FrI.own {b size n : Nat} {e : TypeId} {v : Value} {xs : List Value} (h : FrI base P w w') (ho : w.ownsRow b e size v n xs) (he : e ≠ 30) (hP : ∀ k, v.ownBlock = some k → k ≠ P) : w'.ownsRow b e size v n xs := by
  refine ⟨ho.1, ?_⟩
  rcases ho.2 with h0 | ⟨g, c, cur, h1, h2, h3, h4⟩
  · exact .inl h0
  · exact .inr ⟨g, c, cur, h1, h2, (h.block g (Array.getElem?_eq_some_iff.1 h3).1 (hP g (by rw [h1]; rfl)) (.inr fun cur' fz q => by
      rw [q] at h3
      injection h3 with h3
      injection h3 with _ h3 _
      exact he h3.symm)).trans h3, h4⟩
end
abbrev stV (x : In5) (v : Value) : Value := .agg #[.int .i64 x.op, .int .i64 x.a, .int .i64 x.b, .int .i64 x.c, .int .i64 x.k, v]
abbrev Stv := Stp × Value
def isStp (w : World) (B : Nat) (s : Stv) (cs : List Value) : Prop := cs = [.int .i64 s.1.1.op, .int .i64 s.1.1.a, .int .i64 s.1.1.b, .int .i64 s.1.1.c, .int .i64 s.1.1.k, s.2] ∧ In5Ok s.1.1 ∧ SlV w B 2 isGd s.2 s.1.2
theorem sl_stp {w : World} {B C : Nat} {A : Option Addr} {l : List Stv} {k : Nat} (h : Sl w B 6 (isStp w C) A l) (hk : k < l.length) : ∃ b off s, A = some ⟨b, off, none⟩ ∧ b < B ∧ l[k]? = some s ∧ In5Ok s.1.1 ∧ SlV w C 2 isGd s.2 s.1.2 ∧
    w.cell? ⟨b, off + k * 6, none⟩ = some (.int .i64 s.1.1.op) ∧ w.cell? ⟨b, off + k * 6 + 1, none⟩ = some (.int .i64 s.1.1.a) ∧ w.cell? ⟨b, off + k * 6 + 2, none⟩ = some (.int .i64 s.1.1.b) ∧
    w.cell? ⟨b, off + k * 6 + 3, none⟩ = some (.int .i64 s.1.1.c) ∧ w.cell? ⟨b, off + k * 6 + 4, none⟩ = some (.int .i64 s.1.1.k) ∧ w.cell? ⟨b, off + k * 6 + 5, none⟩ = some s.2 := by
  obtain ⟨b, off, x, cs, h1, h2, h3, ⟨rfl, h4, h6⟩, h5⟩ := h.at_ hk
  exact ⟨b, off, x, h1, h2, h3, h4, h6, h5 0 _ rfl, h5 1 _ rfl, h5 2 _ rfl, h5 3 _ rfl, h5 4 _ rfl, h5 5 _ rfl⟩
set_option maxRecDepth 100000 in
set_option maxHeartbeats 8000000 in
theorem runs1_any {w : World} {B C : Nat} (s s0 : Stv) (rest : List Stv) (vl : Value) (L : Nat) (_hB : B ≤ w.heap.size) (hC : C ≤ w.heap.size) (hv : SlV w C 2 isGd s.2 s.1.2) (hl : SlV w B 6 (isStp w C) vl rest) (h0 : rest[0]? = some s0) (hL : w.cell? ⟨L, 0, none⟩ = some vl) :
    Calls Try.prog 113 #[stV s.1.1 s.2, .pointer (some ⟨L, 0, none⟩)] w fun e w' => e = .returned (.bool (!cB (s.1.2 = s0.1.2))) ∧ Below w.heap.size w w' := by
  obtain ⟨⟨⟨xo, xa, xb, xc, xk⟩, clk⟩, v⟩ := s
  dsimp only at hv ⊢
  obtain ⟨Al, cl, rfl, ll, ml, sl⟩ := hl
  have hpos : 0 < rest.length := (List.getElem?_eq_some_iff.1 h0).1
  obtain ⟨b, off, ⟨⟨x0, clk0⟩, v0⟩, rfl, hbB, h0', _, hv0, d0, d1, d2, d3, d4, d5⟩ := sl_stp sl hpos
  obtain rfl : ((x0, clk0), v0) = s0 := Option.some.inj (h0'.symm.trans h0)
  dsimp only at hv0 d5 ⊢
  simp only [Nat.zero_mul, Nat.add_zero] at d5
  have b1 : Below w.heap.size w (w.alloc (.cells #[.int .i64 xo, .int .i64 xa, .int .i64 xb, .int .i64 xc, .int .i64 xk, v] 111)) := bE
  have rS := Row.new w #[.int .i64 xo, .int .i64 xa, .int .i64 xb, .int .i64 xc, .int .i64 xk, v] 111
  have hL1 := cell_kept hL b1
  have d51 := cell_kept d5 b1
  obtain ⟨Ag, cg, rfl, lg, mg, sg⟩ := hv
  obtain ⟨Ag0, cg0, rfl, lg0, mg0, sg0⟩ := hv0
  have q5 := rS.cell 5
  simp only [List.getElem?_toArray, List.getElem?_cons_zero, List.getElem?_cons_succ] at q5
  have HC := Lib.hid (fun W (hW : Below w.heap.size w W) k => eqGuards_any clk clk0 (.slice Ag clk.length cg) (.slice Ag0 clk0.length cg0) C (W.drewN k) ⟨_, _, rfl, lg, mg, sg.below ((below_drewN' hW k).mono hC)⟩ ⟨_, _, rfl, lg0, mg0, sg0.below ((below_drewN' hW k).mono hC)⟩)
  have ml' : cl ≤ 9223372036854775807 := by unfold maxLen at ml; omega
  have hpos' : (0 : Int) < rest.length := by omega
  obtain ⟨Q, hQ⟩ : ∃ Q : Bool, Q = cB (clk = clk0) := ⟨_, rfl⟩
  rw [← hQ] at HC ⊢
  clear sl h0 h0' hL d0 d1 d2 d3 d4 d5 sg sg0 hQ
  go_enter Try.func113, Try.ntmps113
  go_upto_region 1 with (fail)
  generalize w.alloc (.cells #[.int .i64 xo, .int .i64 xa, .int .i64 xb, .int .i64 xc, .int .i64 xk, .slice Ag clk.length cg] 111) = w1 at *
  have HB1 := Lib.hid b1
  generalize clk0.length = len0 at *
  generalize clk.length = len1 at *
  go_wp2_with fail
  go_quiet ((go_at_call 114; exact quiet_of1 (HC.out _ HB1.out _)))
  go_wp2_with fail
  go_ret
  exact ⟨rfl, by first | exact HB1.out | exact below_drewN' HB1.out _⟩
set_option maxRecDepth 100000 in
set_option maxHeartbeats 8000000 in
theorem idx_any {w : World} {B C : Nat} (rest : List Stv) (s0 : Stv) (vl : Value) (L : Nat) (hB : B ≤ w.heap.size) (hC : C ≤ w.heap.size) (hl : ∀ W, Below w.heap.size w W → SlV W B 6 (isStp W C) vl rest) (h0 : rest[0]? = some s0) (hL : w.cell? ⟨L, 0, none⟩ = some vl) :
    Calls Try.prog 112 #[vl, .func (.func 113) #[] #[.pointer (some ⟨L, 0, none⟩)]] w fun e w' => (∃ n : Int, e = .returned (.int .i64 n) ∧ -1 ≤ n ∧ n ≤ rest.length ∧ n ≠ 0 ∧ Hid (∀ j : Nat, (n = -1 ∨ (j : Int) < n) → ∀ s, rest[j]? = some s → s.1.2 = s0.1.2)) ∧ Below w.heap.size w w' := by
  have hF := enters_of Try.func113 (by kernel_rfl) rfl
  have HS := Lib.hid hl
  have H0 := Lib.hid h0
  have HLL := Lib.hid hL
  obtain ⟨Al, cl, rfl, ll, ml, _⟩ := hl w (Below.refl _ _)
  have ml' : cl ≤ 9223372036854775807 := by unfold maxLen at ml; omega
  clear hl h0 hL
  go_enter Try.func112, Try.ntmps112
  go_wp2_with fail
  go_loopw [8] (fun i wr => ∃ j : Nat, j ≤ rest.length ∧ i = .int .i64 j ∧ Hid (∀ q : Nat, q < j → ∀ s, rest[q]? = some s → s.1.2 = s0.1.2) ∧ Below w.heap.size w wr) (fun i _ => rest.length - (intOf i).toNat)
  case atStart => exact ⟨0, Nat.zero_le _, rfl, fun q h => absurd h (by omega), Below.refl _ _⟩
  case round =>
    obtain ⟨j, hj, rfl, HN, hbr⟩ := hrel
    have hszr := hbr.size
    by_cases hlt : j < rest.length
    · obtain ⟨A', c', hA', _, _, sl⟩ := HS.out wr hbr
      injection hA' with hA1 _ hA3
      subst hA1; subst hA3
      obtain ⟨b, off, ⟨⟨⟨xo, xa, xb, xc, xk⟩, clk⟩, v⟩, rfl, hbB, hx, _, hv, d0, d1, d2, d3, d4, d5⟩ := sl_stp sl hlt
      dsimp only at hv d0 d1 d2 d3 d4 d5
      have HC := Lib.hid (runs1_any ⟨⟨⟨xo, xa, xb, xc, xk⟩, clk⟩, v⟩ s0 rest _ L (Nat.le_trans hB hszr) (Nat.le_trans hC hszr) hv (HS.out wr hbr) H0.out (cell_kept HLL.out hbr))
      have HX := Lib.hid hx
      have H00 : Hid (j = 0 → clk = s0.1.2) := fun g => by
        subst g
        have := HX.out.symm.trans H0.out
        injection this with this
        rw [← this]
      have hj' : (j : Int) < rest.length := by omega
      clear hx hv sl
      by_cases hq : clk = s0.1.2
      · have HQ := Lib.hid (cB_true hq)
        have HN' := Lib.hid (upto_succ HN.out (fun s hs => by rw [HX.out] at hs; injection hs with hs; rw [← hs]; exact hq))
        dsimp only at HC
        rw [HQ.out] at HC
        clear hq
        go_wp2_with fail
        refine HC.out.mono ?_
        rintro r w3 ⟨rfl, hb3⟩
        have hB3 := hbr.trans (hb3.mono hszr)
        clear d0 d1 d2 d3 d4 d5
        go_wp2_with fail
        go_roundw
        case rel => exact ⟨j + 1, by omega, by go_num, HN', hB3⟩
        case measure => first | (simp [intOf]; omega) | simp [intOf]
      · have HQ := Lib.hid (cB_false hq)
        have hjn : j ≠ 0 := fun g => hq (H00.out g)
        dsimp only at HC
        rw [HQ.out] at HC
        clear hq
        go_wp2_with fail
        refine HC.out.mono ?_
        rintro r w3 ⟨rfl, hb3⟩
        have hB3 := hbr.trans (hb3.mono hszr)
        clear d0 d1 d2 d3 d4 d5
        go_wp2_with fail
        go_ret
        exact ⟨⟨j, rfl, by omega, by omega, by omega, fun q hq s hs => HN.out q (by omega) s hs⟩, hB3⟩
    · obtain rfl : j = rest.length := by omega
      go_wp2_with fail
      go_ret
      exact ⟨⟨-1, rfl, by omega, by omega, by omega, fun q _ s hs => HN.out q (List.getElem?_eq_some_iff.1 hs).1 s hs⟩, hbr⟩
end Go.Proofs.Ytbjaejgechadpaa
