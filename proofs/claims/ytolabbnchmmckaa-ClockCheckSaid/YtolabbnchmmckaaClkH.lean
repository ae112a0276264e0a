/-
  The chapter's example of clocks: the contract of tompionlaw18.awake.
-/
import Derived.Test.YtolabbnchmmckaaClkG
namespace Go.Proofs.Ytolabbnchmmckaa
open Go.RowKit Nm
attribute [local go_sem ↓] Go.wp_at_zero Go.wp_at_succ
theorem Row.at_ {W : World} {b b' : Nat} {cs : Array Value} {t : TypeId} (h : Row W b cs t) (e : b = b') : Row W b' cs t := e ▸ h
theorem exs_leaf {W : World} {B g : Nat} {x : Ex} (hr : Row W g (exArr x none 0) 26) (hB : g < B) (hok : ExOk x) (ha : x.args = []) : IsExs W B (some ⟨g, 0, none⟩) [x] :=
  sl_one (cs := exCells x none 0) hr hB (IsEx.mk' hok (by rw [ha]; exact Nat.le_refl _) (Nat.zero_le _) (by rw [ha]; exact fun h => absurd h (by simp)))
theorem exs_two {W : World} {B g : Nat} {x y : Ex} {A : Option Addr} {cap : Nat} {A' : Option Addr} {cap' : Nat} (hr : Row W g #[.int .i64 x.op, .string x.name, .int .i64 x.n, .slice A x.args.length cap, .int .i64 x.line, .int .i64 x.col, .int .i64 y.op, .string y.name, .int .i64 y.n, .slice A' y.args.length cap', .int .i64 y.line, .int .i64 y.col] 26) (hB : g < B) (hx : IsEx W B x (exCells x A cap)) (hy : IsEx W B y (exCells y A' cap')) : IsExs W B (some ⟨g, 0, none⟩) [x, y] := fun _ => by
  refine ⟨g, 0, rfl, hB, fun i z hi => ?_⟩
  match i, hi with
  | 0, hi =>
    simp at hi; subst hi
    refine ⟨exCells x A cap, fun j u hu => ?_, hx⟩
    rw [Nat.zero_mul, Nat.zero_add]
    try rw [Nat.zero_add]
    refine (hr.cell j).trans ?_
    have hj : j < 6 := (List.getElem?_eq_some_iff.1 hu).1
    match j, hj, hu with
    | 0, _, hu => exact hu
    | 1, _, hu => exact hu
    | 2, _, hu => exact hu
    | 3, _, hu => exact hu
    | 4, _, hu => exact hu
    | 5, _, hu => exact hu
  | 1, hi =>
    simp at hi; subst hi
    refine ⟨exCells y A' cap', fun j u hu => ?_, hy⟩
    rw [Nat.one_mul, Nat.zero_add]
    refine (hr.cell (6 + j)).trans ?_
    have hj : j < 6 := (List.getElem?_eq_some_iff.1 hu).1
    match j, hj, hu with
    | 0, _, hu => exact hu
    | 1, _, hu => exact hu
    | 2, _, hu => exact hu
    | 3, _, hu => exact hu
    | 4, _, hu => exact hu
    | 5, _, hu => exact hu
theorem vrs_two {W : World} {B g : Nat} (hr : Row W g #[.string ⟨#[120]⟩, .int .i64 1, .slice none 0 0, .int .i64 0, .int .i64 0, .string ⟨#[99]⟩, .int .i64 2, .slice none 0 0, .int .i64 0, .int .i64 0] 64) (hB : g < B) : Vrs W B (some ⟨g, 0, none⟩) [vX, vC] := fun _ => by
  refine ⟨g, 0, rfl, hB, fun i z hi => ?_⟩
  match i, hi with
  | 0, hi =>
    simp at hi; subst hi
    refine ⟨[.string bX, .int .i64 1, .slice none 0 0, .int .i64 0, .int .i64 0], fun j u hu => ?_, none, 0, rfl, ⟨by decide, wf_s (by decide), wf_s (by decide), wf_s (by decide)⟩, Nat.le_refl _, Nat.zero_le _, Sl.nil⟩
    rw [Nat.zero_mul, Nat.zero_add]
    try rw [Nat.zero_add]
    refine (hr.cell j).trans ?_
    have hj : j < 5 := (List.getElem?_eq_some_iff.1 hu).1
    match j, hj, hu with
    | 0, _, hu => exact hu
    | 1, _, hu => exact hu
    | 2, _, hu => exact hu
    | 3, _, hu => exact hu
    | 4, _, hu => exact hu
  | 1, hi =>
    simp at hi; subst hi
    refine ⟨[.string bC, .int .i64 2, .slice none 0 0, .int .i64 0, .int .i64 0], fun j u hu => ?_, none, 0, rfl, ⟨by decide, wf_s (by decide), wf_s (by decide), wf_s (by decide)⟩, Nat.le_refl _, Nat.zero_le _, Sl.nil⟩
    rw [Nat.one_mul, Nat.zero_add]
    refine (hr.cell (5 + j)).trans ?_
    have hj : j < 5 := (List.getElem?_eq_some_iff.1 hu).1
    match j, hj, hu with
    | 0, _, hu => exact hu
    | 1, _, hu => exact hu
    | 2, _, hu => exact hu
    | 3, _, hu => exact hu
    | 4, _, hu => exact hu
theorem okE (op : Int) (nm : ByteArray) (l : List Ex) (a b : Int) (h1 : -1000 ≤ op ∧ op ≤ 1000) (h2 : nm.size ≤ maxLen) (h3 : -1000 ≤ a ∧ a ≤ 1000) (h4 : -1000 ≤ b ∧ b ≤ 1000) : ExOk (.mk op nm 0 l a b) := ⟨wf_s h1, h2, wf_s (show -1000 ≤ (0 : Int) ∧ (0 : Int) ≤ 1000 by decide), wf_s h3, wf_s h4⟩
set_option maxRecDepth 100000 in
set_option maxHeartbeats 4000000 in
theorem awake18_any (w : World) : Calls Try.prog 21 #[] w fun r w' => r = .returned (.bool true) ∧ Below w.heap.size w w' := by
  have r0 : Row ((((((w.alloc (.cells #[.string ⟨#[120]⟩, .int .i64 1, .slice none 0 0, .int .i64 0, .int .i64 0, .string ⟨#[99]⟩, .int .i64 2, .slice none 0 0, .int .i64 0, .int .i64 0] 64)).alloc (.cells #[.string ⟨#[109, 97, 105, 110]⟩, .slice (some ⟨w.heap.size, 0, none⟩) 2 2, .slice none 0 0, .slice none 0 0, .slice none 0 0, .int .i64 0, .int .i64 0] 40)).alloc (.cells #[.int .i64 3, .string ⟨#[120]⟩, .int .i64 0, .slice none 0 0, .int .i64 5, .int .i64 5] 26)).alloc (.cells #[.int .i64 3, .string ⟨#[120]⟩, .int .i64 0, .slice none 0 0, .int .i64 0, .int .i64 0] 26)).alloc (.cells #[.int .i64 24, .string ⟨#[99]⟩, .int .i64 0, .slice (some ⟨w.heap.size + 1 + 1 + 1, 0, none⟩) 1 1, .int .i64 0, .int .i64 0] 26)).alloc (.cells #[.string ⟨#[99]⟩, .bool false] 68)) (w.heap.size) #[.string ⟨#[120]⟩, .int .i64 1, .slice none 0 0, .int .i64 0, .int .i64 0, .string ⟨#[99]⟩, .int .i64 2, .slice none 0 0, .int .i64 0, .int .i64 0] 64 := ((((((Row.new w #[.string ⟨#[120]⟩, .int .i64 1, .slice none 0 0, .int .i64 0, .int .i64 0, .string ⟨#[99]⟩, .int .i64 2, .slice none 0 0, .int .i64 0, .int .i64 0] 64)).alloc (.cells #[.string ⟨#[109, 97, 105, 110]⟩, .slice (some ⟨w.heap.size, 0, none⟩) 2 2, .slice none 0 0, .slice none 0 0, .slice none 0 0, .int .i64 0, .int .i64 0] 40)).alloc (.cells #[.int .i64 3, .string ⟨#[120]⟩, .int .i64 0, .slice none 0 0, .int .i64 5, .int .i64 5] 26)).alloc (.cells #[.int .i64 3, .string ⟨#[120]⟩, .int .i64 0, .slice none 0 0, .int .i64 0, .int .i64 0] 26)).alloc (.cells #[.int .i64 24, .string ⟨#[99]⟩, .int .i64 0, .slice (some ⟨w.heap.size + 1 + 1 + 1, 0, none⟩) 1 1, .int .i64 0, .int .i64 0] 26)).alloc (.cells #[.string ⟨#[99]⟩, .bool false] 68)
  have r1 : Row ((((((w.alloc (.cells #[.string ⟨#[120]⟩, .int .i64 1, .slice none 0 0, .int .i64 0, .int .i64 0, .string ⟨#[99]⟩, .int .i64 2, .slice none 0 0, .int .i64 0, .int .i64 0] 64)).alloc (.cells #[.string ⟨#[109, 97, 105, 110]⟩, .slice (some ⟨w.heap.size, 0, none⟩) 2 2, .slice none 0 0, .slice none 0 0, .slice none 0 0, .int .i64 0, .int .i64 0] 40)).alloc (.cells #[.int .i64 3, .string ⟨#[120]⟩, .int .i64 0, .slice none 0 0, .int .i64 5, .int .i64 5] 26)).alloc (.cells #[.int .i64 3, .string ⟨#[120]⟩, .int .i64 0, .slice none 0 0, .int .i64 0, .int .i64 0] 26)).alloc (.cells #[.int .i64 24, .string ⟨#[99]⟩, .int .i64 0, .slice (some ⟨w.heap.size + 1 + 1 + 1, 0, none⟩) 1 1, .int .i64 0, .int .i64 0] 26)).alloc (.cells #[.string ⟨#[99]⟩, .bool false] 68)) (w.heap.size + 1) #[.string ⟨#[109, 97, 105, 110]⟩, .slice (some ⟨w.heap.size, 0, none⟩) 2 2, .slice none 0 0, .slice none 0 0, .slice none 0 0, .int .i64 0, .int .i64 0] 40 := (((((Row.new (w.alloc (.cells #[.string ⟨#[120]⟩, .int .i64 1, .slice none 0 0, .int .i64 0, .int .i64 0, .string ⟨#[99]⟩, .int .i64 2, .slice none 0 0, .int .i64 0, .int .i64 0] 64)) #[.string ⟨#[109, 97, 105, 110]⟩, .slice (some ⟨w.heap.size, 0, none⟩) 2 2, .slice none 0 0, .slice none 0 0, .slice none 0 0, .int .i64 0, .int .i64 0] 40).at_ (by simp : _ = w.heap.size + 1)).alloc (.cells #[.int .i64 3, .string ⟨#[120]⟩, .int .i64 0, .slice none 0 0, .int .i64 5, .int .i64 5] 26)).alloc (.cells #[.int .i64 3, .string ⟨#[120]⟩, .int .i64 0, .slice none 0 0, .int .i64 0, .int .i64 0] 26)).alloc (.cells #[.int .i64 24, .string ⟨#[99]⟩, .int .i64 0, .slice (some ⟨w.heap.size + 1 + 1 + 1, 0, none⟩) 1 1, .int .i64 0, .int .i64 0] 26)).alloc (.cells #[.string ⟨#[99]⟩, .bool false] 68)
  have r2 : Row ((((((w.alloc (.cells #[.string ⟨#[120]⟩, .int .i64 1, .slice none 0 0, .int .i64 0, .int .i64 0, .string ⟨#[99]⟩, .int .i64 2, .slice none 0 0, .int .i64 0, .int .i64 0] 64)).alloc (.cells #[.string ⟨#[109, 97, 105, 110]⟩, .slice (some ⟨w.heap.size, 0, none⟩) 2 2, .slice none 0 0, .slice none 0 0, .slice none 0 0, .int .i64 0, .int .i64 0] 40)).alloc (.cells #[.int .i64 3, .string ⟨#[120]⟩, .int .i64 0, .slice none 0 0, .int .i64 5, .int .i64 5] 26)).alloc (.cells #[.int .i64 3, .string ⟨#[120]⟩, .int .i64 0, .slice none 0 0, .int .i64 0, .int .i64 0] 26)).alloc (.cells #[.int .i64 24, .string ⟨#[99]⟩, .int .i64 0, .slice (some ⟨w.heap.size + 1 + 1 + 1, 0, none⟩) 1 1, .int .i64 0, .int .i64 0] 26)).alloc (.cells #[.string ⟨#[99]⟩, .bool false] 68)) (w.heap.size + 2) #[.int .i64 3, .string ⟨#[120]⟩, .int .i64 0, .slice none 0 0, .int .i64 5, .int .i64 5] 26 := ((((Row.new ((w.alloc (.cells #[.string ⟨#[120]⟩, .int .i64 1, .slice none 0 0, .int .i64 0, .int .i64 0, .string ⟨#[99]⟩, .int .i64 2, .slice none 0 0, .int .i64 0, .int .i64 0] 64)).alloc (.cells #[.string ⟨#[109, 97, 105, 110]⟩, .slice (some ⟨w.heap.size, 0, none⟩) 2 2, .slice none 0 0, .slice none 0 0, .slice none 0 0, .int .i64 0, .int .i64 0] 40)) #[.int .i64 3, .string ⟨#[120]⟩, .int .i64 0, .slice none 0 0, .int .i64 5, .int .i64 5] 26).at_ (by simp : _ = w.heap.size + 2)).alloc (.cells #[.int .i64 3, .string ⟨#[120]⟩, .int .i64 0, .slice none 0 0, .int .i64 0, .int .i64 0] 26)).alloc (.cells #[.int .i64 24, .string ⟨#[99]⟩, .int .i64 0, .slice (some ⟨w.heap.size + 1 + 1 + 1, 0, none⟩) 1 1, .int .i64 0, .int .i64 0] 26)).alloc (.cells #[.string ⟨#[99]⟩, .bool false] 68)
  have r3 : Row ((((((w.alloc (.cells #[.string ⟨#[120]⟩, .int .i64 1, .slice none 0 0, .int .i64 0, .int .i64 0, .string ⟨#[99]⟩, .int .i64 2, .slice none 0 0, .int .i64 0, .int .i64 0] 64)).alloc (.cells #[.string ⟨#[109, 97, 105, 110]⟩, .slice (some ⟨w.heap.size, 0, none⟩) 2 2, .slice none 0 0, .slice none 0 0, .slice none 0 0, .int .i64 0, .int .i64 0] 40)).alloc (.cells #[.int .i64 3, .string ⟨#[120]⟩, .int .i64 0, .slice none 0 0, .int .i64 5, .int .i64 5] 26)).alloc (.cells #[.int .i64 3, .string ⟨#[120]⟩, .int .i64 0, .slice none 0 0, .int .i64 0, .int .i64 0] 26)).alloc (.cells #[.int .i64 24, .string ⟨#[99]⟩, .int .i64 0, .slice (some ⟨w.heap.size + 1 + 1 + 1, 0, none⟩) 1 1, .int .i64 0, .int .i64 0] 26)).alloc (.cells #[.string ⟨#[99]⟩, .bool false] 68)) (w.heap.size + 3) #[.int .i64 3, .string ⟨#[120]⟩, .int .i64 0, .slice none 0 0, .int .i64 0, .int .i64 0] 26 := (((Row.new (((w.alloc (.cells #[.string ⟨#[120]⟩, .int .i64 1, .slice none 0 0, .int .i64 0, .int .i64 0, .string ⟨#[99]⟩, .int .i64 2, .slice none 0 0, .int .i64 0, .int .i64 0] 64)).alloc (.cells #[.string ⟨#[109, 97, 105, 110]⟩, .slice (some ⟨w.heap.size, 0, none⟩) 2 2, .slice none 0 0, .slice none 0 0, .slice none 0 0, .int .i64 0, .int .i64 0] 40)).alloc (.cells #[.int .i64 3, .string ⟨#[120]⟩, .int .i64 0, .slice none 0 0, .int .i64 5, .int .i64 5] 26)) #[.int .i64 3, .string ⟨#[120]⟩, .int .i64 0, .slice none 0 0, .int .i64 0, .int .i64 0] 26).at_ (by simp : _ = w.heap.size + 3)).alloc (.cells #[.int .i64 24, .string ⟨#[99]⟩, .int .i64 0, .slice (some ⟨w.heap.size + 1 + 1 + 1, 0, none⟩) 1 1, .int .i64 0, .int .i64 0] 26)).alloc (.cells #[.string ⟨#[99]⟩, .bool false] 68)
  have r4 : Row ((((((w.alloc (.cells #[.string ⟨#[120]⟩, .int .i64 1, .slice none 0 0, .int .i64 0, .int .i64 0, .string ⟨#[99]⟩, .int .i64 2, .slice none 0 0, .int .i64 0, .int .i64 0] 64)).alloc (.cells #[.string ⟨#[109, 97, 105, 110]⟩, .slice (some ⟨w.heap.size, 0, none⟩) 2 2, .slice none 0 0, .slice none 0 0, .slice none 0 0, .int .i64 0, .int .i64 0] 40)).alloc (.cells #[.int .i64 3, .string ⟨#[120]⟩, .int .i64 0, .slice none 0 0, .int .i64 5, .int .i64 5] 26)).alloc (.cells #[.int .i64 3, .string ⟨#[120]⟩, .int .i64 0, .slice none 0 0, .int .i64 0, .int .i64 0] 26)).alloc (.cells #[.int .i64 24, .string ⟨#[99]⟩, .int .i64 0, .slice (some ⟨w.heap.size + 1 + 1 + 1, 0, none⟩) 1 1, .int .i64 0, .int .i64 0] 26)).alloc (.cells #[.string ⟨#[99]⟩, .bool false] 68)) (w.heap.size + 4) #[.int .i64 24, .string ⟨#[99]⟩, .int .i64 0, .slice (some ⟨w.heap.size + 1 + 1 + 1, 0, none⟩) 1 1, .int .i64 0, .int .i64 0] 26 := ((Row.new ((((w.alloc (.cells #[.string ⟨#[120]⟩, .int .i64 1, .slice none 0 0, .int .i64 0, .int .i64 0, .string ⟨#[99]⟩, .int .i64 2, .slice none 0 0, .int .i64 0, .int .i64 0] 64)).alloc (.cells #[.string ⟨#[109, 97, 105, 110]⟩, .slice (some ⟨w.heap.size, 0, none⟩) 2 2, .slice none 0 0, .slice none 0 0, .slice none 0 0, .int .i64 0, .int .i64 0] 40)).alloc (.cells #[.int .i64 3, .string ⟨#[120]⟩, .int .i64 0, .slice none 0 0, .int .i64 5, .int .i64 5] 26)).alloc (.cells #[.int .i64 3, .string ⟨#[120]⟩, .int .i64 0, .slice none 0 0, .int .i64 0, .int .i64 0] 26)) #[.int .i64 24, .string ⟨#[99]⟩, .int .i64 0, .slice (some ⟨w.heap.size + 1 + 1 + 1, 0, none⟩) 1 1, .int .i64 0, .int .i64 0] 26).at_ (by simp : _ = w.heap.size + 4)).alloc (.cells #[.string ⟨#[99]⟩, .bool false] 68)
  have r5 : Row ((((((w.alloc (.cells #[.string ⟨#[120]⟩, .int .i64 1, .slice none 0 0, .int .i64 0, .int .i64 0, .string ⟨#[99]⟩, .int .i64 2, .slice none 0 0, .int .i64 0, .int .i64 0] 64)).alloc (.cells #[.string ⟨#[109, 97, 105, 110]⟩, .slice (some ⟨w.heap.size, 0, none⟩) 2 2, .slice none 0 0, .slice none 0 0, .slice none 0 0, .int .i64 0, .int .i64 0] 40)).alloc (.cells #[.int .i64 3, .string ⟨#[120]⟩, .int .i64 0, .slice none 0 0, .int .i64 5, .int .i64 5] 26)).alloc (.cells #[.int .i64 3, .string ⟨#[120]⟩, .int .i64 0, .slice none 0 0, .int .i64 0, .int .i64 0] 26)).alloc (.cells #[.int .i64 24, .string ⟨#[99]⟩, .int .i64 0, .slice (some ⟨w.heap.size + 1 + 1 + 1, 0, none⟩) 1 1, .int .i64 0, .int .i64 0] 26)).alloc (.cells #[.string ⟨#[99]⟩, .bool false] 68)) (w.heap.size + 5) #[.string ⟨#[99]⟩, .bool false] 68 := (Row.new (((((w.alloc (.cells #[.string ⟨#[120]⟩, .int .i64 1, .slice none 0 0, .int .i64 0, .int .i64 0, .string ⟨#[99]⟩, .int .i64 2, .slice none 0 0, .int .i64 0, .int .i64 0] 64)).alloc (.cells #[.string ⟨#[109, 97, 105, 110]⟩, .slice (some ⟨w.heap.size, 0, none⟩) 2 2, .slice none 0 0, .slice none 0 0, .slice none 0 0, .int .i64 0, .int .i64 0] 40)).alloc (.cells #[.int .i64 3, .string ⟨#[120]⟩, .int .i64 0, .slice none 0 0, .int .i64 5, .int .i64 5] 26)).alloc (.cells #[.int .i64 3, .string ⟨#[120]⟩, .int .i64 0, .slice none 0 0, .int .i64 0, .int .i64 0] 26)).alloc (.cells #[.int .i64 24, .string ⟨#[99]⟩, .int .i64 0, .slice (some ⟨w.heap.size + 1 + 1 + 1, 0, none⟩) 1 1, .int .i64 0, .int .i64 0] 26)) #[.string ⟨#[99]⟩, .bool false] 68).at_ (by simp : _ = w.heap.size + 5)
  have hB : Below w.heap.size w ((((((w.alloc (.cells #[.string ⟨#[120]⟩, .int .i64 1, .slice none 0 0, .int .i64 0, .int .i64 0, .string ⟨#[99]⟩, .int .i64 2, .slice none 0 0, .int .i64 0, .int .i64 0] 64)).alloc (.cells #[.string ⟨#[109, 97, 105, 110]⟩, .slice (some ⟨w.heap.size, 0, none⟩) 2 2, .slice none 0 0, .slice none 0 0, .slice none 0 0, .int .i64 0, .int .i64 0] 40)).alloc (.cells #[.int .i64 3, .string ⟨#[120]⟩, .int .i64 0, .slice none 0 0, .int .i64 5, .int .i64 5] 26)).alloc (.cells #[.int .i64 3, .string ⟨#[120]⟩, .int .i64 0, .slice none 0 0, .int .i64 0, .int .i64 0] 26)).alloc (.cells #[.int .i64 24, .string ⟨#[99]⟩, .int .i64 0, .slice (some ⟨w.heap.size + 1 + 1 + 1, 0, none⟩) 1 1, .int .i64 0, .int .i64 0] 26)).alloc (.cells #[.string ⟨#[99]⟩, .bool false] 68)) := by repeat (first | exact Below.refl _ _ | refine Below.alloc ?_ (by first | (simp; omega) | simp) _)
  have hsz : w.heap.size + 6 ≤ ((((((w.alloc (.cells #[.string ⟨#[120]⟩, .int .i64 1, .slice none 0 0, .int .i64 0, .int .i64 0, .string ⟨#[99]⟩, .int .i64 2, .slice none 0 0, .int .i64 0, .int .i64 0] 64)).alloc (.cells #[.string ⟨#[109, 97, 105, 110]⟩, .slice (some ⟨w.heap.size, 0, none⟩) 2 2, .slice none 0 0, .slice none 0 0, .slice none 0 0, .int .i64 0, .int .i64 0] 40)).alloc (.cells #[.int .i64 3, .string ⟨#[120]⟩, .int .i64 0, .slice none 0 0, .int .i64 5, .int .i64 5] 26)).alloc (.cells #[.int .i64 3, .string ⟨#[120]⟩, .int .i64 0, .slice none 0 0, .int .i64 0, .int .i64 0] 26)).alloc (.cells #[.int .i64 24, .string ⟨#[99]⟩, .int .i64 0, .slice (some ⟨w.heap.size + 1 + 1 + 1, 0, none⟩) 1 1, .int .i64 0, .int .i64 0] 26)).alloc (.cells #[.string ⟨#[99]⟩, .bool false] 68)).heap.size := by simp
  go_enter Try.func21, Try.ntmps21
  go_upto_region 5 with (fail)
  generalize ((((((w.alloc (.cells #[.string ⟨#[120]⟩, .int .i64 1, .slice none 0 0, .int .i64 0, .int .i64 0, .string ⟨#[99]⟩, .int .i64 2, .slice none 0 0, .int .i64 0, .int .i64 0] 64)).alloc (.cells #[.string ⟨#[109, 97, 105, 110]⟩, .slice (some ⟨w.heap.size, 0, none⟩) 2 2, .slice none 0 0, .slice none 0 0, .slice none 0 0, .int .i64 0, .int .i64 0] 40)).alloc (.cells #[.int .i64 3, .string ⟨#[120]⟩, .int .i64 0, .slice none 0 0, .int .i64 5, .int .i64 5] 26)).alloc (.cells #[.int .i64 3, .string ⟨#[120]⟩, .int .i64 0, .slice none 0 0, .int .i64 0, .int .i64 0] 26)).alloc (.cells #[.int .i64 24, .string ⟨#[99]⟩, .int .i64 0, .slice (some ⟨w.heap.size + 1 + 1 + 1, 0, none⟩) 1 1, .int .i64 0, .int .i64 0] 26)).alloc (.cells #[.string ⟨#[99]⟩, .bool false] 68)) = W at *
  have hN : NdAt W w.heap.size.succ nA ⟨some ⟨w.heap.size, 0, none⟩, 2, none, 0, none, 0, none, 0⟩ :=
    ⟨by decide, wf_s (by decide), wf_s (by decide), Nat.le_refl _, (show 2 ≤ maxLen by decide), vrs_two r0 (Nat.lt_succ_self _), Nat.le_refl _, Nat.zero_le _, Sl.nil, Nat.le_refl _, Nat.zero_le _, Sl.nil, Nat.le_refl _, Nat.zero_le _, Sl.nil⟩
  have hx0 : IsExs W (w.heap.size + 4) (some ⟨w.heap.size + 3, 0, none⟩) [x0E] := exs_leaf r3 (by omega) (okE _ _ _ _ _ (by decide) (by decide) (by decide) (by decide)) rfl
  have hon : Sl W (w.heap.size + 6) 2 isLit (some ⟨w.heap.size + 5, 0, none⟩) onA := sl_one (cs := [.string bC, .bool false]) r5 (by omega) ⟨rfl, by decide⟩
  have HN := Lib.hid hN
  have HX := Lib.hid hx0
  have HO := Lib.hid hon
  clear hN hx0 hon
  have c0 : W.cell? ⟨w.heap.size + 1, 0, none⟩ = some (.string bMain) := (r1.cell 0).trans rfl
  have c1 : W.cell? ⟨w.heap.size + 1, 1, none⟩ = some (.slice (some ⟨w.heap.size, 0, none⟩) 2 2) := (r1.cell 1).trans rfl
  have c2 : W.cell? ⟨w.heap.size + 1, 2, none⟩ = some (.slice none 0 0) := (r1.cell 2).trans rfl
  have c3 : W.cell? ⟨w.heap.size + 1, 3, none⟩ = some (.slice none 0 0) := (r1.cell 3).trans rfl
  have c4 : W.cell? ⟨w.heap.size + 1, 4, none⟩ = some (.slice none 0 0) := (r1.cell 4).trans rfl
  have c5 : W.cell? ⟨w.heap.size + 1, 5, none⟩ = some (.int .i64 0) := (r1.cell 5).trans rfl
  have c6 : W.cell? ⟨w.heap.size + 1, 6, none⟩ = some (.int .i64 0) := (r1.cell 6).trans rfl
  have d0 : W.cell? ⟨w.heap.size + 2, 0, none⟩ = some (.int .i64 3) := (r2.cell 0).trans rfl
  have d1 : W.cell? ⟨w.heap.size + 2, 1, none⟩ = some (.string bX) := (r2.cell 1).trans rfl
  have d2 : W.cell? ⟨w.heap.size + 2, 2, none⟩ = some (.int .i64 0) := (r2.cell 2).trans rfl
  have d3 : W.cell? ⟨w.heap.size + 2, 3, none⟩ = some (.slice none 0 0) := (r2.cell 3).trans rfl
  have d4 : W.cell? ⟨w.heap.size + 2, 4, none⟩ = some (.int .i64 5) := (r2.cell 4).trans rfl
  have d5 : W.cell? ⟨w.heap.size + 2, 5, none⟩ = some (.int .i64 5) := (r2.cell 5).trans rfl
  have e0 : W.cell? ⟨w.heap.size + 4, 0, none⟩ = some (.int .i64 24) := (r4.cell 0).trans rfl
  have e1 : W.cell? ⟨w.heap.size + 4, 1, none⟩ = some (.string bC) := (r4.cell 1).trans rfl
  have e2 : W.cell? ⟨w.heap.size + 4, 2, none⟩ = some (.int .i64 0) := (r4.cell 2).trans rfl
  have e3 : W.cell? ⟨w.heap.size + 4, 3, none⟩ = some (.slice (some ⟨w.heap.size + 3, 0, none⟩) 1 1) := (r4.cell 3).trans rfl
  have e4 : W.cell? ⟨w.heap.size + 4, 4, none⟩ = some (.int .i64 0) := (r4.cell 4).trans rfl
  have e5 : W.cell? ⟨w.heap.size + 4, 5, none⟩ = some (.int .i64 0) := (r4.cell 5).trans rfl
  have W7 := Row.new W #[.int .i64 24, .string bC, .int .i64 0, .slice (some ⟨w.heap.size + 3, 0, none⟩) 1 1, .int .i64 0, .int .i64 0, .int .i64 3, .string bX, .int .i64 0, .slice none 0 0, .int .i64 5, .int .i64 5] 26
  have bA := (Below.refl W.heap.size W).alloc (Nat.le_refl _) (.cells #[.int .i64 24, .string bC, .int .i64 0, .slice (some ⟨w.heap.size + 3, 0, none⟩) 1 1, .int .i64 0, .int .i64 0, .int .i64 3, .string bX, .int .i64 0, .slice none 0 0, .int .i64 5, .int .i64 5] 26)
  have HF1 : Hid (Calls Try.prog 28 #[(.agg #[.string bMain, .slice (some ⟨w.heap.size, 0, none⟩) 2 2, .slice none 0 0, .slice none 0 0, .slice none 0 0, .int .i64 0, .int .i64 0]), (.agg #[.int .i64 7, .string ⟨#[]⟩, .int .i64 0, .slice (some ⟨W.heap.size, 0, none⟩) 2 2, .int .i64 0, .int .i64 0]), (.slice (some ⟨w.heap.size + 5, 0, none⟩) 1 1)] (W.alloc (.cells #[.int .i64 24, .string bC, .int .i64 0, .slice (some ⟨w.heap.size + 3, 0, none⟩) 1 1, .int .i64 0, .int .i64 0, .int .i64 3, .string bX, .int .i64 0, .slice none 0 0, .int .i64 5, .int .i64 5] 26)) fun r w' => r = .returned (ftV ⟨30, 5, 5⟩) ∧ Below (W.alloc (.cells #[.int .i64 24, .string bC, .int .i64 0, .slice (some ⟨w.heap.size + 3, 0, none⟩) 1 1, .int .i64 0, .int .i64 0, .int .i64 3, .string bX, .int .i64 0, .slice none 0 0, .int .i64 5, .int .i64 5] 26)).heap.size (W.alloc (.cells #[.int .i64 24, .string bC, .int .i64 0, .slice (some ⟨w.heap.size + 3, 0, none⟩) 1 1, .int .i64 0, .int .i64 0, .int .i64 3, .string bX, .int .i64 0, .slice none 0 0, .int .i64 5, .int .i64 5] 26)) w') := by
    have := sfits_any nA ⟨some ⟨w.heap.size, 0, none⟩, 2, none, 0, none, 0, none, 0⟩ nA_small addE (some ⟨W.heap.size, 0, none⟩) 2 onA (some ⟨w.heap.size + 5, 0, none⟩) 1 (W.alloc (.cells #[.int .i64 24, .string bC, .int .i64 0, .slice (some ⟨w.heap.size + 3, 0, none⟩) 1 1, .int .i64 0, .int .i64 0, .int .i64 3, .string bX, .int .i64 0, .slice none 0 0, .int .i64 5, .int .i64 5] 26)) ((HN.out.keep (keeps_of (bA.mono (by omega))) (show w.heap.size.succ ≤ _ by simp; omega))) (okE _ _ _ _ _ (by decide) (by decide) (by decide) (by decide)) (Nat.le_refl _) (by decide)
      (exs_two (x := whenE) (y := xE) W7 (by simp) (IsEx.mk' (okE _ _ _ _ _ (by decide) (by decide) (by decide) (by decide)) (Nat.le_refl _) (by decide) (exs_keep HX.out (keeps_of (bA.mono (by omega))) (by simp; omega))) (IsEx.mk' (okE _ _ _ _ _ (by decide) (by decide) (by decide) (by decide)) (Nat.le_refl _) (Nat.zero_le _) (fun h => absurd h (by simp [Ex.args])))) (by unfold exSize; rw [list_add]; decide) (Nat.le_refl _) (by decide) (lits_keep HO.out (keeps_of (bA.mono (by omega))) (by simp; omega))
    rw [top_add] at this
    exact this
  go_wp2_with fail
  refine HF1.out.mono ?_
  rintro r W8 ⟨rfl, hb8⟩
  have b8 : Below W.heap.size W W8 := bA.trans (hb8.mono (by simp))
  have hs8 := b8.size
  have q1 := (r1.below b8 r1.lt).alloc (.cells (ftArr ⟨30, 5, 5⟩) 31)
  have q2 := (r2.below b8 r2.lt).alloc (.cells (ftArr ⟨30, 5, 5⟩) 31)
  have q4 := (r4.below b8 r4.lt).alloc (.cells (ftArr ⟨30, 5, 5⟩) 31)
  have qF := Row.new W8 (ftArr ⟨30, 5, 5⟩) 31
  have b9 := b8.alloc hs8 (.cells (ftArr ⟨30, 5, 5⟩) 31)
  clear HF1 W7 bA hb8 c0 c1 c2 c3 c4 c5 c6 d0 d1 d2 d3 d4 d5 e0 e1 e2 e3 e4 e5
  go_upto_region 6 with (fail)
  generalize W8.alloc (.cells (ftArr ⟨30, 5, 5⟩) 31) = W9 at *
  have c0 : W9.cell? ⟨w.heap.size + 1, 0, none⟩ = some (.string bMain) := (q1.cell 0).trans rfl
  have c1 : W9.cell? ⟨w.heap.size + 1, 1, none⟩ = some (.slice (some ⟨w.heap.size, 0, none⟩) 2 2) := (q1.cell 1).trans rfl
  have c2 : W9.cell? ⟨w.heap.size + 1, 2, none⟩ = some (.slice none 0 0) := (q1.cell 2).trans rfl
  have c3 : W9.cell? ⟨w.heap.size + 1, 3, none⟩ = some (.slice none 0 0) := (q1.cell 3).trans rfl
  have c4 : W9.cell? ⟨w.heap.size + 1, 4, none⟩ = some (.slice none 0 0) := (q1.cell 4).trans rfl
  have c5 : W9.cell? ⟨w.heap.size + 1, 5, none⟩ = some (.int .i64 0) := (q1.cell 5).trans rfl
  have c6 : W9.cell? ⟨w.heap.size + 1, 6, none⟩ = some (.int .i64 0) := (q1.cell 6).trans rfl
  have d0 : W9.cell? ⟨w.heap.size + 2, 0, none⟩ = some (.int .i64 3) := (q2.cell 0).trans rfl
  have d1 : W9.cell? ⟨w.heap.size + 2, 1, none⟩ = some (.string bX) := (q2.cell 1).trans rfl
  have d2 : W9.cell? ⟨w.heap.size + 2, 2, none⟩ = some (.int .i64 0) := (q2.cell 2).trans rfl
  have d3 : W9.cell? ⟨w.heap.size + 2, 3, none⟩ = some (.slice none 0 0) := (q2.cell 3).trans rfl
  have d4 : W9.cell? ⟨w.heap.size + 2, 4, none⟩ = some (.int .i64 5) := (q2.cell 4).trans rfl
  have d5 : W9.cell? ⟨w.heap.size + 2, 5, none⟩ = some (.int .i64 5) := (q2.cell 5).trans rfl
  have e0 : W9.cell? ⟨w.heap.size + 4, 0, none⟩ = some (.int .i64 24) := (q4.cell 0).trans rfl
  have e1 : W9.cell? ⟨w.heap.size + 4, 1, none⟩ = some (.string bC) := (q4.cell 1).trans rfl
  have e2 : W9.cell? ⟨w.heap.size + 4, 2, none⟩ = some (.int .i64 0) := (q4.cell 2).trans rfl
  have e3 : W9.cell? ⟨w.heap.size + 4, 3, none⟩ = some (.slice (some ⟨w.heap.size + 3, 0, none⟩) 1 1) := (q4.cell 3).trans rfl
  have e4 : W9.cell? ⟨w.heap.size + 4, 4, none⟩ = some (.int .i64 0) := (q4.cell 4).trans rfl
  have e5 : W9.cell? ⟨w.heap.size + 4, 5, none⟩ = some (.int .i64 0) := (q4.cell 5).trans rfl
  obtain ⟨⟨f0, f1, f2⟩, _⟩ := qF.three
  have hs9 := b9.size
  have HF2 : Hid (Calls Try.prog 28 #[(.agg #[.string bMain, .slice (some ⟨w.heap.size, 0, none⟩) 2 2, .slice none 0 0, .slice none 0 0, .slice none 0 0, .int .i64 0, .int .i64 0]), (.agg #[.int .i64 24, .string bC, .int .i64 0, .slice (some ⟨w.heap.size + 3, 0, none⟩) 1 1, .int .i64 0, .int .i64 0]), (.slice (some ⟨w.heap.size + 5, 0, none⟩) 1 1)] W9 fun r w' => r = .returned (ftV ft0) ∧ Below W9.heap.size W9 w') := by
    have := sfits_any nA ⟨some ⟨w.heap.size, 0, none⟩, 2, none, 0, none, 0, none, 0⟩ nA_small whenE (some ⟨w.heap.size + 3, 0, none⟩) 1 onA (some ⟨w.heap.size + 5, 0, none⟩) 1 W9 ((HN.out.keep (keeps_of (b9.mono (by omega))) (show w.heap.size.succ ≤ _ by omega))) (okE _ _ _ _ _ (by decide) (by decide) (by decide) (by decide)) (Nat.le_refl _) (by decide)
      (exs_keep HX.out (keeps_of (b9.mono (by omega))) (by omega)) (by unfold exSize; rw [list_when]; decide) (Nat.le_refl _) (by decide) (lits_keep HO.out (keeps_of (b9.mono (by omega))) (by omega))
    rw [top_when] at this
    exact this
  go_wp2_with fail
  refine HF2.out.mono ?_
  rintro r W10 ⟨rfl, hb10⟩
  go_wp2_with fail
  go_ret
  exact ⟨rfl, hB.trans ((b9.mono (by omega)).trans (hb10.mono (by omega)))⟩
end Go.Proofs.Ytolabbnchmmckaa
