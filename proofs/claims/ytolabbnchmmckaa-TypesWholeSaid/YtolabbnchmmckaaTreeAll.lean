/-
  The iterator over an expression and all within it: the contracts of tree.walk, All. The iterator over an expression, once more: rows of cells may turn by their types.
-/
import Derived.RangeFuncNested
import Derived.RangeFuncBound
import Derived.RangeFuncCalls
import Derived.RangeFuncLeaves
import Derived.Shelf.Abstract
import Derived.Shelf.RegionOpen
import Derived.OwnWalkIn
import Derived.TacticsInMore
import Derived.LoopNIn
import Derived.LoopIn
import Derived.Test.YtolabbnchmmckaaTreeList
namespace Go.Proofs.Ytolabbnchmmckaa
open Go.RowKit Go.Shelf

attribute [local go_sem] Oper.semAt_some

theorem room_of_none {F : Fence} (hd : F.depth = none) (k : Nat) : F.room k := fun d h => by rw [hd] at h; cases h
theorem roundIn_any {F : Fence} (hd : F.depth = none) {m m' : Nat} {P : Program} {l : Nat} {f : FuncId} {tmps : Array Value} {assign body : Code} {w : World} {R : Ending → World → Prop}
    (h : RoundIn F m P l f tmps assign body w R) : RoundIn F m' P l f tmps assign body w R := ⟨h.1, fun c cs _ => h.2 c cs (room_of_none hd _)⟩
theorem yieldAt_any {F : Fence} (hd : F.depth = none) {m : Nat} (m' : Nat) {P : Program} {l : Nat} {args : Array Value} {W : World} {R : Ending → World → Prop} (h : YieldAt F m P l args W R) : YieldAt F m' P l args W R := by
  obtain ⟨fn, tmps, assign, body, hy, hR⟩ := h
  exact ⟨fn, tmps, assign, body, hy, roundIn_any hd hR⟩

/-- an expression as it is handed to the round -/
structure ExN where
  ex : Ex
  A : Option Addr
  cap : Nat
  ok : ExOk ex
  len : ex.args.length ≤ cap
  max : cap ≤ maxLen
abbrev ExN.v (x : ExN) : Value := exV x.ex x.A x.cap
theorem abide_alloc {β : Type} {B : Nat} {J : β → World → Prop} (h : AbidesFrom B J) {s : β} {W : World} (hs : J s W) (o : Obj) : J s (W.alloc o) :=
  h s W _ none hs (World.grownBy_alloc W o none) (fun _ e => by cases e)
theorem lTo_pre (e : Ex) (k : Nat) : lTo e k <+: exList e := by
  rw [exList_eq]; unfold lTo
  refine ⟨((e.args.drop k).map exList).flatten, ?_⟩
  rw [List.cons_append, ← List.flatten_append, ← List.map_append, List.take_append_drop]

set_option maxRecDepth 100000 in
set_option maxHeartbeats 4000000 in
theorem wlkIn (F : Fence) (hd : F.depth = none) (hf : F.fn 126) (hro : F.round = none) (l N n₀ B0 : Nat) (X : Nat → Prop) (hX : ∀ b, X b → n₀ ≤ b ∧ b < B0) (J Jx : List ExN → World → Prop) (hJ : AbidesFrom B0 J)
    (hY : ∀ m pre x W, J pre W → pre.length < N → YieldAt F m Try.prog l #[x.v] W fun e W' => (e = .returned (.bool true) ∧ J (pre ++ [x]) W' ∧ KeepC X W W') ∨ (e = .returned (.bool false) ∧ Jx (pre ++ [x]) W')) (e : Ex) :
    ∀ (n : Nat) (A : Option Addr) (cap : Nat) (pre : List ExN) (W : World), ExOk e → e.args.length ≤ cap → cap ≤ maxLen → n₀ ≤ B0 → B0 ≤ W.heap.size → IsExs W n₀ A e.args → J pre W → pre.length + exSize e ≤ N →
      CallsIn F n Try.prog 126 #[exV e A cap, .func (.yield l) #[] #[]] W fun r W' =>
        (r = .returned (.bool true) ∧ ∃ q, q.map ExN.ex = exList e ∧ J (pre ++ q) W' ∧ KeepC X W W') ∨ (r = .returned (.bool false) ∧ ∃ q, q.map ExN.ex <+: exList e ∧ Jx (pre ++ q) W') := by
  induction e using Ex.ind with
  | h e ih =>
    intro n A cap pre W hok hcap hmax hn0 hB0 hx hj hN
    have hdd : ∀ k : Nat, (F.depth.isSome = true → 1 ≤ k) := fun k h => by rw [hd] at h; cases h
    have HI := Lib.hid ih
    have HX := Lib.hid hX
    have hXW : ¬ X W.heap.size := fun h => by have := (hX _ h).2; omega
    have HE := Lib.hid (lTo_end e)
    have hpos := exSize_pos e
    have HN := Lib.hid hN
    clear ih hX
    obtain ⟨fn, tmps, assign, body, hy, hR⟩ := hY (n - 1) pre ⟨e, A, cap, hok, hcap, hmax⟩ (W.alloc (.cells #[.int .i64 e.op, .string e.name, .int .i64 e.n, .slice A e.args.length cap, .int .i64 e.line, .int .i64 e.col] 26)) (abide_alloc hJ hj _) (by omega)
    replace hR := hR.mono (R' := fun r W2 => (r = .returned (.bool true) ∧ J (pre ++ [⟨e, A, cap, hok, hcap, hmax⟩]) W2 ∧ KeepC X (W.alloc (.cells #[.int .i64 e.op, .string e.name, .int .i64 e.n, .slice A e.args.length cap, .int .i64 e.line, .int .i64 e.col] 26)) W2 ∧ W2.cell? ⟨W.heap.size, 3, none⟩ = some (.slice A e.args.length cap)) ∨ (r = .returned (.bool false) ∧ Jx (pre ++ [⟨e, A, cap, hok, hcap, hmax⟩]) W2))
      (fun r W2 h => h.elim (fun ⟨h1, h2, h3⟩ => .inl ⟨h1, h2, h3, (exBoxC h3 hXW).2.2.2.1⟩) .inr)
    unfold maxLen at hmax
    refine callsIn_of_wp Try.func126 rfl hf ?_ hro
    simp only [Try.ntmps126, List.size_toArray, List.length_cons, List.length_nil, Nat.reduceAdd, Nat.reduceSub, Array.replicate_succ, Array.replicate_zero, List.push_toArray, List.append_toArray, List.nil_append, List.cons_append]
    gi_wp2_with ((try refine ⟨hdd _, ?_⟩); refine hR.mono ?_; clear hR; rintro r W2 (⟨rfl, hJ2, hK2, c3⟩ | ⟨rfl, hx2⟩))
    · gi_loopw [14] (fun i wr => ∃ (k : Nat) (q : List ExN), k ≤ e.args.length ∧ i = .int .i64 k ∧ Hid (q.map ExN.ex = lTo e k) ∧ J (pre ++ q) wr ∧ KeepC X (W.alloc (.cells #[.int .i64 e.op, .string e.name, .int .i64 e.n, .slice A e.args.length cap, .int .i64 e.line, .int .i64 e.col] 26)) wr) (fun i _ => e.args.length - (intOf i).toNat)
      case atStart => exact ⟨0, [⟨e, A, cap, hok, hcap, by unfold maxLen; omega⟩], Nat.zero_le _, rfl, rfl, hJ2, hK2⟩
      case round =>
        obtain ⟨k, q, hk, rfl, HQ, hJr, hKr⟩ := hrel
        have hK0 : KeepC X W wr := (KeepC.alloc X W _).trans hKr
        have hszr := hKr.size
        rw [World.size_alloc] at hszr
        by_cases hlt : k < e.args.length
        · obtain ⟨b, off, x, A', cap', rfl, hb, hxk, hxm, hok', hcap', hmax', hx', d0, d1, d2, d3, d4, d5⟩ := (hx.keepS (fun p u hp hc => hK0.cell (fun h => by have := (HX.out _ h).1; omega) hc)).at_ hlt
          have HT := Lib.hid (lTo_succ hxk)
          have hlq : Hid ((pre ++ q).length + exSize x ≤ N) := by
            have h1 := lTo_le e (k + 1)
            rw [HT.out, List.length_append, ← HQ.out, List.length_map] at h1
            have h2 := HN.out
            show _ ≤ _
            rw [List.length_append]
            unfold exSize at h1 h2 ⊢
            omega
          have HC := HI.out x hxm (n - 1) A' cap' (pre ++ q) (wr.alloc (.cells #[.int .i64 x.op, .string x.name, .int .i64 x.n, .slice A' x.args.length cap', .int .i64 x.line, .int .i64 x.col] 26)) hok' hcap' hmax' hn0 (by simp; omega) (hx'.keepS (fun p u hp hc => (KeepC.alloc (fun _ => False) wr _).cell (fun h => h) hc)) (abide_alloc hJ hJr _) hlq.out
          have HC' := Lib.hid HC
          clear hxk hxm HC
          gi_wp2_with ((try refine ⟨hdd _, ?_⟩); gi_at_call 126; refine HC'.out.mono ?_; clear HC'; rintro r W3 (⟨rfl, q3, hq3, hJ3, hK3⟩ | ⟨rfl, q3, hq3, hx3⟩))
          · go_roundw
            case rel => exact ⟨k + 1, q ++ q3, by omega, by go_num, by show _ = _; rw [List.map_append, HQ.out, hq3, HT.out], by rw [← List.append_assoc]; exact hJ3, hKr.trans ((KeepC.alloc X wr _).trans hK3)⟩
            case measure => simp [intOf]; omega
          · go_ret
            refine .inr ⟨rfl, q ++ q3, ?_, by rw [← List.append_assoc]; exact hx3⟩
            rw [List.map_append, HQ.out]
            exact ((List.prefix_append_right_inj _).2 hq3).trans (HT.out ▸ lTo_pre e (k + 1))
        · obtain rfl : k = e.args.length := by omega
          gi_wp2
          go_ret
          exact .inl ⟨rfl, q, by rw [HQ.out, ← HE.out], hJr, hK0⟩
    · go_ret
      exact .inr ⟨rfl, _, by rw [exList_eq]; exact ⟨_, rfl⟩, hx2⟩

set_option maxRecDepth 100000 in
set_option maxHeartbeats 2000000 in
theorem all1_in (F : Fence) (hd : F.depth = none) (n : Nat) (hf : F.fn 126) (hf1 : F.fn 125) (hro : F.round = none) (l Bt n₀ B0 : Nat) (X : Nat → Prop) (hX : ∀ b, X b → n₀ ≤ b ∧ b < B0) (J Jx : List ExN → World → Prop) (hJ : AbidesFrom B0 J)
    (e : Ex) (A : Option Addr) (cap : Nat) (hok : ExOk e) (hcap : e.args.length ≤ cap) (hmax : cap ≤ maxLen) (hn0 : n₀ ≤ B0)
    (hY : ∀ pre x W, J pre W → pre.length < exSize e → YieldAt F (n - 1) Try.prog l #[x.v] W fun e W' => (e = .returned (.bool true) ∧ J (pre ++ [x]) W' ∧ KeepC X W W') ∨ (e = .returned (.bool false) ∧ Jx (pre ++ [x]) W'))
    (W : World) (hB0 : B0 ≤ W.heap.size) (hc : ∀ j u, (exCells e A cap)[j]? = some u → W.cell? ⟨Bt, j, none⟩ = some u) (hx : IsExs W n₀ A e.args) (h0 : J [] W) :
    CallsIn F n Try.prog 125 #[.func (.yield l) #[] #[], .pointer (some ⟨Bt, 0, none⟩)] W fun r W' => (∃ v, r = .returned v) ∧
      ((∃ ys, ys.map ExN.ex = exList e ∧ J ys W') ∨ (∃ pre, pre.map ExN.ex <+: exList e ∧ Jx pre W')) := by
  have hdd : ∀ k : Nat, (F.depth.isSome = true → 1 ≤ k) := fun k h => by rw [hd] at h; cases h
  have hp := wlkIn F hd hf hro l (exSize e) n₀ B0 X hX J Jx hJ (fun m pre x W hj hl => yieldAt_any hd m (hY pre x W hj hl)) e (n - 1) A cap [] W hok hcap hmax hn0 hB0 hx h0 (by simp)
  have HP := Lib.hid hp
  have c0 := hc 0 _ rfl
  have c1 := hc 1 _ rfl
  have c2 := hc 2 _ rfl
  have c3 := hc 3 _ rfl
  have c4 := hc 4 _ rfl
  have c5 := hc 5 _ rfl
  clear hp hc
  refine callsIn_of_wp Try.func125 rfl hf1 ?_ hro
  simp only [Try.ntmps125, List.size_toArray, List.length_cons, List.length_nil, Nat.reduceAdd, Nat.reduceSub, Array.replicate_succ, Array.replicate_zero, List.push_toArray, List.append_toArray, List.nil_append, List.cons_append]
  gi_wp2_with ((try refine ⟨hdd _, ?_⟩); gi_at_call 126; refine HP.out.mono ?_; clear HP; rintro e W1 (⟨rfl, q, hq, hJ1, _⟩ | ⟨rfl, q, hq, hx⟩))
  · go_end0
    exact ⟨⟨_, rfl⟩, .inl ⟨q, hq, by simpa using hJ1⟩⟩
  · go_end0
    exact ⟨⟨_, rfl⟩, .inr ⟨q, hq, by simpa using hx⟩⟩
theorem all_in (F : Fence) (n : Nat) (hf : F.fn 94) (hro : F.round = none) (e : Ex) (A : Option Addr) (cap : Nat) (W : World) :
    CallsIn F n Try.prog 94 #[exV e A cap] W fun r w' => r = .returned (.func (.func 125) #[] #[.pointer (some ⟨W.heap.size, 0, none⟩)]) ∧ w' = W.alloc (.cells #[.int .i64 e.op, .string e.name, .int .i64 e.n, .slice A e.args.length cap, .int .i64 e.line, .int .i64 e.col] 26) := by
  refine callsIn_of_wp Try.func94 rfl hf ?_ hro
  simp only [Try.ntmps94, List.size_toArray, List.length_cons, List.length_nil, Nat.reduceAdd, Nat.reduceSub, Array.replicate_succ, Array.replicate_zero, List.push_toArray, List.append_toArray, List.nil_append, List.cons_append]
  gi_wp2
  go_ret
  exact ⟨rfl, rfl⟩
/-- all within an expression, in order; or a part, in order -/
theorem all_stops (F : Fence) (hd : F.depth = none) (n : Nat) (hf : F.fn 126) (hf1 : F.fn 125) (hro : F.round = none) (Bt n₀ : Nat) (X : Nat → Prop) (e : Ex) (A : Option Addr) (cap : Nat) (w : World) (hX : ∀ b, X b → n₀ ≤ b ∧ b < w.heap.size)
    (hok : ExOk e) (hcap : e.args.length ≤ cap) (hmax : cap ≤ maxLen) (hBt : Bt < w.heap.size) (hn₀ : n₀ ≤ w.heap.size) (hc : ∀ j u, (exCells e A cap)[j]? = some u → w.cell? ⟨Bt, j, none⟩ = some u) (hx : IsExs w n₀ A e.args) :
    SeqStopsK F n Try.prog 125 #[.pointer (some ⟨Bt, 0, none⟩)] (fun x : ExN => #[x.v]) (KeepC X) (fun ys => ys.map ExN.ex = exList e) (fun pre => pre.map ExN.ex <+: exList e) (exSize e) w := fun l J Jx W hW hJ _ hY h0 =>
  all1_in F hd n hf hf1 hro l Bt n₀ W.heap.size X (fun b hb => ⟨(hX b hb).1, Nat.lt_of_lt_of_le (hX b hb).2 hW.size⟩) J Jx hJ e A cap hok hcap hmax (Nat.le_trans hn₀ hW.size) hY W (Nat.le_refl _)
    (fun j u hu => (hW.cell (p := ⟨Bt, j, none⟩) hBt).trans (hc j u hu)) (hx.below (hW.mono hn₀)) h0
end Go.Proofs.Ytolabbnchmmckaa
namespace Go.Proofs.Ytolabbnchmmckaa
open Go.RowKit Go.Shelf

attribute [local go_sem] Oper.semAt_some
/-- all rows of cells lie as they lay, but for those of X -/
structure KeepT (X : Nat → TypeId → Prop) (W W' : World) : Prop where
  size : W.heap.size ≤ W'.heap.size
  same : ∀ b cs t f, ¬ X b t → W.heap[b]? = some (.cells cs t f) → W'.heap[b]? = some (.cells cs t f)
theorem KeepT.refl (X : Nat → TypeId → Prop) (W : World) : KeepT X W W := ⟨Nat.le_refl _, fun _ _ _ _ _ h => h⟩
theorem KeepT.trans {X : Nat → TypeId → Prop} {A B C : World} (h : KeepT X A B) (k : KeepT X B C) : KeepT X A C := ⟨Nat.le_trans h.size k.size, fun b cs t f hb hc => k.same b cs t f hb (h.same b cs t f hb hc)⟩
theorem KeepT.below {X : Nat → TypeId → Prop} {W W' : World} (h : Below W.heap.size W W') : KeepT X W W' := ⟨h.size, fun b _ _ _ _ hc => (h.block b (Array.getElem?_eq_some_iff.1 hc).1).trans hc⟩
theorem KeepT.alloc (X : Nat → TypeId → Prop) (W : World) (o : Obj) : KeepT X W (W.alloc o) := KeepT.below ((Below.refl _ _).alloc (Nat.le_refl _) _)
theorem KeepT.cell {X : Nat → TypeId → Prop} {W W' : World} (h : KeepT X W W') {p : Addr} {u : Value} (hp : ∀ t, ¬ X p.block t) (hc : W.cell? p = some u) : W'.cell? p = some u := by
  simp only [World.cell?] at hc ⊢
  cases hb : W.heap[p.block]? with
  | none => rw [hb] at hc; cases hc
  | some o =>
    rw [hb] at hc
    cases o with
    | cells cs t f => rw [h.same p.block cs t f (hp t) hb]; exact hc
    | _ => cases hc
theorem exBoxT {X : Nat → TypeId → Prop} {w wr : World} {e : Ex} {A : Option Addr} {cap : Nat} (hb : KeepT X (w.alloc (.cells #[.int .i64 e.op, .string e.name, .int .i64 e.n, .slice A e.args.length cap, .int .i64 e.line, .int .i64 e.col] 26)) wr) (hX : ¬ X w.heap.size 26) :
    wr.cell? ⟨w.heap.size, 0, none⟩ = some (.int .i64 e.op) ∧ wr.cell? ⟨w.heap.size, 1, none⟩ = some (.string e.name) ∧ wr.cell? ⟨w.heap.size, 2, none⟩ = some (.int .i64 e.n) ∧
      wr.cell? ⟨w.heap.size, 3, none⟩ = some (.slice A e.args.length cap) ∧ wr.cell? ⟨w.heap.size, 4, none⟩ = some (.int .i64 e.line) ∧ wr.cell? ⟨w.heap.size, 5, none⟩ = some (.int .i64 e.col) := by
  have h := hb.same w.heap.size _ _ _ hX (heap_alloc_new w _)
  refine ⟨?_, ?_, ?_, ?_, ?_, ?_⟩ <;> (rw [cell_of_row _ _ _ _ _ _ h]; rfl)
set_option maxRecDepth 100000 in
set_option maxHeartbeats 4000000 in
theorem walk_inT (F : Fence) (hd : F.depth = none) (hf : F.fn 126) (hro : F.round = none) (l N n₀ B0 : Nat) (X : Nat → TypeId → Prop) (hX : ∀ b t, X b t → n₀ ≤ b ∧ (b < B0 ∨ t ≠ 26)) (J Jx : List ExN → World → Prop) (hJ : AbidesFrom B0 J)
    (hY : ∀ m pre x W, J pre W → pre.length < N → YieldAt F m Try.prog l #[x.v] W fun e W' => (e = .returned (.bool true) ∧ J (pre ++ [x]) W' ∧ KeepT X W W') ∨ (e = .returned (.bool false) ∧ Jx (pre ++ [x]) W')) (e : Ex) :
    ∀ (n : Nat) (A : Option Addr) (cap : Nat) (pre : List ExN) (W : World), ExOk e → e.args.length ≤ cap → cap ≤ maxLen → n₀ ≤ B0 → B0 ≤ W.heap.size → IsExs W n₀ A e.args → J pre W → pre.length + exSize e ≤ N →
      CallsIn F n Try.prog 126 #[exV e A cap, .func (.yield l) #[] #[]] W fun r W' =>
        (r = .returned (.bool true) ∧ ∃ q, q.map ExN.ex = exList e ∧ J (pre ++ q) W' ∧ KeepT X W W') ∨ (r = .returned (.bool false) ∧ ∃ q, q.map ExN.ex <+: exList e ∧ Jx (pre ++ q) W') := by
  induction e using Ex.ind with
  | h e ih =>
    intro n A cap pre W hok hcap hmax hn0 hB0 hx hj hN
    have hdd : ∀ k : Nat, (F.depth.isSome = true → 1 ≤ k) := fun k h => by rw [hd] at h; cases h
    have HI := Lib.hid ih
    have HX := Lib.hid hX
    have hXW : ¬ X W.heap.size 26 := fun h => by rcases (hX _ _ h).2 with h | h; omega; exact h rfl
    have HE := Lib.hid (lTo_end e)
    have hpos := exSize_pos e
    have HN := Lib.hid hN
    clear ih hX
    obtain ⟨fn, tmps, assign, body, hy, hR⟩ := hY (n - 1) pre ⟨e, A, cap, hok, hcap, hmax⟩ (W.alloc (.cells #[.int .i64 e.op, .string e.name, .int .i64 e.n, .slice A e.args.length cap, .int .i64 e.line, .int .i64 e.col] 26)) (abide_alloc hJ hj _) (by omega)
    replace hR := hR.mono (R' := fun r W2 => (r = .returned (.bool true) ∧ J (pre ++ [⟨e, A, cap, hok, hcap, hmax⟩]) W2 ∧ KeepT X (W.alloc (.cells #[.int .i64 e.op, .string e.name, .int .i64 e.n, .slice A e.args.length cap, .int .i64 e.line, .int .i64 e.col] 26)) W2 ∧ W2.cell? ⟨W.heap.size, 3, none⟩ = some (.slice A e.args.length cap)) ∨ (r = .returned (.bool false) ∧ Jx (pre ++ [⟨e, A, cap, hok, hcap, hmax⟩]) W2))
      (fun r W2 h => h.elim (fun ⟨h1, h2, h3⟩ => .inl ⟨h1, h2, h3, (exBoxT h3 hXW).2.2.2.1⟩) .inr)
    unfold maxLen at hmax
    refine callsIn_of_wp Try.func126 rfl hf ?_ hro
    simp only [Try.ntmps126, List.size_toArray, List.length_cons, List.length_nil, Nat.reduceAdd, Nat.reduceSub, Array.replicate_succ, Array.replicate_zero, List.push_toArray, List.append_toArray, List.nil_append, List.cons_append]
    gi_wp2_with ((try refine ⟨hdd _, ?_⟩); refine hR.mono ?_; clear hR; rintro r W2 (⟨rfl, hJ2, hK2, c3⟩ | ⟨rfl, hx2⟩))
    · gi_loopw [14] (fun i wr => ∃ (k : Nat) (q : List ExN), k ≤ e.args.length ∧ i = .int .i64 k ∧ Hid (q.map ExN.ex = lTo e k) ∧ J (pre ++ q) wr ∧ KeepT X (W.alloc (.cells #[.int .i64 e.op, .string e.name, .int .i64 e.n, .slice A e.args.length cap, .int .i64 e.line, .int .i64 e.col] 26)) wr) (fun i _ => e.args.length - (intOf i).toNat)
      case atStart => exact ⟨0, [⟨e, A, cap, hok, hcap, by unfold maxLen; omega⟩], Nat.zero_le _, rfl, rfl, hJ2, hK2⟩
      case round =>
        obtain ⟨k, q, hk, rfl, HQ, hJr, hKr⟩ := hrel
        have hK0 : KeepT X W wr := (KeepT.alloc X W _).trans hKr
        have hszr := hKr.size
        rw [World.size_alloc] at hszr
        by_cases hlt : k < e.args.length
        · obtain ⟨b, off, x, A', cap', rfl, hb, hxk, hxm, hok', hcap', hmax', hx', d0, d1, d2, d3, d4, d5⟩ := (hx.keepS (fun p u hp hc => hK0.cell (fun t h => by have := (HX.out _ _ h).1; omega) hc)).at_ hlt
          have HT := Lib.hid (lTo_succ hxk)
          have hlq : Hid ((pre ++ q).length + exSize x ≤ N) := by
            have h1 := lTo_le e (k + 1)
            rw [HT.out, List.length_append, ← HQ.out, List.length_map] at h1
            have h2 := HN.out
            show _ ≤ _
            rw [List.length_append]
            unfold exSize at h1 h2 ⊢
            omega
          have HC := HI.out x hxm (n - 1) A' cap' (pre ++ q) (wr.alloc (.cells #[.int .i64 x.op, .string x.name, .int .i64 x.n, .slice A' x.args.length cap', .int .i64 x.line, .int .i64 x.col] 26)) hok' hcap' hmax' hn0 (by simp; omega) (hx'.keepS (fun p u hp hc => (KeepT.alloc (fun _ _ => False) wr _).cell (fun _ h => h) hc)) (abide_alloc hJ hJr _) hlq.out
          have HC' := Lib.hid HC
          clear hxk hxm HC
          gi_wp2_with ((try refine ⟨hdd _, ?_⟩); gi_at_call 126; refine HC'.out.mono ?_; clear HC'; rintro r W3 (⟨rfl, q3, hq3, hJ3, hK3⟩ | ⟨rfl, q3, hq3, hx3⟩))
          · go_roundw
            case rel => exact ⟨k + 1, q ++ q3, by omega, by go_num, by show _ = _; rw [List.map_append, HQ.out, hq3, HT.out], by rw [← List.append_assoc]; exact hJ3, hKr.trans ((KeepT.alloc X wr _).trans hK3)⟩
            case measure => simp [intOf]; omega
          · go_ret
            refine .inr ⟨rfl, q ++ q3, ?_, by rw [← List.append_assoc]; exact hx3⟩
            rw [List.map_append, HQ.out]
            exact ((List.prefix_append_right_inj _).2 hq3).trans (HT.out ▸ lTo_pre e (k + 1))
        · obtain rfl : k = e.args.length := by omega
          gi_wp2
          go_ret
          exact .inl ⟨rfl, q, by rw [HQ.out, ← HE.out], hJr, hK0⟩
    · go_ret
      exact .inr ⟨rfl, _, by rw [exList_eq]; exact ⟨_, rfl⟩, hx2⟩

set_option maxRecDepth 100000 in
set_option maxHeartbeats 2000000 in
theorem all1_inT (F : Fence) (hd : F.depth = none) (n : Nat) (hf : F.fn 126) (hf1 : F.fn 125) (hro : F.round = none) (l Bt n₀ B0 : Nat) (X : Nat → TypeId → Prop) (hX : ∀ b t, X b t → n₀ ≤ b ∧ (b < B0 ∨ t ≠ 26)) (J Jx : List ExN → World → Prop) (hJ : AbidesFrom B0 J)
    (e : Ex) (A : Option Addr) (cap : Nat) (hok : ExOk e) (hcap : e.args.length ≤ cap) (hmax : cap ≤ maxLen) (hn0 : n₀ ≤ B0)
    (hY : ∀ pre x W, J pre W → pre.length < exSize e → YieldAt F (n - 1) Try.prog l #[x.v] W fun e W' => (e = .returned (.bool true) ∧ J (pre ++ [x]) W' ∧ KeepT X W W') ∨ (e = .returned (.bool false) ∧ Jx (pre ++ [x]) W'))
    (W : World) (hB0 : B0 ≤ W.heap.size) (hc : ∀ j u, (exCells e A cap)[j]? = some u → W.cell? ⟨Bt, j, none⟩ = some u) (hx : IsExs W n₀ A e.args) (h0 : J [] W) :
    CallsIn F n Try.prog 125 #[.func (.yield l) #[] #[], .pointer (some ⟨Bt, 0, none⟩)] W fun r W' => (∃ v, r = .returned v) ∧
      ((∃ ys, ys.map ExN.ex = exList e ∧ J ys W') ∨ (∃ pre, pre.map ExN.ex <+: exList e ∧ Jx pre W')) := by
  have hdd : ∀ k : Nat, (F.depth.isSome = true → 1 ≤ k) := fun k h => by rw [hd] at h; cases h
  have hp := walk_inT F hd hf hro l (exSize e) n₀ B0 X hX J Jx hJ (fun m pre x W hj hl => yieldAt_any hd m (hY pre x W hj hl)) e (n - 1) A cap [] W hok hcap hmax hn0 hB0 hx h0 (by simp)
  have HP := Lib.hid hp
  have c0 := hc 0 _ rfl
  have c1 := hc 1 _ rfl
  have c2 := hc 2 _ rfl
  have c3 := hc 3 _ rfl
  have c4 := hc 4 _ rfl
  have c5 := hc 5 _ rfl
  clear hp hc
  refine callsIn_of_wp Try.func125 rfl hf1 ?_ hro
  simp only [Try.ntmps125, List.size_toArray, List.length_cons, List.length_nil, Nat.reduceAdd, Nat.reduceSub, Array.replicate_succ, Array.replicate_zero, List.push_toArray, List.append_toArray, List.nil_append, List.cons_append]
  gi_wp2_with ((try refine ⟨hdd _, ?_⟩); gi_at_call 126; refine HP.out.mono ?_; clear HP; rintro e W1 (⟨rfl, q, hq, hJ1, _⟩ | ⟨rfl, q, hq, hx⟩))
  · go_end0
    exact ⟨⟨_, rfl⟩, .inl ⟨q, hq, by simpa using hJ1⟩⟩
  · go_end0
    exact ⟨⟨_, rfl⟩, .inr ⟨q, hq, by simpa using hx⟩⟩
/-- all within an expression, in order; or a part, in order -/
theorem all_stopsT (F : Fence) (hd : F.depth = none) (n : Nat) (hf : F.fn 126) (hf1 : F.fn 125) (hro : F.round = none) (Bt n₀ : Nat) (X : Nat → TypeId → Prop) (e : Ex) (A : Option Addr) (cap : Nat) (w : World) (hX : ∀ b t, X b t → n₀ ≤ b ∧ (b < w.heap.size ∨ t ≠ 26))
    (hok : ExOk e) (hcap : e.args.length ≤ cap) (hmax : cap ≤ maxLen) (hBt : Bt < w.heap.size) (hn₀ : n₀ ≤ w.heap.size) (hc : ∀ j u, (exCells e A cap)[j]? = some u → w.cell? ⟨Bt, j, none⟩ = some u) (hx : IsExs w n₀ A e.args) :
    SeqStopsK F n Try.prog 125 #[.pointer (some ⟨Bt, 0, none⟩)] (fun x : ExN => #[x.v]) (KeepT X) (fun ys => ys.map ExN.ex = exList e) (fun pre => pre.map ExN.ex <+: exList e) (exSize e) w := fun l J Jx W hW hJ _ hY h0 =>
  all1_inT F hd n hf hf1 hro l Bt n₀ W.heap.size X (fun b t hb => ⟨(hX b t hb).1, (hX b t hb).2.elim (fun h => .inl (Nat.lt_of_lt_of_le h hW.size)) .inr⟩) J Jx hJ e A cap hok hcap hmax (Nat.le_trans hn₀ hW.size) hY W (Nat.le_refl _)
    (fun j u hu => (hW.cell (p := ⟨Bt, j, none⟩) hBt).trans (hc j u hu)) (hx.below (hW.mono hn₀)) h0
end Go.Proofs.Ytolabbnchmmckaa
