/-
  The examples of layers 26 and 30, as plain data; rows in memory that read as lists. The example of layer 26. Forms of few parts; the example of layer 26.
-/
import Derived.Test.YtbjaejgechadpaaPlainA
import Derived.Test.YtbjaejgechadpaaNmD
import Derived.Test.YtbjaejgechadpaaOrdB
namespace Go.Proofs.Ytbjaejgechadpaa.Fo
open Vf
def a1 : Ac := ⟨5, 1, 2, 0, 0, 0⟩
def a2 : Ac := ⟨5, 2, 0, 0, 0, 0⟩
def b1 : Ac := ⟨5, 1, 0, 0, 0, 0⟩
def fA : Fm := ⟨[⟨1, []⟩, ⟨1, []⟩, ⟨1, []⟩], [a1, a2], [], [], [0], [1]⟩
def fB : Fm := ⟨[⟨1, []⟩, ⟨1, []⟩], [b1], [], [], [0], [1]⟩
theorem fA_w {n : Int} : isW fA n ↔ n = 0 ∨ n = 1 ∨ n = 2 := by unfold isW; simp [fA]; omega
theorem fA_c {n : Int} (h : isW fA n) : clockOf fA n = [] ∧ tyOf fA n = 1 := by rcases fA_w.1 h with rfl | rfl | rfl <;> exact ⟨rfl, rfl⟩
theorem neg_ok {f : Fm} {d a : Int} (h0 : isW f 0) (ha : isW f a) (hc : clockOf f d = clockOf f a) (h1 : tyOf f a = 1) (h2 : tyOf f d = 1) : actOk f ⟨5, d, a, 0, 0, 0⟩ :=
  (act_iffOne (.inl rfl) ⟨ha, h0, h0⟩).2 ⟨rfl, rfl, rfl, hc, by rw [h1]; rfl, by rw [h2]; rfl⟩
theorem wants_neg (d a : Int) : wants ⟨5, d, a, 0, 0, 0⟩ = [a] := rfl
theorem fA_ok : formOk fA := by
  have w0 : isW fA 0 := fA_w.2 (.inl rfl)
  have w1 : isW fA 1 := fA_w.2 (.inr (.inl rfl))
  have w2 : isW fA 2 := fA_w.2 (.inr (.inr rfl))
  have d0 : Done fA 0 := .ins 0 (by simp [fA])
  have d2 : Done fA 2 := .act (f := fA) a2 (by simp [fA]) (fun n hn => by rw [a2, wants_neg] at hn; simp at hn; rw [hn]; exact d0) (fun g hg => by rw [show clockOf fA a2.dst = [] from rfl] at hg; simp at hg)
  have d1 : Done fA 1 := .act (f := fA) a1 (by simp [fA]) (fun n hn => by rw [a1, wants_neg] at hn; simp at hn; rw [hn]; exact d2) (fun g hg => by rw [show clockOf fA a1.dst = [] from rfl] at hg; simp at hg)
  refine ⟨⟨fun w hw => ?_, by decide, by decide⟩, ⟨fun n hn => ?_, by decide, by decide⟩, ⟨fun n hn => ?_, by decide, by decide⟩, ⟨by simp [fA], by decide, by simp [fA], by simp [fA], by simp [fA]⟩, defined_iff.2 ⟨by decide, fun a ha => ?_, fun n hn => ?_⟩, fun x hx => ?_, fun n hn => ?_⟩
  · simp [fA] at hw; subst hw; exact ⟨.inl rfl, by simp⟩
  · simp [fA] at hn; subst hn; exact ⟨w0, rfl⟩
  · simp [fA] at hn; subst hn; exact ⟨w1, rfl⟩
  · simp [fA] at ha; rcases ha with rfl | rfl
    · exact w1
    · exact w2
  · have hn' : n < 3 := hn
    rcases (by omega : n = 0 ∨ n = 1 ∨ n = 2) with rfl | rfl | rfl <;> decide
  · simp [fA] at hx; rcases hx with rfl | rfl
    · exact neg_ok w0 w2 rfl rfl rfl
    · exact neg_ok w0 w0 rfl rfl rfl
  · have hn' : n < 3 := hn
    rcases (by omega : n = 0 ∨ n = 1 ∨ n = 2) with rfl | rfl | rfl
    · exact d0
    · exact d1
    · exact d2
theorem rdy {f : Fm} {H : List Int} {d a : Int} (hc : clockOf f d = []) : readyOk f H ⟨5, d, a, 0, 0, 0⟩ ↔ a ∈ H := by
  unfold readyOk
  dsimp only
  rw [wants_neg, hc]
  simp
theorem fA_ord : Ord fA [0] fA.acts [a2, a1] := by
  refine .next [0] [a1] a2 [] [a1] (fun y hy => ?_) ((rdy rfl).2 (by simp)) ?_
  · simp at hy; subst hy
    exact fun h => absurd ((rdy (f := fA) rfl).1 h) (by decide)
  · exact .next _ [] a1 [] [] (by simp) ((rdy rfl).2 (by simp [a2])) (.stop _ _ (by simp))
theorem fA_not : ¬ orderedOk fA := fun h => absurd ((rdy (f := fA) (H := [0]) (d := 1) (a := 2) rfl).1 h.2.1) (by decide)
theorem fB_w {n : Int} : isW fB n ↔ n = 0 ∨ n = 1 := by unfold isW; simp [fB]; omega
theorem fB_ok : formOk fB := by
  have w0 : isW fB 0 := fB_w.2 (.inl rfl)
  have w1 : isW fB 1 := fB_w.2 (.inr rfl)
  have d0 : Done fB 0 := .ins 0 (by simp [fB])
  have d1 : Done fB 1 := .act (f := fB) b1 (by simp [fB]) (fun n hn => by rw [b1, wants_neg] at hn; simp at hn; rw [hn]; exact d0) (fun g hg => by rw [show clockOf fB b1.dst = [] from rfl] at hg; simp at hg)
  refine ⟨⟨fun w hw => ?_, by decide, by decide⟩, ⟨fun n hn => ?_, by decide, by decide⟩, ⟨fun n hn => ?_, by decide, by decide⟩, ⟨by simp [fB], by decide, by simp [fB], by simp [fB], by simp [fB]⟩, defined_iff.2 ⟨by decide, fun a ha => ?_, fun n hn => ?_⟩, fun x hx => ?_, fun n hn => ?_⟩
  · simp [fB] at hw; subst hw; exact ⟨.inl rfl, by simp⟩
  · simp [fB] at hn; subst hn; exact ⟨w0, rfl⟩
  · simp [fB] at hn; subst hn; exact ⟨w1, rfl⟩
  · simp [fB] at ha; subst ha; exact w1
  · have hn' : n < 2 := hn
    rcases (by omega : n = 0 ∨ n = 1) with rfl | rfl <;> decide
  · simp [fB] at hx; subst hx
    exact neg_ok w0 w0 rfl rfl rfl
  · have hn' : n < 2 := hn
    rcases (by omega : n = 0 ∨ n = 1) with rfl | rfl
    · exact d0
    · exact d1
theorem fB_ordered : orderedOk fB := ⟨fB_ok, ⟨(rdy rfl).2 (by decide), trivial⟩⟩
end Go.Proofs.Ytbjaejgechadpaa.Fo
namespace Go.Proofs.Ytbjaejgechadpaa
open Go.RowKit Vf Fo
theorem flat_at {α : Type} {C : α → List Value} {size : Nat} (hC : ∀ x, (C x).length = size) : ∀ (l : List α) (i j : Nat) (x : α) (u : Value), l[i]? = some x → (C x)[j]? = some u → (l.map C).flatten[i * size + j]? = some u
  | [], i, j, x, u, h, _ => by simp at h
  | y :: l, 0, j, x, u, h, g => by
    simp at h; subst h
    have := (List.getElem?_eq_some_iff.1 g).1
    rw [List.map_cons, List.flatten_cons, Nat.zero_mul, Nat.zero_add, List.getElem?_append_left this]
    exact g
  | y :: l, i + 1, j, x, u, h, g => by
    simp only [List.getElem?_cons_succ] at h
    rw [List.map_cons, List.flatten_cons, List.getElem?_append_right (by rw [hC, Nat.add_mul]; omega), hC, show (i + 1) * size + j - size = i * size + j by rw [Nat.add_mul]; omega]
    exact flat_at hC l i j x u h g
theorem row_flat {α : Type} {w : World} {B b size : Nat} {rel : α → List Value → Prop} {C : α → List Value} {l : List α} {t : TypeId} (r : Row w b (l.map C).flatten.toArray t) (hC : ∀ x, (C x).length = size) (hr : ∀ x ∈ l, rel x (C x)) (hb : b < B) (hl : l.length ≤ maxLen) : SlV w B size rel (.slice (some ⟨b, 0, none⟩) l.length l.length) l :=
  ⟨_, _, rfl, Nat.le_refl _, hl, fun _ => ⟨b, 0, rfl, hb, fun i x hi => ⟨C x, fun j u hu => by
    refine (r.cell _).trans ?_
    rw [List.getElem?_toArray, Nat.zero_add]
    exact flat_at hC l i j x u hi hu, hr x (List.mem_of_getElem? hi)⟩⟩⟩
/-- a wire of no guard -/
def wr0 (x : Wr) : List Value := [.int .i64 x.ty, .slice none 0 0]
theorem isWr0 {w : World} {B : Nat} {x : Wr} (h : x.clock = []) (hx : Wf x.ty) : isWr w B x (wr0 x) := ⟨_, rfl, hx, by rw [h]; exact SlV.nil⟩
theorem wf_little {n : Int} (h : -1000 ≤ n ∧ n ≤ 1000) : Wf n := wf_of (by omega)
end Go.Proofs.Ytbjaejgechadpaa
namespace Go.Proofs.Ytbjaejgechadpaa
open Go.RowKit Vf Fo
attribute [local go_sem ↓] Go.wp_at_zero Go.wp_at_succ
theorem FmAt.more {w : World} {B B' : Nat} {f : Fm} {vw va vc vk vi vo : Value} (h : FmAt w B f vw va vc vk vi vo) (hB : B ≤ B') : FmAt w B' f vw va vc vk vi vo := h.keep (fun _ _ _ hc => hc) hB
theorem ones_row {W : World} {b B : Nat} {t : TypeId} {n : Int} (r : Row W b #[.int .i64 n] t) (hn : Wf n) (hb : b < B) : SlV W B 1 isInt (.slice (some ⟨b, 0, none⟩) 1 1) [n] :=
  row_flat (C := fun x => [Value.int .i64 x]) (l := [n]) r (fun _ => rfl) (fun x hx => by simp at hx; subst hx; exact ⟨rfl, hn⟩) hb (by simp [maxLen])
theorem acIn_small {x : Ac} (h : (-1000 ≤ x.op ∧ x.op ≤ 1000) ∧ (-1000 ≤ x.dst ∧ x.dst ≤ 1000) ∧ (-1000 ≤ x.a ∧ x.a ≤ 1000) ∧ (-1000 ≤ x.b ∧ x.b ≤ 1000) ∧ (-1000 ≤ x.c ∧ x.c ≤ 1000) ∧ (-1000 ≤ x.k ∧ x.k ≤ 1000)) : AcIn x :=
  ⟨wf_little h.1, wf_little h.2.1, wf_little h.2.2.1, wf_little h.2.2.2.1, wf_little h.2.2.2.2.1, wf_little h.2.2.2.2.2⟩
theorem rowN3 (W : World) (o o' : Obj) (cs : Array Value) (t : TypeId) : Row (((W.alloc o).alloc o').alloc (.cells cs t)) (W.heap.size + 1 + 1) cs t := by
  have := Row.new ((W.alloc o).alloc o') cs t
  rwa [World.size_alloc, World.size_alloc] at this
theorem rowN4 (W : World) (o o' o2 : Obj) (cs : Array Value) (t : TypeId) : Row ((((W.alloc o).alloc o').alloc o2).alloc (.cells cs t)) (W.heap.size + 1 + 1 + 1) cs t := by
  have := Row.new (((W.alloc o).alloc o').alloc o2) cs t
  rwa [World.size_alloc, World.size_alloc, World.size_alloc] at this
theorem rowN5 (W : World) (o o' o2 o3 : Obj) (cs : Array Value) (t : TypeId) : Row (((((W.alloc o).alloc o').alloc o2).alloc o3).alloc (.cells cs t)) (W.heap.size + 1 + 1 + 1 + 1) cs t := by
  have := Row.new ((((W.alloc o).alloc o').alloc o2).alloc o3) cs t
  rwa [World.size_alloc, World.size_alloc, World.size_alloc, World.size_alloc] at this
end Go.Proofs.Ytbjaejgechadpaa
namespace Go.Proofs.Ytbjaejgechadpaa
open Go.RowKit Vf Fo
attribute [local go_sem ↓] Go.wp_at_zero Go.wp_at_succ
def fewF (f : Fm) : Prop := (∀ x ∈ f.wires, x.clock.length ≤ 40) ∧ f.wires.length ≤ 1700 ∧ f.acts.length ≤ 1700 ∧ f.cells.length ≤ 80 ∧ f.keeps.length ≤ 80 ∧ f.ins.length ≤ 20 ∧ f.outs.length ≤ 20
def FewIs (P : Prop) (w : World) (e : Ending) (w' : World) : Prop := (∃ b, e = .returned (.bool b) ∧ Hid (b = true → P)) ∧ Below w.heap.size w w'
theorem FewIs.no {P : Prop} {w w' : World} (h : Below w.heap.size w w') : FewIs P w (.returned (.bool false)) w' := ⟨⟨false, rfl, fun g => by cases g⟩, h⟩
set_option maxRecDepth 100000 in
set_option maxHeartbeats 4000000 in
theorem few24_any {w : World} {B : Nat} {f : Fm} {vw va vc vk vi vo : Value} (h : FmAt w B f vw va vc vk vi vo) (hB : B ≤ w.heap.size) :
    Calls Try.prog 61 #[fmV vw va vc vk vi vo] w (FewIs (fewF f) w) := by
  obtain ⟨Aw, cw, rfl, lw, mw, sw⟩ := h.wires
  obtain ⟨Aa, ca, rfl, _, _, _⟩ := h.acts
  obtain ⟨Acl, cc, rfl, _, _, _⟩ := h.cells
  obtain ⟨Ak, ck, rfl, _, _, _⟩ := h.keeps
  obtain ⟨Ai, ci, rfl, _, _, _⟩ := h.ins
  obtain ⟨Ao, co, rfl, _, _, _⟩ := h.outs
  have mw' : cw ≤ 9223372036854775807 := by unfold maxLen at mw; omega
  have b1 : Below w.heap.size w (w.alloc (.cells #[.slice Aw f.wires.length cw, .slice Aa f.acts.length ca, .slice Acl f.cells.length cc, .slice Ak f.keeps.length ck, .slice Ai f.ins.length ci, .slice Ao f.outs.length co] 48)) := bE
  have rF1 := Row.new w #[.slice Aw f.wires.length cw, .slice Aa f.acts.length ca, .slice Acl f.cells.length cc, .slice Ak f.keeps.length ck, .slice Ai f.ins.length ci, .slice Ao f.outs.length co] 48
  have HSW := Lib.hid (fun W (hW : Below w.heap.size w W) => (sw.keep (w' := W) (B' := B) (fun p u hp hc => (hW.cell (by omega)).trans hc) (Nat.le_refl _) (fun _ _ _ g => g.keep (fun p u hp hc => (hW.cell (by omega)).trans hc) (Nat.le_refl _))))
  clear h sw
  go_enter Try.func61, Try.ntmps61
  go_upto_region 1 with (fail)
  generalize w.alloc (.cells #[.slice Aw f.wires.length cw, .slice Aa f.acts.length ca, .slice Acl f.cells.length cc, .slice Ak f.keeps.length ck, .slice Ai f.ins.length ci, .slice Ao f.outs.length co] 48) = w1 at *
  have hs1 := b1.size
  have hGl := rF1.lt
  have HF6 : Hid (∀ W, Below w1.heap.size w1 W → W.cell? ⟨w.heap.size, 0, none⟩ = some (.slice Aw f.wires.length cw) ∧ W.cell? ⟨w.heap.size, 1, none⟩ = some (.slice Aa f.acts.length ca) ∧ W.cell? ⟨w.heap.size, 2, none⟩ = some (.slice Acl f.cells.length cc) ∧ W.cell? ⟨w.heap.size, 3, none⟩ = some (.slice Ak f.keeps.length ck) ∧ W.cell? ⟨w.heap.size, 4, none⟩ = some (.slice Ai f.ins.length ci) ∧ W.cell? ⟨w.heap.size, 5, none⟩ = some (.slice Ao f.outs.length co)) := fun W hW => (rF1.below hW hGl).six'
  obtain ⟨f0, f1, f2, f3, f4, f5⟩ := rF1.six'
  go_wp2_with fail
  clear f0 f1 f2 f3 f4 f5
  go_loopw [8] (fun i wr => ∃ k : Nat, k ≤ f.wires.length ∧ i = .int .i64 k ∧ Hid (∀ j, j < k → ∀ x, f.wires[j]? = some x → x.clock.length ≤ 40) ∧ Below w1.heap.size w1 wr) (fun i _ => f.wires.length - (intOf i).toNat)
  case atStart => exact ⟨0, Nat.zero_le _, rfl, fun j h => absurd h (by omega), Below.refl _ _⟩
  case round =>
    obtain ⟨k, hk, rfl, HN, hbr⟩ := hrel
    have hszr := hbr.size
    have hb := b1.trans (hbr.mono hs1)
    by_cases hlt : k < f.wires.length
    · obtain ⟨b, off, x, Ag, cg, rfl, hb', hx, wx, d0, d1, lg, mg, _⟩ := (HSW.out _ hb).wr hlt
      have HX := Lib.hid hx
      clear hx
      have hb2 : Below w.heap.size w (wr.alloc (.cells #[.int .i64 x.ty, .slice Ag x.clock.length cg] 89)) := bE
      have hb3 : Below w1.heap.size w1 (wr.alloc (.cells #[.int .i64 x.ty, .slice Ag x.clock.length cg] 89)) := bE
      have rX := Row.new wr #[.int .i64 x.ty, .slice Ag x.clock.length cg] 89
      go_upto_region 4 with (fail)
      generalize wr.alloc (.cells #[.int .i64 x.ty, .slice Ag x.clock.length cg] 89) = w3 at *
      have q0 := rX.cell 0
      have q1 := rX.cell 1
      simp only [List.getElem?_toArray, List.getElem?_cons_zero, List.getElem?_cons_succ] at q0 q1
      by_cases e1 : 40 < x.clock.length
      · have e1' : decide (40 < (x.clock.length : Int)) = true := by simp; omega
        go_wp2_with fail
        go_ret
        exact FewIs.no hb2
      have e1' : decide (40 < (x.clock.length : Int)) = false := by simp; omega
      have HN' := Lib.hid (upto_succ HN.out (fun x' hx' => by rw [HX.out] at hx'; injection hx' with hx'; rw [← hx']; omega))
      go_wp2_with fail
      go_roundw
      case rel => exact ⟨k + 1, by omega, by go_num, HN', hb3⟩
      case measure => simp [intOf]; omega
    · obtain rfl : k = f.wires.length := by omega
      have HM := Lib.hid (all_upto HN.out)
      obtain ⟨f0, f1, f2, f3, f4, f5⟩ := HF6.out _ hbr
      clear HN
      by_cases e0 : f.wires.length ≤ 1700
      rotate_left 1
      · have e0' : decide ((f.wires.length : Int) ≤ 1700) = false := by simp; omega
        go_wp2_with fail
        go_ret
        exact FewIs.no hb
      have e0' : decide ((f.wires.length : Int) ≤ 1700) = true := by simp; omega
      by_cases e1 : f.acts.length ≤ 1700
      rotate_left 1
      · have e1' : decide ((f.acts.length : Int) ≤ 1700) = false := by simp; omega
        go_wp2_with fail
        go_ret
        exact FewIs.no hb
      have e1' : decide ((f.acts.length : Int) ≤ 1700) = true := by simp; omega
      by_cases e2 : f.cells.length ≤ 80
      rotate_left 1
      · have e2' : decide ((f.cells.length : Int) ≤ 80) = false := by simp; omega
        go_wp2_with fail
        go_ret
        exact FewIs.no hb
      have e2' : decide ((f.cells.length : Int) ≤ 80) = true := by simp; omega
      by_cases e3 : f.keeps.length ≤ 80
      rotate_left 1
      · have e3' : decide ((f.keeps.length : Int) ≤ 80) = false := by simp; omega
        go_wp2_with fail
        go_ret
        exact FewIs.no hb
      have e3' : decide ((f.keeps.length : Int) ≤ 80) = true := by simp; omega
      by_cases e4 : f.ins.length ≤ 20
      rotate_left 1
      · have e4' : decide ((f.ins.length : Int) ≤ 20) = false := by simp; omega
        go_wp2_with fail
        go_ret
        exact FewIs.no hb
      have e4' : decide ((f.ins.length : Int) ≤ 20) = true := by simp; omega
      have HP : Hid (f.outs.length ≤ 20 → fewF f) := fun h5 => ⟨HM.out, e0, e1, e2, e3, e4, h5⟩
      go_wp2_with fail
      go_ret
      exact ⟨⟨_, rfl, fun g => HP.out (by simp at g; omega)⟩, hb⟩
def FewOk (f : Fm) (n : Nat) : Prop := fewF f ∧ f.wires.length ≤ n
set_option maxRecDepth 100000 in
set_option maxHeartbeats 4000000 in
theorem few26_any {w : World} {B : Nat} {f : Fm} {vw va vc vk vi vo : Value} (h : FmAt w B f vw va vc vk vi vo) (hB : B ≤ w.heap.size) :
    Calls Try.prog 25 #[fmV vw va vc vk vi vo] w (FewIs (FewOk f 300) w) := by
  have b1 : Below w.heap.size w (w.alloc (.cells #[vw, va, vc, vk, vi, vo] 48)) := bE
  have rF1 := Row.new w #[vw, va, vc, vk, vi, vo] 48
  have HC := Lib.hid (few24_any (h.below (b1.mono hB)) (Nat.le_trans hB b1.size))
  obtain ⟨Aw, cw, rfl, lw, mw, sw⟩ := h.wires
  clear h sw
  go_enter Try.func25, Try.ntmps25
  go_upto_region 1 with (fail)
  generalize w.alloc (.cells #[.slice Aw f.wires.length cw, va, vc, vk, vi, vo] 48) = w1 at *
  have hs1 := b1.size
  have hGl := rF1.lt
  obtain ⟨f0, f1, f2, f3, f4, f5⟩ := rF1.six'
  go_wp2_with fail
  (with_reducible refine HC.out.mono ?_)
  rintro e w3 ⟨⟨b, rfl, HB⟩, hb3⟩
  have hb := b1.trans (hb3.mono hs1)
  have rF3 := rF1.below hb3 hGl
  clear f0 f1 f2 f3 f4 f5 HC
  obtain ⟨f0, f1, f2, f3, f4, f5⟩ := rF3.six'
  clear rF3 rF1
  cases b
  · go_wp2_with fail
    go_ret
    exact FewIs.no hb
  · have HP : Hid (f.wires.length ≤ 300 → FewOk f 300) := fun h5 => ⟨HB.out rfl, h5⟩
    clear HB
    go_wp2_with fail
    go_ret
    exact ⟨⟨_, rfl, fun g => HP.out (by simp at g; omega)⟩, hb⟩
end Go.Proofs.Ytbjaejgechadpaa
