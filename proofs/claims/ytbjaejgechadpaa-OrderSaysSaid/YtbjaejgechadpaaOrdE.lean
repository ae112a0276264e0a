/-
  order.Order order.Order of a wrong form
-/
import Derived.Test.YtbjaejgechadpaaOrdB
import Derived.Deep.DeepAppendRoom
import Derived.ScopeJumps
import Derived.WalkMore
namespace Go.Proofs.Ytbjaejgechadpaa
open Go.RowKit Vf Fo
attribute [local go_sem ↓] Go.wp_at_zero Go.wp_at_succ
def zf6 : Array Value := #[.slice none 0 0, .slice none 0 0, .slice none 0 0, .slice none 0 0, .slice none 0 0, .slice none 0 0]
structure OSt (f : Fm) (fc : Array Value) (w W : World) (D O B6 : Nat) (v6 : Value) (H : List Int) (ds : List Bool) (done l : List Ac) : Prop where
  bel : Below w.heap.size w W
  g : Row W w.heap.size fc 48
  r : Row W (w.heap.size + 1) zf6 48
  d : Row W D (bls ds).toArray 4
  o : W.ownsRow O 91 6 (.slice (some ⟨O, 0, none⟩) done.length f.acts.length) done.length (acF done)
  wt : W.ownsRow B6 91 6 v6 l.length (acF l)
  hD : w.heap.size + 1 < D
  hO : D < O
  hB : O < B6
  hB' : B6 ≤ W.heap.size
  len : done.length + l.length = f.acts.length
  hv : HaveSt f H ds
  mem : ∀ x ∈ l, x ∈ f.acts
  gh : ∀ out, Ord f H l out → Ord f f.ins f.acts (done ++ out)
section
variable {f : Fm} {fc : Array Value} {w W W' : World} {D O B6 : Nat} {v6 : Value} {H : List Int} {ds : List Bool} {done l : List Ac}
theorem OSt.below (h : OSt f fc w W D O B6 v6 H ds done l) (hb : Below W.heap.size W W') : OSt f fc w W' D O B6 v6 H ds done l :=
  ⟨h.bel.trans (hb.mono h.bel.size), h.g.below hb h.g.lt, h.r.below hb h.r.lt, h.d.below hb h.d.lt, own_below h.o hb, own_below h.wt hb, h.hD, h.hO, h.hB, Nat.le_trans h.hB' hb.size, h.len, h.hv, h.mem, h.gh⟩
theorem own_updX {X : Nat → Prop} {base size n : Nat} {e : TypeId} {v : Value} {xs : List Value} (h : W.ownsRow base e size v n xs) (hu : Upd X W W') (hX : ∀ k, v.ownBlock = some k → ¬ X k) : W'.ownsRow base e size v n xs := by
  refine ⟨h.1, ?_⟩
  rcases h.2 with h0 | ⟨g, c, cur, h1, h2, h3, h4⟩
  · exact .inl h0
  · exact .inr ⟨g, c, cur, h1, h2, (hu.block g (Array.getElem?_eq_some_iff.1 h3).1 (hX g (by rw [h1]; rfl))).trans h3, h4⟩
theorem acs_in {f : Fm} {w : World} {B : Nat} {Aa : Option Addr} (sa : Sl w B 6 isAc Aa f.acts) : ∀ x ∈ f.acts, AcIn x := fun x hx => by
  obtain ⟨i, hi⟩ := List.getElem?_of_mem hx
  obtain ⟨_, _, y, _, _, hy, wy, _⟩ := sa.ac (List.getElem?_eq_some_iff.1 hi).1
  rw [hi] at hy
  injection hy with hy
  rw [hy]; exact wy
end
theorem own_acs {w : World} {base : Nat} {e : TypeId} {v : Value} {n : Nat} {l : List Ac} (h : w.ownsRow base e 6 v n (acF l)) (hi : ∀ x ∈ l, AcIn x) : SlV w w.heap.size 6 isAc v l := by
  refine (own_sl (rel := isAc) (l := l) h ⟨by simp, fun i x cs hx hc => ?_⟩ (fun cs hcs => ?_) (by decide)).1
  · simp only [List.getElem?_map, hx, Option.map_some, Option.some.injEq] at hc
    exact ⟨hc.symm, hi x (List.mem_of_getElem? hx)⟩
  · obtain ⟨x, _, rfl⟩ := List.mem_map.1 hcs
    rfl
def OrderIs (f : Fm) (vw vc vk vi vo : Value) (w : World) (e : Ending) (w' : World) : Prop := ∃ va' out, e = .returned (.tuple #[fmV vw va' vc vk vi vo, .int .i64 0]) ∧ Ord f f.ins f.acts out ∧ SlV w' w'.heap.size 6 isAc va' out ∧ Below w.heap.size w w'
def lenOf : Value → Nat | .slice _ n _ => n | _ => 0
theorem acts_len {f : Fm} (hf : formOk f) : f.acts.length ≤ 1600 := by
  obtain ⟨h1, h2, _⟩ := defined_iff.1 hf.2.2.2.2.1
  have := nodup_len _ ((List.range f.wires.length).map (fun (i : Nat) => (i : Int))) h1 (fun n hn => by
    have hw : isW f n := by
      rcases List.mem_append.1 hn with h | h
      · exact (hf.2.1.1 n h).1
      · obtain ⟨a, ha, rfl⟩ := List.mem_map.1 h
        exact h2 a ha
    exact List.mem_map.2 ⟨n.toNat, List.mem_range.2 (by have := hw.1; have := hw.2; omega), by have := hw.1; omega⟩)
  simp [dsts] at this
  have := hf.1.2.2
  omega
theorem Row.set6 {W : World} {b : Nat} {t : TypeId} (h : Row W b zf6 t) (x0 x1 x2 x3 x4 x5 : Value) : Row ((((((W.setCell ⟨b, 0, none⟩ x0).setCell ⟨b, 1, none⟩ x1).setCell ⟨b, 2, none⟩ x2).setCell ⟨b, 3, none⟩ x3).setCell ⟨b, 4, none⟩ x4).setCell ⟨b, 5, none⟩ x5) b #[x0, x1, x2, x3, x4, x5] t := by
  have := (((((h.set 0 x0).set 1 x1).set 2 x2).set 3 x3).set 4 x4).set 5 x5
  simpa [zf6] using this
theorem upd_set6 {W : World} {b : Nat} (x0 x1 x2 x3 x4 x5 : Value) : Upd (fun k => k = b) W ((((((W.setCell ⟨b, 0, none⟩ x0).setCell ⟨b, 1, none⟩ x1).setCell ⟨b, 2, none⟩ x2).setCell ⟨b, 3, none⟩ x3).setCell ⟨b, 4, none⟩ x4).setCell ⟨b, 5, none⟩ x5) :=
  ((((((Upd.refl (fun k => k = b) W).setCell (X := fun k => k = b) (p := ⟨b, 0, none⟩) rfl x0).setCell (X := fun k => k = b) (p := ⟨b, 1, none⟩) rfl x1).setCell (X := fun k => k = b) (p := ⟨b, 2, none⟩) rfl x2).setCell (X := fun k => k = b) (p := ⟨b, 3, none⟩) rfl x3).setCell (X := fun k => k = b) (p := ⟨b, 4, none⟩) rfl x4).setCell (X := fun k => k = b) (p := ⟨b, 5, none⟩) rfl x5
theorem own_grown {w w' : World} {base size n : Nat} {e : TypeId} {v : Value} {xs : List Value} {row : Option Nat} (h : w.ownsRow base e size v n xs) (hg : w.grownBy w' row) (hne : ∀ k, v.ownBlock = some k → row ≠ some k) : w'.ownsRow base e size v n xs := by
  refine ⟨h.1, ?_⟩
  rcases h.2 with h0 | ⟨g, c, cur, h1, h2, h3, h4⟩
  · exact .inl h0
  · exact .inr ⟨g, c, cur, h1, h2, (hg.block g (Array.getElem?_eq_some_iff.1 h3).1 (fun e => hne g (by rw [h1]; rfl) e.symm)).trans h3, h4⟩
theorem Row.grown {w w' : World} {b : Nat} {cs : Array Value} {t : TypeId} {row : Option Nat} (h : Row w b cs t) (hg : w.grownBy w' row) (hne : row ≠ some b) : Row w' b cs t :=
  (hg.block b h.lt (fun e => hne e.symm)).trans h
theorem OSt.next {f : Fm} {fc : Array Value} {w W W8 : World} {D O B6 dn : Nat} {v6 v6' : Value} {H : List Int} {ds : List Bool} {done l l1 l2 : List Ac} {x : Ac} (h : OSt f fc w W D O B6 v6 H ds done l) (hl : l = l1 ++ x :: l2)
    (h1 : ∀ y ∈ l1, ¬ readyOk f H y) (h2 : readyOk f H x) (hd : isW f x.dst) (bel : Below w.heap.size w W8) (g : Row W8 w.heap.size fc 48) (r : Row W8 (w.heap.size + 1) zf6 48) (d : Row W8 D (bls (ds.set x.dst.toNat true)).toArray 4)
    (o : W8.ownsRow O 91 6 (.slice (some ⟨O, 0, none⟩) (dn + 1) f.acts.length) (dn + 1) (acF done ++ acC x)) (hdn : dn = done.length) (wt : W8.ownsRow B6 91 6 v6' (l1.length + l2.length) (acF (l1 ++ l2))) (hB' : B6 ≤ W8.heap.size) :
    OSt f fc w W8 D O B6 v6' (x.dst :: H) (ds.set x.dst.toNat true) (done ++ [x]) (l1 ++ l2) := by
  refine ⟨bel, g, r, d, ?_, ?_, h.hD, h.hO, h.hB, hB', ?_, h.hv.set hd, fun y hy => h.mem y ?_, fun out ho => ?_⟩
  · rw [acF_append, List.length_append, ← hdn]
    simpa [acF] using o
  · rw [List.length_append]; exact wt
  · have := h.len
    rw [hl] at this
    simp at this ⊢
    omega
  · rw [hl]
    rcases List.mem_append.1 hy with h | h <;> simp [h]
  · have := h.gh (x :: out) (by rw [hl]; exact .next _ _ _ _ _ h1 h2 ho)
    simpa using this
theorem SlV.sl {α : Type} {w : World} {B size n c : Nat} {rel : α → List Value → Prop} {A : Option Addr} {l : List α} (h : SlV w B size rel (.slice A n c) l) : Sl w B size rel A l := by
  obtain ⟨A', c', h1, _, _, h2⟩ := h
  injection h1 with h1
  rw [h1]; exact h2
set_option maxRecDepth 100000 in
set_option maxHeartbeats 8000000 in
theorem order_any (f : Fm) (vw va vc vk vi vo : Value) (w : World) (h : FmAt w w.heap.size f vw va vc vk vi vo) (hcl : f.cells.length ≤ 1600) (hf : formOk f) :
    Calls Try.prog 26 #[fmV vw va vc vk vi vo] w (OrderIs f vw vc vk vi vo w) := by
  obtain ⟨i0, hi0, hz0, hz1, hz2⟩ := info_parts info_ac
  have b1 : Below w.heap.size w ((w.alloc (.cells #[vw, va, vc, vk, vi, vo] 48)).alloc (.cells zf6 48)) := bE
  have rG1 : Row ((w.alloc (.cells #[vw, va, vc, vk, vi, vo] 48)).alloc (.cells zf6 48)) w.heap.size #[vw, va, vc, vk, vi, vo] 48 := (Row.new w _ _).alloc _
  have rR1 : Row ((w.alloc (.cells #[vw, va, vc, vk, vi, vo] 48)).alloc (.cells zf6 48)) (w.heap.size + 1) zf6 48 := rowNew2 w _ _ _
  have HR := Lib.hid (nright_any f vw va vc vk vi vo _ (h.next b1) hcl)
  rw [cB_true hf] at HR
  have HFM := Lib.hid (fun W (hW : Below w.heap.size w W) => h.below hW)
  have HAL := Lib.hid (acts_len hf)
  have HOK := Lib.hid hf
  obtain ⟨Aa, ca, rfl, la, ma, sa⟩ := h.acts
  obtain ⟨Aw, cw, rfl, _, _, _⟩ := h.wires
  obtain ⟨Acl, cc, rfl, _, _, _⟩ := h.cells
  obtain ⟨Ak, ck, rfl, _, _, _⟩ := h.keeps
  obtain ⟨Ai, ci, rfl, _, _, _⟩ := h.ins
  obtain ⟨Ao, co, rfl, _, _, _⟩ := h.outs
  have ma' : ca ≤ 9223372036854775807 := by unfold maxLen at ma; omega
  have HAI := Lib.hid (acs_in sa)
  clear h hcl sa hf
  go_enter Try.func26, Try.ntmps26
  go_wp2_with fail
  refine wp_scope_jumps 0 (fun a' W => ∃ (D O B6 dn : Nat) (v6 : Value) (H : List Int) (ds : List Bool) (done l : List Ac) (x7 x8 x9 x10 x11 x12 x13 x14 x15 x16 x17 x18 x19 x20 x21 x22 x23 x24 x25 x26 x27 x28 x29 x30 x31 x32 x33 x34 x35 x36 x37 x38 x39 x40 x41 x42 x43 x44 x45 x46 x47 x48 x49 : Value), a' = { tmps := #[fmV (.slice Aw f.wires.length cw) (.slice Aa f.acts.length ca) (.slice Acl f.cells.length cc) (.slice Ak f.keeps.length ck) (.slice Ai f.ins.length ci) (.slice Ao f.outs.length co), .pointer (some ⟨w.heap.size, 0, none⟩), .pointer (some ⟨w.heap.size + 1, 0, none⟩), .int .i64 0, .slice (some ⟨D, 0, none⟩) f.wires.length f.wires.length, .slice (some ⟨O, 0, none⟩) dn f.acts.length, v6, x7, x8, x9, x10, x11, x12, x13, x14, x15, x16, x17, x18, x19, x20, x21, x22, x23, x24, x25, x26, x27, x28, x29, x30, x31, x32, x33, x34, x35, x36, x37, x38, x39, x40, x41, x42, x43, x44, x45, x46, x47, x48, x49], defers := [] } ∧ Hid (OSt f #[(.slice Aw f.wires.length cw), .slice Aa f.acts.length ca, (.slice Acl f.cells.length cc), (.slice Ak f.keeps.length ck), (.slice Ai f.ins.length ci), (.slice Ao f.outs.length co)] w W D O B6 v6 H ds done l) ∧ Hid (dn = done.length)) (fun a' _ => lenOf (a'.tmps.getD 6 undef)) rfl ?_ ?_
  · go_upto_region 1 with (fail)
    change Code.wp _ _ _ _ ((w.alloc (.cells #[(.slice Aw f.wires.length cw), .slice Aa f.acts.length ca, (.slice Acl f.cells.length cc), (.slice Ak f.keeps.length ck), (.slice Ai f.ins.length ci), (.slice Ao f.outs.length co)] 48)).alloc (.cells zf6 48))
    generalize ((w.alloc (.cells #[(.slice Aw f.wires.length cw), .slice Aa f.acts.length ca, (.slice Acl f.cells.length cc), (.slice Ak f.keeps.length ck), (.slice Ai f.ins.length ci), (.slice Ao f.outs.length co)] 48)).alloc (.cells zf6 48)) = w1 at *
    have hs1 := b1.size
    have hG1 := rR1.lt
    obtain ⟨f0, f1, f2, f3, f4, f5⟩ := rG1.six'
    go_wp2_with fail
    (with_reducible refine HR.out.mono ?_)
    rintro e w2 ⟨rfl, hb2⟩
    have b2 := b1.trans (hb2.mono hs1)
    have rG2 := rG1.below hb2 (by omega)
    have rR2 := rR1.below hb2 hG1
    have hs2 := b2.size
    have hG2 := rR2.lt
    clear f0 f1 f2 f3 f4 f5 HR hb2 rG1 rR1 hG1
    obtain ⟨f0, f1, f2, f3, f4, f5⟩ := rG2.six'
    have HT := Lib.hid (there_any (HFM.out _ b2) hs2 HOK.out.1.2.2 (fun n hn => (HOK.out.2.1.1 n hn).1))
    go_wp2_with fail
    (with_reducible refine HT.out.mono ?_)
    rintro e w3 ⟨D, ds, rfl, hD, rD, hH, hb3⟩
    have b3 := b2.trans (hb3.mono hs2)
    have rG3 := rG2.below hb3 (by omega)
    have rR3 := rR2.below hb3 hG2
    have hs3 := b3.size
    have hDl := rD.lt
    have hGD : w.heap.size + 1 < D := by omega
    clear f0 f1 f2 f3 f4 f5 HT hb3 rG2 rR2
    obtain ⟨w4, mk, ho4, hg4⟩ := run_make_own (P := Try.prog) w3 w3.heap.size 45 91 i0 _ 6 Try.underlying45 hi0 hz0 hz1 .i64 .i64 f.acts.length (by have := HAL.out; rw [hz2]; omega) (by have := HAL.out; unfold maxLen; omega) (Nat.le_refl _)
    have hb4 : Below w3.heap.size w3 w4 := (Below.refl _ _).grown hg4 (Nat.le_refl _) (fun k hk => by cases hk)
    have hO4 := (ho4.lt w3.heap.size rfl).2
    have b4 := b3.trans (hb4.mono hs3)
    have rG4 := rG3.below hb4 (by omega)
    have rR4 := rR3.below hb4 (by omega)
    have rD4 := rD.below hb4 hDl
    have HC := Lib.hid (clone_ac f.acts _ w4 ((HFM.out _ b4).acts.more b4.size) (by have := HAL.out; omega))
    have HO4 := Lib.hid ho4
    obtain ⟨f0, f1, f2, f3, f4, f5⟩ := rG3.six'
    clear hg4 ho4 rD rG3 rR3
    go_upto_region 5 with (fail)
    generalize w3.heap.size = O at *
    obtain ⟨f0, f1, f2, f3, f4, f5⟩ := rG4.six'
    go_wp2_with fail
    (with_reducible refine HC.out.mono ?_)
    rintro e w5 ⟨v6, rfl, ho5, hb5⟩
    have hS : OSt f #[(.slice Aw f.wires.length cw), .slice Aa f.acts.length ca, (.slice Acl f.cells.length cc), (.slice Ak f.keeps.length ck), (.slice Ai f.ins.length ci), (.slice Ao f.outs.length co)] w w5 D O w4.heap.size v6 f.ins ds [] f.acts :=
      ⟨b4.trans (hb5.mono b4.size), rG4.below hb5 (by omega), rR4.below hb5 (by omega), rD4.below hb5 (by omega), own_below HO4.out hb5, ho5, hGD, hDl, hO4, hb5.size, by simp, hH, fun x hx => hx, fun out ho => ho⟩
    clear f0 f1 f2 f3 f4 f5 HC ho5 rG4 rR4 rD4 hH HO4 mk hb4 hb5 b4 b3 b2 b1
    have hdn : Hid ((0 : Nat) = ([] : List Ac).length) := rfl
    generalize w4.heap.size = B6 at *
    go_wp2_with fail
    go_step3
    have HV := Lib.hid hS
    obtain ⟨A6, c6, hv6, l6, m6, _⟩ := own_rd hS.wt
    subst hv6
    have m6' : c6 ≤ 9223372036854775807 := by unfold maxLen at m6; omega
    clear hS
    go_wp2_with fail
    go_loopw [5, 6, 24] (fun v5 v6 i wr => ∃ k : Nat, k ≤ f.acts.length ∧ v5 = .slice (some ⟨O, 0, none⟩) 0 f.acts.length ∧ v6 = .slice A6 f.acts.length c6 ∧ i = .int .i64 k ∧ Hid (∀ j, j < k → ∀ x, f.acts[j]? = some x → ¬ readyOk f f.ins x) ∧ Below w5.heap.size w5 wr) (fun _ _ i _ => f.acts.length - (intOf i).toNat)
    case atStart => exact ⟨0, Nat.zero_le _, rfl, rfl, rfl, fun j hj => absurd hj (by omega), Below.refl _ _⟩
    case round =>
      obtain ⟨k, hk, rfl, rfl, rfl, HP, hb⟩ := hrel
      have hS := HV.out.below hb
      have HSr := Lib.hid hS
      have hsr := hS.bel.size
      have hsr2 := hS.hB'
      have hDO := hS.hO
      have hOB := hS.hB
      have hGD := hS.hD
      by_cases hlt : k < f.acts.length
      rotate_left 1
      · obtain rfl : k = f.acts.length := by omega
        have hord : Ord f f.ins f.acts ([] : List Ac) := by
          have := HV.out.gh [] (.stop _ _ (all_upto HP.out))
          simpa using this
        have HO := Lib.hid hord
        have HOD : Hid (∀ x ∈ ([] : List Ac), x ∈ f.acts) := fun x hx => (ord_all HOK.out hord).mem_iff.2 hx
        obtain ⟨f0, f1, f2, f3, f4, f5⟩ := hS.g.six'
        have fz1 := hS.g.frozen 1
        have r1 := hS.g.set 1 (.slice (some ⟨O, 0, none⟩) 0 f.acts.length)
        have rr := hS.r
        have rr2 := Row.far rr (p := ⟨w.heap.size, 1, none⟩) (by simp) (.slice (some ⟨O, 0, none⟩) 0 f.acts.length)
        have hSo : wr.ownsRow O 91 6 (.slice (some ⟨O, 0, none⟩) 0 f.acts.length) 0 (acF ([] : List Ac)) := by have := hS.o; rwa [← hdn.out] at this
        have ho2 := own_far hSo (p := ⟨w.heap.size, 1, none⟩) (fun k hk => by injection hk with hk; subst hk; dsimp only; omega) (.slice (some ⟨O, 0, none⟩) 0 f.acts.length)
        have hbl2 := hS.bel.setCell (p := ⟨w.heap.size, 1, none⟩) (Nat.le_refl _) (.slice (some ⟨O, 0, none⟩) 0 f.acts.length)
        clear rr hS hord hSo
        go_upto_region 15 with (fail)
        generalize wr.setCell ⟨w.heap.size, 1, none⟩ (.slice (some ⟨O, 0, none⟩) 0 f.acts.length) = w6 at *
        clear f0 f1 f2 f3 f4 f5
        obtain ⟨f0, f1, f2, f3, f4, f5⟩ := Row.six' (x0 := (.slice Aw f.wires.length cw)) (x1 := .slice (some ⟨O, 0, none⟩) 0 f.acts.length) (x2 := (.slice Acl f.cells.length cc)) (x3 := (.slice Ak f.keeps.length ck)) (x4 := (.slice Ai f.ins.length ci)) (x5 := (.slice Ao f.outs.length co)) r1
        obtain ⟨q0, q1, q2, q3, q4, q5⟩ := Row.six' (x0 := .slice none 0 0) (x1 := .slice none 0 0) (x2 := .slice none 0 0) (x3 := .slice none 0 0) (x4 := .slice none 0 0) (x5 := .slice none 0 0) rr2
        have z0 := rr2.frozen 0
        have z1 := rr2.frozen 1
        have z2 := rr2.frozen 2
        have z3 := rr2.frozen 3
        have z4 := rr2.frozen 4
        have z5 := rr2.frozen 5
        go_wp2_with fail
        refine bodyPost_ret (res2 rfl Try.underlying48 rfl (by kernel_rfl) rfl rfl (Row.set6 rr2 _ _ _ _ _ _)) rfl ⟨_, ([] : List Ac), rfl, HO.out, ?_, ?_⟩
        · exact own_acs (own_updX ho2 (upd_set6 _ _ _ _ _ _) (fun k hk e => by injection hk with hk; subst hk; dsimp only at e; omega)) (fun x hx => HAI.out x (HOD.out x hx))
        · exact hbl2.trans ((upd_set6 _ _ _ _ _ _).below (fun k hk => by omega) hbl2.size)
      obtain ⟨g, c6', hv6⟩ := own_some hS.wt (by omega)
      injection hv6 with hv6 _ hv7
      subst hv6; subst hv7
      have hgB : B6 ≤ g := (hS.wt.lt g rfl).1
      obtain ⟨b, off, ⟨xo, xd, xa, xb, xc, xk⟩, hA6, hbb, hx, wx, d0, d1, d2, d3, d4, d5⟩ := (own_acs hS.wt (fun x hx => HAI.out x (HV.out.mem x hx))).sl.ac hlt
      injection hA6 with hA6
      injection hA6 with hA6 hA7
      subst hA6; subst hA7
      have HX := Lib.hid hx
      have hmem := HV.out.mem _ (List.mem_of_getElem? hx)
      have HAC := Lib.hid (ac_ok HOK.out hmem)
      have hdst := HAC.out.dst
      obtain ⟨m, rfl⟩ := Int.eq_ofNat_of_zero_le (show 0 ≤ xd from hdst.1)
      have hm : m < f.wires.length := by have := hdst.2; dsimp only at this; omega
      have hm' : (m : Int) < f.wires.length := by omega
      simp only [Nat.zero_add] at d0 d1 d2 d3 d4 d5
      have r9 := Row.new wr #[.int .i64 xo, .int .i64 (m : Int), .int .i64 xa, .int .i64 xb, .int .i64 xc, .int .i64 xk] 91
      have ba : Below wr.heap.size wr (wr.alloc (.cells #[.int .i64 xo, .int .i64 (m : Int), .int .i64 xa, .int .i64 xb, .int .i64 xc, .int .i64 xk] 91)) := bE
      have hS4 := hS.below ba
      have hbW4 := hb.trans (ba.mono hb.size)
      clear hx hdst hS hmem HSr
      go_upto_region 9 with (fail)
      generalize hg9 : wr.heap.size = g9 at *
      generalize wr.alloc (.cells #[.int .i64 xo, .int .i64 (m : Int), .int .i64 xa, .int .i64 xb, .int .i64 xc, .int .i64 xk] 91) = w4' at *
      clear d0 d1 d2 d3 d4 d5
      have HR := Lib.hid (oready_any (HFM.out _ hS4.bel) hS4.bel.size ⟨xo, (m : Int), xa, xb, xc, xk⟩ wx HAC.out D ds hS4.d HV.out.hv.1)
      have HQ := Lib.hid (ready_iff HV.out.hv HAC.out.wants)
      obtain ⟨c0, c1, c2, c3, c4, c5⟩ := r9.six'
      obtain ⟨f0, f1, f2, f3, f4, f5⟩ := hS4.g.six'
      have HS4 := Lib.hid hS4
      have hg9l := r9.lt
      have hs4 := hS4.bel.size
      have hs4' := hbW4.size
      have hgD : g9 ≠ D := by omega
      have hgO : g9 ≠ O := by omega
      clear hS4 wx hg9 ba
      by_cases hr : ∀ n ∈ wantsAll f ⟨xo, (m : Int), xa, xb, xc, xk⟩, bGet ds n = true
      rotate_left 1
      · have HP' := Lib.hid (upto_succ HP.out (fun y hy => by rw [HX.out] at hy; injection hy with hy; rw [← hy]; exact fun g => hr (HQ.out.2 g)))
        rw [cB_false hr] at HR
        clear hr
        go_wp2_with fail
        (with_reducible refine HR.out.mono ?_)
        rintro e w5' ⟨rfl, hb5'⟩
        have hbW5 := hbW4.trans (hb5'.mono hs4')
        clear c0 c1 c2 c3 c4 c5 f0 f1 f2 f3 f4 f5
        go_wp2_with fail
        go_roundw
        case rel => exact ⟨k + 1, by omega, rfl, rfl, by go_num, HP'.out, hbW5⟩
        case measure => simp [intOf]; omega
      have HRD := Lib.hid (HQ.out.1 hr)
      obtain ⟨l1, l2, hl1, hl⟩ : ∃ l1 l2, l1.length = k ∧ f.acts = l1 ++ ⟨xo, (m : Int), xa, xb, xc, xk⟩ :: l2 := ⟨f.acts.take k, f.acts.drop (k + 1), by simp; omega, by rw [← getI_drop HX.out, List.take_append_drop]⟩
      have HL := Lib.hid hl
      have HN1 : Hid (∀ y ∈ l1, ¬ readyOk f f.ins y) := fun y hy => by
        obtain ⟨i, hi⟩ := List.getElem?_of_mem hy
        have hil := (List.getElem?_eq_some_iff.1 hi).1
        exact HP.out i (by omega) y (by rw [hl, List.getElem?_append_left hil]; exact hi)
      have hll : f.acts.length = l1.length + 1 + l2.length := by rw [hl]; simp; omega
      obtain rfl : k = l1.length := hl1.symm
      have HLL := Lib.hid hll
      rw [cB_true hr] at HR
      clear hr hl hl1 HP hll
      go_wp2_with fail
      (with_reducible refine HR.out.mono ?_)
      rintro e w5' ⟨rfl, hb5'⟩
      have hS5 := HS4.out.below hb5'
      have r95 := r9.below hb5' hg9l
      have hbW5 := hbW4.trans (hb5'.mono hs4')
      clear c0 c1 c2 c3 c4 c5 f0 f1 f2 f3 f4 f5 HR hb5' r9
      obtain ⟨c0, c1, c2, c3, c4, c5⟩ := r95.six'
      have fD := hS5.d.frozen m
      have cD := ds_cell hS5.d (n := m) (by rw [HV.out.hv.1]; exact hm)
      have rD6 := ds_set (m := m) hS5.d true
      have rG6 := Row.far hS5.g (p := ⟨D, m, none⟩) (show w.heap.size ≠ D by omega) (.bool true)
      have rR6 := Row.far hS5.r (p := ⟨D, m, none⟩) (show w.heap.size + 1 ≠ D by omega) (.bool true)
      have rX6 := Row.far r95 (p := ⟨D, m, none⟩) hgD (.bool true)
      have hO6 := own_far hS5.o (p := ⟨D, m, none⟩) (fun k hk => by injection hk with hk; subst hk; dsimp only; omega) (.bool true)
      have hw6 := own_far hS5.wt (p := ⟨D, m, none⟩) (fun k hk => by injection hk with hk; subst hk; dsimp only; omega) (.bool true)
      have bel6 := hS5.bel.setCell (p := ⟨D, m, none⟩) (show w.heap.size ≤ D by omega) (.bool true)
      have hs6 : B6 ≤ (w5'.setCell ⟨D, m, none⟩ (.bool true)).heap.size := by simpa [World.setCell] using hS5.hB'
      generalize bGet ds (m : Int) = V at cD
      clear hS5 r95
      go_upto_region 11 with (fail)
      generalize w5'.setCell ⟨D, m, none⟩ (.bool true) = w6 at *
      clear c0 c1 c2 c3 c4 c5 cD fD
      obtain ⟨c0, c1, c2, c3, c4, c5⟩ := rX6.six'
      have hroom : 0 + 1 ≤ f.acts.length := by have := HV.out.len; have := hdn.out; have := HLL.out; (try simp only [List.length_nil] at *); omega
      have HO6 := Lib.hid hO6
      have HW6 := Lib.hid hw6
      clear hO6 hw6
      go_wp2_with (at_builtin; refine wpList_append_own_spare _ rfl _ _ 45 rfl O 91 i0 6 Try.underlying45 hi0 hz1 O 0 f.acts.length (acF ([] : List Ac)) rfl ((show w6.ownsRow O 91 6 (.slice (some ⟨O, 0, none⟩) 0 f.acts.length) 0 (acF ([] : List Ac)) by have := HO6.out; rwa [← hdn.out] at this).alloc _) ⟨w6.heap.size, 0, none⟩ 1 1 (acC ⟨xo, (m : Int), xa, xb, xc, xk⟩) rfl rfl ?j1 ?j2 ?j3 ?_)
      case j1 => exact cells_new _ _ _
      case j2 => exact acC_one _
      case j3 => exact hroom
      intro w7 ho7 hg7
      have ba7 : Below w6.heap.size w6 (w6.alloc (.cells (acC ⟨xo, (m : Int), xa, xb, xc, xk⟩).toArray 91)) := bE
      have hOg : O ≠ g := by omega
      have hOw : O < w6.heap.size := by omega
      have rG7 := Row.grown (rG6.below ba7 rG6.lt) hg7 (by intro e; injection e with e; omega)
      have rR7 := Row.grown (rR6.below ba7 rR6.lt) hg7 (by intro e; injection e with e; omega)
      have rD7 := Row.grown (rD6.below ba7 rD6.lt) hg7 (by intro e; injection e with e; omega)
      have hw7 := own_grown (own_below HW6.out ba7) hg7 (fun k hk e => by injection hk with hk; injection e with e; exact hOg (by rw [e]; exact hk.symm))
      have bel7 : Below w.heap.size w w7 := (bel6.trans (ba7.mono bel6.size)).grown hg7 (Nat.le_trans bel6.size ba7.size) (fun k hk => by injection hk with hk; omega)
      have hs7 : B6 ≤ w7.heap.size := Nat.le_trans hs6 (Nat.le_trans ba7.size hg7.size)
      have HD : Hid (Calls Try.prog 66 #[.slice (some ⟨g, 0, none⟩) f.acts.length c6, .int .i64 l1.length, .int .i64 ((l1.length : Int) + 1)] w7 fun e w' => e = .returned (.slice (some ⟨g, 0, none⟩) (l1.length + l2.length) c6) ∧ w'.ownsRow B6 91 6 (.slice (some ⟨g, 0, none⟩) (l1.length + l2.length) c6) (l1.length + l2.length) (acF (l1 ++ l2)) ∧ Upd (fun k => k = g) w7 w') := by
        have h0 := hw7
        rw [HLL.out, HL.out] at h0
        have := delete_ac h0
        rw [← HLL.out, Int.natCast_add, Int.natCast_one] at this
        exact this
      have HO7 := Lib.hid ho7
      clear c0 c1 c2 c3 c4 c5 hw7 ho7 hg7 rG6 rR6 rD6 rX6 ba7 bel6
      go_wp2_with fail
      (with_reducible refine HD.out.mono ?_)
      rintro e w8 ⟨rfl, ho8, hu8⟩
      have HO8 := Lib.hid ho8
      have hfin : OSt f #[(.slice Aw f.wires.length cw), .slice Aa f.acts.length ca, (.slice Acl f.cells.length cc), (.slice Ak f.keeps.length ck), (.slice Ai f.ins.length ci), (.slice Ao f.outs.length co)] w w8 D O B6 (.slice (some ⟨g, 0, none⟩) (l1.length + l2.length) c6) ((m : Int) :: f.ins) (ds.set m true) (([] : List Ac) ++ [⟨xo, (m : Int), xa, xb, xc, xk⟩]) (l1 ++ l2) :=
        OSt.next HV.out HL.out HN1.out HRD.out HAC.out.dst (bel7.trans (hu8.below (fun k hk => by omega) bel7.size)) (hu8.row rG7 (by omega)) (hu8.row rR7 (by omega)) (hu8.row rD7 (by omega)) (own_updX HO7.out hu8 (fun k hk e => by injection hk with hk; exact hOg (by rw [← e]; exact hk))) hdn.out ho8 (Nat.le_trans hs7 hu8.size)
      have HFIN := Lib.hid hfin
      have hmeas : l1.length + l2.length < f.acts.length := by have := HLL.out; omega
      clear hfin ho8 hu8 rG7 rR7 rD7 bel7
      go_wp2_with fail
      go_step3
      exact ⟨rfl, ⟨D, O, B6, _, _, _, _, _, _, _, _, _, _, _, _, _, _, _, _, _, _, _, _, _, _, _, _, _, _, _, _, _, _, _, _, _, _, _, _, _, _, _, _, _, _, _, _, _, _, _, _, _, rfl, HFIN.out, (by show _ = _; rw [List.length_append, ← hdn.out]; rfl)⟩⟩
  · rintro a' W ⟨D, O, B6, dn, v6, H, ds, done, l, x7, x8, x9, x10, x11, x12, x13, x14, x15, x16, x17, x18, x19, x20, x21, x22, x23, x24, x25, x26, x27, x28, x29, x30, x31, x32, x33, x34, x35, x36, x37, x38, x39, x40, x41, x42, x43, x44, x45, x46, x47, x48, x49, rfl, hS, hdn⟩
    have hS := hS.out
    have HV := Lib.hid hS
    obtain ⟨A6, c6, hv6, l6, m6, _⟩ := own_rd hS.wt
    subst hv6
    have m6' : c6 ≤ 9223372036854775807 := by unfold maxLen at m6; omega
    clear hS
    go_wp2_with fail
    go_loopw [5, 6, 24] (fun v5 v6 i wr => ∃ k : Nat, k ≤ l.length ∧ v5 = .slice (some ⟨O, 0, none⟩) dn f.acts.length ∧ v6 = .slice A6 l.length c6 ∧ i = .int .i64 k ∧ Hid (∀ j, j < k → ∀ x, l[j]? = some x → ¬ readyOk f H x) ∧ Below W.heap.size W wr) (fun _ _ i _ => l.length - (intOf i).toNat)
    case atStart => exact ⟨0, Nat.zero_le _, rfl, rfl, rfl, fun j hj => absurd hj (by omega), Below.refl _ _⟩
    case round =>
      obtain ⟨k, hk, rfl, rfl, rfl, HP, hb⟩ := hrel
      have hS := HV.out.below hb
      have HSr := Lib.hid hS
      have hsr := hS.bel.size
      have hsr2 := hS.hB'
      have hDO := hS.hO
      have hOB := hS.hB
      have hGD := hS.hD
      by_cases hlt : k < l.length
      rotate_left 1
      · obtain rfl : k = l.length := by omega
        have hord : Ord f f.ins f.acts done := by
          have := HV.out.gh [] (.stop _ _ (all_upto HP.out))
          simpa using this
        have HO := Lib.hid hord
        have HOD : Hid (∀ x ∈ done, x ∈ f.acts) := fun x hx => (ord_all HOK.out hord).mem_iff.2 hx
        obtain ⟨f0, f1, f2, f3, f4, f5⟩ := hS.g.six'
        have fz1 := hS.g.frozen 1
        have r1 := hS.g.set 1 (.slice (some ⟨O, 0, none⟩) dn f.acts.length)
        have rr := hS.r
        have rr2 := Row.far rr (p := ⟨w.heap.size, 1, none⟩) (by simp) (.slice (some ⟨O, 0, none⟩) dn f.acts.length)
        have hSo : wr.ownsRow O 91 6 (.slice (some ⟨O, 0, none⟩) dn f.acts.length) dn (acF done) := by have := hS.o; rwa [← hdn.out] at this
        have ho2 := own_far hSo (p := ⟨w.heap.size, 1, none⟩) (fun k hk => by injection hk with hk; subst hk; dsimp only; omega) (.slice (some ⟨O, 0, none⟩) dn f.acts.length)
        have hbl2 := hS.bel.setCell (p := ⟨w.heap.size, 1, none⟩) (Nat.le_refl _) (.slice (some ⟨O, 0, none⟩) dn f.acts.length)
        clear rr hS hord hSo
        go_upto_region 15 with (fail)
        generalize wr.setCell ⟨w.heap.size, 1, none⟩ (.slice (some ⟨O, 0, none⟩) dn f.acts.length) = w6 at *
        clear f0 f1 f2 f3 f4 f5
        obtain ⟨f0, f1, f2, f3, f4, f5⟩ := Row.six' (x0 := (.slice Aw f.wires.length cw)) (x1 := .slice (some ⟨O, 0, none⟩) dn f.acts.length) (x2 := (.slice Acl f.cells.length cc)) (x3 := (.slice Ak f.keeps.length ck)) (x4 := (.slice Ai f.ins.length ci)) (x5 := (.slice Ao f.outs.length co)) r1
        obtain ⟨q0, q1, q2, q3, q4, q5⟩ := Row.six' (x0 := .slice none 0 0) (x1 := .slice none 0 0) (x2 := .slice none 0 0) (x3 := .slice none 0 0) (x4 := .slice none 0 0) (x5 := .slice none 0 0) rr2
        have z0 := rr2.frozen 0
        have z1 := rr2.frozen 1
        have z2 := rr2.frozen 2
        have z3 := rr2.frozen 3
        have z4 := rr2.frozen 4
        have z5 := rr2.frozen 5
        go_wp2_with fail
        refine bodyPost_ret (res2 rfl Try.underlying48 rfl (by kernel_rfl) rfl rfl (Row.set6 rr2 _ _ _ _ _ _)) rfl ⟨_, done, rfl, HO.out, ?_, ?_⟩
        · exact own_acs (own_updX ho2 (upd_set6 _ _ _ _ _ _) (fun k hk e => by injection hk with hk; subst hk; dsimp only at e; omega)) (fun x hx => HAI.out x (HOD.out x hx))
        · exact hbl2.trans ((upd_set6 _ _ _ _ _ _).below (fun k hk => by omega) hbl2.size)
      obtain ⟨g, c6', hv6⟩ := own_some hS.wt (by omega)
      injection hv6 with hv6 _ hv7
      subst hv6; subst hv7
      have hgB : B6 ≤ g := (hS.wt.lt g rfl).1
      obtain ⟨b, off, ⟨xo, xd, xa, xb, xc, xk⟩, hA6, hbb, hx, wx, d0, d1, d2, d3, d4, d5⟩ := (own_acs hS.wt (fun x hx => HAI.out x (HV.out.mem x hx))).sl.ac hlt
      injection hA6 with hA6
      injection hA6 with hA6 hA7
      subst hA6; subst hA7
      have HX := Lib.hid hx
      have hmem := HV.out.mem _ (List.mem_of_getElem? hx)
      have HAC := Lib.hid (ac_ok HOK.out hmem)
      have hdst := HAC.out.dst
      obtain ⟨m, rfl⟩ := Int.eq_ofNat_of_zero_le (show 0 ≤ xd from hdst.1)
      have hm : m < f.wires.length := by have := hdst.2; dsimp only at this; omega
      have hm' : (m : Int) < f.wires.length := by omega
      simp only [Nat.zero_add] at d0 d1 d2 d3 d4 d5
      have r9 := Row.new wr #[.int .i64 xo, .int .i64 (m : Int), .int .i64 xa, .int .i64 xb, .int .i64 xc, .int .i64 xk] 91
      have ba : Below wr.heap.size wr (wr.alloc (.cells #[.int .i64 xo, .int .i64 (m : Int), .int .i64 xa, .int .i64 xb, .int .i64 xc, .int .i64 xk] 91)) := bE
      have hS4 := hS.below ba
      have hbW4 := hb.trans (ba.mono hb.size)
      clear hx hdst hS hmem HSr
      go_upto_region 9 with (fail)
      generalize hg9 : wr.heap.size = g9 at *
      generalize wr.alloc (.cells #[.int .i64 xo, .int .i64 (m : Int), .int .i64 xa, .int .i64 xb, .int .i64 xc, .int .i64 xk] 91) = w4' at *
      clear d0 d1 d2 d3 d4 d5
      have HR := Lib.hid (oready_any (HFM.out _ hS4.bel) hS4.bel.size ⟨xo, (m : Int), xa, xb, xc, xk⟩ wx HAC.out D ds hS4.d HV.out.hv.1)
      have HQ := Lib.hid (ready_iff HV.out.hv HAC.out.wants)
      obtain ⟨c0, c1, c2, c3, c4, c5⟩ := r9.six'
      obtain ⟨f0, f1, f2, f3, f4, f5⟩ := hS4.g.six'
      have HS4 := Lib.hid hS4
      have hg9l := r9.lt
      have hs4 := hS4.bel.size
      have hs4' := hbW4.size
      have hgD : g9 ≠ D := by omega
      have hgO : g9 ≠ O := by omega
      clear hS4 wx hg9 ba
      by_cases hr : ∀ n ∈ wantsAll f ⟨xo, (m : Int), xa, xb, xc, xk⟩, bGet ds n = true
      rotate_left 1
      · have HP' := Lib.hid (upto_succ HP.out (fun y hy => by rw [HX.out] at hy; injection hy with hy; rw [← hy]; exact fun g => hr (HQ.out.2 g)))
        rw [cB_false hr] at HR
        clear hr
        go_wp2_with fail
        (with_reducible refine HR.out.mono ?_)
        rintro e w5' ⟨rfl, hb5'⟩
        have hbW5 := hbW4.trans (hb5'.mono hs4')
        clear c0 c1 c2 c3 c4 c5 f0 f1 f2 f3 f4 f5
        go_wp2_with fail
        go_roundw
        case rel => exact ⟨k + 1, by omega, rfl, rfl, by go_num, HP'.out, hbW5⟩
        case measure => simp [intOf]; omega
      have HRD := Lib.hid (HQ.out.1 hr)
      obtain ⟨l1, l2, hl1, hl⟩ : ∃ l1 l2, l1.length = k ∧ l = l1 ++ ⟨xo, (m : Int), xa, xb, xc, xk⟩ :: l2 := ⟨l.take k, l.drop (k + 1), by simp; omega, by rw [← getI_drop HX.out, List.take_append_drop]⟩
      have HL := Lib.hid hl
      have HN1 : Hid (∀ y ∈ l1, ¬ readyOk f H y) := fun y hy => by
        obtain ⟨i, hi⟩ := List.getElem?_of_mem hy
        have hil := (List.getElem?_eq_some_iff.1 hi).1
        exact HP.out i (by omega) y (by rw [hl, List.getElem?_append_left hil]; exact hi)
      have hll : l.length = l1.length + 1 + l2.length := by rw [hl]; simp; omega
      obtain rfl : k = l1.length := hl1.symm
      have HLL := Lib.hid hll
      rw [cB_true hr] at HR
      clear hr hl hl1 HP hll
      go_wp2_with fail
      (with_reducible refine HR.out.mono ?_)
      rintro e w5' ⟨rfl, hb5'⟩
      have hS5 := HS4.out.below hb5'
      have r95 := r9.below hb5' hg9l
      have hbW5 := hbW4.trans (hb5'.mono hs4')
      clear c0 c1 c2 c3 c4 c5 f0 f1 f2 f3 f4 f5 HR hb5' r9
      obtain ⟨c0, c1, c2, c3, c4, c5⟩ := r95.six'
      have fD := hS5.d.frozen m
      have cD := ds_cell hS5.d (n := m) (by rw [HV.out.hv.1]; exact hm)
      have rD6 := ds_set (m := m) hS5.d true
      have rG6 := Row.far hS5.g (p := ⟨D, m, none⟩) (show w.heap.size ≠ D by omega) (.bool true)
      have rR6 := Row.far hS5.r (p := ⟨D, m, none⟩) (show w.heap.size + 1 ≠ D by omega) (.bool true)
      have rX6 := Row.far r95 (p := ⟨D, m, none⟩) hgD (.bool true)
      have hO6 := own_far hS5.o (p := ⟨D, m, none⟩) (fun k hk => by injection hk with hk; subst hk; dsimp only; omega) (.bool true)
      have hw6 := own_far hS5.wt (p := ⟨D, m, none⟩) (fun k hk => by injection hk with hk; subst hk; dsimp only; omega) (.bool true)
      have bel6 := hS5.bel.setCell (p := ⟨D, m, none⟩) (show w.heap.size ≤ D by omega) (.bool true)
      have hs6 : B6 ≤ (w5'.setCell ⟨D, m, none⟩ (.bool true)).heap.size := by simpa [World.setCell] using hS5.hB'
      generalize bGet ds (m : Int) = V at cD
      clear hS5 r95
      go_upto_region 11 with (fail)
      generalize w5'.setCell ⟨D, m, none⟩ (.bool true) = w6 at *
      clear c0 c1 c2 c3 c4 c5 cD fD
      obtain ⟨c0, c1, c2, c3, c4, c5⟩ := rX6.six'
      have hroom : dn + 1 ≤ f.acts.length := by have := HV.out.len; have := hdn.out; have := HLL.out; (try simp only [List.length_nil] at *); omega
      have HO6 := Lib.hid hO6
      have HW6 := Lib.hid hw6
      clear hO6 hw6
      go_wp2_with (at_builtin; refine wpList_append_own_spare _ rfl _ _ 45 rfl O 91 i0 6 Try.underlying45 hi0 hz1 O dn f.acts.length (acF done) rfl ((show w6.ownsRow O 91 6 (.slice (some ⟨O, 0, none⟩) dn f.acts.length) dn (acF done) by have := HO6.out; rwa [← hdn.out] at this).alloc _) ⟨w6.heap.size, 0, none⟩ 1 1 (acC ⟨xo, (m : Int), xa, xb, xc, xk⟩) rfl rfl ?k1 ?k2 ?k3 ?_)
      case k1 => exact cells_new _ _ _
      case k2 => exact acC_one _
      case k3 => exact hroom
      intro w7 ho7 hg7
      have ba7 : Below w6.heap.size w6 (w6.alloc (.cells (acC ⟨xo, (m : Int), xa, xb, xc, xk⟩).toArray 91)) := bE
      have hOg : O ≠ g := by omega
      have hOw : O < w6.heap.size := by omega
      have rG7 := Row.grown (rG6.below ba7 rG6.lt) hg7 (by intro e; injection e with e; omega)
      have rR7 := Row.grown (rR6.below ba7 rR6.lt) hg7 (by intro e; injection e with e; omega)
      have rD7 := Row.grown (rD6.below ba7 rD6.lt) hg7 (by intro e; injection e with e; omega)
      have hw7 := own_grown (own_below HW6.out ba7) hg7 (fun k hk e => by injection hk with hk; injection e with e; exact hOg (by rw [e]; exact hk.symm))
      have bel7 : Below w.heap.size w w7 := (bel6.trans (ba7.mono bel6.size)).grown hg7 (Nat.le_trans bel6.size ba7.size) (fun k hk => by injection hk with hk; omega)
      have hs7 : B6 ≤ w7.heap.size := Nat.le_trans hs6 (Nat.le_trans ba7.size hg7.size)
      have HD : Hid (Calls Try.prog 66 #[.slice (some ⟨g, 0, none⟩) l.length c6, .int .i64 l1.length, .int .i64 ((l1.length : Int) + 1)] w7 fun e w' => e = .returned (.slice (some ⟨g, 0, none⟩) (l1.length + l2.length) c6) ∧ w'.ownsRow B6 91 6 (.slice (some ⟨g, 0, none⟩) (l1.length + l2.length) c6) (l1.length + l2.length) (acF (l1 ++ l2)) ∧ Upd (fun k => k = g) w7 w') := by
        have h0 := hw7
        rw [HLL.out, HL.out] at h0
        have := delete_ac h0
        rw [← HLL.out, Int.natCast_add, Int.natCast_one] at this
        exact this
      have HO7 := Lib.hid ho7
      clear c0 c1 c2 c3 c4 c5 hw7 ho7 hg7 rG6 rR6 rD6 rX6 ba7 bel6
      go_wp2_with fail
      (with_reducible refine HD.out.mono ?_)
      rintro e w8 ⟨rfl, ho8, hu8⟩
      have HO8 := Lib.hid ho8
      have hfin : OSt f #[(.slice Aw f.wires.length cw), .slice Aa f.acts.length ca, (.slice Acl f.cells.length cc), (.slice Ak f.keeps.length ck), (.slice Ai f.ins.length ci), (.slice Ao f.outs.length co)] w w8 D O B6 (.slice (some ⟨g, 0, none⟩) (l1.length + l2.length) c6) ((m : Int) :: H) (ds.set m true) (done ++ [⟨xo, (m : Int), xa, xb, xc, xk⟩]) (l1 ++ l2) :=
        OSt.next HV.out HL.out HN1.out HRD.out HAC.out.dst (bel7.trans (hu8.below (fun k hk => by omega) bel7.size)) (hu8.row rG7 (by omega)) (hu8.row rR7 (by omega)) (hu8.row rD7 (by omega)) (own_updX HO7.out hu8 (fun k hk e => by injection hk with hk; exact hOg (by rw [← e]; exact hk))) hdn.out ho8 (Nat.le_trans hs7 hu8.size)
      have HFIN := Lib.hid hfin
      have hmeas : l1.length + l2.length < l.length := by have := HLL.out; omega
      clear hfin ho8 hu8 rG7 rR7 rD7 bel7
      go_wp2_with fail
      go_step3
      refine ⟨rfl, ⟨D, O, B6, _, _, _, _, _, _, _, _, _, _, _, _, _, _, _, _, _, _, _, _, _, _, _, _, _, _, _, _, _, _, _, _, _, _, _, _, _, _, _, _, _, _, _, _, _, _, _, _, _, rfl, HFIN.out, (by show _ = _; rw [List.length_append, ← hdn.out]; rfl)⟩, ?_⟩
      simpa [lenOf] using hmeas
end Go.Proofs.Ytbjaejgechadpaa
namespace Go.Proofs.Ytbjaejgechadpaa
open Go.RowKit Vf Fo
attribute [local go_sem ↓] Go.wp_at_zero Go.wp_at_succ
def fm0 : Value := fmV (.slice none 0 0) (.slice none 0 0) (.slice none 0 0) (.slice none 0 0) (.slice none 0 0) (.slice none 0 0)
set_option maxRecDepth 100000 in
set_option maxHeartbeats 8000000 in
theorem order_no (f : Fm) (vw va vc vk vi vo : Value) (w : World) (h : FmAt w w.heap.size f vw va vc vk vi vo) (hcl : f.cells.length ≤ 1600) (hf : ¬ formOk f) :
    Calls Try.prog 26 #[fmV vw va vc vk vi vo] w fun e w' => e = .returned (.tuple #[fm0, .int .i64 2]) ∧ Below w.heap.size w w' := by
  have b1 : Below w.heap.size w ((w.alloc (.cells #[vw, va, vc, vk, vi, vo] 48)).alloc (.cells zf6 48)) := bE
  have rG1 : Row ((w.alloc (.cells #[vw, va, vc, vk, vi, vo] 48)).alloc (.cells zf6 48)) w.heap.size #[vw, va, vc, vk, vi, vo] 48 := (Row.new w _ _).alloc _
  have rR1 : Row ((w.alloc (.cells #[vw, va, vc, vk, vi, vo] 48)).alloc (.cells zf6 48)) (w.heap.size + 1) zf6 48 := rowNew2 w _ _ _
  have HR := Lib.hid (nright_any f vw va vc vk vi vo _ (h.next b1) hcl)
  rw [cB_false hf] at HR
  clear h hcl hf
  go_enter Try.func26, Try.ntmps26
  go_wp2_with fail
  go_step3
  go_upto_region 1 with (fail)
  change Code.wp _ _ _ _ ((w.alloc (.cells #[vw, va, vc, vk, vi, vo] 48)).alloc (.cells zf6 48))
  generalize (w.alloc (.cells #[vw, va, vc, vk, vi, vo] 48)).alloc (.cells zf6 48) = w1 at *
  have hs1 := b1.size
  have hG1 := rR1.lt
  obtain ⟨f0, f1, f2, f3, f4, f5⟩ := rG1.six'
  go_wp2_with fail
  (with_reducible refine HR.out.mono ?_)
  rintro e w2 ⟨rfl, hb2⟩
  have b2 := b1.trans (hb2.mono hs1)
  have rR2 := rR1.below hb2 hG1
  clear f0 f1 f2 f3 f4 f5 HR hb2 rG1 rR1
  obtain ⟨q0, q1, q2, q3, q4, q5⟩ := Row.six' (x0 := .slice none 0 0) (x1 := .slice none 0 0) (x2 := .slice none 0 0) (x3 := .slice none 0 0) (x4 := .slice none 0 0) (x5 := .slice none 0 0) rR2
  have z0 := rR2.frozen 0
  have z1 := rR2.frozen 1
  have z2 := rR2.frozen 2
  have z3 := rR2.frozen 3
  have z4 := rR2.frozen 4
  have z5 := rR2.frozen 5
  go_wp2_with fail
  rw [Exit.noGoto_ret]
  refine bodyPost_ret (res2 rfl Try.underlying48 rfl (by kernel_rfl) rfl rfl (Row.set6 rR2 _ _ _ _ _ _)) rfl ⟨rfl, ?_⟩
  exact b2.trans ((upd_set6 _ _ _ _ _ _).below (fun k hk => by omega) b2.size)
end Go.Proofs.Ytbjaejgechadpaa
