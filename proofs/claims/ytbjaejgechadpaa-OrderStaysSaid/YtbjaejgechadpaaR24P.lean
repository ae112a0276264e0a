/-
  What the document asks of a form, in its own order, is what makes it right.
-/
import Derived.Test.YtbjaejgechadpaaR24C6
import Derived.Test.YtbjaejgechadpaaPlainA
namespace Go.Proofs.Ytbjaejgechadpaa.Fo
open Vf
def D1 (f : Fm) : Prop := (1 ≤ f.wires.length ∧ f.wires.length ≤ 1600) ∧ f.cells.length ≤ 60 ∧ f.keeps.length = f.cells.length ∧ f.acts.length + f.ins.length = f.wires.length
def D4 (f : Fm) : Prop := ∀ (j : Nat) y, f.ins[j]? = some y → y ∉ f.ins.take j
def D5 (f : Fm) : Prop := ∀ (i : Nat) c, f.cells[i]? = some c → valueOk c.1 c.2 ∧ isW f (rk i (-1) f.keeps) ∧ tyOf f (rk i (-1) f.keeps) = c.1
def D6 (f : Fm) : Prop := ∀ (i : Nat) x, f.acts[i]? = some x → isW f x.dst ∧ x.dst ∉ f.ins ∧ byR x.dst 0 f.acts = i ∧ actOk f x
def rangeI (n : Nat) : List Int := (List.range n).map (fun (i : Nat) => (i : Int))
theorem rangeI_len (n : Nat) : (rangeI n).length = n := by simp [rangeI]
theorem rangeI_mem {n : Nat} {x : Int} : x ∈ rangeI n ↔ 0 ≤ x ∧ x < n := by
  simp only [rangeI, List.mem_map, List.mem_range]
  constructor
  · rintro ⟨a, h, rfl⟩; omega
  · rintro ⟨h1, h2⟩; exact ⟨x.toNat, by omega, by omega⟩
theorem rangeI_nodup (n : Nat) : (rangeI n).Nodup := by
  unfold rangeI
  rw [List.nodup_iff_pairwise_ne, List.pairwise_map]
  exact (List.nodup_range (n := n)).imp (fun h => by omega)
theorem nodup_cover : ∀ (D H : List Int), H.Nodup → (∀ n ∈ H, n ∈ D) → D.length ≤ H.length → D.Nodup
  | [], _, _, _, _ => List.nodup_nil
  | a :: D, H, hd, hs, hl => by
    have ha : a ∉ D := fun ha => by
      have := nodup_len H D hd (fun n hn => by rcases List.mem_cons.1 (hs n hn) with rfl | h; exact ha; exact h)
      simp at hl; omega
    refine List.nodup_cons.2 ⟨ha, ?_⟩
    by_cases hm : a ∈ H
    · refine nodup_cover D (H.erase a) (hd.erase a) (fun n hn => ?_) (by rw [List.length_erase_of_mem hm]; simp at hl; omega)
      have hna : n ≠ a := fun e => by rw [e] at hn; exact (List.Nodup.not_mem_erase hd) hn
      rcases List.mem_cons.1 (hs n (List.mem_of_mem_erase hn)) with rfl | h
      · exact absurd rfl hna
      · exact h
    · exact nodup_cover D H hd (fun n hn => by
        rcases List.mem_cons.1 (hs n hn) with rfl | h
        · exact absurd hn hm
        · exact h) (by simp at hl; omega)
/-! ### by -/
theorem by_ge {n : Int} : ∀ {l : List Ac} {i : Nat}, byR n i l ≠ -1 → (i : Int) ≤ byR n i l
  | [], i, h => absurd rfl h
  | x :: l, i, h => by
    rw [byR] at h ⊢
    by_cases e : x.dst = n
    · rw [if_pos e]; exact Int.le_refl _
    · rw [if_neg e] at h ⊢
      have := by_ge h
      omega
theorem by_first {l : List Ac} (hp : l.Pairwise (fun x y => x.dst ≠ y.dst)) : ∀ {i k : Nat} {x : Ac}, l[k]? = some x → byR x.dst i l = (i + k : Nat) := by
  induction l with
  | nil => intro i k x h; simp at h
  | cons y l ih =>
    intro i k x h
    rw [List.pairwise_cons] at hp
    rw [byR]
    cases k with
    | zero =>
      simp at h
      rw [if_pos (by rw [h])]
      simp
    | succ k =>
      simp at h
      rw [if_neg (hp.1 x (List.mem_of_getElem? h)), ih hp.2 h]
      congr 1
      omega
theorem by_same {n : Int} : ∀ {l : List Ac} {i k : Nat} {x : Ac}, l[k]? = some x → x.dst = n → byR n i l ≤ (i + k : Nat)
  | [], i, k, x, h, _ => by simp at h
  | y :: l, i, k, x, h, e => by
    rw [byR]
    by_cases ey : y.dst = n
    · rw [if_pos ey]; omega
    · rw [if_neg ey]
      cases k with
      | zero => simp at h; rw [h] at ey; exact absurd e ey
      | succ k =>
        simp at h
        have := by_same (i := i + 1) h e
        omega
theorem d4_pair {f : Fm} : D4 f ↔ ∀ (i j : Nat) x y, i < j → f.ins[i]? = some x → f.ins[j]? = some y → x ≠ y := by
  constructor
  · intro h i j x y hij hx hy e
    refine h j y hy (List.mem_iff_getElem?.2 ⟨i, ?_⟩)
    rw [List.getElem?_take_of_lt hij, hx, e]
  · intro h j y hy hm
    obtain ⟨i, hi⟩ := List.getElem?_of_mem hm
    rw [List.getElem?_take] at hi
    split at hi
    · rename_i hij
      exact h i j y y hij hi hy rfl
    · cases hi
theorem d6_defined {f : Fm} (h1 : D1 f) (hi : ∀ n ∈ f.ins, isW f n) (h4 : D4 f) (h6 : D6 f) : definedOk f := by
  have hp : (f.acts.map (·.dst)).Nodup := nodup_of (fun i j x y hij hx hy e => by
    have a1 := (h6 j y hy).2.2.1
    have a2 := by_same (i := 0) (n := y.dst) hx e
    rw [a1] at a2
    omega)
  have hnd : (dsts f f.acts).Nodup := by
    unfold dsts
    rw [List.nodup_append]
    refine ⟨pair_of (d4_pair.1 h4), hp, fun a ha b hb e => ?_⟩
    obtain ⟨x, hx, rfl⟩ := List.mem_map.1 hb
    obtain ⟨i, hi'⟩ := List.getElem?_of_mem hx
    exact (h6 i x hi').2.1 (e ▸ ha)
  refine defined_iff.2 ⟨hnd, fun a ha => ?_, fun n hn => ?_⟩
  · obtain ⟨i, hi'⟩ := List.getElem?_of_mem ha
    exact (h6 i a hi').1
  · refine sub_full (dsts f f.acts) (rangeI f.wires.length) hnd (fun m hm => ?_) ?_ n (rangeI_mem.2 ⟨by omega, by omega⟩)
    · rcases List.mem_append.1 hm with h | h
      · exact rangeI_mem.2 (hi m h)
      · obtain ⟨x, hx, rfl⟩ := List.mem_map.1 h
        obtain ⟨i, hi'⟩ := List.getElem?_of_mem hx
        exact rangeI_mem.2 (h6 i x hi').1
    · rw [rangeI_len]
      simp [dsts]
      have := h1.2.2.2
      omega
theorem d5_cells {f : Fm} (h1 : D1 f) (h5 : D5 f) : cellsOk f := by
  have hc : ∀ i : Nat, i < f.cells.length → ∃ k ∈ f.keeps, k.1 = i := fun i hi => by
    apply Classical.byContradiction
    intro hn
    have h0 := (h5 i _ (List.getElem?_eq_getElem hi)).2.1
    rw [rk_none (fun k hk e => hn ⟨k, hk, e⟩)] at h0
    have := h0.1
    omega
  have hsub : ∀ n ∈ rangeI f.cells.length, n ∈ f.keeps.map (·.1) := fun n hn => by
    obtain ⟨a, b⟩ := rangeI_mem.1 hn
    obtain ⟨k, hk, e⟩ := hc n.toNat (by omega)
    exact List.mem_map.2 ⟨k, hk, by omega⟩
  have hlen : (f.keeps.map (·.1)).length ≤ (rangeI f.cells.length).length := by rw [rangeI_len, List.length_map, h1.2.2.1]; exact Nat.le_refl _
  have hnd := nodup_cover _ _ (rangeI_nodup _) hsub hlen
  have hback := sub_full _ _ (rangeI_nodup f.cells.length) hsub hlen
  have hpw : f.keeps.Pairwise (fun x y => x.1 ≠ y.1) := List.pairwise_map.1 hnd
  refine ⟨fun c hc' => ?_, h1.2.1, fun k hk => ?_, of_pair hpw, hc⟩
  · obtain ⟨i, hi⟩ := List.getElem?_of_mem hc'
    exact (h5 i c hi).1
  · obtain ⟨a, b⟩ := rangeI_mem.1 (hback k.1 (List.mem_map.2 ⟨k, hk, rfl⟩))
    obtain ⟨m, hm⟩ := Int.eq_ofNat_of_zero_le a
    have hml : m < f.cells.length := by omega
    have hx := List.getElem?_eq_getElem hml
    obtain ⟨_, q1, q2⟩ := h5 m _ hx
    have hkept : (f.keeps.find? (fun x => x.1 == (m : Int))).map (·.2) = some k.2 := by
      have : f.keeps.find? (fun x => x.1 == (m : Int)) = some k := by
        cases hf : f.keeps.find? (fun x => x.1 == (m : Int)) with
        | none =>
          have := List.find?_eq_none.1 hf k hk
          simp [hm] at this
        | some y =>
          have hy := List.mem_of_find?_eq_some hf
          have hy1 := List.find?_some hf
          simp at hy1
          have hky : y.1 = k.1 := by rw [hy1, hm]
          obtain ⟨i, hi⟩ := List.getElem?_of_mem hy
          obtain ⟨j, hj⟩ := List.getElem?_of_mem hk
          rcases Nat.lt_trichotomy i j with h | h | h
          · exact absurd hky (of_pair hpw i j y k h hi hj)
          · rw [h, hj] at hi; injection hi with hi; rw [hi]
          · exact absurd hky.symm (of_pair hpw j i k y h hj hi)
      rw [this]; rfl
    rw [rk_first hpw hkept] at q1 q2
    refine ⟨a, b, q1, ?_⟩
    rw [q2, hm]
    have : (types f.cells)[m]? = some (f.cells[m]).1 := by simp [types, hml]
    simp [getI, List.getD_eq_getElem?_getD, this]
theorem ok_d {f : Fm} (h : formOk f) : D1 f ∧ D4 f ∧ D5 f ∧ D6 f := by
  obtain ⟨hw, hi, ho, hc, hd, ha, hr⟩ := h
  have hd' := defined_iff.1 hd
  have hpw : f.keeps.Pairwise (fun x y => x.1 ≠ y.1) := pair_of hc.2.2.2.1
  have hkn : (f.keeps.map (·.1)).Nodup := List.pairwise_map.2 hpw
  refine ⟨⟨⟨hw.2.1, hw.2.2⟩, hc.2.1, ?_, ?_⟩, d4_pair.2 hd.1, fun i c hic => ?_, fun i x hx => ?_⟩
  · have l1 := nodup_len _ (rangeI f.cells.length) hkn (fun n hn => by
      obtain ⟨k, hk, rfl⟩ := List.mem_map.1 hn
      exact rangeI_mem.2 ⟨(hc.2.2.1 k hk).1, (hc.2.2.1 k hk).2.1⟩)
    have l2 := nodup_len _ (f.keeps.map (·.1)) (rangeI_nodup f.cells.length) (fun n hn => by
      obtain ⟨a, b⟩ := rangeI_mem.1 hn
      obtain ⟨k, hk, e⟩ := hc.2.2.2.2 n.toNat (by omega)
      exact List.mem_map.2 ⟨k, hk, by omega⟩)
    rw [rangeI_len, List.length_map] at l1 l2
    omega
  · have l1 := nodup_len _ (rangeI f.wires.length) hd'.1 (fun n hn => by
      rcases List.mem_append.1 hn with h | h
      · exact rangeI_mem.2 (hi.1 n h).1
      · obtain ⟨x, hx, rfl⟩ := List.mem_map.1 h
        exact rangeI_mem.2 (hd'.2.1 x hx))
    have l2 := nodup_len _ (dsts f f.acts) (rangeI_nodup f.wires.length) (fun n hn => by
      obtain ⟨a, b⟩ := rangeI_mem.1 hn
      have := hd'.2.2 n.toNat (by omega)
      rwa [show ((n.toNat : Nat) : Int) = n by omega] at this)
    rw [rangeI_len] at l1 l2
    simp [dsts] at l1 l2
    omega
  · have hil := (List.getElem?_eq_some_iff.1 hic).1
    obtain ⟨n, hk, hnw, hnt⟩ := kept_isW hc hil
    have hrk := rk_kept hc hil hk
    rw [hrk]
    refine ⟨hc.1 c (List.mem_of_getElem? hic), hnw, hnt.trans ?_⟩
    have : (types f.cells)[i]? = some c.1 := by simp [types, hic]
    simp [getI, List.getD_eq_getElem?_getD, this]
  · have hxm := List.mem_of_getElem? hx
    refine ⟨(hd.2.1 x hxm).1, (hd.2.1 x hxm).2, ?_, ha x hxm⟩
    have := by_first (pair_of hd.2.2.1) (i := 0) hx
    rw [this]; simp
theorem d_ok {f : Fm} (h1 : D1 f) (h2 : ∀ w ∈ f.wires, wireOk f w) (h3 : portsOk f f.ins) (h3' : portsOk f f.outs) (h4 : D4 f) (h5 : D5 f) (h6 : D6 f) (h7 : rowOk f) : formOk f :=
  ⟨⟨h2, h1.1.1, h1.1.2⟩, h3, h3', d5_cells h1 h5, d6_defined h1 (fun n hn => (h3.1 n hn).1) h4 h6, fun x hx => by
    obtain ⟨i, hi⟩ := List.getElem?_of_mem hx
    exact (h6 i x hi).2.2.2, h7⟩
theorem notYet_one {ds : List Bool} {n : Int} (h0 : 0 ≤ n) (h1 : n < ds.length) (hf : bGet ds n = false) : notYet (ds.set n.toNat true) + 1 = notYet ds := by
  unfold notYet
  have hl : n.toNat < ds.length := by omega
  simp only [bGet, List.getD_eq_getElem?_getD, List.getElem?_eq_getElem hl, Option.getD_some] at hf
  have hp : 0 < ds.countP (fun b => !b) := List.countP_pos_iff.2 ⟨ds[n.toNat], List.getElem_mem hl, by simp [hf]⟩
  rw [List.countP_set hl, hf, Bool.not_false, if_pos rfl, Bool.not_true, if_neg (by decide)]
  omega
theorem notYet_zero {ds : List Bool} : notYet ds = 0 ↔ ∀ b ∈ ds, b = true := by
  unfold notYet
  rw [List.countP_eq_zero]
  simp
end Go.Proofs.Ytbjaejgechadpaa.Fo
