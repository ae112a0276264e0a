/-
  Slices that read, appended to rows of the call's own: words for all data.
-/
import Derived.Test.YtolabbnchmmckaaApp
import Derived.Laws.AppendOwnNone
import Derived.Lib.AppendZeros
namespace Go.Proofs.Ytolabbnchmmckaa
open Go.RowKit
section
variable {α : Type} {w w' : World} {B size : Nat} {rel : α → List Value → Prop} {A : Option Addr} {l : List α}
/-- the cells of a slice that reads -/
theorem Sl.css (h : Sl w B size rel A l) (hs : ∀ x cs, rel x cs → cs.length = size) : ∃ css : List (List Value), Are rel l css ∧ ∀ ad, A = some ad → ∀ j u, css.flatten[j]? = some u → w.cell? (ad.add j) = some u := by
  rcases Nat.eq_zero_or_pos l.length with h0 | h0
  · obtain rfl := List.eq_nil_of_length_eq_zero h0
    exact ⟨[], Are.nil, fun _ _ j u hu => by simp at hu⟩
  obtain ⟨b, off, rfl, hb, hx⟩ := h h0
  have key : ∀ i, ∃ cs : List Value, ∀ x, l[i]? = some x → (∀ j u, cs[j]? = some u → w.cell? ⟨b, off + i * size + j, none⟩ = some u) ∧ rel x cs := fun i => by
    cases hi : l[i]? with
    | none => exact ⟨[], fun x h => by cases h⟩
    | some y =>
      obtain ⟨cs, h1, h2⟩ := hx i y hi
      exact ⟨cs, fun x h => by injection h with h; subst h; exact ⟨h1, h2⟩⟩
  obtain ⟨f, hf⟩ : ∃ f : Nat → List Value, ∀ i x, l[i]? = some x → (∀ j u, (f i)[j]? = some u → w.cell? ⟨b, off + i * size + j, none⟩ = some u) ∧ rel x (f i) :=
    ⟨fun i => Classical.choose (key i), fun i => Classical.choose_spec (key i)⟩
  have hgs : ∀ i cs, ((List.range l.length).map f)[i]? = some cs → i < l.length ∧ cs = f i := fun i cs h => by
    rw [List.getElem?_map] at h
    rcases Nat.lt_or_ge i l.length with hi | hi
    · rw [List.getElem?_range hi] at h
      exact ⟨hi, by simpa using h.symm⟩
    · rw [List.getElem?_eq_none (by simpa using hi)] at h
      cases h
  have hlen : ∀ cs ∈ (List.range l.length).map f, cs.length = size := fun cs hcs => by
    obtain ⟨i, hi⟩ := List.getElem?_of_mem hcs
    obtain ⟨h1, rfl⟩ := hgs i cs hi
    exact hs _ _ (hf i _ (List.getElem?_eq_getElem h1)).2
  refine ⟨(List.range l.length).map f, ⟨by simp, fun i x cs hx hc => ?_⟩, fun ad had j u hu => ?_⟩
  · obtain ⟨_, rfl⟩ := hgs i cs hc
    exact (hf i x hx).2
  · injection had with had
    subst had
    have hj : j < l.length * size := by
      have := (List.getElem?_eq_some_iff.1 hu).1
      rwa [flatten_len hlen, List.length_map, List.length_range] at this
    have hs0 : 0 < size := by
      rcases Nat.eq_zero_or_pos size with h0 | h0
      · rw [h0] at hj; omega
      · exact h0
    have hi : j / size < l.length := Nat.div_lt_of_lt_mul (by rwa [Nat.mul_comm] at hj)
    have hr : j % size < size := Nat.mod_lt _ hs0
    have he : j = j / size * size + j % size := by rw [Nat.mul_comm]; exact (Nat.div_add_mod j size).symm
    have hg : ((List.range l.length).map f)[j / size]? = some (f (j / size)) := by rw [List.getElem?_map, List.getElem?_range hi]; rfl
    have := flatten_get hlen hg hr
    rw [← he, hu] at this
    have := (hf (j / size) _ (List.getElem?_eq_getElem hi)).1 (j % size) u this.symm
    rw [Addr.add_lit]
    rw [he]
    rwa [Nat.add_assoc] at this
theorem Are.len {css : List (List Value)} (h : Are rel l css) (hs : ∀ x cs, rel x cs → cs.length = size) : css.flatten.length = l.length * size := by
  rw [flatten_len (h.all (fun x _ cs hr => hs x cs hr)), h.1]
end
theorem run_append_own_nil {P : Program} {w : World} (base : Nat) (t ty e : TypeId) (i : TypeInfo) (size : Nat) (ht : P.underlying t = some (.slice e)) (hi : P.info? e = some i)
    (v : Value) (n c : Nat) (xs : List Value) (hown : w.ownsRow base e size v n xs) :
    (Builtin.append_ #[t, t] ty #[v, .slice none 0 c]).run P w = .ok v w := by
  rcases hown.2 with ⟨rfl, rfl⟩ | ⟨g, cap, cur, rfl, _, _, hnc, _⟩
  · simp [Builtin.append_, run_underlying ht, sizeOf, typeInfo, hi, Builtin.lenOf, Builtin.firstCells]
  · simp [Builtin.append_, run_underlying ht, sizeOf, typeInfo, hi, Builtin.lenOf, Builtin.firstCells, hnc, storeCells]
section
variable {P : Program} {w : World}
/-- a slice that reads, behind a row of the call's own -/
theorem wp_append_sl {α : Type} {B : Nat} {rel : α → List Value → Prop} {o : Oper} {a : Act} {K : Act → World → Prop} {Q : Exit → Act → World → Prop} (s x : Operand) (t : TypeId)
    (ho : o.op = .call { callee := .builtin .append, args := #[s, x], argTypes := #[t, t] })
    (base : Nat) (e : TypeId) (i : TypeInfo) (z : Value) (size bytes : Nat) (ht : P.underlying t = some (.slice e)) (hi : P.info? e = some i) (hz : i.zero = some z)
    (hsize : i.size = size) (hby : i.bytes = bytes) (hzs : z.cells.size = size) (hsz : 0 < size)
    (v : Value) (n : Nat) (xs : List Value) (hs : a.eval s = v) (hown : w.ownsRow base e size v n xs)
    (A : Option Addr) (l : List α) (c : Nat) (hx : a.eval x = .slice A l.length c) (hsl : Sl w B size rel A l) (hr : ∀ x cs, rel x cs → cs.length = size ∧ ∀ u ∈ cs, u.oneCell' = true)
    (h63 : n + l.length ≤ maxLen) (hbytes : (n + l.length) * bytes ≤ 140737488355328) (hbase : base ≤ w.heap.size)
    (h : ∀ v' w' css, w'.ownsRow base e size v' (n + l.length) (xs ++ css.flatten) → Are rel l css → Below base w w' → w.grownBy w' v.ownBlock → K (a.put o.dst v') w') : o.wp P a w K Q := by
  obtain ⟨css, hare, hc⟩ := hsl.css (fun x cs h => (hr x cs h).1)
  have hl := hare.len (fun x cs h => (hr x cs h).1)
  have hone : ∀ u ∈ css.flatten, u.oneCell' = true := fun u hu => by
    obtain ⟨cs, hcs, hu⟩ := List.mem_flatten.1 hu
    exact hare.all (p := fun cs => ∀ u ∈ cs, u.oneCell' = true) (fun x _ cs h => (hr x cs h).2) cs hcs u hu
  cases A with
  | none =>
    have hl0 : l.length = 0 := by
      rcases Nat.eq_zero_or_pos l.length with h0 | h0
      · exact h0
      · obtain ⟨_, _, h, _⟩ := hsl h0
        cases h
    have hc0 : css.flatten = [] := List.eq_nil_of_length_eq_zero (by rw [hl, hl0, Nat.zero_mul])
    rw [hl0] at hx
    have hrun := run_append_own_nil (P := P) base t o.type e i size ht hi v n c xs hown
    unfold Oper.wp
    simp [execOp, ho, resolve, invoke, builtin, hs, hx, hrun, Result.andThen]
    refine h v w css ?_ hare (Below.refl _ _) ⟨rfl, rfl, rfl, Nat.le_refl _, fun _ _ _ => rfl⟩
    rw [hc0, List.append_nil, hl0, Nat.add_zero]
    exact hown
  | some ad =>
    refine wp_append_any w s x t ho base e i z size bytes ht hi hz hsize hby hzs hsz v n xs hs hown ad l.length c css.flatten hx hl (hc ad rfl) hone h63 hbytes hbase ?_
    intro v' w' h2 h3 _
    exact h v' w' css h2 hare (below_own (Below.refl _ _) hown h3 hbase) h3
theorem wpList_append_sl {α : Type} {B : Nat} {rel : α → List Value → Prop} {ops : Array Oper} {rest : List Oper} {o : Oper} {a : Act} {Q : Exit → Act → World → Prop} (hgd : o.guard = none) (s x : Operand) (t : TypeId)
    (ho : o.op = .call { callee := .builtin .append, args := #[s, x], argTypes := #[t, t] })
    (base : Nat) (e : TypeId) (i : TypeInfo) (z : Value) (size bytes : Nat) (ht : P.underlying t = some (.slice e)) (hi : P.info? e = some i) (hz : i.zero = some z)
    (hsize : i.size = size) (hby : i.bytes = bytes) (hzs : z.cells.size = size) (hsz : 0 < size)
    (v : Value) (n : Nat) (xs : List Value) (hs : a.eval s = v) (hown : w.ownsRow base e size v n xs)
    (A : Option Addr) (l : List α) (c : Nat) (hx : a.eval x = .slice A l.length c) (hsl : Sl w B size rel A l) (hr : ∀ x cs, rel x cs → cs.length = size ∧ ∀ u ∈ cs, u.oneCell' = true)
    (h63 : n + l.length ≤ maxLen) (hbytes : (n + l.length) * bytes ≤ 140737488355328) (hbase : base ≤ w.heap.size)
    (h : ∀ v' w' css, w'.ownsRow base e size v' (n + l.length) (xs ++ css.flatten) → Are rel l css → Below base w w' → w.grownBy w' v.ownBlock → wpList P ops Q rest (a.put o.dst v') w') : wpList P ops Q (o :: rest) a w :=
  wpList_plain hgd fun _ hK => wp_append_sl s x t ho base e i z size bytes ht hi hz hsize hby hzs hsz v n xs hs hown A l c hx hsl hr h63 hbytes hbase fun v' w' css h2 h3 h4 h5 => hK _ _ (h v' w' css h2 h3 h4 h5)
end
end Go.Proofs.Ytolabbnchmmckaa
