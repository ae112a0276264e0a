/-
  Slices of slices; what is appended: words for all data.
-/
import Derived.Test.YtolabbnchmmckaaSl
import Derived.Maps.AppendAt
namespace Go.Proofs.Ytolabbnchmmckaa
open Go.RowKit
section
variable {α : Type} {w w' : World} {B size b off : Nat} {rel : α → List Value → Prop} {A : Option Addr} {l : List α}
theorem Sl.get (h : Sl w B size rel (some ⟨b, off, none⟩) l) {i : Nat} {x : α} (hi : l[i]? = some x) : ∃ cs : List Value, (∀ j u, cs[j]? = some u → w.cell? ⟨b, off + i * size + j, none⟩ = some u) ∧ rel x cs := by
  obtain ⟨b', off', hA, hb, hx⟩ := h (by have := (List.getElem?_eq_some_iff.1 hi).1; omega)
  injection hA with hA
  injection hA with h1 h2
  subst h1; subst h2
  exact hx i x hi
theorem Sl.lt (h : Sl w B size rel (some ⟨b, off, none⟩) l) (hl : 0 < l.length) : b < B := by
  obtain ⟨b', off', hA, hb, hx⟩ := h hl
  injection hA with hA
  injection hA with h1 h2
  subst h1
  exact hb
theorem Sl.take (h : Sl w B size rel A l) (k : Nat) : Sl w B size rel A (l.take k) := fun hl => by
  have hl' : 0 < l.length := by rw [List.length_take] at hl; omega
  obtain ⟨b', off', hA, hb, hx⟩ := h hl'
  refine ⟨b', off', hA, hb, fun i x hi => hx i x ?_⟩
  rw [List.getElem?_take] at hi
  split at hi
  · exact hi
  · cases hi
theorem Sl.drop (h : Sl w B size rel (some ⟨b, off, none⟩) l) (k : Nat) : Sl w B size rel (some ⟨b, off + k * size, none⟩) (l.drop k) := fun hl => by
  have hl' : 0 < l.length := by rw [List.length_drop] at hl; omega
  refine ⟨b, off + k * size, rfl, h.lt hl', fun i x hi => ?_⟩
  rw [List.getElem?_drop] at hi
  obtain ⟨cs, hc, hr⟩ := h.get hi
  refine ⟨cs, fun j u hu => ?_, hr⟩
  rw [show off + k * size + i * size + j = off + (k + i) * size + j by rw [Nat.add_mul]; omega]
  exact hc j u hu
/-- the cells, one element's behind the other's -/
theorem Sl.flat {f : α → List Value} (h : Sl w B size rel (some ⟨b, off, none⟩) l) (hf : ∀ x cs, rel x cs → cs = f x) (hl : ∀ x, (f x).length = size) :
    ∀ j u, ((l.map f).flatten)[j]? = some u → w.cell? ((⟨b, off, none⟩ : Addr).add j) = some u := by
  intro j u hu
  have hc : ∀ cs ∈ l.map f, cs.length = size := fun cs hcs => by
    obtain ⟨x, _, rfl⟩ := List.mem_map.1 hcs
    exact hl x
  have hj : j < l.length * size := by
    have := (List.getElem?_eq_some_iff.1 hu).1
    rwa [flatten_len hc, List.length_map] at this
  have hs : 0 < size := by
    rcases Nat.eq_zero_or_pos size with h0 | h0
    · rw [h0] at hj; omega
    · exact h0
  have hi : j / size < l.length := Nat.div_lt_of_lt_mul (by rwa [Nat.mul_comm] at hj)
  have hr : j % size < size := Nat.mod_lt _ hs
  have he : j = j / size * size + j % size := by rw [Nat.mul_comm]; exact (Nat.div_add_mod j size).symm
  obtain ⟨cs, h1, h2⟩ := h.get (List.getElem?_eq_getElem hi)
  have hcs := hf _ _ h2
  have hg : (l.map f)[j / size]? = some cs := by rw [List.getElem?_map, List.getElem?_eq_getElem hi, hcs]; rfl
  have := flatten_get hc hg hr
  rw [← he, hu] at this
  have := h1 (j % size) u this.symm
  rw [Addr.add_lit]
  rw [he]
  rwa [Nat.add_assoc] at this
theorem flat_len {f : α → List Value} (hl : ∀ x, (f x).length = size) : ((l.map f).flatten).length = l.length * size := by
  have hc : ∀ cs ∈ l.map f, cs.length = size := fun cs hcs => by
    obtain ⟨x, _, rfl⟩ := List.mem_map.1 hcs
    exact hl x
  rw [flatten_len hc, List.length_map]
theorem Are.map {f : α → List Value} (h : ∀ x ∈ l, rel x (f x)) : Are rel l (l.map f) := ⟨by simp, fun i x cs hx hc => by
  rw [List.getElem?_map, hx] at hc
  simp at hc
  rw [← hc]
  exact h x (List.mem_of_getElem? hx)⟩
theorem Sl.all {P : α → Prop} (h : Sl w B size rel A l) (hp : ∀ x cs, rel x cs → P x) : ∀ x ∈ l, P x := fun x hx => by
  obtain ⟨i, hi⟩ := List.getElem?_of_mem hx
  obtain ⟨b, off, y, cs, _, _, hy, hr, _⟩ := h.at_ (List.getElem?_eq_some_iff.1 hi).1
  rw [hi] at hy
  injection hy with hy
  rw [hy]
  exact hp _ _ hr
end
section
variable {P : Program} (w : World)
theorem wp_append_any {o : Oper} {a : Act} {K : Act → World → Prop} {Q : Exit → Act → World → Prop} (s x : Operand) (t : TypeId)
    (ho : o.op = .call { callee := .builtin .append, args := #[s, x], argTypes := #[t, t] })
    (base : Nat) (e : TypeId) (i : TypeInfo) (z : Value) (size bytes : Nat) (ht : P.underlying t = some (.slice e)) (hi : P.info? e = some i) (hz : i.zero = some z)
    (hsize : i.size = size) (hby : i.bytes = bytes) (hzs : z.cells.size = size) (hsz : 0 < size)
    (v : Value) (n : Nat) (xs : List Value) (hs : a.eval s = v) (hown : w.ownsRow base e size v n xs)
    (ad : Addr) (m c : Nat) (news : List Value) (hx : a.eval x = .slice (some ad) m c) (hl : news.length = m * size) (hnews : ∀ j u, news[j]? = some u → w.cell? (ad.add j) = some u) (h1 : ∀ u ∈ news, u.oneCell' = true)
    (h63 : n + m ≤ maxLen) (hbytes : (n + m) * bytes ≤ 140737488355328) (hbase : base ≤ w.heap.size)
    (h : ∀ v' w', w'.ownsRow base e size v' (n + m) (xs ++ news) → w.grownBy w' v.ownBlock → (v'.ownBlock = v.ownBlock ∨ v'.ownBlock = some w.heap.size) → K (a.put o.dst v') w') : o.wp P a w K Q := by
  obtain ⟨v', w', hr, h2, h3, _, h5⟩ := run_append_own_at (P := P) w base t o.type e i z size bytes ht hi hz hsize hby hzs hsz v n xs hown ad m c news hl hnews h1 h63 hbytes hbase
  unfold Oper.wp execOp
  simp only [ho, resolve, invoke, builtin, Sem.run_bind, Sem.run_pure, Result.andThen_ok, List.map_toArray, List.map_cons, List.map_nil, hs, hx, hr]
  exact h v' w' h2 h3 h5
theorem step_append_any {ops : Array Oper} {o : Oper} {a : Act} {K : Act → World → Prop} {Q : Exit → Act → World → Prop} {E : Prop} (hgd : o.guard = none) (s x : Operand) (t : TypeId)
    (ho : o.op = .call { callee := .builtin .append, args := #[s, x], argTypes := #[t, t] })
    (base : Nat) (e : TypeId) (i : TypeInfo) (z : Value) (size bytes : Nat) (ht : P.underlying t = some (.slice e)) (hi : P.info? e = some i) (hz : i.zero = some z)
    (hsize : i.size = size) (hby : i.bytes = bytes) (hzs : z.cells.size = size) (hsz : 0 < size)
    (v : Value) (n : Nat) (xs : List Value) (hs : a.eval s = v) (hown : w.ownsRow base e size v n xs)
    (ad : Addr) (m c : Nat) (news : List Value) (hx : a.eval x = .slice (some ad) m c) (hl : news.length = m * size) (hnews : ∀ j u, news[j]? = some u → w.cell? (ad.add j) = some u) (h1 : ∀ u ∈ news, u.oneCell' = true)
    (h63 : n + m ≤ maxLen) (hbytes : (n + m) * bytes ≤ 140737488355328) (hbase : base ≤ w.heap.size)
    (h : ∀ v' w', w'.ownsRow base e size v' (n + m) (xs ++ news) → w.grownBy w' v.ownBlock → (v'.ownBlock = v.ownBlock ∨ v'.ownBlock = some w.heap.size) → K (a.put o.dst v') w') :
    if Region.wanted o (yielded ops a.tmps) = true then Oper.wp P o a w K Q else E := by
  have hw : Region.wanted o (yielded ops a.tmps) = true := by simp [Region.wanted, hgd]
  rw [if_pos hw]
  exact wp_append_any w s x t ho base e i z size bytes ht hi hz hsize hby hzs hsz v n xs hs hown ad m c news hx hl hnews h1 h63 hbytes hbase h
theorem wpList_append_any {ops : Array Oper} {rest : List Oper} {o : Oper} {a : Act} {Q : Exit → Act → World → Prop} (hgd : o.guard = none) (s x : Operand) (t : TypeId)
    (ho : o.op = .call { callee := .builtin .append, args := #[s, x], argTypes := #[t, t] })
    (base : Nat) (e : TypeId) (i : TypeInfo) (z : Value) (size bytes : Nat) (ht : P.underlying t = some (.slice e)) (hi : P.info? e = some i) (hz : i.zero = some z)
    (hsize : i.size = size) (hby : i.bytes = bytes) (hzs : z.cells.size = size) (hsz : 0 < size)
    (v : Value) (n : Nat) (xs : List Value) (hs : a.eval s = v) (hown : w.ownsRow base e size v n xs)
    (ad : Addr) (m c : Nat) (news : List Value) (hx : a.eval x = .slice (some ad) m c) (hl : news.length = m * size) (hnews : ∀ j u, news[j]? = some u → w.cell? (ad.add j) = some u) (h1 : ∀ u ∈ news, u.oneCell' = true)
    (h63 : n + m ≤ maxLen) (hbytes : (n + m) * bytes ≤ 140737488355328) (hbase : base ≤ w.heap.size)
    (h : ∀ v' w', w'.ownsRow base e size v' (n + m) (xs ++ news) → w.grownBy w' v.ownBlock → (v'.ownBlock = v.ownBlock ∨ v'.ownBlock = some w.heap.size) → wpList P ops Q rest (a.put o.dst v') w') : wpList P ops Q (o :: rest) a w :=
  wpList_plain hgd fun _ hK => wp_append_any w s x t ho base e i z size bytes ht hi hz hsize hby hzs hsz v n xs hs hown ad m c news hx hl hnews h1 h63 hbytes hbase fun v' w' h2 h3 h4 => hK _ _ (h v' w' h2 h3 h4)
end
/-- an empty row of the call's own -/
theorem own_empty (w : World) (e : TypeId) (size : Nat) : (w.alloc (.cells #[] e)).ownsRow w.heap.size e size (.slice (some ⟨w.heap.size, 0, none⟩) 0 0) 0 [] :=
  ⟨by simp, .inr ⟨w.heap.size, 0, #[], rfl, Nat.le_refl _, heap_alloc_new w _, Nat.le_refl _, Nat.zero_le _, by simp, by simp⟩⟩
end Go.Proofs.Ytolabbnchmmckaa
