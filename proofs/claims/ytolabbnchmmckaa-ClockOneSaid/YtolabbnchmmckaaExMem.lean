/-
  Expressions in memory.
-/
import Derived.Test.YtolabbnchmmckaaSl
import Derived.Test.YtolabbnchmmckaaEx
namespace Go.Proofs.Ytolabbnchmmckaa
open Go.RowKit


def exCells (e : Ex) (A : Option Addr) (cap : Nat) : List Value :=
  [.int .i64 e.op, .string e.name, .int .i64 e.n, .slice A e.args.length cap, .int .i64 e.line, .int .i64 e.col]
structure ExOk (e : Ex) : Prop where
  op : Wf e.op
  name : e.name.size ≤ maxLen
  n : Wf e.n
  line : Wf e.line
  col : Wf e.col
/-- a row of six cells for each part -/
def PartsAt (w : World) (B : Nat) (b off : Nat) (ps : List (List Value → Prop)) : Prop :=
  b < B ∧ ∀ i p, ps[i]? = some p → ∃ cs : List Value, (∀ j u, cs[j]? = some u → w.cell? ⟨b, off + i * 6 + j, none⟩ = some u) ∧ p cs
/-- six cells are an expression -/
noncomputable def IsEx (w : World) (B : Nat) : Ex → List Value → Prop := Ex.para fun e ps cs =>
  ∃ A cap, cs = exCells e A cap ∧ ExOk e ∧ ps.length ≤ cap ∧ cap ≤ maxLen ∧ (0 < ps.length → ∃ b off, A = some ⟨b, off, none⟩ ∧ PartsAt w B b off ps)
theorem isEx_iff {w : World} {B : Nat} {e : Ex} {cs : List Value} : IsEx w B e cs ↔ ∃ A cap, cs = exCells e A cap ∧ ExOk e ∧ e.args.length ≤ cap ∧ cap ≤ maxLen ∧
    (0 < e.args.length → ∃ b off, A = some ⟨b, off, none⟩ ∧ b < B ∧ ∀ i x, e.args[i]? = some x → ∃ cs : List Value, (∀ j u, cs[j]? = some u → w.cell? ⟨b, off + i * 6 + j, none⟩ = some u) ∧ IsEx w B x cs) := by
  unfold IsEx
  rw [Ex.para_eq]
  simp only [List.length_map, PartsAt, List.getElem?_map, Option.map_eq_some_iff, forall_exists_index, and_imp, forall_apply_eq_imp_iff₂]
theorem IsEx.keep {w w' : World} {B : Nat} (hk : ∀ p : Addr, p.block < B → w'.cell? p = w.cell? p) {e : Ex} : ∀ {cs : List Value}, IsEx w B e cs → IsEx w' B e cs := by
  induction e using Ex.ind with
  | h e ih =>
    intro cs h
    obtain ⟨A, cap, h1, h2, h3, h4, h5⟩ := isEx_iff.1 h
    refine isEx_iff.2 ⟨A, cap, h1, h2, h3, h4, fun hn => ?_⟩
    obtain ⟨b, off, hA, hb, hx⟩ := h5 hn
    refine ⟨b, off, hA, hb, fun i x hi => ?_⟩
    obtain ⟨cs', hc, hx'⟩ := hx i x hi
    exact ⟨cs', fun j u hu => (hk ⟨b, off + i * 6 + j, none⟩ hb).trans (hc j u hu), ih x (List.mem_of_getElem? hi) hx'⟩
theorem IsEx.more {w : World} {B B' : Nat} (hB : B ≤ B') {e : Ex} : ∀ {cs : List Value}, IsEx w B e cs → IsEx w B' e cs := by
  induction e using Ex.ind with
  | h e ih =>
    intro cs h
    obtain ⟨A, cap, h1, h2, h3, h4, h5⟩ := isEx_iff.1 h
    refine isEx_iff.2 ⟨A, cap, h1, h2, h3, h4, fun hn => ?_⟩
    obtain ⟨b, off, hA, hb, hx⟩ := h5 hn
    refine ⟨b, off, hA, by omega, fun i x hi => ?_⟩
    obtain ⟨cs', hc, hx'⟩ := hx i x hi
    exact ⟨cs', hc, ih x (List.mem_of_getElem? hi) hx'⟩
theorem IsEx.below {w w' : World} {B : Nat} {e : Ex} {cs : List Value} (h : IsEx w B e cs) (hb : Below B w w') : IsEx w' B e cs := h.keep fun _ hp => hb.cell hp
/-- a slice of expressions -/
def IsExs (w : World) (B : Nat) (A : Option Addr) (l : List Ex) : Prop :=
  0 < l.length → ∃ b off, A = some ⟨b, off, none⟩ ∧ b < B ∧ ∀ i x, l[i]? = some x → ∃ cs : List Value, (∀ j u, cs[j]? = some u → w.cell? ⟨b, off + i * 6 + j, none⟩ = some u) ∧ IsEx w B x cs
theorem IsExs.below {w w' : World} {B : Nat} {A : Option Addr} {l : List Ex} (h : IsExs w B A l) (hb : Below B w w') : IsExs w' B A l := fun hn => by
  obtain ⟨b, off, hA, hbb, hx⟩ := h hn
  refine ⟨b, off, hA, hbb, fun i x hi => ?_⟩
  obtain ⟨cs', hc, hx'⟩ := hx i x hi
  exact ⟨cs', fun j u hu => (hb.cell (p := ⟨b, off + i * 6 + j, none⟩) hbb).trans (hc j u hu), hx'.below hb⟩
theorem IsExs.more {w : World} {B B' : Nat} {A : Option Addr} {l : List Ex} (h : IsExs w B A l) (hB : B ≤ B') : IsExs w B' A l := fun hn => by
  obtain ⟨b, off, hA, hbb, hx⟩ := h hn
  refine ⟨b, off, hA, by omega, fun i x hi => ?_⟩
  obtain ⟨cs', hc, hx'⟩ := hx i x hi
  exact ⟨cs', hc, hx'.more hB⟩
/-- opened: the cells, one by one -/
theorem IsEx.open {w : World} {B : Nat} {e : Ex} {cs : List Value} (h : IsEx w B e cs) : ∃ A cap, cs = exCells e A cap ∧ ExOk e ∧ e.args.length ≤ cap ∧ cap ≤ maxLen ∧ IsExs w B A e.args := isEx_iff.1 h
theorem IsEx.mk' {w : World} {B : Nat} {e : Ex} {A : Option Addr} {cap : Nat} (h1 : ExOk e) (h2 : e.args.length ≤ cap) (h3 : cap ≤ maxLen) (h4 : IsExs w B A e.args) : IsEx w B e (exCells e A cap) := isEx_iff.2 ⟨A, cap, rfl, h1, h2, h3, h4⟩
/-- a part of a slice of expressions: its cells, opened -/
theorem IsExs.at_ {w : World} {B : Nat} {A : Option Addr} {l : List Ex} {k : Nat} (h : IsExs w B A l) (hk : k < l.length) :
    ∃ b off x A' cap', A = some ⟨b, off, none⟩ ∧ b < B ∧ l[k]? = some x ∧ x ∈ l ∧ ExOk x ∧ x.args.length ≤ cap' ∧ cap' ≤ maxLen ∧ IsExs w B A' x.args ∧
      w.cell? ⟨b, off + k * 6, none⟩ = some (.int .i64 x.op) ∧ w.cell? ⟨b, off + k * 6 + 1, none⟩ = some (.string x.name) ∧ w.cell? ⟨b, off + k * 6 + 2, none⟩ = some (.int .i64 x.n) ∧
      w.cell? ⟨b, off + k * 6 + 3, none⟩ = some (.slice A' x.args.length cap') ∧ w.cell? ⟨b, off + k * 6 + 4, none⟩ = some (.int .i64 x.line) ∧ w.cell? ⟨b, off + k * 6 + 5, none⟩ = some (.int .i64 x.col) := by
  obtain ⟨b, off, hA, hb, hx⟩ := h (by omega)
  have hl : l[k]? = some l[k] := List.getElem?_eq_getElem hk
  obtain ⟨cs, hc, hx⟩ := hx k _ hl
  obtain ⟨A', cap', rfl, h1, h2, h3, h4⟩ := hx.open
  exact ⟨b, off, l[k], A', cap', hA, hb, hl, List.getElem_mem hk, h1, h2, h3, h4, hc 0 _ rfl, hc 1 _ rfl, hc 2 _ rfl, hc 3 _ rfl, hc 4 _ rfl, hc 5 _ rfl⟩
abbrev exV (e : Ex) (A : Option Addr) (cap : Nat) : Value := .agg #[.int .i64 e.op, .string e.name, .int .i64 e.n, .slice A e.args.length cap, .int .i64 e.line, .int .i64 e.col]
/-- an expression by value, boxed: its cells stay -/
theorem exBox {w wr : World} {e : Ex} {A : Option Addr} {cap : Nat} (hb : Below (w.heap.size + 1) (w.alloc (.cells #[.int .i64 e.op, .string e.name, .int .i64 e.n, .slice A e.args.length cap, .int .i64 e.line, .int .i64 e.col] 26)) wr) :
    (wr.cell? ⟨w.heap.size, 0, none⟩ = some (.int .i64 e.op) ∧ wr.cell? ⟨w.heap.size, 1, none⟩ = some (.string e.name) ∧ wr.cell? ⟨w.heap.size, 2, none⟩ = some (.int .i64 e.n) ∧
      wr.cell? ⟨w.heap.size, 3, none⟩ = some (.slice A e.args.length cap) ∧ wr.cell? ⟨w.heap.size, 4, none⟩ = some (.int .i64 e.line) ∧ wr.cell? ⟨w.heap.size, 5, none⟩ = some (.int .i64 e.col)) ∧ Below w.heap.size w wr ∧ w.heap.size + 1 ≤ wr.heap.size := by
  have hc : ∀ j, wr.cell? ⟨w.heap.size, j, none⟩ = (w.alloc (.cells #[.int .i64 e.op, .string e.name, .int .i64 e.n, .slice A e.args.length cap, .int .i64 e.line, .int .i64 e.col] 26)).cell? ⟨w.heap.size, j, none⟩ := fun j => hb.cell (p := ⟨w.heap.size, j, none⟩) (Nat.lt_succ_self _)
  refine ⟨⟨?_, ?_, ?_, ?_, ?_, ?_⟩, ((Below.refl _ _).alloc (Nat.le_refl _) _).trans (hb.mono (Nat.le_succ _)), by have := hb.size; simpa using this⟩
  all_goals (rw [hc]; simp)
theorem bcell {W w1 : World} (hb : Below W.heap.size W w1) : (∀ b o, b < W.heap.size → w1.cell? ⟨b, o, none⟩ = W.cell? ⟨b, o, none⟩) ∧ (∀ b o, b < W.heap.size → w1.frozen? ⟨b, o, none⟩ = W.frozen? ⟨b, o, none⟩) :=
  ⟨fun b o h => hb.cell (p := ⟨b, o, none⟩) h, fun b o h => hb.frozen (p := ⟨b, o, none⟩) h⟩

/-! ### rows of expressions of the call's own -/
def ExsAre (w : World) (B : Nat) (l : List Ex) (css : List (List Value)) : Prop := css.length = l.length ∧ ∀ (i : Nat) x cs, l[i]? = some x → css[i]? = some cs → IsEx w B x cs
theorem IsEx.len {w : World} {B : Nat} {e : Ex} {cs : List Value} (h : IsEx w B e cs) : cs.length = 6 := by
  obtain ⟨A, cap, rfl, _⟩ := h.open; rfl
theorem ExsAre.six {w : World} {B : Nat} {l : List Ex} {css : List (List Value)} (h : ExsAre w B l css) : ∀ cs ∈ css, cs.length = 6 := by
  intro cs hcs
  obtain ⟨i, hi⟩ := List.getElem?_of_mem hcs
  have hl : i < l.length := by rw [← h.1]; exact (List.getElem?_eq_some_iff.1 hi).1
  exact (h.2 i _ cs (List.getElem?_eq_getElem hl) hi).len
theorem ExsAre.append {w : World} {B : Nat} {l l' : List Ex} {css css' : List (List Value)} (h : ExsAre w B l css) (h' : ExsAre w B l' css') : ExsAre w B (l ++ l') (css ++ css') := by
  refine ⟨by simp [h.1, h'.1], fun i x cs hx hc => ?_⟩
  rcases Nat.lt_or_ge i l.length with hi | hi
  · rw [List.getElem?_append_left hi] at hx
    rw [List.getElem?_append_left (by rw [h.1]; exact hi)] at hc
    exact h.2 i x cs hx hc
  · rw [List.getElem?_append_right hi] at hx
    rw [List.getElem?_append_right (by rw [h.1]; exact hi), h.1] at hc
    exact h'.2 _ x cs hx hc
theorem ExsAre.keep {w w' : World} {B B' : Nat} {l : List Ex} {css : List (List Value)} (h : ExsAre w B l css) (hb : Below B w w') (hB : B ≤ B') : ExsAre w' B' l css :=
  ⟨h.1, fun i x cs hx hc => ((h.2 i x cs hx hc).below hb).more hB⟩
theorem ExsAre.one {w : World} {B : Nat} {e : Ex} {cs : List Value} (h : IsEx w B e cs) : ExsAre w B [e] [cs] := by
  refine ⟨rfl, fun i x cs' hx hc => ?_⟩
  match i, hx, hc with
  | 0, hx, hc => simp at hx hc; subst hx; subst hc; exact h
theorem ExsAre.nil {w : World} {B : Nat} : ExsAre w B [] [] := ⟨rfl, fun i x cs hx _ => by simp at hx⟩
theorem ExsAre.oneCell {w : World} {B : Nat} {l : List Ex} {css : List (List Value)} (h : ExsAre w B l css) : ∀ u ∈ css.flatten, u.oneCell' = true := by
  intro u hu
  obtain ⟨cs, hcs, hu⟩ := List.mem_flatten.1 hu
  obtain ⟨i, hi⟩ := List.getElem?_of_mem hcs
  have hl : i < l.length := by rw [← h.1]; exact (List.getElem?_eq_some_iff.1 hi).1
  obtain ⟨A, cap, rfl, _⟩ := (h.2 i _ cs (List.getElem?_eq_getElem hl) hi).open
  simp only [exCells, List.mem_cons, List.not_mem_nil, or_false] at hu
  rcases hu with rfl | rfl | rfl | rfl | rfl | rfl <;> rfl
/-- a row of the call's own reads as expressions -/
theorem own_exs {w : World} {base B : Nat} {e : TypeId} {v : Value} {n : Nat} {l : List Ex} {css : List (List Value)} (h : w.ownsRow base e 6 v n css.flatten) (hx : ExsAre w B l css) (hB : B ≤ w.heap.size) :
    ∃ A c, v = .slice A l.length c ∧ n = l.length ∧ l.length ≤ c ∧ c ≤ maxLen ∧ IsExs w w.heap.size A l := by
  have hn : n = l.length := by
    have := h.1; rw [flatten_len hx.six, hx.1] at this; omega
  subst hn
  obtain ⟨A, c, hv, h1, h2, hr⟩ := own_rd h
  refine ⟨A, c, hv, rfl, h1, h2, fun hn => ?_⟩
  rcases h.2 with ⟨_, h0⟩ | ⟨g, cap, cur, hv', hb, hh, hc, hm, hcs, ht⟩
  · omega
  · rw [hv] at hv'
    injection hv' with hA _ _
    refine ⟨g, 0, hA, (h.lt g (by rw [hv, hA]; rfl)).2, fun i x hi => ?_⟩
    have hil : i < css.length := by rw [hx.1]; exact (List.getElem?_eq_some_iff.1 hi).1
    refine ⟨css[i], fun j u hu => ?_, ((hx.2 i x _ hi (List.getElem?_eq_getElem hil)).more hB)⟩
    have hj : j < 6 := by rw [← hx.six css[i] (List.getElem_mem hil)]; exact (List.getElem?_eq_some_iff.1 hu).1
    have := h.cells (g := g) (by rw [hv, hA]; rfl) (i * 6 + j) u (by rw [flatten_get hx.six (List.getElem?_eq_getElem hil) hj]; exact hu)
    rwa [Addr.add_lit, ← Nat.add_assoc] at this
theorem IsEx.keepS {w w' : World} {B : Nat} (hk : ∀ (p : Addr) (u : Value), p.block < B → w.cell? p = some u → w'.cell? p = some u) {e : Ex} : ∀ {cs : List Value}, IsEx w B e cs → IsEx w' B e cs := by
  induction e using Ex.ind with
  | h e ih =>
    intro cs h
    obtain ⟨A, cap, h1, h2, h3, h4, h5⟩ := isEx_iff.1 h
    refine isEx_iff.2 ⟨A, cap, h1, h2, h3, h4, fun hn => ?_⟩
    obtain ⟨b, off, hA, hb, hx⟩ := h5 hn
    refine ⟨b, off, hA, hb, fun i x hi => ?_⟩
    obtain ⟨cs', hc, hx'⟩ := hx i x hi
    exact ⟨cs', fun j u hu => hk ⟨b, off + i * 6 + j, none⟩ u hb (hc j u hu), ih x (List.mem_of_getElem? hi) hx'⟩
theorem IsExs.keepS {w w' : World} {B : Nat} {A : Option Addr} {l : List Ex} (h : IsExs w B A l) (hk : ∀ (p : Addr) (u : Value), p.block < B → w.cell? p = some u → w'.cell? p = some u) : IsExs w' B A l := fun hn => by
  obtain ⟨b, off, hA, hbb, hx⟩ := h hn
  refine ⟨b, off, hA, hbb, fun i x hi => ?_⟩
  obtain ⟨cs', hc, hx'⟩ := hx i x hi
  exact ⟨cs', fun j u hu => hk ⟨b, off + i * 6 + j, none⟩ u hbb (hc j u hu), hx'.keepS hk⟩
/-- all rows of cells lie as they lay, but for those of X -/
structure KeepC (X : Nat → Prop) (W W' : World) : Prop where
  size : W.heap.size ≤ W'.heap.size
  same : ∀ b cs t f, ¬ X b → W.heap[b]? = some (.cells cs t f) → W'.heap[b]? = some (.cells cs t f)
theorem KeepC.refl (X : Nat → Prop) (W : World) : KeepC X W W := ⟨Nat.le_refl _, fun _ _ _ _ _ h => h⟩
theorem KeepC.trans {X : Nat → Prop} {A B C : World} (h : KeepC X A B) (k : KeepC X B C) : KeepC X A C := ⟨Nat.le_trans h.size k.size, fun b cs t f hb hc => k.same b cs t f hb (h.same b cs t f hb hc)⟩
theorem KeepC.below {X : Nat → Prop} {W W' : World} (h : Below W.heap.size W W') : KeepC X W W' := ⟨h.size, fun b _ _ _ _ hc => (h.block b (Array.getElem?_eq_some_iff.1 hc).1).trans hc⟩
theorem KeepC.alloc (X : Nat → Prop) (W : World) (o : Obj) : KeepC X W (W.alloc o) := KeepC.below ((Below.refl _ _).alloc (Nat.le_refl _) _)
theorem KeepC.cell {X : Nat → Prop} {W W' : World} (h : KeepC X W W') {p : Addr} {u : Value} (hp : ¬ X p.block) (hc : W.cell? p = some u) : W'.cell? p = some u := by
  simp only [World.cell?] at hc ⊢
  cases hb : W.heap[p.block]? with
  | none => rw [hb] at hc; cases hc
  | some o =>
    rw [hb] at hc
    cases o with
    | cells cs t f => rw [h.same p.block cs t f hp hb]; exact hc
    | _ => cases hc
theorem exBoxC {X : Nat → Prop} {w wr : World} {e : Ex} {A : Option Addr} {cap : Nat} (hb : KeepC X (w.alloc (.cells #[.int .i64 e.op, .string e.name, .int .i64 e.n, .slice A e.args.length cap, .int .i64 e.line, .int .i64 e.col] 26)) wr) (hX : ¬ X w.heap.size) :
    wr.cell? ⟨w.heap.size, 0, none⟩ = some (.int .i64 e.op) ∧ wr.cell? ⟨w.heap.size, 1, none⟩ = some (.string e.name) ∧ wr.cell? ⟨w.heap.size, 2, none⟩ = some (.int .i64 e.n) ∧
      wr.cell? ⟨w.heap.size, 3, none⟩ = some (.slice A e.args.length cap) ∧ wr.cell? ⟨w.heap.size, 4, none⟩ = some (.int .i64 e.line) ∧ wr.cell? ⟨w.heap.size, 5, none⟩ = some (.int .i64 e.col) := by
  refine ⟨?_, ?_, ?_, ?_, ?_, ?_⟩ <;> exact hb.cell hX (by simp)
end Go.Proofs.Ytolabbnchmmckaa
