/-
  Slices whose elements read as something: the words for all data of the laws.
-/
import Derived.Test.YtolabbnchmmckaaMem
import Derived.OpenShut
import Derived.DataReads
namespace Go.Proofs.Ytolabbnchmmckaa
open Go.RowKit

def Wf (n : Int) : Prop := (Lit.int .i64 n).wf = true
theorem Wf.le {n : Int} (h : Wf n) : -9223372036854775808 ≤ n ∧ n ≤ 9223372036854775807 := by
  simpa [Wf, Lit.wf, IntKind.min, IntKind.max, IntKind.signed, IntKind.bits] using h
theorem wf_of {n : Int} (h : -9223372036854775808 ≤ n ∧ n ≤ 9223372036854775807) : Wf n := by
  simpa [Wf, Lit.wf, IntKind.min, IntKind.max, IntKind.signed, IntKind.bits] using h

/-- the elements of a slice at A, below block B, of so many cells each -/
def Sl {α : Type} (w : World) (B size : Nat) (rel : α → List Value → Prop) (A : Option Addr) (l : List α) : Prop :=
  0 < l.length → ∃ b off, A = some ⟨b, off, none⟩ ∧ b < B ∧ ∀ i x, l[i]? = some x → ∃ cs : List Value, (∀ j u, cs[j]? = some u → w.cell? ⟨b, off + i * size + j, none⟩ = some u) ∧ rel x cs
/-- a slice as a value -/
def SlV {α : Type} (w : World) (B size : Nat) (rel : α → List Value → Prop) (v : Value) (l : List α) : Prop :=
  ∃ A cap, v = .slice A l.length cap ∧ l.length ≤ cap ∧ cap ≤ maxLen ∧ Sl w B size rel A l
section
variable {α : Type} {w w' : World} {B B' size : Nat} {rel rel' : α → List Value → Prop} {A : Option Addr} {v : Value} {l : List α}
theorem Sl.keep (h : Sl w B size rel A l) (hk : ∀ (p : Addr) (u : Value), p.block < B → w.cell? p = some u → w'.cell? p = some u) (hB : B ≤ B') (hr : ∀ x ∈ l, ∀ cs, rel x cs → rel' x cs) : Sl w' B' size rel' A l := fun hn => by
  obtain ⟨b, off, hA, hb, hx⟩ := h hn
  refine ⟨b, off, hA, by omega, fun i x hi => ?_⟩
  obtain ⟨cs, hc, hx'⟩ := hx i x hi
  exact ⟨cs, fun j u hu => hk ⟨b, off + i * size + j, none⟩ u hb (hc j u hu), hr x (List.mem_of_getElem? hi) cs hx'⟩
theorem Sl.below (h : Sl w B size rel A l) (hb : Below B w w') : Sl w' B size rel A l := h.keep (fun _ _ hp hc => (hb.cell hp).trans hc) (Nat.le_refl _) (fun _ _ _ h => h)
theorem Sl.more (h : Sl w B size rel A l) (hB : B ≤ B') : Sl w B' size rel A l := h.keep (fun _ _ _ hc => hc) hB (fun _ _ _ h => h)
theorem SlV.keep (h : SlV w B size rel v l) (hk : ∀ (p : Addr) (u : Value), p.block < B → w.cell? p = some u → w'.cell? p = some u) (hB : B ≤ B') (hr : ∀ x ∈ l, ∀ cs, rel x cs → rel' x cs) : SlV w' B' size rel' v l := by
  obtain ⟨A, cap, h1, h2, h3, h4⟩ := h
  exact ⟨A, cap, h1, h2, h3, h4.keep hk hB hr⟩
theorem SlV.below (h : SlV w B size rel v l) (hb : Below B w w') : SlV w' B size rel v l := h.keep (fun _ _ hp hc => (hb.cell hp).trans hc) (Nat.le_refl _) (fun _ _ _ h => h)
theorem SlV.more (h : SlV w B size rel v l) (hB : B ≤ B') : SlV w B' size rel v l := h.keep (fun _ _ _ hc => hc) hB (fun _ _ _ h => h)
theorem Sl.at_ {k : Nat} (h : Sl w B size rel A l) (hk : k < l.length) : ∃ b off x cs, A = some ⟨b, off, none⟩ ∧ b < B ∧ l[k]? = some x ∧ rel x cs ∧ ∀ j u, cs[j]? = some u → w.cell? ⟨b, off + k * size + j, none⟩ = some u := by
  obtain ⟨b, off, hA, hb, hx⟩ := h (by omega)
  have hl : l[k]? = some l[k] := List.getElem?_eq_getElem hk
  obtain ⟨cs, hc, hr⟩ := hx k _ hl
  exact ⟨b, off, l[k], cs, hA, hb, hl, hr, hc⟩
theorem Sl.nil : Sl w B size rel A [] := fun h => absurd h (by simp)
theorem SlV.nil : SlV w B size rel (.slice none 0 0) [] := ⟨none, 0, rfl, Nat.le_refl _, Nat.zero_le _, Sl.nil⟩
end

/-! ### ints -/
def isInt (x : Int) (cs : List Value) : Prop := cs = [.int .i64 x] ∧ Wf x
theorem Sl.int {w : World} {B : Nat} {A : Option Addr} {l : List Int} {k : Nat} (h : Sl w B 1 isInt A l) (hk : k < l.length) : ∃ b off x, A = some ⟨b, off, none⟩ ∧ b < B ∧ l[k]? = some x ∧ Wf x ∧ w.cell? ⟨b, off + k, none⟩ = some (.int .i64 x) := by
  obtain ⟨b, off, x, cs, h1, h2, h3, ⟨rfl, h4⟩, h5⟩ := h.at_ hk
  exact ⟨b, off, x, h1, h2, h3, h4, by have := h5 0 _ rfl; simpa using this⟩
def isStr (x : ByteArray) (cs : List Value) : Prop := cs = [.string x] ∧ x.size ≤ maxLen
theorem Sl.str {w : World} {B : Nat} {A : Option Addr} {l : List ByteArray} {k : Nat} (h : Sl w B 1 isStr A l) (hk : k < l.length) : ∃ b off x, A = some ⟨b, off, none⟩ ∧ b < B ∧ l[k]? = some x ∧ x.size ≤ maxLen ∧ w.cell? ⟨b, off + k, none⟩ = some (.string x) := by
  obtain ⟨b, off, x, cs, h1, h2, h3, ⟨rfl, h4⟩, h5⟩ := h.at_ hk
  exact ⟨b, off, x, h1, h2, h3, h4, by have := h5 0 _ rfl; simpa using this⟩

/-! ### rows of the call's own -/
theorem flatten_len {α : Type} {k : Nat} {css : List (List α)} (h : ∀ cs ∈ css, cs.length = k) : css.flatten.length = css.length * k := by
  induction css with
  | nil => simp
  | cons c css ih =>
    rw [List.flatten_cons, List.length_append, h c (by simp), ih (fun cs hcs => h cs (by simp [hcs])), List.length_cons, Nat.add_mul]; omega
theorem flatten_get {α : Type} {k : Nat} {css : List (List α)} (h : ∀ cs ∈ css, cs.length = k) {i j : Nat} {cs : List α} (hi : css[i]? = some cs) (hj : j < k) : css.flatten[i * k + j]? = cs[j]? := by
  induction css generalizing i with
  | nil => simp at hi
  | cons c css ih =>
    rw [List.flatten_cons]
    cases i with
    | zero =>
      simp at hi; subst hi
      rw [List.getElem?_append_left (by rw [h c (by simp)]; omega), Nat.zero_mul, Nat.zero_add]
    | succ i =>
      have hc := h c (by simp)
      rw [List.getElem?_append_right (by rw [hc, Nat.add_mul]; omega), hc, show (i + 1) * k + j - k = i * k + j by rw [Nat.add_mul]; omega]
      exact ih (fun cs hcs => h cs (by simp [hcs])) (by simpa using hi)
/-- lists of cells that are the elements -/
def Are {α : Type} (rel : α → List Value → Prop) (l : List α) (css : List (List Value)) : Prop := css.length = l.length ∧ ∀ (i : Nat) x cs, l[i]? = some x → css[i]? = some cs → rel x cs
section
variable {α : Type} {w : World} {B size base : Nat} {rel rel' : α → List Value → Prop} {v : Value} {l l' : List α} {css css' : List (List Value)} {e : TypeId} {n : Nat}
theorem Are.nil : Are rel [] [] := ⟨rfl, fun i x cs hx _ => by simp at hx⟩
theorem Are.one {x : α} {cs : List Value} (h : rel x cs) : Are rel [x] [cs] := by
  refine ⟨rfl, fun i y cs' hx hc => ?_⟩
  match i, hx, hc with
  | 0, hx, hc => simp at hx hc; subst hx; subst hc; exact h
theorem Are.append (h : Are rel l css) (h' : Are rel l' css') : Are rel (l ++ l') (css ++ css') := by
  refine ⟨by simp [h.1, h'.1], fun i x cs hx hc => ?_⟩
  rcases Nat.lt_or_ge i l.length with hi | hi
  · rw [List.getElem?_append_left hi] at hx
    rw [List.getElem?_append_left (by rw [h.1]; exact hi)] at hc
    exact h.2 i x cs hx hc
  · rw [List.getElem?_append_right hi] at hx
    rw [List.getElem?_append_right (by rw [h.1]; exact hi), h.1] at hc
    exact h'.2 _ x cs hx hc
theorem Are.mono (h : Are rel l css) (hr : ∀ x ∈ l, ∀ cs, rel x cs → rel' x cs) : Are rel' l css := ⟨h.1, fun i x cs hx hc => hr x (List.mem_of_getElem? hx) cs (h.2 i x cs hx hc)⟩
theorem Are.all (h : Are rel l css) {p : List Value → Prop} (hp : ∀ x ∈ l, ∀ cs, rel x cs → p cs) : ∀ cs ∈ css, p cs := by
  intro cs hcs
  obtain ⟨i, hi⟩ := List.getElem?_of_mem hcs
  have hl : i < l.length := by rw [← h.1]; exact (List.getElem?_eq_some_iff.1 hi).1
  exact hp _ (List.getElem_mem hl) cs (h.2 i _ cs (List.getElem?_eq_getElem hl) hi)
theorem own_sl (h : w.ownsRow base e size v n css.flatten) (hx : Are rel l css) (hs : ∀ cs ∈ css, cs.length = size) (hsz : 0 < size) : SlV w w.heap.size size rel v l ∧ n = l.length := by
  have hn : n = l.length := by
    have := h.1
    rw [flatten_len hs, hx.1] at this
    exact (Nat.eq_of_mul_eq_mul_right hsz this).symm
  subst hn
  refine ⟨?_, rfl⟩
  obtain ⟨A, c, hv, h1, h2, hr⟩ := own_rd h
  refine ⟨A, c, hv, h1, h2, fun hn => ?_⟩
  rcases h.2 with ⟨_, h0⟩ | ⟨g, cap, cur, hv', hb, hh, hc, hm, hcs, ht⟩
  · omega
  · rw [hv] at hv'
    injection hv' with hA _ _
    refine ⟨g, 0, hA, (h.lt g (by rw [hv, hA]; rfl)).2, fun i x hi => ?_⟩
    have hil : i < css.length := by rw [hx.1]; exact (List.getElem?_eq_some_iff.1 hi).1
    refine ⟨css[i], fun j u hu => ?_, hx.2 i x _ hi (List.getElem?_eq_getElem hil)⟩
    have hj : j < size := by rw [← hs css[i] (List.getElem_mem hil)]; exact (List.getElem?_eq_some_iff.1 hu).1
    have := h.cells (g := g) (by rw [hv, hA]; rfl) (i * size + j) u (by rw [flatten_get hs (List.getElem?_eq_getElem hil) hj]; exact hu)
    rwa [Addr.add_lit, ← Nat.add_assoc] at this
end
theorem own_some {w : World} {base : Nat} {e : TypeId} {size : Nat} {v : Value} {n : Nat} {xs : List Value} (h : w.ownsRow base e size v n xs) (hn : 0 < n) : ∃ g c, v = .slice (some ⟨g, 0, none⟩) n c := by
  rcases h.2 with ⟨_, h0⟩ | ⟨g, c, _, h, _⟩
  · omega
  · exact ⟨g, c, h⟩
theorem own_below {w w' : World} {base : Nat} {e : TypeId} {size : Nat} {v : Value} {n : Nat} {xs : List Value} (h : w.ownsRow base e size v n xs) (hb : Below w.heap.size w w') : w'.ownsRow base e size v n xs := by
  refine ⟨h.1, ?_⟩
  rcases h.2 with h0 | ⟨g, c, cur, h1, h2, h3, h4⟩
  · exact .inl h0
  · have hg : g < w.heap.size := by
      rcases Nat.lt_or_ge g w.heap.size with hlt | hge
      · exact hlt
      · rw [Array.getElem?_eq_none hge] at h3; cases h3
    exact .inr ⟨g, c, cur, h1, h2, (hb.block g hg).trans h3, h4⟩

/-! ### a row of cells, whole -/
def Row (W : World) (b : Nat) (cs : Array Value) (t : TypeId) : Prop := W.heap[b]? = some (.cells cs t (0, 0))
section
variable {W W' : World} {b B : Nat} {cs : Array Value} {t : TypeId}
theorem Row.cell (h : Row W b cs t) (i : Nat) : W.cell? ⟨b, i, none⟩ = cs[i]? := cell_of_row W b i cs t (0, 0) h
theorem Row.frozen (h : Row W b cs t) (i : Nat) : W.frozen? ⟨b, i, none⟩ = false := by
  unfold Row at h
  simp [World.frozen?, h]
theorem Row.new (W : World) (cs : Array Value) (t : TypeId) : Row (W.alloc (.cells cs t)) W.heap.size cs t := heap_alloc_new W _
theorem rowNew2 (W : World) (o : Obj) (cs : Array Value) (t : TypeId) : Row ((W.alloc o).alloc (.cells cs t)) (W.heap.size + 1) cs t := by
  have := Row.new (W.alloc o) cs t
  rwa [World.size_alloc] at this
theorem rowNew3 (W : World) (o o' : Obj) (cs : Array Value) (t : TypeId) : Row (((W.alloc o).alloc o').alloc (.cells cs t)) (W.heap.size + 2) cs t := by
  have := Row.new ((W.alloc o).alloc o') cs t
  rwa [World.size_alloc, World.size_alloc] at this
theorem Row.lt (h : Row W b cs t) : b < W.heap.size := (Array.getElem?_eq_some_iff.1 h).1
theorem Row.drew (h : Row W b cs t) : Row W.drew b cs t := h
theorem Row.drewN (h : Row W b cs t) (n : Nat) : Row (W.drewN n) b cs t := h
theorem Row.alloc (h : Row W b cs t) (o : Obj) : Row (W.alloc o) b cs t := (Below.heap_alloc W o b h.lt).trans h
theorem Row.below (h : Row W b cs t) (hb : Below B W W') (hB : b < B) : Row W' b cs t := (hb.block b hB).trans h
theorem Row.set (h : Row W b cs t) (i : Nat) (u : Value) : Row (W.setCell ⟨b, i, none⟩ u) b (cs.setIfInBounds i u) t := by
  unfold Row at h ⊢
  simp [World.setCell, Array.getElem?_modify, h]
theorem Row.far (h : Row W b cs t) {p : Addr} (hp : b ≠ p.block) (u : Value) : Row (W.setCell p u) b cs t := (Below.heap_setCell W p u b hp).trans h
end
/-- nothing has turned but the blocks of X, and what is new -/
structure Upd (X : Nat → Prop) (w w' : World) : Prop where
  os : w'.os = w.os
  tape : w'.tape = w.tape
  output : w'.output = w.output
  size : w.heap.size ≤ w'.heap.size
  block : ∀ k, k < w.heap.size → ¬ X k → w'.heap[k]? = w.heap[k]?
section
variable {X : Nat → Prop} {a w w' : World}
theorem Upd.refl (X : Nat → Prop) (w : World) : Upd X w w := ⟨rfl, rfl, rfl, Nat.le_refl _, fun _ _ _ => rfl⟩
theorem Upd.trans (h : Upd X a w) (k : Upd X w w') : Upd X a w' := ⟨k.os.trans h.os, k.tape.trans h.tape, k.output.trans h.output, Nat.le_trans h.size k.size, fun i hi hX => (k.block i (Nat.lt_of_lt_of_le hi h.size) hX).trans (h.block i hi hX)⟩
theorem Upd.alloc (h : Upd X a w) (o : Obj) : Upd X a (w.alloc o) := ⟨h.os, h.tape, h.output, Nat.le_trans h.size (by simp), fun i hi hX => (Below.heap_alloc w o i (Nat.lt_of_lt_of_le hi h.size)).trans (h.block i hi hX)⟩
theorem Upd.drew (h : Upd X a w) : Upd X a w.drew := ⟨h.os, h.tape, h.output, h.size, h.block⟩
theorem Upd.drewN (h : Upd X a w) (n : Nat) : Upd X a (w.drewN n) := ⟨h.os, h.tape, h.output, h.size, h.block⟩
theorem Upd.setCell (h : Upd X a w) {p : Addr} (hp : X p.block) (u : Value) : Upd X a (w.setCell p u) :=
  ⟨h.os, h.tape, h.output, by simpa [World.setCell] using h.size, fun i hi hX => (Below.heap_setCell w p u i (fun e => hX (e ▸ hp))).trans (h.block i hi hX)⟩
theorem Upd.below {B : Nat} (h : Upd X a w) (hX : ∀ k, X k → B ≤ k) (hB : B ≤ a.heap.size) : Below B a w := ⟨h.os, h.tape, h.output, h.size, fun k hk => h.block k (by omega) (fun hx => by have := hX k hx; omega)⟩
theorem Upd.of_below (h : Below a.heap.size a w) : Upd X a w := ⟨h.os, h.tape, h.output, h.size, fun k hk _ => h.block k hk⟩
theorem Upd.row (h : Upd X w w') {b : Nat} {cs : Array Value} {t : TypeId} (hr : Row w b cs t) (hX : ¬ X b) : Row w' b cs t := (h.block b hr.lt hX).trans hr
theorem Upd.mono {Y : Nat → Prop} (h : Upd X a w) (hXY : ∀ k, X k → Y k) : Upd Y a w := ⟨h.os, h.tape, h.output, h.size, fun k hk hY => h.block k hk (fun hx => hY (hXY k hx))⟩
end

/-! ### arguments opened -/
section
variable {H : Type} {enc : TypeId × Value → H} {P : Program} {w : World} {spare : Nat → Bool} {held : Bool}
theorem spot_none {p : Addr} {v : Value} (h : w.cell? p = some v) : p.spot = none := World.cell?_spot h
theorem open_sl {α : Type} {t e : TypeId} {size : Nat} {rel : α → List Value → Prop} (ht : P.underlying t = some (.slice e)) (hC : P.cellsOf e = size) (hsz : 0 < size) (fuel : Nat)
    (hop : ∀ n, n < fuel → ∀ cs x, DataW.trod enc P w 0 spare held n e cs = some x → ∃ y, rel y cs) (hlen : ∀ y cs, rel y cs → cs.length = size) (dflt : α)
    {c : Value} {x : DataW H × List MemPlace} (h : DataW.trod enc P w 0 spare held fuel t [c] = some x) : ∃ l, SlV w w.heap.size size rel c l := by
  rcases DataW.trod_slice ht h with ⟨hc, _⟩ | ⟨a, len, cap, elems, rest, k, hk, hc, _, _, hlc, hcm, hel, hr, _⟩
  · simp at hc; subst hc
    exact ⟨[], SlV.nil⟩
  · simp at hc; subst hc
    have key : ∀ i, i < len → ∃ y cs', (w.cells? 0 (a.add (i * size)) size = some cs') ∧ rel y cs' := by
      intro i hi
      have h := hr i hi
      rw [hC, List.getElem?_eq_getElem (by omega), Option.bind_eq_some_iff] at h
      obtain ⟨cs', h1, h2⟩ := h
      obtain ⟨y, hy⟩ := hop k (by omega) cs' _ h2
      exact ⟨y, cs', h1, hy⟩
    obtain ⟨f, hfn⟩ : ∃ f : Nat → α, ∀ i, i < len → ∃ cs', (w.cells? 0 (a.add (i * size)) size = some cs') ∧ rel (f i) cs' :=
      ⟨fun i => if h : i < len then Classical.choose (key i h) else dflt, fun i hi => by simp only [dif_pos hi]; exact Classical.choose_spec (key i hi)⟩
    have hlen' : ((List.range len).map f).length = len := by simp
    refine ⟨(List.range len).map f, some a, cap, by rw [hlen'], by rw [hlen']; exact hlc, hcm, fun hp => ?_⟩
    rw [hlen'] at hp
    obtain ⟨cs0, hc0, hx0⟩ := hfn 0 hp
    have hcell := (World.cells?_some hc0).2.2 0 hsz
    have hl0 : cs0.length = size := hlen _ _ hx0
    rw [List.getElem?_eq_getElem (by omega)] at hcell
    have hspot := spot_none hcell
    have hblk : a.block < w.heap.size := by
      have : ((a.add (0 * size)).add 0).block < w.heap.size := by
        simp only [World.cell?] at hcell
        rcases Nat.lt_or_ge ((a.add (0 * size)).add 0).block w.heap.size with h | h
        · exact h
        · rw [Array.getElem?_eq_none h] at hcell; cases hcell
      rwa [add_block, add_block] at this
    obtain ⟨b, off, spot⟩ := a
    have : spot = none := by simpa [Addr.add] using hspot
    subst this
    refine ⟨b, off, rfl, hblk, fun i x hi => ?_⟩
    have hil : i < len := by have := (List.getElem?_eq_some_iff.1 hi).1; rwa [hlen'] at this
    obtain ⟨cs', hc', hx'⟩ := hfn i hil
    have hxe : x = f i := by rw [List.getElem?_map, List.getElem?_range hil] at hi; simpa using hi.symm
    subst hxe
    refine ⟨cs', fun j u hu => ?_, hx'⟩
    have hj : j < size := by rw [← hlen _ _ hx']; exact (List.getElem?_eq_some_iff.1 hu).1
    have := (World.cells?_some hc').2.2 j hj
    rw [hu, Addr.add_lit, Addr.add_lit] at this
    exact this
theorem open_isInt {t : TypeId} (ht : P.underlying t = some (.int .i64)) (n : Nat) (cs : List Value) (x : DataW H × List MemPlace) (h : DataW.trod enc P w 0 spare held n t cs = some x) : ∃ y, isInt y cs := by
  obtain ⟨y, h1, _, h2⟩ := DataW.trod_int ht h
  exact ⟨y, h1, h2⟩
theorem open_isStr {t : TypeId} (ht : P.underlying t = some .string) (n : Nat) (cs : List Value) (x : DataW H × List MemPlace) (h : DataW.trod enc P w 0 spare held n t cs = some x) : ∃ y, isStr y cs := by
  obtain ⟨y, h1, _, h2⟩ := DataW.trod_string ht h
  exact ⟨y, h1, h2⟩
end
end Go.Proofs.Ytolabbnchmmckaa
