/-
  What is right of sources, and what is wrong first with their names: plain.
-/
import Derived.Test.YtabceednmgijoaaGreatScC
namespace Go.Proofs.YtabceednmgijoaaGreat
open Nm
/-! ### the first fault of a row -/
def fstl : List Ft → Ft
  | [] => ft0
  | f :: l => if f.err = 0 then fstl l else f
theorem fstl_cons0 {f : Ft} {l : List Ft} (h : f.err = 0) : fstl (f :: l) = fstl l := if_pos h
theorem fstl_cons1 {f : Ft} {l : List Ft} (h : f.err ≠ 0) : fstl (f :: l) = f := if_neg h
theorem fstl_none {l : List Ft} (h : ∀ f ∈ l, f.err = 0) : fstl l = ft0 := by
  induction l with
  | nil => rfl
  | cons f l ih => rw [fstl_cons0 (h f (by simp))]; exact ih fun g hg => h g (by simp [hg])
theorem fstl_append (l m : List Ft) : fstl (l ++ m) = if (fstl l).err = 0 then fstl m else fstl l := by
  induction l with
  | nil => rfl
  | cons f l ih =>
    by_cases h : f.err = 0
    · rw [List.cons_append, fstl_cons0 h, fstl_cons0 h, ih]
    · rw [List.cons_append, fstl_cons1 h, fstl_cons1 h, if_neg h]
theorem fstl_ok {l : List Ft} (h : (fstl l).err = 0) : ∀ f ∈ l, f.err = 0 := by
  induction l with
  | nil => intro f hf; cases hf
  | cons g l ih =>
    by_cases hg : g.err = 0
    · rw [fstl_cons0 hg] at h
      intro f hf
      rcases List.mem_cons.1 hf with rfl | hf
      · exact hg
      · exact ih h f hf
    · rw [fstl_cons1 hg] at h; exact absurd h hg
theorem fstl_zero {l : List Ft} (h : (fstl l).err = 0) : fstl l = ft0 := fstl_none (fstl_ok h)
theorem fstl_stop {l : List Ft} {k : Nat} {f : Ft} (h : ∀ j, j < k → ∀ g, l[j]? = some g → g.err = 0) (hf : l[k]? = some f) (hne : f.err ≠ 0) : fstl l = f := by
  induction l generalizing k with
  | nil => simp at hf
  | cons g l ih =>
    cases k with
    | zero => simp at hf; subst hf; exact fstl_cons1 hne
    | succ k =>
      rw [fstl_cons0 (h 0 (by omega) g rfl)]
      exact ih (k := k) (fun j hj g' hg' => h (j + 1) (by omega) g' (by simpa using hg')) (by simpa using hf)
theorem fstl_flatten (L : List (List Ft)) : fstl L.flatten = fstl (L.map fstl) := by
  induction L with
  | nil => rfl
  | cons l L ih =>
    rw [List.flatten_cons, List.map_cons, fstl_append]
    by_cases h : (fstl l).err = 0
    · rw [if_pos h, fstl_cons0 h, ih]
    · rw [if_neg h, fstl_cons1 h]
/-- the first fault of a row's elements -/
def fstL {α : Type} (f : Nat → α → Ft) (l : List α) : Ft := fstl (l.mapIdx f)
section
variable {α : Type} {f g : Nat → α → Ft} {l : List α} {k : Nat} {x : α}
theorem fstL_stop (h : ∀ j, j < k → ∀ y, l[j]? = some y → (f j y).err = 0) (hx : l[k]? = some x) (hne : (f k x).err ≠ 0) : fstL f l = f k x := by
  refine fstl_stop (k := k) ?_ (by rw [List.getElem?_mapIdx, hx]; rfl) hne
  intro j hj g hg
  rw [List.getElem?_mapIdx, Option.map_eq_some_iff] at hg
  obtain ⟨y, hy, rfl⟩ := hg
  exact h j hj y hy
theorem fstL_end (h : ∀ j, j < l.length → ∀ y, l[j]? = some y → (f j y).err = 0) : fstL f l = ft0 := by
  refine fstl_none fun g hg => ?_
  obtain ⟨j, hj⟩ := List.getElem?_of_mem hg
  rw [List.getElem?_mapIdx, Option.map_eq_some_iff] at hj
  obtain ⟨y, hy, rfl⟩ := hj
  exact h j (List.getElem?_eq_some_iff.1 hy).1 y hy
theorem fstL_ok (h : (fstL f l).err = 0) : ∀ (j : Nat) y, l[j]? = some y → (f j y).err = 0 := fun j y hy =>
  fstl_ok h _ (List.mem_of_getElem? (i := j) (by rw [List.getElem?_mapIdx, hy]; rfl))
theorem fstL_zero (h : (fstL f l).err = 0) : fstL f l = ft0 := fstl_zero h
theorem fstL_congr (h : ∀ (j : Nat) y, l[j]? = some y → f j y = g j y) : fstL f l = fstL g l := by
  have : l.mapIdx f = l.mapIdx g := by
    refine List.ext_getElem? fun j => ?_
    rw [List.getElem?_mapIdx, List.getElem?_mapIdx]
    cases hj : l[j]? with
    | none => rfl
    | some y => simp [h j y hj]
  unfold fstL
  rw [this]
theorem step_uptoI {P : Nat → α → Prop} (h : ∀ j, j < k → ∀ y, l[j]? = some y → P j y) (hk : l[k]? = some x) (hx : P k x) : ∀ j, j < k + 1 → ∀ y, l[j]? = some y → P j y :=
  upto_succ h (fun y hy => by rw [hk] at hy; injection hy with hy; rw [← hy]; exact hx)
end
/-- the first of two -/
def ft2 (a b : Ft) : Ft := if a.err = 0 then b else a
theorem ft2_0 {a b : Ft} (h : a.err = 0) : ft2 a b = b := if_pos h
theorem ft2_1 {a b : Ft} (h : a.err ≠ 0) : ft2 a b = a := if_neg h
theorem ft2_ok {a b : Ft} (h : (ft2 a b).err = 0) : a.err = 0 ∧ b.err = 0 := by
  by_cases ha : a.err = 0
  · rw [ft2_0 ha] at h; exact ⟨ha, h⟩
  · rw [ft2_1 ha] at h; exact absurd h ha
theorem ft_zero {f : Ft} (h : f = ft0 ∨ f.err ≠ 0) (h0 : f.err = 0) : f = ft0 := h.elim id fun g => absurd h0 g

/-! ### what is right -/
def VrRt (x : Vr) : Prop := (∀ c ∈ x.clock, nameB c.name.toList = true) ∧ nameB x.name.toList = true ∧ (x.ty = 1 ∨ x.ty = 2) ∧ x.clock.length ≤ 4
def VrsRt (l : List Vr) (lo hi : Int) : Prop := (∀ v ∈ l, VrRt v) ∧ lo ≤ l.length ∧ l.length ≤ hi
def EqnRt (q : Eqn) : Prop := (∀ s ∈ q.left, nameB s.toList = true) ∧ 1 ≤ q.left.length ∧ q.left.length ≤ 8 ∧ exRight q.right = true
def NdRt (n : Nd) : Prop := (∀ q ∈ n.eqs, EqnRt q) ∧ nameB n.name.toList = true ∧ 1 ≤ n.eqs.length ∧ n.eqs.length ≤ 48 ∧ VrsRt n.ins 1 8 ∧ VrsRt n.outs 1 8 ∧ VrsRt n.vars 0 40
def SrcRt (s : List Nd) : Prop := (∀ n ∈ s, NdRt n) ∧ 1 ≤ s.length ∧ s.length ≤ 16

/-! ### what is wrong with names -/
abbrev nms (l : List Vr) : List ByteArray := l.map Vr.name
/-- the names on the left of equations -/
def lefts (l : List Eqn) : List ByteArray := (l.map Eqn.left).flatten
open Classical in
noncomputable def nameF (s : List Nd) (i : Nat) (n : Nd) : Ft := if n.name ∈ (s.map Nd.name).take i then ⟨23, n.line, n.col⟩ else ft0
open Classical in
noncomputable def varF (n : Nd) (i : Nat) (v : Vr) : Ft :=
  if v.name ∈ (nms (vrs n)).take i then ⟨23, v.line, v.col⟩ else if i < n.ins.length + n.outs.length ∧ 0 < v.clock.length then ⟨30, v.line, v.col⟩ else ft0
open Classical in
noncomputable def condF (n : Nd) (v : Vr) (_ : Nat) (c : Lt) : Ft := if c.name ∉ nms (vrs n) then ⟨24, v.line, v.col⟩ else ft0
noncomputable def clkF (n : Nd) (_ : Nat) (v : Vr) : Ft := fstL (condF n v) v.clock
noncomputable def variablesF (n : Nd) : Ft := ft2 (fstL (varF n) (vrs n)) (fstL (clkF n) n.vars)
open Classical in
/-- a name on the left of an equation, behind these -/
noncomputable def leftNF (n : Nd) (met : List ByteArray) (q : Eqn) (k : Nat) (nm : ByteArray) : Ft :=
  if nm ∉ nms (vrs n) then ⟨24, q.line, q.col⟩ else if nm ∈ met ++ q.left.take k then ⟨23, q.line, q.col⟩ else ft0
open Classical in
noncomputable def countF (q : Eqn) : Ft := if 1 < q.left.length ∧ q.right.op ≠ 4 then ⟨25, q.line, q.col⟩ else ft0
noncomputable def leftF (n : Nd) (met : List ByteArray) (q : Eqn) : Ft := ft2 (fstL (leftNF n met q) q.left) (countF q)
def nodeAt (s : List Nd) (nm : ByteArray) : Option Nd := s.find? (fun m => decide (m.name = nm))
open Classical in
noncomputable def oneF (s : List Nd) (n : Nd) (outs : Int) (e : Ex) : Ft :=
  if namesB e.op = true then (if e.name ∉ nms (vrs n) then ⟨24, e.line, e.col⟩ else ft0)
  else if e.op = 4 then (match nodeAt s e.name with
    | none => ⟨24, e.line, e.col⟩
    | some m => if m.ins.length ≠ e.args.length ∨ (m.outs.length : Int) ≠ outs then ⟨25, e.line, e.col⟩ else ft0)
  else ft0
noncomputable def subF (s : List Nd) (n : Nd) : Ex → Ft := Ex.para fun e fs => ft2 (oneF s n 1 e) (fstl fs)
noncomputable def exprF (s : List Nd) (n : Nd) (outs : Int) (e : Ex) : Ft := ft2 (oneF s n outs e) (fstL (fun _ x => subF s n x) e.args)
theorem mapIdx_const {α β : Type} (f : α → β) (l : List α) : l.mapIdx (fun _ x => f x) = l.map f := by
  refine List.ext_getElem? fun j => ?_
  rw [List.getElem?_mapIdx, List.getElem?_map]
theorem subF_eq (s : List Nd) (n : Nd) (e : Ex) : subF s n e = exprF s n 1 e := by
  unfold exprF fstL
  rw [mapIdx_const]
  exact Ex.para_eq _ e
/-- what is wrong with one, of which so many come out first -/
noncomputable def stepF (s : List Nd) (n : Nd) (outs : Int) (i : Nat) (e : Ex) : Ft := oneF s n (if i = 0 then outs else 1) e
theorem subF_list (s : List Nd) (n : Nd) (e : Ex) : fstl ((exList e).map (oneF s n 1)) = subF s n e := by
  induction e using Ex.ind with
  | h e ih =>
    rw [exList_eq, List.map_cons, subF_eq]
    unfold exprF fstL
    rw [mapIdx_const, List.map_flatten, List.map_map]
    have : fstl ((e.args.map (List.map (oneF s n 1) ∘ exList)).flatten) = fstl (e.args.map (subF s n)) := by
      rw [fstl_flatten, List.map_map]
      congr 1
      exact List.map_congr_left fun x hx => ih x hx
    show (if _ then _ else _) = ft2 _ _
    rw [this]
    rfl
theorem exprF_list (s : List Nd) (n : Nd) (outs : Int) (e : Ex) : fstL (stepF s n outs) (exList e) = exprF s n outs e := by
  unfold fstL
  rw [exList_eq, List.mapIdx_cons]
  have h1 : (e.args.map exList).flatten.mapIdx (fun i => stepF s n outs (i + 1)) = (e.args.map exList).flatten.map (oneF s n 1) := by
    have : (fun i => stepF s n outs (i + 1)) = fun _ x => oneF s n 1 x := by funext i x; simp [stepF]
    rw [this, mapIdx_const]
  have h2 : fstl ((e.args.map exList).flatten.map (oneF s n 1)) = fstl (e.args.map (subF s n)) := by
    rw [List.map_flatten, List.map_map, fstl_flatten, List.map_map]
    congr 1
    exact List.map_congr_left fun x _ => subF_list s n x
  rw [h1]
  unfold exprF fstL
  rw [mapIdx_const]
  show (if _ then _ else _) = ft2 _ _
  rw [h2]
  rfl
/-- the names met behind so many equations -/
def metTo (n : Nd) (i : Nat) : List ByteArray := nms n.ins ++ lefts (n.eqs.take i)
noncomputable def eqnF (s : List Nd) (n : Nd) (i : Nat) (q : Eqn) : Ft := ft2 (leftF n (metTo n i) q) (exprF s n q.left.length q.right)
open Classical in
noncomputable def defF (n : Nd) (_ : Nat) (v : Vr) : Ft := if v.name ∉ metTo n n.eqs.length then ⟨26, v.line, v.col⟩ else ft0
noncomputable def equationsF (s : List Nd) (n : Nd) : Ft := ft2 (fstL (eqnF s n) n.eqs) (fstL (defF n) (n.outs ++ n.vars))
noncomputable def nodeF (s : List Nd) (_ : Nat) (n : Nd) : Ft := ft2 (variablesF n) (equationsF s n)
abbrev mainNm : ByteArray := ⟨#[109, 97, 105, 110]⟩
open Classical in
noncomputable def mainF (s : List Nd) : Ft := if mainNm ∉ s.map Nd.name then ⟨27, 0, 0⟩ else ft0
open Classical in
/-- what is wrong first with a source's names -/
noncomputable def scopeF (s : List Nd) : Ft := if ¬ SrcRt s then ⟨2, 0, 0⟩ else ft2 (fstL (nameF s) s) (ft2 (fstL (nodeF s) s) (mainF s))

/-! ### the same, as the document says it -/
theorem idx_lt {l : List ByteArray} {nm : ByteArray} {i : Nat} (h : 0 ≤ idxOf l nm) : idxOf l nm < i ↔ nm ∈ l.take i := by
  rcases idx_cases l nm with ⟨k, h1, h2, h3⟩ | ⟨h1, _⟩
  · rw [h1]
    constructor
    · intro hk
      refine List.mem_of_getElem? (i := k) ?_
      rw [List.getElem?_take, if_pos (by omega)]; exact h2
    · intro hm
      obtain ⟨j, hj⟩ := List.getElem?_of_mem hm
      rw [List.getElem?_take] at hj
      split at hj
      · rcases Nat.lt_or_ge j k with hjk | hjk
        · exact absurd rfl (h3 j hjk nm hj)
        · omega
      · cases hj
  · rw [h1] at h; exact absurd h (by decide)
theorem var_lt {n : Nd} {nm : ByteArray} {i : Nat} (h : 0 ≤ varIdx n nm) : varIdx n nm < i ↔ nm ∈ (nms (vrs n)).take i := idx_lt h
theorem var_mem {n : Nd} {nm : ByteArray} : 0 ≤ varIdx n nm ↔ nm ∈ nms (vrs n) := idx_mem
theorem var_neg {n : Nd} {nm : ByteArray} : varIdx n nm < 0 ↔ nm ∉ nms (vrs n) := by rw [← var_mem]; omega
theorem node_mem {s : List Nd} {nm : ByteArray} : 0 ≤ nodeIdx s nm ↔ nm ∈ s.map Nd.name := idx_mem
theorem take_ins (n : Nd) : (nms (vrs n)).take n.ins.length = nms n.ins := by
  rw [vrs, List.append_assoc]
  show List.take _ (List.map _ _) = _
  rw [List.map_append, List.take_append_of_le_length (by simp), List.take_of_length_le (by simp)]
theorem node_cases (s : List Nd) (nm : ByteArray) : (∃ (k : Nat) (m : Nd), nodeIdx s nm = k ∧ s[k]? = some m ∧ m.name = nm ∧ nodeAt s nm = some m) ∨ (nodeIdx s nm = -1 ∧ nodeAt s nm = none) := by
  rcases idx_cases (s.map Nd.name) nm with ⟨k, h1, h2, h3⟩ | ⟨h1, h2⟩
  · rw [List.getElem?_map, Option.map_eq_some_iff] at h2
    obtain ⟨m, hm, he⟩ := h2
    refine .inl ⟨k, m, h1, hm, he, ?_⟩
    obtain ⟨hl, hm'⟩ := List.getElem?_eq_some_iff.1 hm
    unfold nodeAt
    rw [List.find?_eq_some_iff_getElem]
    refine ⟨by simpa using he, k, hl, hm', fun j hj => ?_⟩
    have := h3 j hj s[j].name (by rw [List.getElem?_map, List.getElem?_eq_getElem (by omega)]; rfl)
    simpa using this
  · refine .inr ⟨h1, ?_⟩
    unfold nodeAt
    rw [List.find?_eq_none]
    intro m hm he
    exact h2 (by rw [← (show m.name = nm by simpa using he)]; exact List.mem_map_of_mem hm)
/-- which equation defines a name, and where -/
def DefAt (n : Nd) (nm : ByteArray) (i k : Nat) : Prop := ∃ q, n.eqs[i]? = some q ∧ q.left[k]? = some nm ∧ (∀ j, j < i → ∀ q', n.eqs[j]? = some q' → nm ∉ q'.left) ∧ ∀ j, j < k → ∀ x, q.left[j]? = some x → x ≠ nm
def NoDef (n : Nd) (nm : ByteArray) : Prop := ∀ q ∈ n.eqs, nm ∉ q.left
theorem mem_lefts {l : List Eqn} {nm : ByteArray} : nm ∈ lefts l ↔ ∃ q ∈ l, nm ∈ q.left := by
  unfold lefts
  rw [List.mem_flatten]
  constructor
  · rintro ⟨x, hx, h⟩
    obtain ⟨q, hq, rfl⟩ := List.mem_map.1 hx
    exact ⟨q, hq, h⟩
  · rintro ⟨q, hq, h⟩
    exact ⟨_, List.mem_map_of_mem hq, h⟩
theorem mem_take {α : Type} {l : List α} {i : Nat} {x : α} : x ∈ l.take i ↔ ∃ j, j < i ∧ l[j]? = some x := by
  constructor
  · intro h
    obtain ⟨j, hj⟩ := List.getElem?_of_mem h
    rw [List.getElem?_take] at hj
    split at hj
    · exact ⟨j, ‹_›, hj⟩
    · cases hj
  · rintro ⟨j, hj, h⟩
    exact List.mem_of_getElem? (i := j) (by rw [List.getElem?_take, if_pos hj]; exact h)
theorem def_lt {n : Nd} {nm : ByteArray} {a b i k : Nat} {q : Eqn} (hd : DefAt n nm a b) (hq : n.eqs[i]? = some q) (hk : q.left[k]? = some nm) : (a < i ∨ b < k) ↔ nm ∈ lefts (n.eqs.take i) ++ q.left.take k := by
  obtain ⟨q', h1, h2, h3, h4⟩ := hd
  have hai : a ≤ i := Nat.le_of_not_lt fun h => h3 i h q hq (List.mem_of_getElem? hk)
  rw [List.mem_append, mem_lefts]
  constructor
  · intro h
    by_cases ha : a < i
    · exact .inl ⟨q', mem_take.2 ⟨a, ha, h1⟩, List.mem_of_getElem? h2⟩
    · obtain rfl : a = i := by omega
      rw [hq] at h1; injection h1 with h1; subst h1
      rcases h with h | h
      · omega
      · exact .inr (mem_take.2 ⟨b, h, h2⟩)
  · rintro (⟨q2, hq2, hm⟩ | hm)
    · obtain ⟨j, hj, hjq⟩ := mem_take.1 hq2
      rcases Nat.lt_or_ge j a with h | h
      · exact absurd hm (h3 j h q2 hjq)
      · exact .inl (by omega)
    · obtain ⟨j, hj, hjq⟩ := mem_take.1 hm
      by_cases ha : a < i
      · exact .inl ha
      · obtain rfl : a = i := by omega
        rw [hq] at h1; injection h1 with h1; subst h1
        rcases Nat.lt_or_ge j b with h | h
        · exact absurd rfl (h4 j h nm hjq)
        · exact .inr (by omega)
end Go.Proofs.YtabceednmgijoaaGreat
