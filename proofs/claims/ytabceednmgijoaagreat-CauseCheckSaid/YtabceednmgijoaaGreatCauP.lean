/-
  What an expression wants at once, on what a name hangs, which name hangs on itself, and a row of all: plain.
-/
import Derived.Test.YtabceednmgijoaaGreatHgP
import Derived.Test.YtabceednmgijoaaGreatClkA
namespace Go.Proofs.YtabceednmgijoaaGreat
/-- which of an expression's parts are wanted at once -/
def Early (op : Int) (i : Nat) : Prop := op ≠ 21 ∧ (op ≠ 22 ∨ i = 0)
def keepP {α : Type} (op : Int) (l : List α) : List α := if op = 21 then [] else if op = 22 then l.take 1 else l
def ownW (e : Ex) : List ByteArray := if namesB e.op = true then [e.name] else []
noncomputable def wantsL : Ex → List ByteArray := Ex.para fun e ps => ownW e ++ (keepP e.op ps).flatten
noncomputable def wantTo (e : Ex) (k : Nat) : List ByteArray := ownW e ++ (keepP e.op ((e.args.take k).map wantsL)).flatten
theorem wantTo_end (e : Ex) : wantsL e = wantTo e e.args.length := by
  unfold wantTo
  rw [List.take_length]
  exact Ex.para_eq _ e
theorem wantTo_zero (e : Ex) : wantTo e 0 = ownW e := by
  unfold wantTo keepP
  simp
theorem wantTo_yes {e x : Ex} {k : Nat} (h : e.args[k]? = some x) (he : Early e.op k) : wantTo e (k + 1) = wantTo e k ++ wantsL x := by
  obtain ⟨h1, h2⟩ := List.getElem?_eq_some_iff.1 h
  unfold wantTo
  rw [List.take_succ_eq_append_getElem h1, h2, List.map_append, List.append_assoc]
  congr 1
  unfold keepP
  rw [if_neg he.1, if_neg he.1]
  by_cases g : e.op = 22
  · obtain rfl := he.2.resolve_left (fun f => f g)
    rw [if_pos g, if_pos g]
    simp
  · rw [if_neg g, if_neg g]
    simp
theorem wantTo_no {e x : Ex} {k : Nat} (h : e.args[k]? = some x) (he : ¬ Early e.op k) : wantTo e (k + 1) = wantTo e k := by
  obtain ⟨h1, h2⟩ := List.getElem?_eq_some_iff.1 h
  unfold wantTo
  congr 1
  unfold keepP
  by_cases g : e.op = 21
  · rw [if_pos g, if_pos g]
  · rw [if_neg g, if_neg g]
    unfold Early at he
    have g2 : e.op = 22 ∧ k ≠ 0 := Classical.byContradiction fun f => he ⟨g, by
      by_cases g3 : e.op = 22
      · exact .inr (Classical.byContradiction fun g4 => f ⟨g3, g4⟩)
      · exact .inl g3⟩
    rw [if_pos g2.1, if_pos g2.1, ← List.map_take, ← List.map_take, List.take_take, List.take_take]
    rw [show min 1 (k + 1) = min 1 k by omega]
theorem keepP_mem {α : Type} {op : Int} {l : List α} {x : α} (h : x ∈ keepP op l) : x ∈ l := by
  unfold keepP at h
  split at h
  · cases h
  · split at h
    · exact List.mem_of_mem_take h
    · exact h
theorem wants_mem (e : Ex) : ∀ y ∈ wantsL e, ∃ x ∈ exList e, namesB x.op = true ∧ x.name = y := by
  induction e using Ex.ind with
  | h e ih =>
    intro y hy
    rw [show wantsL e = ownW e ++ (keepP e.op (e.args.map wantsL)).flatten from Ex.para_eq _ e] at hy
    rcases List.mem_append.1 hy with hy | hy
    · unfold ownW at hy
      split at hy
      · rename_i g
        exact ⟨e, by rw [exList_eq]; simp, g, (List.mem_singleton.1 hy).symm⟩
      · cases hy
    · obtain ⟨l, hl, hy⟩ := List.mem_flatten.1 hy
      obtain ⟨a, ha, rfl⟩ := List.mem_map.1 (keepP_mem hl)
      obtain ⟨x, hx, h⟩ := ih a ha y hy
      exact ⟨x, by rw [exList_eq]; exact List.mem_cons_of_mem _ (List.mem_flatten.2 ⟨_, List.mem_map.2 ⟨a, ha, rfl⟩, hx⟩), h⟩
/-- on what a name hangs at once -/
noncomputable def hangsL (n : Nd) (nm : ByteArray) : List ByteArray := match n.eqs.find? (fun q => cB (nm ∈ q.left)) with
  | some q => wantsL q.right ++ (clockOf n nm).map Lt.name
  | none => []
noncomputable def hangsF (n : Nd) (nm : ByteArray) : List ByteArray := insAll [] (hangsL n nm)
theorem hangsF_mem {n : Nd} {nm y : ByteArray} : y ∈ hangsF n nm ↔ y ∈ hangsL n nm := by unfold hangsF; rw [insAll_mem]; simp
theorem hangsF_rising (n : Nd) (x : ByteArray) : Rising (hangsF n x) := insAll_rising List.Pairwise.nil
theorem find_at {α : Type} {p : α → Bool} : ∀ {l : List α} {i : Nat} {x : α}, l[i]? = some x → p x = true → (∀ j, j < i → ∀ y, l[j]? = some y → p y = false) → l.find? p = some x
  | [], i, x, h, _, _ => by cases h
  | a :: l, 0, x, h, hp, _ => by
    obtain rfl : a = x := by simpa using h
    rw [List.find?_cons_of_pos hp]
  | a :: l, i + 1, x, h, hp, hn => by
    rw [List.find?_cons_of_neg (by rw [hn 0 (by omega) a rfl]; decide)]
    exact find_at (by simpa using h) hp fun j hj y hy => hn (j + 1) (by omega) y (by simpa using hy)
theorem hangsL_def {n : Nd} {nm : ByteArray} {i k : Nat} {q : Eqn} (h : DefAt n nm i k) (hq : n.eqs[i]? = some q) : hangsL n nm = wantsL q.right ++ (clockOf n nm).map Lt.name := by
  obtain ⟨q', h1, h2, h3, _⟩ := h
  rw [hq] at h1
  injection h1 with h1
  subst h1
  unfold hangsL
  rw [find_at hq (cB_true (List.mem_of_getElem? h2)) fun j hj y hy => cB_false (h3 j hj y hy)]
theorem hangsL_no {n : Nd} {nm : ByteArray} (h : NoDef n nm) : hangsL n nm = [] := by
  unfold hangsL
  rw [List.find?_eq_none.2 fun q hq => by rw [cB_iff]; exact h q hq]
open Classical in
noncomputable def cauF (n : Nd) (q : Eqn) (_ : Nat) (nm : ByteArray) : Ft := if Hg (hangsF n) nm nm then ⟨32, q.line, q.col⟩ else ft0
noncomputable def cauQF (n : Nd) (_ : Nat) (q : Eqn) : Ft := fstL (cauF n q) q.left
noncomputable def cauNF (_ : Nat) (n : Nd) : Ft := fstL (cauQF n) n.eqs
/-- which name hangs on itself first -/
noncomputable def causeF (s : List Nd) : Ft := ft2 (scopeF s) (fstL cauNF s)
theorem hg_first {U : ByteArray → List ByteArray} {a b : ByteArray} (h : Hg U a b) : ∃ c, c ∈ U a := by
  induction h with
  | one h => exact ⟨_, h⟩
  | more _ _ ih => exact ih
section
variable {s : List Nd} {n : Nd}
theorem hangs_V (h : (scopeF s).err = 0) (hn : n ∈ s) : ∀ x, ∀ y ∈ hangsF n x, y ∈ nms (vrs n) := fun x y hy => by
  rw [hangsF_mem] at hy
  unfold hangsL at hy
  split at hy
  · rename_i q hq
    have hqm := List.mem_of_find?_eq_some hq
    rcases List.mem_append.1 hy with hy | hy
    · obtain ⟨e, he, hb, rfl⟩ := wants_mem _ y hy
      obtain ⟨i, hi⟩ := List.getElem?_of_mem hqm
      obtain ⟨j, hj⟩ := List.getElem?_of_mem he
      exact one_name (expr_ok (eqn_ok (scope_nodes h n hn).2 i q hi).2 j e hj) hb
    · obtain ⟨c, hc, rfl⟩ := List.mem_map.1 hy
      rcases var_cases n x with ⟨k, v, h1, h2, _⟩ | h1
      · rw [clock_at h1 h2] at hc
        exact conds_all h hn h2 c hc
      · rw [clock_no h1] at hc
        cases hc
  · cases hy
theorem causeF_ok (h : (causeF s).err = 0) : (scopeF s).err = 0 ∧ ∀ n ∈ s, ∀ x, ¬ Hg (hangsF n) x x := by
  refine ⟨(ft2_ok h).1, fun n hn x g => ?_⟩
  obtain ⟨c, hc⟩ := hg_first g
  rw [hangsF_mem] at hc
  unfold hangsL at hc
  split at hc
  · rename_i q hq
    have hx := cB_iff.1 (List.find?_some (p := fun q : Eqn => cB (x ∈ q.left)) hq)
    obtain ⟨k, hk⟩ := List.getElem?_of_mem hn
    obtain ⟨i, hi⟩ := List.getElem?_of_mem (List.mem_of_find?_eq_some hq)
    obtain ⟨j, hj⟩ := List.getElem?_of_mem hx
    have h1 := fstL_ok (f := cauNF) (ft2_ok h).2 k n hk
    have h2 := fstL_ok (f := cauQF n) h1 i q hi
    have h3 := fstL_ok (f := cauF n q) h2 j x hj
    unfold cauF at h3
    rw [if_pos g] at h3
    exact absurd h3 (by show ¬ (32 : Int) = 0; decide)
  · cases hc
theorem causeF_zero (h : (causeF s).err = 0) : causeF s = ft0 := by
  have := ft2_ok h
  unfold causeF
  rw [ft2_0 this.1, fstL_zero this.2]
theorem causeF_1 (h : (scopeF s).err ≠ 0) : causeF s = scopeF s := ft2_1 h
theorem causeF_0 (h : (scopeF s).err = 0) : causeF s = fstL cauNF s := ft2_0 h
end
/-! ### a row of all -/
open Classical in
noncomputable def stepR (n : Nd) (row : List ByteArray) (v : Vr) : List ByteArray := if v.name ∉ row ∧ ∀ y ∈ hangsF n v.name, y ∈ row then row ++ [v.name] else row
noncomputable def passTo (n : Nd) (row : List ByteArray) (k : Nat) : List ByteArray := ((vrs n).take k).foldl (stepR n) row
noncomputable def rowTo (n : Nd) : Nat → List ByteArray
  | 0 => []
  | r + 1 => passTo n (rowTo n r) (vrs n).length
theorem passTo_zero (n : Nd) (row : List ByteArray) : passTo n row 0 = row := rfl
theorem passTo_succ {n : Nd} {row : List ByteArray} {k : Nat} {v : Vr} (h : (vrs n)[k]? = some v) : passTo n row (k + 1) = stepR n (passTo n row k) v := by
  obtain ⟨h1, h2⟩ := List.getElem?_eq_some_iff.1 h
  unfold passTo
  rw [List.take_succ_eq_append_getElem h1, h2, List.foldl_append]
  rfl
theorem stepR_mem {n : Nd} {row : List ByteArray} {v : Vr} {x : ByteArray} (h : x ∈ row) : x ∈ stepR n row v := by
  unfold stepR
  split
  · simp [h]
  · exact h
theorem foldR_mem {n : Nd} {l : List Vr} : ∀ {row : List ByteArray} {x : ByteArray}, x ∈ row → x ∈ l.foldl (stepR n) row := by
  induction l with
  | nil => exact fun h => h
  | cons a l ih => exact fun h => ih (stepR_mem h)
theorem foldR_get {n : Nd} {l : List Vr} : ∀ {row : List ByteArray} {v : Vr}, v ∈ l → (∀ y ∈ hangsF n v.name, y ∈ row) → v.name ∈ l.foldl (stepR n) row := by
  induction l with
  | nil => intro row v h; cases h
  | cons a l ih =>
    intro row v h hu
    rcases List.mem_cons.1 h with rfl | h
    · refine foldR_mem (row := stepR n row v) ?_
      unfold stepR
      split
      · simp
      · rename_i g
        exact Classical.byContradiction fun g2 => g ⟨g2, hu⟩
    · exact ih (row := stepR n row a) h fun y hy => stepR_mem (hu y hy)
def RowOk (n : Nd) (row : List ByteArray) : Prop := row.Nodup ∧ ∀ x ∈ row, x ∈ nms (vrs n)
theorem RowOk.step {n : Nd} {row : List ByteArray} {v : Vr} (h : RowOk n row) (hv : v ∈ vrs n) : RowOk n (stepR n row v) := by
  unfold stepR
  split
  · rename_i g
    refine ⟨?_, fun x hx => ?_⟩
    · rw [List.nodup_append]
      exact ⟨h.1, by simp, fun a ha b hb e => by simp at hb; subst hb; subst e; exact g.1 ha⟩
    · rcases List.mem_append.1 hx with hx | hx
      · exact h.2 x hx
      · rw [List.mem_singleton.1 hx]; exact List.mem_map_of_mem hv
  · exact h
theorem RowOk.fold {n : Nd} {l : List Vr} : ∀ {row : List ByteArray}, RowOk n row → (∀ v ∈ l, v ∈ vrs n) → RowOk n (l.foldl (stepR n) row) := by
  induction l with
  | nil => exact fun h _ => h
  | cons v l ih => exact fun h hl => ih (h.step (hl v (by simp))) fun x hx => hl x (by simp [hx])
theorem RowOk.pass {n : Nd} {row : List ByteArray} (h : RowOk n row) (k : Nat) : RowOk n (passTo n row k) := h.fold fun _ hv => List.mem_of_mem_take hv
theorem rowTo_ok (n : Nd) : ∀ r, RowOk n (rowTo n r)
  | 0 => ⟨List.nodup_nil, fun x h => by cases h⟩
  | r + 1 => (rowTo_ok n r).pass _
theorem RowOk.len {n : Nd} {row : List ByteArray} (h : RowOk n row) : row.length ≤ (vrs n).length := by
  have := nodup_len h.1 h.2
  rwa [List.length_map] at this
theorem rowTo_grows {s : List Nd} {n : Nd} (hc : (causeF s).err = 0) (hn : n ∈ s) : ∀ r, r ≤ (vrs n).length → r ≤ (rowTo n r).length
  | 0, _ => Nat.zero_le _
  | r + 1, h => by
    have ih := rowTo_grows hc hn r (by omega)
    obtain ⟨h0, h1⟩ := causeF_ok hc
    have hsub : ∀ x ∈ rowTo n r, x ∈ rowTo n (r + 1) := fun x hx => foldR_mem hx
    by_cases g : (rowTo n r).length < (vrs n).length
    · have hx : ∃ a, a ∈ nms (vrs n) ∧ a ∉ rowTo n r := Classical.byContradiction fun g' => by
        have := nodup_len (l := nms (vrs n)) (m := rowTo n r) (once_nodup (vars_once (scope_nodes h0 n hn).1)) fun x hx => Classical.byContradiction fun g2 => g' ⟨x, hx, g2⟩
        rw [List.length_map] at this
        omega
      obtain ⟨a, ha⟩ := hx
      obtain ⟨x, ⟨hx, hxo⟩, hu⟩ := least (hangs_V h0 hn) (hangsF_rising n) (P := fun x => x ∈ nms (vrs n) ∧ x ∉ rowTo n r) (fun x _ => h1 n hn x) ha
      obtain ⟨v, hv, rfl⟩ := List.mem_map.1 hx
      have hg : v.name ∈ rowTo n (r + 1) := foldR_get (by rw [List.take_length]; exact hv) fun y hy => Classical.byContradiction fun g2 => hu y hy ⟨hangs_V h0 hn _ y hy, g2⟩
      have := nodup_len (m := rowTo n (r + 1)) (List.nodup_cons.2 ⟨hxo, (rowTo_ok n r).1⟩) fun y hy => by
        rcases List.mem_cons.1 hy with rfl | hy
        · exact hg
        · exact hsub y hy
      simp only [List.length_cons] at this
      omega
    · have := nodup_len (rowTo_ok n r).1 hsub
      omega
theorem rowTo_full {s : List Nd} {n : Nd} (hc : (causeF s).err = 0) (hn : n ∈ s) : (rowTo n (vrs n).length).length = (vrs n).length :=
  Nat.le_antisymm (rowTo_ok n _).len (rowTo_grows hc hn _ (Nat.le_refl _))
end Go.Proofs.YtabceednmgijoaaGreat
