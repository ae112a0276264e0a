/-
  A region that draws its order and ends in a store: what is held of the world need not be held behind that store.
-/
import Derived.Test.YtbjaejgechadpaaMem
namespace Go.Proofs.Ytbjaejgechadpaa
open Go.RowKit
section
variable {P : Program} {ops : Array Oper} {Q : Exit → Act → World → Prop} {md : Region.Mode} {S : World → Prop} {s : Nat}
def wpAnyL (P : Program) (md : Region.Mode) (ops : Array Oper) (Q : Exit → Act → World → Prop) (S : World → Prop) (s : Nat) : Nat → Array Bool → Act → World → Prop
  | 0, listed, a, w => Region.ready md ops listed = [] ∧ Q .normal a w
  | fuel + 1, listed, a, w =>
    (Region.ready md ops listed = [] → Q .normal a w) ∧
    ∀ i ∈ Region.ready md ops listed, wpOp P ops Q i (fun a' w' => (i ≠ s → S w') ∧ wpAnyL P md ops Q S s fuel (listed.setIfInBounds i true) a' w') a w
theorem wpAny_of_L : ∀ (fuel : Nat) (listed : Array Bool) (a : Act) (w : World), wpAnyL P md ops Q S s fuel listed a w → wpAny P md ops Q fuel listed a w
  | 0, _, _, _, h => h
  | fuel + 1, _, _, _, h => ⟨h.1, fun i hi => wpOp_mono (fun a' w' h' => wpAny_of_L fuel _ a' w' h'.2) (h.2 i hi)⟩
/-- the last operation waits for all others -/
def lastOp (md : Region.Mode) (ops : Array Oper) (s : Nat) : Bool :=
  match ops[s]? with
  | none => false
  | some o => (List.range ops.size).all fun i => i == s || o.after.any fun e => Region.binds md e && e.on == i
theorem last_not (hl : lastOp md ops s = true) {i : Nat} {listed : Array Bool} (hi : i ∈ Region.ready md ops listed) (hs : s ∈ Region.ready md ops listed) : i = s := by
  by_cases e : i = s
  · exact e
  exfalso
  obtain ⟨hi0, oi, hoi, _⟩ := mem_ready.1 hi
  obtain ⟨_, o, ho, hall⟩ := mem_ready.1 hs
  unfold lastOp at hl
  rw [ho] at hl
  have hlt : i < ops.size := (Array.getElem?_eq_some_iff.1 hoi).1
  have h1 := List.all_eq_true.1 hl i (List.mem_range.2 hlt)
  have e' : (i == s) = false := by simp [e]
  rw [e', Bool.false_or, Array.any_eq_true'] at h1
  obtain ⟨ed, hed, hb⟩ := h1
  rw [Bool.and_eq_true] at hb
  have h2 := hall ed hed hb.1
  have hon : ed.on = i := by simpa using hb.2
  rw [hon] at h2
  rcases Nat.lt_or_ge i listed.size with h' | h'
  · simp [h'] at hi0 h2; rw [hi0] at h2; cases h2
  · simp [Array.getElem?_eq_none h'] at h2
theorem wpAnyL_first {i : Nat} {oi : Oper} {v : Value} (hl : lastOp md ops s = true) (his : i ≠ s) (hi : ops[i]? = some oi) (hsel : ∀ (j : Nat) (o : Oper) cs b, ops[j]? = some o → o.op ≠ .select cs b)
    (hQ : ∀ c a w, Q (.panic c) (a.put oi.dst v) w → Q (.panic c) a w) :
    ∀ (fuel : Nat) (listed : Array Bool) (a : Act) (w : World),
      (∀ j oj, ops[j]? = some oj → j ≠ i → listed.getD j true = false → (∀ e ∈ oj.after, Region.binds md e = true → e.on ≠ i) → oi.apart ops oj = true) →
      i ∈ Region.ready md ops listed → YieldsIf P ops S oi v a → S w →
      wpAnyL P md ops Q S s fuel (listed.setIfInBounds i true) (a.put oi.dst v) w → wpAnyL P md ops Q S s (fuel + 1) listed a w := by
  intro fuel
  induction fuel with
  | zero =>
    intro listed a w _ hr hy hS H
    refine ⟨fun h => (by rw [h] at hr; cases hr), fun j hj => ?_⟩
    by_cases hji : j = i
    · subst hji; exact hy.wpOp hi hS ⟨fun _ => hS, H⟩
    · have := ready_mono hj hji
      rw [H.1] at this
      cases this
  | succ fuel ih =>
    intro listed a w hfree hr hy hS H
    refine ⟨fun h => (by rw [h] at hr; cases hr), fun j hj => ?_⟩
    by_cases hji : j = i
    · subst hji; exact hy.wpOp hi hS ⟨fun _ => hS, H⟩
    · have hjs : j ≠ s := fun e => his (last_not hl hr (e ▸ hj))
      have h1 := H.2 j (ready_mono hj hji)
      obtain ⟨hjun, oj, hoj, hall⟩ := mem_ready.1 hj
      have hnot : ∀ e ∈ oj.after, Region.binds md e = true → e.on ≠ i := fun e he hb heq => by
        have h1 := hall e he hb
        have h0 := (mem_ready.1 hr).1
        rw [heq] at h1
        rcases Nat.lt_or_ge i listed.size with h' | h'
        · simp [h'] at h0 h1; rw [h0] at h1; cases h1
        · simp [Array.getElem?_eq_none h'] at h1
      have h2 := wpOp_putIf hoj (hfree j oj hoj hji hjun hnot) (fun cs b => hsel i oi cs b hi) (fun cs b => hsel j oj cs b hoj) hQ hy h1
      have hfree' : ∀ k ok, ops[k]? = some ok → k ≠ i → (listed.setIfInBounds j true).getD k true = false →
          (∀ e ∈ ok.after, Region.binds md e = true → e.on ≠ i) → oi.apart ops ok = true := fun k ok hk hki hun hno => by
        refine hfree k ok hk hki ?_ hno
        by_cases hjk : j = k
        · subst hjk; exact hjun
        · rw [getD_set_ne true hjk] at hun; exact hun
      refine wpOp_mono (fun a' w' h3 => ⟨h3.2.1, ih (listed.setIfInBounds j true) a' w' hfree' (ready_mono hr (Ne.symm hji)) h3.1 (h3.2.1 hjs) ?_⟩) h2
      rw [Array.setIfInBounds_comm _ _ hji]
      exact h3.2.2
theorem wpAnyL_done {listed : Array Bool} {a : Act} {w : World} (hr : Region.ready md ops listed = []) (h : Q .normal a w) : ∀ fuel, wpAnyL P md ops Q S s fuel listed a w
  | 0 => ⟨hr, h⟩
  | _ + 1 => ⟨fun _ => h, by rw [hr]; simp⟩
theorem wp_region_L (s : Nat) {id : Nat} {a : Act} {w : World} (hm : P.follows .mixedOrders = true) (hS : S w.drew) (h : S w.drew → wpAnyL P .any ops Q S s ops.size (Array.replicate ops.size false) a w.drew) : (Code.region id ops true).wp P Q a w :=
  wp_region_any hm (wpAny_of_L _ _ _ _ (h hS))
variable {fuel : Nat} {listed : Array Bool} {a a' : Act} {w : World} {v : Value} {o : Op} {ty : TypeId} {pos : String} {af : Array Edge} {g : Option (Nat × Bool)}
theorem tkL (i : Nat) (d : Option Tmp) (hi : ops[i]? = some { dst := d, op := o, type := ty, pos := pos, after := af, guard := g }) (h : wpAnyL P md ops Q S s fuel (listed.setIfInBounds i true) a' w)
    (hl : lastOp md ops s = true := by kernel_rfl) (his : i ≠ s := by decide)
    (hs : Region.noSelect ops = true := by kernel_rfl) (hf : Region.free md ops listed i = true := by kernel_rfl) (hr : (Region.ready md ops listed).contains i = true := by kernel_rfl)
    (hw : Region.wanted { dst := d, op := o, type := ty, pos := pos, after := af, guard := g } (yielded ops a.tmps) = true := by kernel_rfl)
    (hy : ∀ w, S w → (execOp a.eval { dst := d, op := o, type := ty, pos := pos, after := af, guard := g }).run P w = .ok (.value v) w := by intro w hSw; (try dsimp only at hSw); go_simp; (try with_reducible rfl))
    (hQ : ∀ c a w, Q (.panic c) (a.put d v) w → Q (.panic c) a w := by exact fun _ _ _ h => h)
    (hS : S w := by first | assumption | trivial)
    (ha : a.put d v = a' := by (try simp only [Act.put, List.setIfInBounds_toArray, List.set_cons_zero, List.set_cons_succ]); (try exact rfl)) : wpAnyL P md ops Q S s (fuel + 1) listed a w := by
  subst ha
  exact wpAnyL_first hl his hi (Region.noSelect_spec hs) hQ fuel listed a w (Region.free_spec hi hf) (by simpa using hr) (.inl ⟨hw, hy⟩) hS h
theorem rdL (i : Nat) (d : Option Tmp) (hi : ops[i]? = some { dst := d, op := o, type := ty, pos := pos, after := af, guard := g })
    (h : ∀ K' : Act → World → Prop, Shut (∀ a w, S w → (S w → wpAnyL P md ops Q S s fuel (listed.setIfInBounds i true) a w) → K' a w) → if Region.wanted { dst := d, op := o, type := ty, pos := pos, after := af, guard := g } (yielded ops a.tmps) = true then Oper.wp P { dst := d, op := o, type := ty, pos := pos, after := af, guard := g } a w K' Q else K' (a.put d undef) w)
    (hr : Region.ready md ops listed = [i] := by kernel_rfl) : wpAnyL P md ops Q S s (fuel + 1) listed a w :=
  ⟨fun h0 => (by rw [hr] at h0; cases h0), fun j hj => by
    rw [hr] at hj
    obtain rfl := List.mem_singleton.1 hj
    exact wpOp_step hi (fun K' hK => h K' (fun a w hS hW => hK a w ⟨fun _ => hS, hW hS⟩))⟩
/-- the last one -/
theorem rdE (d : Option Tmp) (hi : ops[s]? = some { dst := d, op := o, type := ty, pos := pos, after := af, guard := g })
    (h : ∀ K' : Act → World → Prop, Shut (∀ a w, wpAnyL P md ops Q S s fuel (listed.setIfInBounds s true) a w → K' a w) → if Region.wanted { dst := d, op := o, type := ty, pos := pos, after := af, guard := g } (yielded ops a.tmps) = true then Oper.wp P { dst := d, op := o, type := ty, pos := pos, after := af, guard := g } a w K' Q else K' (a.put d undef) w)
    (hr : Region.ready md ops listed = [s] := by kernel_rfl) : wpAnyL P md ops Q S s (fuel + 1) listed a w :=
  ⟨fun h0 => (by rw [hr] at h0; cases h0), fun j hj => by
    rw [hr] at hj
    obtain rfl := List.mem_singleton.1 hj
    exact wpOp_step hi (fun K' hK => h K' (fun a w hW => hK a w ⟨fun g => absurd rfl g, hW⟩))⟩
end
end Go.Proofs.Ytbjaejgechadpaa
