/-
  What a form says, as plain data: a wire's value, a tick.
-/
import Derived.Test.YtbjaejgechadpaaPlainA
import Derived.Test.YtbjaejgechadpaaArZ
namespace Go.Proofs.Ytbjaejgechadpaa.Fo
open Vf Ar
/-- a wire's value at a tick -/
inductive Vl (f : Fm) (cs row : List Int) : Int → Int → Prop where
  | inp (i : Nat) (n v : Int) (h : f.ins[i]? = some n) (hv : row.getD i 0 = v) : Vl f cs row n v
  | const (x : Ac) (hx : x ∈ f.acts) (ho : x.op ≤ 2) : Vl f cs row x.dst x.k
  | pre (x : Ac) (hx : x ∈ f.acts) (ho : x.op = 21) : Vl f cs row x.dst (getI cs x.k)
  | copy (x : Ac) (hx : x ∈ f.acts) (ho : x.op = 3 ∨ x.op = 24) (v : Int) (h : Vl f cs row x.a v) : Vl f cs row x.dst v
  | yes (x : Ac) (hx : x ∈ f.acts) (ho : 26 ≤ x.op) (c v : Int) (hc : Vl f cs row x.a c) (h0 : c ≠ 0) (h : Vl f cs row x.b v) : Vl f cs row x.dst v
  | no (x : Ac) (hx : x ∈ f.acts) (ho : 26 ≤ x.op) (c v : Int) (hc : Vl f cs row x.a c) (h0 : c = 0) (h : Vl f cs row x.c v) : Vl f cs row x.dst v
  | one (x : Ac) (hx : x ∈ f.acts) (ho : x.op = 5 ∨ x.op = 6) (a : Int) (h : Vl f cs row x.a a) : Vl f cs row x.dst (oneV x.op a)
  | two (x : Ac) (hx : x ∈ f.acts) (ho : 7 ≤ x.op ∧ x.op ≤ 20) (a b : Int) (h1 : Vl f cs row x.a a) (h2 : Vl f cs row x.b b) : Vl f cs row x.dst (doV x.op a b)
theorem dst_uniq {f : Fm} (hd : definedOk f) {x y : Ac} (hx : x ∈ f.acts) (hy : y ∈ f.acts) (e : x.dst = y.dst) : x = y := by
  obtain ⟨i, hi⟩ := List.getElem?_of_mem hx
  obtain ⟨j, hj⟩ := List.getElem?_of_mem hy
  rcases Nat.lt_trichotomy i j with h | h | h
  · exact absurd e (hd.2.2.1 i j x y h hi hj)
  · subst h; rw [hi] at hj; injection hj
  · exact absurd e.symm (hd.2.2.1 j i y x h hj hi)
/-- by which act, or none -/
theorem vl_act {f : Fm} {cs row : List Int} (hd : definedOk f) {x : Ac} (hx : x ∈ f.acts) {v : Int} (h : Vl f cs row x.dst v) :
    (x.op ≤ 2 ∧ v = x.k) ∨ (x.op = 21 ∧ v = getI cs x.k) ∨ ((x.op = 3 ∨ x.op = 24) ∧ Vl f cs row x.a v) ∨ (26 ≤ x.op ∧ ∃ c, Vl f cs row x.a c ∧ ((c ≠ 0 ∧ Vl f cs row x.b v) ∨ (c = 0 ∧ Vl f cs row x.c v))) ∨
    ((x.op = 5 ∨ x.op = 6) ∧ ∃ a, Vl f cs row x.a a ∧ v = oneV x.op a) ∨ ((7 ≤ x.op ∧ x.op ≤ 20) ∧ ∃ a b, Vl f cs row x.a a ∧ Vl f cs row x.b b ∧ v = doV x.op a b) := by
  generalize hn : x.dst = n at h
  cases h with
  | inp i n v h hv => exact absurd (by rw [hn]; exact List.mem_of_getElem? h) (hd.2.1 x hx).2
  | const y hy ho => obtain rfl := dst_uniq hd hx hy hn; exact .inl ⟨ho, rfl⟩
  | pre y hy ho => obtain rfl := dst_uniq hd hx hy hn; exact .inr (.inl ⟨ho, rfl⟩)
  | copy y hy ho v h => obtain rfl := dst_uniq hd hx hy hn; exact .inr (.inr (.inl ⟨ho, h⟩))
  | yes y hy ho c v hc h0 h => obtain rfl := dst_uniq hd hx hy hn; exact .inr (.inr (.inr (.inl ⟨ho, c, hc, .inl ⟨h0, h⟩⟩)))
  | no y hy ho c v hc h0 h => obtain rfl := dst_uniq hd hx hy hn; exact .inr (.inr (.inr (.inl ⟨ho, c, hc, .inr ⟨h0, h⟩⟩)))
  | one y hy ho a h => obtain rfl := dst_uniq hd hx hy hn; exact .inr (.inr (.inr (.inr (.inl ⟨ho, a, h, rfl⟩))))
  | two y hy ho a b h1 h2 => obtain rfl := dst_uniq hd hx hy hn; exact .inr (.inr (.inr (.inr (.inr ⟨ho, a, b, h1, h2, rfl⟩))))
theorem Vl.uniq {f : Fm} {cs row : List Int} (hd : definedOk f) {n v : Int} (h : Vl f cs row n v) : ∀ {v' : Int}, Vl f cs row n v' → v = v' := by
  induction h with
  | inp i n v h hv =>
    intro v' h'
    generalize hn : n = m at h'
    cases h' with
    | inp j m v' g gv =>
      subst hn
      rcases Nat.lt_trichotomy i j with q | q | q
      · exact absurd rfl (hd.1 i j n n q h g)
      · subst q; rw [← hv, ← gv]
      · exact absurd rfl (hd.1 j i n n q g h)
    | const y hy _ | pre y hy _ | copy y hy _ _ _ | yes y hy _ _ _ _ _ _ | no y hy _ _ _ _ _ _ | one y hy _ _ _ | two y hy _ _ _ _ _ => exact absurd (by rw [← hn]; exact List.mem_of_getElem? h) (hd.2.1 y hy).2
  | const x hx ho =>
    intro v' h'
    rcases vl_act hd hx h' with ⟨_, g⟩ | ⟨g, _⟩ | ⟨g, _⟩ | ⟨g, _⟩ | ⟨g, _⟩ | ⟨g, _⟩
    · exact g.symm
    all_goals omega
  | pre x hx ho =>
    intro v' h'
    rcases vl_act hd hx h' with ⟨g, _⟩ | ⟨_, g⟩ | ⟨g, _⟩ | ⟨g, _⟩ | ⟨g, _⟩ | ⟨g, _⟩
    · omega
    · exact g.symm
    all_goals omega
  | copy x hx ho v h ih =>
    intro v' h'
    rcases vl_act hd hx h' with ⟨g, _⟩ | ⟨g, _⟩ | ⟨_, g⟩ | ⟨g, _⟩ | ⟨g, _⟩ | ⟨g, _⟩
    · omega
    · omega
    · exact ih g
    all_goals omega
  | yes x hx ho c v hc h0 h ihc ih =>
    intro v' h'
    rcases vl_act hd hx h' with ⟨g, _⟩ | ⟨g, _⟩ | ⟨g, _⟩ | ⟨_, c', gc, ⟨_, g⟩ | ⟨g0, _⟩⟩ | ⟨g, _⟩ | ⟨g, _⟩
    · omega
    · omega
    · omega
    · exact ih g
    · exact absurd ((ihc gc).trans g0) h0
    all_goals omega
  | no x hx ho c v hc h0 h ihc ih =>
    intro v' h'
    rcases vl_act hd hx h' with ⟨g, _⟩ | ⟨g, _⟩ | ⟨g, _⟩ | ⟨_, c', gc, ⟨g0, _⟩ | ⟨_, g⟩⟩ | ⟨g, _⟩ | ⟨g, _⟩
    · omega
    · omega
    · omega
    · exact absurd ((ihc gc).symm.trans h0) g0
    · exact ih g
    all_goals omega
  | one x hx ho a h ih =>
    intro v' h'
    rcases vl_act hd hx h' with ⟨g, _⟩ | ⟨g, _⟩ | ⟨g, _⟩ | ⟨g, _⟩ | ⟨_, a', ga, g⟩ | ⟨g, _⟩
    · omega
    · omega
    · omega
    · omega
    · rw [g, ih ga]
    · omega
  | two x hx ho a b h1 h2 ih1 ih2 =>
    intro v' h'
    rcases vl_act hd hx h' with ⟨g, _⟩ | ⟨g, _⟩ | ⟨g, _⟩ | ⟨g, _⟩ | ⟨g, _⟩ | ⟨_, a', b', ga, gb, g⟩
    · omega
    · omega
    · omega
    · omega
    · omega
    · rw [g, ih1 ga, ih2 gb]
theorem Vl.perm {f : Fm} {cs row : List Int} {l : List Ac} (hp : ∀ x, x ∈ f.acts → x ∈ l) {n v : Int} (h : Vl f cs row n v) : Vl (withActs f l) cs row n v := by
  induction h with
  | inp i n v h hv => exact .inp i n v h hv
  | const x hx ho => exact .const x (hp x hx) ho
  | pre x hx ho => exact .pre x (hp x hx) ho
  | copy x hx ho v h ih => exact .copy x (hp x hx) ho v ih
  | yes x hx ho c v hc h0 h ihc ih => exact .yes x (hp x hx) ho c v ihc h0 ih
  | no x hx ho c v hc h0 h ihc ih => exact .no x (hp x hx) ho c v ihc h0 ih
  | one x hx ho a h ih => exact .one x (hp x hx) ho a ih
  | two x hx ho a b h1 h2 ih1 ih2 => exact .two x (hp x hx) ho a b ih1 ih2
open Classical in
noncomputable def valF (f : Fm) (cs row : List Int) (n : Int) : Int := if h : ∃ v, Vl f cs row n v then h.choose else 0
theorem valF_of {f : Fm} {cs row : List Int} (hd : definedOk f) {n v : Int} (h : Vl f cs row n v) : valF f cs row n = v := by
  have hx : ∃ v, Vl f cs row n v := ⟨v, h⟩
  unfold valF
  rw [dif_pos hx]
  exact hx.choose_spec.uniq hd h
theorem valF_perm {f : Fm} {l : List Ac} (hp : f.acts.Perm l) (cs row : List Int) (n : Int) : valF (withActs f l) cs row n = valF f cs row n := by
  have e : ∀ v, Vl (withActs f l) cs row n v ↔ Vl f cs row n v := fun v => ⟨fun h => by
    have := h.perm (l := f.acts) (fun x hx => hp.mem_iff.2 hx)
    exact this, fun h => h.perm (fun x hx => hp.mem_iff.1 hx)⟩
  have e' : Vl (withActs f l) cs row n = Vl f cs row n := funext fun v => propext (e v)
  unfold valF
  rw [e']
/-- is a clock there? -/
noncomputable def thF (f : Fm) (cs row : List Int) : List Gd → Bool
  | [] => true
  | g :: l => if (decide (valF f cs row g.wire ≠ 0)) = g.no then false else thF f cs row l
noncomputable def nextF (f : Fm) (cs row : List Int) (l : List (Int × Int)) (ns : List Int) : List Int :=
  l.foldl (fun ns k => if thF f cs row (clockOf f k.2) = true then ns.set k.1.toNat (valF f cs row k.2) else ns) ns
noncomputable def outF (f : Fm) (cs row : List Int) : List Int := f.outs.map (valF f cs row)
noncomputable def rowsF (f : Fm) : List Int → List (List Int) → List (List Int)
  | _, [] => []
  | cs, row :: l => outF f cs row :: rowsF f (nextF f cs row f.keeps cs) l
theorem thF_perm {f : Fm} {l : List Ac} (hp : f.acts.Perm l) (cs row : List Int) : ∀ (c : List Gd), thF (withActs f l) cs row c = thF f cs row c
  | [] => rfl
  | g :: c => by
    simp only [thF]
    rw [valF_perm hp, thF_perm hp cs row c]
theorem nextF_perm {f : Fm} {l : List Ac} (hp : f.acts.Perm l) (cs row : List Int) : ∀ (ks : List (Int × Int)) (ns : List Int), nextF (withActs f l) cs row ks ns = nextF f cs row ks ns
  | [], _ => rfl
  | k :: ks, ns => by
    have h1 := nextF_perm hp cs row ks
    simp only [nextF, List.foldl_cons] at h1 ⊢
    rw [valF_perm hp, thF_perm hp]
    exact h1 _
theorem rowsF_perm {f : Fm} {l : List Ac} (hp : f.acts.Perm l) : ∀ (rows : List (List Int)) (cs : List Int), rowsF (withActs f l) cs rows = rowsF f cs rows
  | [], _ => rfl
  | row :: rows, cs => by
    have h0 : outF (withActs f l) cs row = outF f cs row := by
      unfold outF
      exact List.map_congr_left (fun n _ => valF_perm hp cs row n)
    have h1 : nextF (withActs f l) cs row (withActs f l).keeps cs = nextF f cs row f.keeps cs := nextF_perm hp cs row f.keeps cs
    simp only [rowsF]
    rw [h0, h1, rowsF_perm hp rows]
theorem wants_a {x : Ac} (h : 1 ≤ uses x.op) : x.a ∈ wants x := by
  unfold wants
  rw [if_neg (by omega)]
  split
  · simp
  split
  · simp
  · simp
theorem wants_b {x : Ac} (h : 2 ≤ uses x.op) : x.b ∈ wants x := by
  unfold wants
  rw [if_neg (by omega), if_neg (by omega)]
  split
  · simp
  · simp
theorem wants_c {x : Ac} (h : uses x.op = 3) : x.c ∈ wants x := by
  unfold wants
  rw [if_neg (by omega), if_neg (by omega), if_neg (by omega)]
  simp
theorem uses1 {op : Int} (h : op = 3 ∨ op = 24 ∨ op = 5 ∨ op = 6) : uses op = 1 := by unfold uses; rw [if_neg (by omega), if_pos (by omega)]
theorem uses2 {op : Int} (h : 7 ≤ op ∧ op ≤ 20) : uses op = 2 := by unfold uses; rw [if_neg (by omega), if_neg (by omega), if_pos h]
theorem uses3 {op : Int} (h : op = 26 ∨ op = 27) : uses op = 3 := by unfold uses; rw [if_neg (by omega), if_neg (by omega), if_neg (by omega), if_pos h]
theorem vl_total {f : Fm} (hf : formOk f) (cs row : List Int) {n : Int} (h : Done f n) : ∃ v, Vl f cs row n v := by
  induction h with
  | ins n h =>
    obtain ⟨i, hi⟩ := List.getElem?_of_mem h
    exact ⟨_, .inp i n _ hi rfl⟩
  | act x hx _ _ ih _ =>
    have hu := (hf.2.2.2.2.2.1 x hx).2.2.2.1
    rcases uses_cases hu with h | h | h | h | h | h | h | h | h
    · exact ⟨_, .const x hx (by omega)⟩
    · exact ⟨_, .const x hx (by omega)⟩
    · exact ⟨_, .pre x hx h⟩
    · obtain ⟨v, hv⟩ := ih x.a (wants_a (by rw [uses1 (by omega)]; omega))
      exact ⟨_, .copy x hx (.inl h) v hv⟩
    · obtain ⟨v, hv⟩ := ih x.a (wants_a (by rw [uses1 (by omega)]; omega))
      exact ⟨_, .copy x hx (.inr h) v hv⟩
    · obtain ⟨a, ha⟩ := ih x.a (wants_a (by rw [uses3 (by omega)]; omega))
      obtain ⟨b, hb⟩ := ih x.b (wants_b (by rw [uses3 (by omega)]; omega))
      obtain ⟨c, hc⟩ := ih x.c (wants_c (uses3 (by omega)))
      by_cases h0 : a = 0
      · exact ⟨_, .no x hx (by omega) a c ha h0 hc⟩
      · exact ⟨_, .yes x hx (by omega) a b ha h0 hb⟩
    · obtain ⟨a, ha⟩ := ih x.a (wants_a (by rw [uses3 (by omega)]; omega))
      obtain ⟨b, hb⟩ := ih x.b (wants_b (by rw [uses3 (by omega)]; omega))
      obtain ⟨c, hc⟩ := ih x.c (wants_c (uses3 (by omega)))
      by_cases h0 : a = 0
      · exact ⟨_, .no x hx (by omega) a c ha h0 hc⟩
      · exact ⟨_, .yes x hx (by omega) a b ha h0 hb⟩
    · obtain ⟨a, ha⟩ := ih x.a (wants_a (by rw [uses1 (by omega)]; omega))
      exact ⟨_, .one x hx (by omega) a ha⟩
    · obtain ⟨a, ha⟩ := ih x.a (wants_a (by rw [uses2 h]; omega))
      obtain ⟨b, hb⟩ := ih x.b (wants_b (by rw [uses2 h]; omega))
      exact ⟨_, .two x hx h a b ha hb⟩
theorem valF_is {f : Fm} (hf : formOk f) (cs row : List Int) {n : Int} (h : Done f n) : Vl f cs row n (valF f cs row n) := by
  obtain ⟨v, hv⟩ := vl_total hf cs row h
  rw [valF_of hf.2.2.2.2.1 hv]
  exact hv
section
variable {f : Fm} (hf : formOk f) (cs row : List Int)
include hf
theorem val_inp {i : Nat} {n : Int} (h : f.ins[i]? = some n) : valF f cs row n = row.getD i 0 := valF_of hf.2.2.2.2.1 (.inp i n _ h rfl)
theorem val_const {x : Ac} (hx : x ∈ f.acts) (ho : x.op ≤ 2) : valF f cs row x.dst = x.k := valF_of hf.2.2.2.2.1 (.const x hx ho)
theorem val_pre {x : Ac} (hx : x ∈ f.acts) (ho : x.op = 21) : valF f cs row x.dst = getI cs x.k := valF_of hf.2.2.2.2.1 (.pre x hx ho)
theorem val_copy {x : Ac} (hx : x ∈ f.acts) (ho : x.op = 3 ∨ x.op = 24) (h : Done f x.a) : valF f cs row x.dst = valF f cs row x.a := valF_of hf.2.2.2.2.1 (.copy x hx ho _ (valF_is hf cs row h))
theorem val_yes {x : Ac} (hx : x ∈ f.acts) (ho : 26 ≤ x.op) (ha : Done f x.a) (h0 : valF f cs row x.a ≠ 0) (h : Done f x.b) : valF f cs row x.dst = valF f cs row x.b := valF_of hf.2.2.2.2.1 (.yes x hx ho _ _ (valF_is hf cs row ha) h0 (valF_is hf cs row h))
theorem val_no {x : Ac} (hx : x ∈ f.acts) (ho : 26 ≤ x.op) (ha : Done f x.a) (h0 : valF f cs row x.a = 0) (h : Done f x.c) : valF f cs row x.dst = valF f cs row x.c := valF_of hf.2.2.2.2.1 (.no x hx ho _ _ (valF_is hf cs row ha) h0 (valF_is hf cs row h))
theorem val_one {x : Ac} (hx : x ∈ f.acts) (ho : x.op = 5 ∨ x.op = 6) (ha : Done f x.a) : valF f cs row x.dst = oneV x.op (valF f cs row x.a) := valF_of hf.2.2.2.2.1 (.one x hx ho _ (valF_is hf cs row ha))
theorem val_two {x : Ac} (hx : x ∈ f.acts) (ho : 7 ≤ x.op ∧ x.op ≤ 20) (ha : Done f x.a) (hb : Done f x.b) : valF f cs row x.dst = doV x.op (valF f cs row x.a) (valF f cs row x.b) := valF_of hf.2.2.2.2.1 (.two x hx ho _ _ (valF_is hf cs row ha) (valF_is hf cs row hb))
end
end Go.Proofs.Ytbjaejgechadpaa.Fo
