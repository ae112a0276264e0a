/-
  slices.Clone at three types; small readers of rows of numbers.
-/
import Derived.Test.YtbjaejgechadpaaVmMem
import Derived.Test.YtbjaejgechadpaaVRight
import Derived.Test.YtbjaejgechadpaaRefMay
import Derived.Deep.DrawnRows
namespace Go.Proofs.Ytbjaejgechadpaa
open Go.RowKit Vf
attribute [local go_sem ↓] Go.wp_at_zero Go.wp_at_succ
theorem Sl.flatA {α : Type} {w : World} {B size : Nat} {rel : α → List Value → Prop} {ad : Addr} {l : List α} {f : α → List Value} (h : Sl w B size rel (some ad) l) (hf : ∀ x cs, rel x cs → cs = f x) (hl : ∀ x, (f x).length = size) :
    ∀ j u, ((l.map f).flatten)[j]? = some u → w.cell? (ad.add j) = some u := by
  rcases Nat.eq_zero_or_pos l.length with h0 | h0
  · have : l = [] := List.eq_nil_of_length_eq_zero h0
    subst this
    intro j u hu
    simp at hu
  · obtain ⟨b, off, hA, _⟩ := h h0
    injection hA with hA
    subst hA
    exact h.flat hf hl
theorem Sl.none {α : Type} {w : World} {B size : Nat} {rel : α → List Value → Prop} {l : List α} (h : Sl w B size rel none l) : l = [] := by
  rcases Nat.eq_zero_or_pos l.length with h0 | h0
  · exact List.eq_nil_of_length_eq_zero h0
  · obtain ⟨b, off, hA, _⟩ := h h0
    cases hA
/-- what a copy is -/
def CloneIs {α : Type} (E : TypeId) (size : Nat) (f : α → List Value) (l : List α) (w : World) (e : Ending) (w' : World) : Prop := ∃ v', e = .returned v' ∧ w'.ownsRow w.heap.size E size v' l.length (l.map f).flatten ∧ Below w.heap.size w w'
def in5C (x : In5) : List Value := [.int .i64 x.op, .int .i64 x.a, .int .i64 x.b, .int .i64 x.c, .int .i64 x.k]
theorem in5C_of (x : In5) (cs : List Value) (h : isIn5 x cs) : cs = in5C x := h.1
theorem in5C_len (x : In5) : (in5C x).length = 5 := rfl
def cellC (x : Int × Int) : List Value := [.int .i64 x.1, .int .i64 x.2]
theorem cellC_of (x : Int × Int) (cs : List Value) (h : isCell x cs) : cs = cellC x := h.1
theorem cellC_len (x : Int × Int) : (cellC x).length = 2 := rfl
def intC (x : Int) : List Value := [.int .i64 x]
theorem intC_of (x : Int) (cs : List Value) (h : isInt x cs) : cs = intC x := h.1
theorem intC_len (x : Int) : (intC x).length = 1 := rfl
theorem intC_flat (l : List Int) : (l.map intC).flatten = ints l := by
  induction l with
  | nil => rfl
  | cons x l ih => rw [List.map_cons, List.flatten_cons, ih]; rfl
theorem flat_one {α : Type} {f : α → List Value} (hf : ∀ x, ∀ u ∈ f x, u.oneCell' = true) (l : List α) : ∀ u ∈ (l.map f).flatten, u.oneCell' = true := by
  intro u hu
  obtain ⟨cs, hcs, hu⟩ := List.mem_flatten.1 hu
  obtain ⟨x, _, rfl⟩ := List.mem_map.1 hcs
  exact hf x u hu
theorem in5C_one (x : In5) : ∀ u ∈ in5C x, u.oneCell' = true := by
  intro u hu
  simp only [in5C, List.mem_cons, List.not_mem_nil, or_false] at hu
  rcases hu with rfl | rfl | rfl | rfl | rfl <;> rfl
theorem cellC_one (x : Int × Int) : ∀ u ∈ cellC x, u.oneCell' = true := by
  intro u hu
  simp only [cellC, List.mem_cons, List.not_mem_nil, or_false] at hu
  rcases hu with rfl | rfl <;> rfl
theorem intC_one (x : Int) : ∀ u ∈ intC x, u.oneCell' = true := by
  intro u hu
  simp only [intC, List.mem_cons, List.not_mem_nil, or_false] at hu
  rcases hu with rfl; rfl
theorem info_instr : (Try.prog.info? 30).map (fun i => (i.zero, i.size, i.bytes)) = some (some (.agg #[.int .i64 0, .int .i64 0, .int .i64 0, .int .i64 0, .int .i64 0]), 5, 40) := by kernel_rfl
theorem info_cell : (Try.prog.info? 81).map (fun i => (i.zero, i.size, i.bytes)) = some (some (.agg #[.int .i64 0, .int .i64 0]), 2, 16) := by kernel_rfl
set_option maxRecDepth 100000 in
set_option maxHeartbeats 1000000 in
theorem clone_instr (l : List (In5)) (v : Value) (w : World) (h : SlV w w.heap.size 5 isIn5 v l) (hl : l.length ≤ 100000) :
    Calls Try.prog 54 #[v] w (CloneIs 30 5 in5C l w) := by
  obtain ⟨A, cap, rfl, h1, h2, h3⟩ := h
  have hq := fun (w : World) (a : Option Addr) (n c : Nat) => Lib.run_eql_slice_nil (P := Try.prog) w 24 30 a n c 0 0 Try.underlying24
  rcases A with _ | ad
  · have h0 := h3.none
    subst h0
    go_enter Try.func54, Try.ntmps54
    go_wp2_with fail
    go_ret
    exact ⟨_, rfl, ⟨by simp, .inl ⟨rfl, rfl⟩⟩, Below.refl _ _⟩
  · have hN := (h3.below ((Below.refl _ _).alloc (Nat.le_refl _) (.cells #[] 30))).flatA in5C_of in5C_len
    have HL := Lib.hid (flat_len (size := 5) (l := l) in5C_len)
    have HO := Lib.hid (flat_one in5C_one l)
    obtain ⟨i0, hi0, hz0, hz1, hz2⟩ := info_parts info_instr
    go_enter Try.func54, Try.ntmps54
    go_wp2_with (at_builtin; refine wpList_append_own _ rfl _ _ 24 rfl w.heap.size 30 i0 (.agg #[.int .i64 0, .int .i64 0, .int .i64 0, .int .i64 0, .int .i64 0]) 5 40 Try.underlying24 hi0 hz0 hz1 hz2 rfl (by decide) _ _ _ rfl (own_empty w 30 5) ad l.length cap (l.map in5C).flatten rfl ?c0 ?c1 ?c2 ?c3 ?c4 ?c5 ?_)
    case c0 => exact HL.out
    case c1 => exact hN
    case c2 => exact HO.out
    case c3 => unfold maxLen; omega
    case c4 => omega
    case c5 => simp
    intro v' w1 hown hgrow _
    have bb := below_own ((Below.refl w.heap.size w).alloc (Nat.le_refl _) (.cells #[] 30)) (own_empty w 30 5) hgrow (by simp)
    (try simp only [Nat.zero_add, List.nil_append] at hown)
    go_wp2_with fail
    go_ret
    exact ⟨_, rfl, hown, bb⟩
set_option maxRecDepth 100000 in
set_option maxHeartbeats 1000000 in
theorem clone_cell (l : List (Int × Int)) (v : Value) (w : World) (h : SlV w w.heap.size 2 isCell v l) (hl : l.length ≤ 100000) :
    Calls Try.prog 55 #[v] w (CloneIs 81 2 cellC l w) := by
  obtain ⟨A, cap, rfl, h1, h2, h3⟩ := h
  have hq := fun (w : World) (a : Option Addr) (n c : Nat) => Lib.run_eql_slice_nil (P := Try.prog) w 23 81 a n c 0 0 Try.underlying23
  rcases A with _ | ad
  · have h0 := h3.none
    subst h0
    go_enter Try.func55, Try.ntmps55
    go_wp2_with fail
    go_ret
    exact ⟨_, rfl, ⟨by simp, .inl ⟨rfl, rfl⟩⟩, Below.refl _ _⟩
  · have hN := (h3.below ((Below.refl _ _).alloc (Nat.le_refl _) (.cells #[] 81))).flatA cellC_of cellC_len
    have HL := Lib.hid (flat_len (size := 2) (l := l) cellC_len)
    have HO := Lib.hid (flat_one cellC_one l)
    obtain ⟨i0, hi0, hz0, hz1, hz2⟩ := info_parts info_cell
    go_enter Try.func55, Try.ntmps55
    go_wp2_with (at_builtin; refine wpList_append_own _ rfl _ _ 23 rfl w.heap.size 81 i0 (.agg #[.int .i64 0, .int .i64 0]) 2 16 Try.underlying23 hi0 hz0 hz1 hz2 rfl (by decide) _ _ _ rfl (own_empty w 81 2) ad l.length cap (l.map cellC).flatten rfl ?c0 ?c1 ?c2 ?c3 ?c4 ?c5 ?_)
    case c0 => exact HL.out
    case c1 => exact hN
    case c2 => exact HO.out
    case c3 => unfold maxLen; omega
    case c4 => omega
    case c5 => simp
    intro v' w1 hown hgrow _
    have bb := below_own ((Below.refl w.heap.size w).alloc (Nat.le_refl _) (.cells #[] 81)) (own_empty w 81 2) hgrow (by simp)
    (try simp only [Nat.zero_add, List.nil_append] at hown)
    go_wp2_with fail
    go_ret
    exact ⟨_, rfl, hown, bb⟩
set_option maxRecDepth 100000 in
set_option maxHeartbeats 1000000 in
theorem clone_int (l : List (Int)) (v : Value) (w : World) (h : SlV w w.heap.size 1 isInt v l) (hl : l.length ≤ 100000) :
    Calls Try.prog 56 #[v] w (CloneIs 3 1 intC l w) := by
  obtain ⟨A, cap, rfl, h1, h2, h3⟩ := h
  have hq := fun (w : World) (a : Option Addr) (n c : Nat) => Lib.run_eql_slice_nil (P := Try.prog) w 22 3 a n c 0 0 Try.underlying22
  rcases A with _ | ad
  · have h0 := h3.none
    subst h0
    go_enter Try.func56, Try.ntmps56
    go_wp2_with fail
    go_ret
    exact ⟨_, rfl, ⟨by simp, .inl ⟨rfl, rfl⟩⟩, Below.refl _ _⟩
  · have hN := (h3.below ((Below.refl _ _).alloc (Nat.le_refl _) (.cells #[] 3))).flatA intC_of intC_len
    have HL := Lib.hid (flat_len (size := 1) (l := l) intC_len)
    have HO := Lib.hid (flat_one intC_one l)
    obtain ⟨i0, hi0, hz0, hz1, hz2⟩ := info_parts info_int
    go_enter Try.func56, Try.ntmps56
    go_wp2_with (at_builtin; refine wpList_append_own _ rfl _ _ 22 rfl w.heap.size 3 i0 (.int .i64 0) 1 8 Try.underlying22 hi0 hz0 hz1 hz2 rfl (by decide) _ _ _ rfl (own_empty w 3 1) ad l.length cap (l.map intC).flatten rfl ?c0 ?c1 ?c2 ?c3 ?c4 ?c5 ?_)
    case c0 => exact HL.out
    case c1 => exact hN
    case c2 => exact HO.out
    case c3 => unfold maxLen; omega
    case c4 => omega
    case c5 => simp
    intro v' w1 hown hgrow _
    have bb := below_own ((Below.refl w.heap.size w).alloc (Nat.le_refl _) (.cells #[] 3)) (own_empty w 3 1) hgrow (by simp)
    (try simp only [Nat.zero_add, List.nil_append] at hown)
    go_wp2_with fail
    go_ret
    exact ⟨_, rfl, hown, bb⟩
/-! ### rows of numbers -/
/-- do values fit their types? -/
def fitsOk (ts vs : List Int) : Prop := typesOk ts ∧ vs.length = ts.length ∧ ∀ (i : Nat) (t v : Int), ts[i]? = some t → vs[i]? = some v → t = 2 → v = 0 ∨ v = 1
theorem truth_any (n : Int) (w : World) :
    Calls Try.prog 95 #[.int .i64 n] w fun e w' => e = .returned (.bool (cB (n = 0 ∨ n = 1))) ∧ w = w' := by
  go_enter Try.func95, Try.ntmps95
  go_wp2
  all_goals
    go_ret
    refine ⟨ret_bool ?_, rfl⟩
    rw [Bool.eq_iff_iff, cB_iff]
    simp at *
    try omega
theorem int_at {w : World} {B : Nat} {A : Option Addr} {l : List Int} {k : Nat} (h : Sl w B 1 isInt A l) (hk : k < l.length) : ∃ b off x, A = some ⟨b, off, none⟩ ∧ b < B ∧ l[k]? = some x ∧ Wf x ∧ w.cell? ⟨b, off + k, none⟩ = some (.int .i64 x) := h.int hk
def fitsAt (ts vs : List Int) (j : Nat) : Prop := ∀ (t v : Int), ts[j]? = some t → vs[j]? = some v → t = 2 → v = 0 ∨ v = 1
theorem fitsAt_mk {ts vs : List Int} {j : Nat} {t v : Int} (ht : ts[j]? = some t) (hv : vs[j]? = some v) (h : t = 2 → v = 0 ∨ v = 1) : fitsAt ts vs j := fun t' v' ht' hv' => by
  rw [ht] at ht'
  rw [hv] at hv'
  injection ht' with ht'
  injection hv' with hv'
  rw [← ht', ← hv']
  exact h
theorem fits_no {ts vs : List Int} {j : Nat} {t v : Int} (ht : ts[j]? = some t) (hv : vs[j]? = some v) (h2 : t = 2) (h : ¬ (v = 0 ∨ v = 1)) : ¬ fitsOk ts vs := fun g => h (g.2.2 j t v ht hv h2)
theorem fits_yes {ts vs : List Int} (h1 : typesOk ts) (h2 : vs.length = ts.length) (h : ∀ j, j < vs.length → fitsAt ts vs j) : fitsOk ts vs := ⟨h1, h2, fun i t v ht hv => h i (List.getElem?_eq_some_iff.1 hv).1 t v ht hv⟩
end Go.Proofs.Ytbjaejgechadpaa
