/-
  Rising lists of names, and what hangs on what by steps: plain.
-/
import Derived.Sort.KeysCollected
import Derived.Sort.Walk0
import Derived.Test.YtabceednmgijoaaGreatWhP
namespace Go.Proofs.YtabceednmgijoaaGreat
/-- a name before another -/
def ltN (a b : ByteArray) : Prop := a.data.toList < b.data.toList
theorem ltN_irrefl (a : ByteArray) : ¬ ltN a a := List.lt_irrefl a.data.toList
theorem ltN_trans {a b c : ByteArray} (h : ltN a b) (k : ltN b c) : ltN a c := (List.lt_trans h k : a.data.toList < c.data.toList)
theorem nmb_inj {a b : ByteArray} (h : a.data.toList = b.data.toList) : a = b := WideShapes.bytes_inj h
theorem ltN_of {a b : ByteArray} (h : ¬ ltN a b) (hne : a ≠ b) : ltN b a := by
  unfold ltN at *
  have h1 : b.data.toList ≤ a.data.toList := List.not_lt.1 h
  rcases List.le_iff_lt_or_eq.1 h1 with g | g
  · exact g
  · exact absurd (nmb_inj g).symm hne
abbrev Rising (l : List ByteArray) : Prop := l.Pairwise ltN
theorem Rising.nodup {l : List ByteArray} (h : Rising l) : l.Nodup := by
  rw [List.nodup_iff_pairwise_ne]
  exact h.imp fun {a b} (g : ltN a b) (e : a = b) => ltN_irrefl a (by rw [← e] at g; exact g)
theorem nodup_once {l : List ByteArray} (h : l.Nodup) : Once l := fun i j x hi hj => by
  obtain ⟨h1, h2⟩ := List.getElem?_eq_some_iff.1 hi
  obtain ⟨h3, h4⟩ := List.getElem?_eq_some_iff.1 hj
  exact (List.getElem_inj h).1 (h2.trans h4.symm)
theorem once_nodup {l : List ByteArray} (h : Once l) : l.Nodup := by
  rw [List.nodup_iff_pairwise_ne, List.pairwise_iff_getElem]
  intro i j hi hj hij e
  have := h i j l[i] (List.getElem?_eq_getElem hi) (by rw [e]; exact List.getElem?_eq_getElem hj)
  omega
theorem nodup_len {l m : List ByteArray} (h : l.Nodup) (hs : ∀ x ∈ l, x ∈ m) : l.length ≤ m.length := nodup_le (nodup_once h) hs
theorem rising_eq {l m : List ByteArray} (hl : Rising l) (hm : Rising m) (h : ∀ x, x ∈ l ↔ x ∈ m) : l = m :=
  List.Perm.eq_of_pairwise (le := ltN) (fun a _ _ _ h1 h2 => absurd (ltN_trans h1 h2) (ltN_irrefl a)) hl hm ((List.perm_ext_iff_of_nodup hl.nodup hm.nodup).2 h)
open Classical in
/-- put in where it rises -/
noncomputable def insR : List ByteArray → ByteArray → List ByteArray
  | [], s => [s]
  | x :: l, s => if ltN s x then s :: x :: l else x :: insR l s
theorem insR_mem {l : List ByteArray} {s x : ByteArray} : x ∈ insR l s ↔ x = s ∨ x ∈ l := by
  induction l with
  | nil => simp [insR]
  | cons y l ih =>
    unfold insR
    split
    · simp
    · rw [List.mem_cons, ih, List.mem_cons]
      constructor
      · rintro (h | h | h)
        · exact .inr (.inl h)
        · exact .inl h
        · exact .inr (.inr h)
      · rintro (h | h | h)
        · exact .inr (.inl h)
        · exact .inl h
        · exact .inr (.inr h)
theorem insR_len {l : List ByteArray} {s : ByteArray} : (insR l s).length = l.length + 1 := by
  induction l with
  | nil => rfl
  | cons y l ih =>
    unfold insR
    split
    · rfl
    · simp [ih]
theorem insR_rising {l : List ByteArray} {s : ByteArray} (h : Rising l) (hs : s ∉ l) : Rising (insR l s) := by
  induction l with
  | nil => simp [insR]
  | cons y l ih =>
    have h := List.pairwise_cons.1 h
    unfold insR
    split
    · rename_i g
      show List.Pairwise ltN _
      rw [List.pairwise_cons, List.pairwise_cons]
      refine ⟨fun z hz => ?_, h⟩
      rcases List.mem_cons.1 hz with rfl | hz
      · exact g
      · exact ltN_trans g (h.1 z hz)
    · rename_i g
      show List.Pairwise ltN _
      rw [List.pairwise_cons]
      refine ⟨fun z hz => ?_, ih h.2 (fun g' => hs (by simp [g']))⟩
      rcases insR_mem.1 hz with rfl | hz
      · exact ltN_of g (fun e => hs (by simp [e]))
      · exact h.1 z hz
/-- behind one more: nothing greater before -/
theorem insR_snoc0 {l : List ByteArray} {s x : ByteArray} (h : ∀ y ∈ l, ¬ ltN s y) (hx : ltN s x) : insR (l ++ [x]) s = l ++ [s, x] := by
  induction l with
  | nil => simp [insR, hx]
  | cons y l ih =>
    rw [List.cons_append]
    unfold insR
    rw [if_neg (h y (by simp)), ih fun z hz => h z (by simp [hz])]
    rfl
theorem insR_snoc1 {l : List ByteArray} {s x : ByteArray} (h : ∃ y ∈ l, ltN s y) : insR (l ++ [x]) s = insR l s ++ [x] := by
  induction l with
  | nil => obtain ⟨y, hy, _⟩ := h; cases hy
  | cons y l ih =>
    rw [List.cons_append]
    unfold insR
    by_cases g : ltN s y
    · rw [if_pos g, if_pos g]; rfl
    · rw [if_neg g, if_neg g, ih, List.cons_append]
      obtain ⟨z, hz, hg⟩ := h
      rcases List.mem_cons.1 hz with rfl | hz
      · exact absurd hg g
      · exact ⟨z, hz, hg⟩
theorem insR_last {l : List ByteArray} {s : ByteArray} (h : ∀ y ∈ l, ¬ ltN s y) : insR l s = l ++ [s] := by
  induction l with
  | nil => rfl
  | cons y l ih =>
    unfold insR
    rw [if_neg (h y (by simp)), ih fun z hz => h z (by simp [hz])]
    rfl
open Classical in
noncomputable def ins (l : List ByteArray) (s : ByteArray) : List ByteArray := if s ∈ l then l else insR l s
theorem ins_mem {l : List ByteArray} {s x : ByteArray} : x ∈ ins l s ↔ x = s ∨ x ∈ l := by
  unfold ins
  split
  · rename_i h
    exact ⟨.inr, fun g => g.elim (fun e => e ▸ h) id⟩
  · exact insR_mem
theorem ins_rising {l : List ByteArray} {s : ByteArray} (h : Rising l) : Rising (ins l s) := by
  unfold ins
  split
  · exact h
  · exact insR_rising h ‹_›
theorem ins_len {l : List ByteArray} {s : ByteArray} : (ins l s).length ≤ l.length + 1 := by
  unfold ins
  split
  · omega
  · rw [insR_len]; omega
/-- all of a list put in -/
noncomputable def insAll (l m : List ByteArray) : List ByteArray := m.foldl ins l
theorem insAll_nil (l : List ByteArray) : insAll l [] = l := rfl
theorem insAll_snoc (l m : List ByteArray) (x : ByteArray) : insAll l (m ++ [x]) = ins (insAll l m) x := by unfold insAll; rw [List.foldl_append]; rfl
theorem insAll_append (l m k : List ByteArray) : insAll l (m ++ k) = insAll (insAll l m) k := by unfold insAll; rw [List.foldl_append]
theorem insAll_mem {l m : List ByteArray} {x : ByteArray} : x ∈ insAll l m ↔ x ∈ l ∨ x ∈ m := by
  induction m generalizing l with
  | nil => simp [insAll]
  | cons y m ih =>
    show x ∈ insAll (ins l y) m ↔ _
    rw [ih, ins_mem, List.mem_cons]
    constructor
    · rintro ((h | h) | h)
      · exact .inr (.inl h)
      · exact .inl h
      · exact .inr (.inr h)
    · rintro (h | h | h)
      · exact .inl (.inr h)
      · exact .inl (.inl h)
      · exact .inr h
theorem insAll_rising {l m : List ByteArray} (h : Rising l) : Rising (insAll l m) := by
  induction m generalizing l with
  | nil => exact h
  | cons y m ih => exact ih (ins_rising h)
theorem insAll_len {l m : List ByteArray} : (insAll l m).length ≤ l.length + m.length := by
  induction m generalizing l with
  | nil => simp [insAll]
  | cons y m ih =>
    have := ih (l := ins l y)
    have := ins_len (l := l) (s := y)
    show (insAll (ins l y) m).length ≤ _
    simp only [List.length_cons]
    omega
/-- a map's keys, sorted, are what was put in -/
theorem sort_rising {L : List (List UInt8)} (h : L.Nodup) : ((L.mergeSort leB).map fun x => (⟨⟨x⟩⟩ : ByteArray)).Pairwise ltN := by
  have tr : ∀ a b c : List UInt8, leB a b = true → leB b c = true → leB a c = true := fun a b c h1 h2 => by simp only [leB, decide_eq_true_eq] at *; exact List.le_trans h1 h2
  have tot : ∀ a b : List UInt8, (leB a b || leB b a) = true := fun a b => by simp only [leB, Bool.or_eq_true, decide_eq_true_eq]; exact List.le_total a b
  have h1 := List.pairwise_mergeSort tr tot L
  have h2 : (L.mergeSort leB).Nodup := (List.mergeSort_perm L leB).nodup_iff.2 h
  rw [List.pairwise_map]
  refine (h1.and h2).imp fun {a b} g => ?_
  obtain ⟨g1, g2⟩ := g
  have g1' : a ≤ b := by simpa [leB] using g1
  show a < b
  rcases List.le_iff_lt_or_eq.1 g1' with g | g
  · exact g
  · exact absurd g g2

/-! ### steps -/
section
variable (U : ByteArray → List ByteArray)
/-- one hangs on another, by one step or more -/
inductive Hg (a : ByteArray) : ByteArray → Prop
  | one {b : ByteArray} : b ∈ U a → Hg a b
  | more {b c : ByteArray} : Hg a b → c ∈ U b → Hg a c
/-- one more step from all of these -/
noncomputable def rnd (l : List ByteArray) : List ByteArray := l.foldl (fun o x => insAll o (U x)) l
noncomputable def rndTo (l : List ByteArray) (k : Nat) (m : List ByteArray) : List ByteArray := (l.take k).foldl (fun o x => insAll o (U x)) m
noncomputable def stp (a : ByteArray) : Nat → List ByteArray
  | 0 => U a
  | n + 1 => rnd U (stp a n)
end
section
variable {U : ByteArray → List ByteArray} {V : List ByteArray}
theorem rndTo_zero (l m : List ByteArray) : rndTo U l 0 m = m := rfl
theorem rndTo_succ {l m : List ByteArray} {k : Nat} {x : ByteArray} (h : l[k]? = some x) : rndTo U l (k + 1) m = insAll (rndTo U l k m) (U x) := by
  unfold rndTo
  obtain ⟨h1, h2⟩ := List.getElem?_eq_some_iff.1 h
  rw [List.take_succ_eq_append_getElem h1, List.foldl_append, h2]
  rfl
theorem rndTo_end (l : List ByteArray) : rndTo U l l.length l = rnd U l := by unfold rndTo rnd; rw [List.take_length]
theorem rndTo_mem {l m : List ByteArray} {k : Nat} {y : ByteArray} : y ∈ rndTo U l k m ↔ y ∈ m ∨ ∃ x ∈ l.take k, y ∈ U x := by
  unfold rndTo
  induction l.take k generalizing m with
  | nil => simp
  | cons x l ih =>
    rw [List.foldl_cons, ih, insAll_mem]
    constructor
    · rintro ((h | h) | ⟨z, hz, h⟩)
      · exact .inl h
      · exact .inr ⟨x, by simp, h⟩
      · exact .inr ⟨z, by simp [hz], h⟩
    · rintro (h | ⟨z, hz, h⟩)
      · exact .inl (.inl h)
      · rcases List.mem_cons.1 hz with rfl | hz
        · exact .inl (.inr h)
        · exact .inr ⟨z, hz, h⟩
theorem rnd_mem {l : List ByteArray} {y : ByteArray} : y ∈ rnd U l ↔ y ∈ l ∨ ∃ x ∈ l, y ∈ U x := by
  rw [← rndTo_end, rndTo_mem, List.take_length]
theorem rndTo_rising {l m : List ByteArray} {k : Nat} (h : Rising m) : Rising (rndTo U l k m) := by
  unfold rndTo
  induction l.take k generalizing m with
  | nil => exact h
  | cons x l ih => exact ih (insAll_rising h)
theorem rnd_rising {l : List ByteArray} (h : Rising l) : Rising (rnd U l) := by rw [← rndTo_end]; exact rndTo_rising h
theorem stp_rising {a : ByteArray} (h : Rising (U a)) : ∀ n, Rising (stp U a n)
  | 0 => h
  | n + 1 => rnd_rising (stp_rising h n)
theorem stp_hg {a : ByteArray} : ∀ n x, x ∈ stp U a n → Hg U a x
  | 0, _, h => .one h
  | n + 1, x, h => by
    rcases rnd_mem.1 h with g | ⟨y, hy, g⟩
    · exact stp_hg n x g
    · exact .more (stp_hg n y hy) g
theorem hg_sub (hV : ∀ x, ∀ y ∈ U x, y ∈ V) {a x : ByteArray} (h : Hg U a x) : x ∈ V := by
  cases h with
  | one h => exact hV _ _ h
  | more _ h => exact hV _ _ h
theorem hg_trans {a b c : ByteArray} (h : Hg U a b) (k : Hg U b c) : Hg U a c := by
  induction k with
  | one k => exact .more h k
  | more _ k ih => exact .more ih k
theorem stp_base {a : ByteArray} : ∀ n x, x ∈ U a → x ∈ stp U a n
  | 0, _, h => h
  | n + 1, x, h => rnd_mem.2 (.inl (stp_base n x h))
def Closed (U : ByteArray → List ByteArray) (l : List ByteArray) : Prop := ∀ x ∈ l, ∀ y ∈ U x, y ∈ l
theorem closed_rnd {l : List ByteArray} (h : Closed U l) : Closed U (rnd U l) := by
  have e : ∀ y, y ∈ rnd U l ↔ y ∈ l := fun y => by
    rw [rnd_mem]
    exact ⟨fun g => g.elim id fun ⟨x, hx, g⟩ => h x hx y g, .inl⟩
  intro x hx y hy
  exact (e y).2 (h x ((e x).1 hx) y hy)
theorem stp_closed (hV : ∀ x, ∀ y ∈ U x, y ∈ V) {a : ByteArray} (hr : Rising (U a)) : ∀ n, Closed U (stp U a n) ∨ n ≤ (stp U a n).length
  | 0 => .inr (Nat.zero_le _)
  | n + 1 => by
    rcases stp_closed hV hr n with h | h
    · exact .inl (closed_rnd h)
    · by_cases hc : Closed U (stp U a n)
      · exact .inl (closed_rnd hc)
      · right
        unfold Closed at hc
        simp only [Classical.not_forall] at hc
        obtain ⟨x, hx, y, hy, hn⟩ := hc
        have h1 := (stp_rising hr n).nodup
        have h2 : (y :: stp U a n).Nodup := List.nodup_cons.2 ⟨hn, h1⟩
        have h3 := nodup_len (m := stp U a (n + 1)) h2 fun z hz => by
          rcases List.mem_cons.1 hz with rfl | hz
          · exact rnd_mem.2 (.inr ⟨x, hx, hy⟩)
          · exact rnd_mem.2 (.inl hz)
        simp only [List.length_cons] at h3
        omega
theorem stp_all (hV : ∀ x, ∀ y ∈ U x, y ∈ V) {a : ByteArray} (hr : Rising (U a)) {n : Nat} (hn : V.length ≤ n) : Closed U (stp U a n) := by
  rcases stp_closed hV hr n with h | h
  · exact h
  · have h1 := (stp_rising hr n).nodup
    have hsub : ∀ x ∈ stp U a n, x ∈ V := fun x hx => hg_sub hV (stp_hg n x hx)
    intro x hx y hy
    refine Classical.byContradiction fun g => ?_
    have h2 := nodup_len (m := V) (List.nodup_cons.2 ⟨g, h1⟩) fun z hz => by
      rcases List.mem_cons.1 hz with rfl | hz
      · exact hV _ _ hy
      · exact hsub z hz
    simp only [List.length_cons] at h2
    omega
/-- so many steps as there are names are enough -/
theorem stp_iff (hV : ∀ x, ∀ y ∈ U x, y ∈ V) {a : ByteArray} (hr : Rising (U a)) {n : Nat} (hn : V.length ≤ n) {x : ByteArray} : x ∈ stp U a n ↔ Hg U a x := by
  constructor
  · exact stp_hg n x
  · intro h
    have hc := stp_all hV hr hn
    induction h with
    | one h => exact stp_base n _ h
    | more _ h ih => exact hc _ ih _ h
theorem stp_len (hV : ∀ x, ∀ y ∈ U x, y ∈ V) {a : ByteArray} (hr : Rising (U a)) (n : Nat) : (stp U a n).length ≤ V.length :=
  nodup_len (stp_rising hr n).nodup fun x hx => hg_sub hV (stp_hg n x hx)
/-- where nothing hangs on itself there is one of those left that hangs on none of them -/
theorem least (hV : ∀ x, ∀ y ∈ U x, y ∈ V) (hr : ∀ x, Rising (U x)) {P : ByteArray → Prop} (hac : ∀ x, P x → ¬ Hg U x x) {a : ByteArray} (ha : P a) :
    ∃ x, P x ∧ ∀ y ∈ U x, ¬ P y := by
  generalize hk : (stp U a V.length).length = k
  induction k using Nat.strongRecOn generalizing a with
  | ind k ih =>
    by_cases h : ∀ y ∈ U a, ¬ P y
    · exact ⟨a, ha, h⟩
    · simp only [Classical.not_forall, Classical.not_not] at h
      obtain ⟨y, hy, hp⟩ := h
      refine ih _ ?_ hp rfl
      have hn : y ∉ stp U y V.length := fun g => hac y hp (stp_hg _ _ g)
      have h2 := nodup_len (m := stp U a V.length) (List.nodup_cons.2 ⟨hn, (stp_rising (hr y) _).nodup⟩) fun z hz => by
        rw [stp_iff hV (hr a) (Nat.le_refl _)]
        rcases List.mem_cons.1 hz with rfl | hz
        · exact .one hy
        · exact hg_trans (.one hy) (stp_hg _ _ hz)
      simp only [List.length_cons] at h2
      omega
/-- what is found from hand to hand: the found, and those that wait -/
structure Fnd (U : ByteArray → List ByteArray) (a : ByteArray) (l wt : List ByteArray) : Prop where
  nd : l.Nodup
  hg : ∀ x, x ∈ l ∨ x ∈ wt → Hg U a x
  one : ∀ x ∈ U a, x ∈ l ∨ x ∈ wt
  more : ∀ x ∈ l, ∀ y ∈ U x, y ∈ l ∨ y ∈ wt
theorem Fnd.start (a : ByteArray) : Fnd U a [] (U a) := ⟨List.nodup_nil, fun x h => .one (h.resolve_left (by simp)), fun x h => .inr h, fun x h => absurd h (by simp)⟩
theorem Fnd.old {a x : ByteArray} {l wt : List ByteArray} (h : Fnd U a l (x :: wt)) (hx : x ∈ l) : Fnd U a l wt :=
  ⟨h.nd, fun y g => h.hg y (g.imp id (fun g => by simp [g])), fun y g => by
    rcases h.one y g with g | g
    · exact .inl g
    · rcases List.mem_cons.1 g with rfl | g
      · exact .inl hx
      · exact .inr g, fun z hz y g => by
    rcases h.more z hz y g with g | g
    · exact .inl g
    · rcases List.mem_cons.1 g with rfl | g
      · exact .inl hx
      · exact .inr g⟩
theorem Fnd.new {a x : ByteArray} {l wt : List ByteArray} (h : Fnd U a l (x :: wt)) (hx : x ∉ l) : Fnd U a (l ++ [x]) (wt ++ U x) := by
  have hmv : ∀ y, y ∈ l ∨ y ∈ x :: wt → y ∈ l ++ [x] ∨ y ∈ wt ++ U x := fun y g => by
    rcases g with g | g
    · exact .inl (by simp [g])
    · rcases List.mem_cons.1 g with rfl | g
      · exact .inl (by simp)
      · exact .inr (by simp [g])
  refine ⟨?_, fun y g => ?_, fun y g => hmv y (h.one y g), fun z hz y g => ?_⟩
  · rw [List.nodup_append]
    exact ⟨h.nd, by simp, fun y hy z hz e => by simp at hz; subst hz; subst e; exact hx hy⟩
  · simp only [List.mem_append, List.mem_cons, List.not_mem_nil, or_false] at g
    rcases g with (g | rfl) | g | g
    · exact h.hg y (.inl g)
    · exact h.hg y (.inr (by simp))
    · exact h.hg y (.inr (by simp [g]))
    · exact .more (h.hg x (.inr (by simp))) g
  · simp only [List.mem_append, List.mem_cons, List.not_mem_nil, or_false] at hz
    rcases hz with hz | rfl
    · exact hmv y (h.more z hz y g)
    · exact .inr (by simp [g])
theorem Fnd.end_ {a : ByteArray} {l : List ByteArray} (h : Fnd U a l []) (x : ByteArray) : x ∈ l ↔ Hg U a x := by
  constructor
  · intro g; exact h.hg x (.inl g)
  · intro g
    induction g with
    | one g => exact (h.one _ g).resolve_right (by simp)
    | more _ g ih => exact (h.more _ ih _ g).resolve_right (by simp)
end
end Go.Proofs.YtabceednmgijoaaGreat
