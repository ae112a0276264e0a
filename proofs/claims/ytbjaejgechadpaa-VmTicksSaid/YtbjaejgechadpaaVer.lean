/-
  Machines that can't go wrong, as plain data: the looker's and the document's answers are one.
-/
import Derived.Below
namespace Go.Proofs.Ytbjaejgechadpaa.Vf

structure In5 where
  op : Int
  a : Int
  b : Int
  c : Int
  k : Int
structure Pg where
  ins : List Int
  outs : List Int
  regs : Int
  cells : List (Int × Int)
  code : List In5

def signIn (op : Int) : Int := if op = 12 ∨ op = 13 then 0 else if op = 6 ∨ op = 18 ∨ op = 19 ∨ op = 20 then 2 else if 5 ≤ op ∧ op ≤ 17 then 1 else 0
def signOut (op : Int) : Int := if op = 6 ∨ (12 ≤ op ∧ op ≤ 20) then 2 else if 5 ≤ op ∧ op ≤ 11 then 1 else 0
def isSign (op : Int) : Prop := 5 ≤ op ∧ op ≤ 20

/-! ### may a program be? -/
def typesOk (l : List Int) : Prop := (∀ t ∈ l, t = 1 ∨ t = 2) ∧ 1 ≤ l.length ∧ l.length ≤ 8
def valueOk (kind n : Int) : Prop := kind = 1 ∨ (kind = 2 ∧ (n = 0 ∨ n = 1))
def hasA (op : Int) : Prop := op = 1 ∨ op = 2 ∨ op = 21 ∨ (28 ≤ op ∧ op ≤ 32)
def hasAB (op : Int) : Prop := op = 3 ∨ op = 5 ∨ op = 6
def hasABC (op : Int) : Prop := 7 ≤ op ∧ op ≤ 20
def instrOk (x : In5) : Prop :=
  (hasA x.op ∨ hasAB x.op ∨ hasABC x.op ∨ x.op = 27) ∧ 0 ≤ x.a ∧ 0 ≤ x.b ∧ 0 ≤ x.c ∧ (hasA x.op → x.b = 0) ∧ (hasA x.op ∨ hasAB x.op → x.c = 0) ∧ (hasAB x.op ∨ hasABC x.op → x.k = 0)
def mayOk (p : Pg) : Prop :=
  (∀ c ∈ p.cells, valueOk c.1 c.2) ∧ (∀ x ∈ p.code, instrOk x) ∧ typesOk p.ins ∧ typesOk p.outs ∧ 0 ≤ p.regs ∧ p.regs ≤ 1600 ∧ p.cells.length ≤ 60 ∧ p.code.length ≤ 2048

/-! ### the looker -/
structure LS where
  kinds : List Int
  outs : List Bool
  past : Int
  bad : Bool
def getI (l : List Int) (n : Int) : Int := l.getD n.toNat 0
def LS.need (s : LS) (b : Bool) : LS := { s with bad := s.bad || !b }
def LS.no (s : LS) : LS := { s with bad := true }
def has (l : List Int) (n : Int) : Prop := 0 ≤ n ∧ n < l.length
instance (l : List Int) (n : Int) : Decidable (has l n) := by unfold has; exact inferInstance
def LS.takes (s : LS) (n : Int) : Int × LS := if has s.kinds n ∧ getI s.kinds n ≠ 0 then (getI s.kinds n, s) else (0, s.no)
def LS.gives (s : LS) (n kind : Int) : LS := if has s.kinds n ∧ getI s.kinds n = 0 then { s with kinds := s.kinds.set n.toNat kind } else s.no
def LS.one (s : LS) (l : List Int) (n : Int) : Int × LS := if has l n then (getI l n, s) else (0, s.no)
def types (l : List (Int × Int)) : List Int := l.map (·.1)
def LS.reckons (s : LS) (x : In5) (i o : Int) : LS :=
  let (kind, s1) := s.takes x.b
  let s2 := s1.need (i == 0 || kind == i)
  let s3 := if x.op ≠ 5 ∧ x.op ≠ 6 then (let (k2, s') := s2.takes x.c; s'.need (k2 == kind)) else s2
  s3.gives x.a o
def LS.instr (p : Pg) (s : LS) (i : Int) (x : In5) : LS :=
  if 5 ≤ x.op ∧ x.op ≤ 20 then s.reckons x (signIn x.op) (signOut x.op)
  else if x.op = 1 then s.gives x.a 1
  else if x.op = 2 then (s.need (x.k == 0 || x.k == 1)).gives x.a 2
  else if x.op = 3 then (s.takes x.b).2.gives x.a (s.takes x.b).1
  else if x.op = 27 then
    let s1 := (s.takes x.b).2.need ((s.takes x.b).1 == 2)
    let s2 := (s1.takes x.c).2
    let kind := (s1.takes x.c).1
    ((s2.takes x.k).2.need ((s2.takes x.k).1 == kind)).gives x.a kind
  else if x.op = 21 then (s.one (types p.cells) x.k).2.gives x.a (s.one (types p.cells) x.k).1
  else if x.op = 28 then (s.one p.ins x.k).2.gives x.a (s.one p.ins x.k).1
  else if x.op = 29 then
    let s1 := (s.takes x.a).2
    let s2 := (s1.one p.outs x.k).2.need ((s.takes x.a).1 == (s1.one p.outs x.k).1)
    let s3 := s2.need (decide (s2.past ≤ i))
    if s3.bad = true then s3 else { s3.need (!(s3.outs.getD x.k.toNat false)) with outs := s3.outs.set x.k.toNat true }
  else if x.op = 32 then
    let s1 := (s.takes x.a).2
    (s1.one (types p.cells) x.k).2.need ((s.takes x.a).1 == (s1.one (types p.cells) x.k).1)
  else
    let s1 := (s.takes x.a).2.need ((s.takes x.a).1 == 2 && (decide (0 ≤ x.k) && decide (x.k ≤ (p.code.length : Int) - 1 - i)))
    { s1 with past := max s1.past (i + 1 + min x.k p.code.length) }
def init (p : Pg) : LS := ⟨List.replicate p.regs.toNat 0, List.replicate p.outs.length false, 0, false⟩
/-- behind the first k instructions -/
def stTo (p : Pg) : Nat → LS
  | 0 => init p
  | k + 1 => match p.code[k]? with
    | some x => (stTo p k).instr p k x
    | none => stTo p k
def lookOk (p : Pg) : Prop := (∀ k, k ≤ p.code.length → (stTo p k).bad = false) ∧ ∀ b ∈ (stTo p p.code.length).outs, b = true

/-! ### the document's -/
def kindAcc : List (In5 × Int) → Int → Int → Int
  | [], _, out => out
  | (x, g) :: l, reg, out => if 29 ≤ x.op ∨ x.a ≠ reg then kindAcc l reg out else if out ≠ 0 then 9 else kindAcc l reg g
def taken (p : Pg) (l : List (In5 × Int)) (reg : Int) : Int := if reg < 0 ∨ p.regs ≤ reg then 0 else kindAcc l reg 0
def givesOf (p : Pg) (l : List (In5 × Int)) (x : In5) : Int :=
  if 5 ≤ x.op ∧ x.op ≤ 20 then signOut x.op
  else if x.op ≤ 2 then x.op
  else if x.op = 3 then taken p l x.b
  else if x.op = 27 then taken p l x.c
  else if x.op = 21 ∧ has (types p.cells) x.k then getI (types p.cells) x.k
  else if x.op = 28 ∧ has p.ins x.k then getI p.ins x.k
  else 0
/-- the first n instructions, with what each gives -/
def pairs (p : Pg) : Nat → List (In5 × Int)
  | 0 => []
  | n + 1 => match p.code[n]? with
    | some x => pairs p n ++ [(x, givesOf p (pairs p n) x)]
    | none => pairs p n
def takesOk (p : Pg) (l : List (In5 × Int)) (i : Int) (x : In5) : Prop :=
  if 5 ≤ x.op ∧ x.op ≤ 20 then taken p l x.b ≠ 0 ∧ (signIn x.op = 0 ∨ taken p l x.b = signIn x.op) ∧ (x.op ≤ 6 ∨ taken p l x.c = taken p l x.b)
  else if x.op = 2 then x.k = 0 ∨ x.k = 1
  else if x.op = 3 then taken p l x.b ≠ 0
  else if x.op = 27 then taken p l x.b = 2 ∧ taken p l x.c ≠ 0 ∧ taken p l x.k = taken p l x.c
  else if x.op = 29 then has p.outs x.k ∧ taken p l x.a = getI p.outs x.k
  else if x.op = 32 then has (types p.cells) x.k ∧ taken p l x.a = getI (types p.cells) x.k
  else if x.op = 30 ∨ x.op = 31 then 0 ≤ x.k ∧ x.k ≤ (p.code.length : Int) - 1 - i ∧ taken p l x.a = 2
  else True
def skipped (p : Pg) (i : Nat) : Prop := ∃ k x, k < i ∧ p.code[k]? = some x ∧ (x.op = 30 ∨ x.op = 31) ∧ (i : Int) - k ≤ x.k
def instrRight (p : Pg) (i : Nat) (x : In5) : Prop :=
  takesOk p (pairs p i) i x ∧ (x.op < 29 → x.a < p.regs ∧ kindAcc (pairs p i) x.a 0 = 0 ∧ (givesOf p (pairs p i) x = 1 ∨ givesOf p (pairs p i) x = 2)) ∧ (x.op = 29 → ¬ skipped p i)
def outCount (p : Pg) (o : Int) : List In5 → Nat
  | [] => 0
  | x :: l => (if x.op = 29 ∧ x.k = o then 1 else 0) + outCount p o l
def rightOk (p : Pg) : Prop := mayOk p ∧ (∀ i x, p.code[i]? = some x → instrRight p i x) ∧ ∀ o : Nat, o < p.outs.length → outCount p o p.code = 1

/-! ### the two are one -/
theorem has_iff {l : List Int} {n : Int} : has l n ↔ 0 ≤ n ∧ n < l.length := Iff.rfl
theorem kindAcc_snoc (l : List (In5 × Int)) (x : In5) (g reg : Int) : ∀ out, kindAcc l reg out ≠ 9 ∨ True → kindAcc (l ++ [(x, g)]) reg out = kindAcc l reg out ∨ (x.op < 29 ∧ x.a = reg) := by
  induction l with
  | nil =>
    intro out _
    simp only [List.nil_append, kindAcc]
    by_cases h : 29 ≤ x.op ∨ x.a ≠ reg
    · rw [if_pos h]; exact .inl rfl
    · exact .inr (by omega)
  | cons y l ih =>
    obtain ⟨y, gy⟩ := y
    intro out _
    simp only [List.cons_append, kindAcc]
    by_cases h : 29 ≤ y.op ∨ y.a ≠ reg
    · rw [if_pos h, if_pos h]; exact ih out (.inr trivial)
    · rw [if_neg h, if_neg h]
      by_cases ho : out ≠ 0
      · rw [if_pos ho, if_pos ho]; exact .inl rfl
      · rw [if_neg ho, if_neg ho]; exact ih gy (.inr trivial)
theorem kindAcc_other {l : List (In5 × Int)} {x : In5} {g reg : Int} (h : 29 ≤ x.op ∨ x.a ≠ reg) (out : Int) : kindAcc (l ++ [(x, g)]) reg out = kindAcc l reg out :=
  (kindAcc_snoc l x g reg out (.inr trivial)).resolve_right (by omega)
theorem kindAcc_zero {l : List (In5 × Int)} {x : In5} {g reg : Int} (h : x.op < 29) (ha : x.a = reg) : ∀ out, kindAcc l reg out = 0 → kindAcc (l ++ [(x, g)]) reg out = g := by
  induction l with
  | nil =>
    intro out h0
    simp only [kindAcc] at h0
    simp only [List.nil_append, kindAcc]
    rw [if_neg (by omega), if_neg (by omega)]
  | cons y l ih =>
    obtain ⟨y, gy⟩ := y
    intro out h0
    simp only [kindAcc] at h0
    simp only [List.cons_append, kindAcc]
    by_cases hy : 29 ≤ y.op ∨ y.a ≠ reg
    · rw [if_pos hy] at h0 ⊢; exact ih out h0
    · rw [if_neg hy] at h0 ⊢
      by_cases ho : out ≠ 0
      · rw [if_pos ho] at h0; omega
      · rw [if_neg ho] at h0 ⊢; exact ih gy h0

structure Inv (p : Pg) (k : Nat) (s : LS) : Prop where
  len : s.kinds.length = p.regs.toNat
  kinds : ∀ r, 0 ≤ r → r < p.regs → getI s.kinds r = kindAcc (pairs p k) r 0
  three : ∀ r, 0 ≤ r → r < p.regs → getI s.kinds r = 0 ∨ getI s.kinds r = 1 ∨ getI s.kinds r = 2
  olen : s.outs.length = p.outs.length
  outs : ∀ o : Nat, o < p.outs.length → (s.outs.getD o false = true ↔ ∃ i x, i < k ∧ p.code[i]? = some x ∧ x.op = 29 ∧ x.k = o)
  past : ∀ i : Int, 0 ≤ i → (i < s.past ↔ ∃ j x, j < k ∧ p.code[j]? = some x ∧ (x.op = 30 ∨ x.op = 31) ∧ i - (j : Int) ≤ x.k)
theorem getI_rep (n : Nat) (r : Int) : getI (List.replicate n 0) r = 0 := by
  unfold getI
  rw [List.getD_eq_getElem?_getD]
  by_cases h : r.toNat < n
  · rw [List.getElem?_replicate_of_lt h]; rfl
  · rw [List.getElem?_eq_none (by simpa using h)]; rfl
theorem inv_init (p : Pg) : Inv p 0 (init p) := by
  refine ⟨by simp [init], fun r _ _ => by rw [show (init p).kinds = List.replicate p.regs.toNat 0 from rfl, getI_rep]; rfl, fun r _ _ => .inl (getI_rep _ _), by simp [init], fun o ho => ?_, fun i hi => ?_⟩
  · have : (init p).outs.getD o false = false := by
      rw [show (init p).outs = List.replicate p.outs.length false from rfl, List.getD_eq_getElem?_getD, List.getElem?_replicate_of_lt ho]; rfl
    rw [this]
    constructor
    · intro h; cases h
    · rintro ⟨i, _, h, _⟩; omega
  · constructor
    · intro h; simp [init] at h; omega
    · rintro ⟨j, _, h, _⟩; omega
def LS.wb (s : LS) (c : Bool) : LS := { s with bad := s.bad || c }
theorem LS.wb_wb (s : LS) (a b : Bool) : (s.wb a).wb b = s.wb (a || b) := by simp [LS.wb, Bool.or_assoc]
theorem LS.need_wb (s : LS) (b : Bool) : s.need b = s.wb (!b) := rfl
theorem LS.no_wb (s : LS) : s.no = s.wb true := by simp [LS.no, LS.wb]
theorem LS.wb_bad (s : LS) (c : Bool) : (s.wb c).bad = (s.bad || c) := rfl
theorem LS.wb_false (s : LS) : s.wb false = s := by simp [LS.wb]
theorem Inv.wb {p : Pg} {k : Nat} {s : LS} (h : Inv p k s) (c : Bool) : Inv p k (s.wb c) := ⟨h.len, h.kinds, h.three, h.olen, h.outs, h.past⟩
theorem one_eq (s : LS) (l : List Int) (n : Int) : s.one l n = (if has l n then getI l n else 0, s.wb (!decide (has l n))) := by
  unfold LS.one
  by_cases h : has l n
  · rw [if_pos h, if_pos h]; simp [h, LS.wb]
  · rw [if_neg h, if_neg h]; simp [h, LS.wb, LS.no]
section
variable {p : Pg} {k : Nat} {s : LS} (hI : Inv p k s) (hr : 0 ≤ p.regs)
include hI hr
theorem has_kinds (n : Int) : has s.kinds n ↔ 0 ≤ n ∧ n < p.regs := by rw [has_iff, hI.len]; omega
theorem takes_eq (n : Int) : s.takes n = (taken p (pairs p k) n, s.wb (taken p (pairs p k) n == 0)) := by
  unfold LS.takes taken
  by_cases h : 0 ≤ n ∧ n < p.regs
  · rw [hI.kinds n h.1 h.2]
    have h1 : ¬ (n < 0 ∨ p.regs ≤ n) := by omega
    have h2 := (has_kinds hI hr n).2 h
    rw [if_neg h1]
    by_cases h0 : kindAcc (pairs p k) n 0 = 0
    · rw [if_neg (fun h => h.2 h0), h0, LS.no_wb]; rfl
    · rw [if_pos ⟨h2, h0⟩, show (kindAcc (pairs p k) n 0 == 0) = false by simp [h0], LS.wb_false]
  · have h1 : n < 0 ∨ p.regs ≤ n := by omega
    have h2 : ¬ has s.kinds n := fun h' => h ((has_kinds hI hr n).1 h')
    rw [if_neg (fun h => h2 h.1), if_pos h1, LS.no_wb]; rfl
/-- may a register be given? -/
def free (p : Pg) (k : Nat) (n : Int) : Prop := n < p.regs ∧ kindAcc (pairs p k) n 0 = 0
omit hI hr in
theorem free_dec (p : Pg) (k : Nat) (n : Int) : free p k n ∨ ¬ free p k n := Classical.em _
theorem gives_yes {n kind : Int} (hn : 0 ≤ n) (h : free p k n) : s.gives n kind = { s with kinds := s.kinds.set n.toNat kind } := by
  unfold LS.gives
  rw [if_pos ⟨(has_kinds hI hr n).2 ⟨hn, h.1⟩, by rw [hI.kinds n hn h.1]; exact h.2⟩]
theorem gives_no {n kind : Int} (hn : 0 ≤ n) (h : ¬ free p k n) : s.gives n kind = s.wb true := by
  unfold LS.gives
  rw [if_neg ?_, LS.no_wb]
  rintro ⟨h1, h2⟩
  have h3 := (has_kinds hI hr n).1 h1
  exact h ⟨h3.2, by rw [← hI.kinds n hn h3.2]; exact h2⟩
theorem gives_bad {n kind : Int} (hn : 0 ≤ n) : (s.gives n kind).bad = false ↔ s.bad = false ∧ free p k n := by
  rcases free_dec p k n with h | h
  · rw [gives_yes hI hr hn h]; simp [h]
  · rw [gives_no hI hr hn h]; simp [LS.wb, h]
end
/-- what an instruction that gives leaves: the registers -/
theorem inv_gives {p : Pg} {k : Nat} {s : LS} {x : In5} (hI : Inv p k s) (hr : 0 ≤ p.regs) (hx : p.code[k]? = some x) (hop : x.op < 29) (ha : 0 ≤ x.a) (hf : free p k x.a)
    (hg : givesOf p (pairs p k) x = 1 ∨ givesOf p (pairs p k) x = 2) : Inv p (k + 1) { s with kinds := s.kinds.set x.a.toNat (givesOf p (pairs p k) x) } := by
  have hp : pairs p (k + 1) = pairs p k ++ [(x, givesOf p (pairs p k) x)] := by simp [pairs, hx]
  have hl := hI.len
  have key : ∀ r, 0 ≤ r → r < p.regs → getI (s.kinds.set x.a.toNat (givesOf p (pairs p k) x)) r = if r = x.a then givesOf p (pairs p k) x else getI s.kinds r := by
    intro r h0 h1
    unfold getI
    rw [List.getD_eq_getElem?_getD, List.getD_eq_getElem?_getD, List.getElem?_set]
    by_cases he : r = x.a
    · subst he; rw [if_pos rfl, if_pos (by omega), if_pos rfl]; rfl
    · rw [if_neg (by omega), if_neg he]
  refine ⟨by simpa using hl, fun r h0 h1 => ?_, fun r h0 h1 => ?_, hI.olen, fun o ho => ?_, fun i hi => ?_⟩
  · rw [key r h0 h1, hp]
    by_cases he : r = x.a
    · rw [if_pos he, he, kindAcc_zero hop rfl 0 hf.2]
    · rw [if_neg he, kindAcc_other (.inr (fun h => he h.symm)), hI.kinds r h0 h1]
  · rw [key r h0 h1]
    by_cases he : r = x.a
    · rw [if_pos he]; omega
    · rw [if_neg he]; exact hI.three r h0 h1
  · rw [hI.outs o ho]
    constructor
    · rintro ⟨i, y, h1, h2⟩; exact ⟨i, y, by omega, h2⟩
    · rintro ⟨i, y, h1, h2, h3, h4⟩
      refine ⟨i, y, ?_, h2, h3, h4⟩
      rcases Nat.lt_or_ge i k with h | h
      · exact h
      · obtain rfl : i = k := by omega
        rw [hx] at h2; injection h2 with h2; subst h2; omega
  · rw [hI.past i hi]
    constructor
    · rintro ⟨j, y, h1, h2⟩; exact ⟨j, y, by omega, h2⟩
    · rintro ⟨j, y, h1, h2, h3, h4⟩
      refine ⟨j, y, ?_, h2, h3, h4⟩
      rcases Nat.lt_or_ge j k with h | h
      · exact h
      · obtain rfl : j = k := by omega
        rw [hx] at h2; injection h2 with h2; subst h2; omega
/-- what an instruction that gives nothing leaves, but for outs and past -/
theorem inv_kinds {p : Pg} {k : Nat} {s : LS} {x : In5} (hI : Inv p k s) (hx : p.code[k]? = some x) (hop : 29 ≤ x.op) : ∀ r, 0 ≤ r → r < p.regs → getI s.kinds r = kindAcc (pairs p (k + 1)) r 0 := by
  intro r h0 h1
  have hp : pairs p (k + 1) = pairs p k ++ [(x, givesOf p (pairs p k) x)] := by simp [pairs, hx]
  rw [hp, kindAcc_other (.inl hop), hI.kinds r h0 h1]

/-- not yet given out, of the first k instructions -/
def fresh (p : Pg) (k : Nat) (o : Int) : Prop := ¬ ∃ i x, i < k ∧ p.code[i]? = some x ∧ x.op = 29 ∧ x.k = o
def stepOk (p : Pg) (k : Nat) (x : In5) : Prop := instrRight p k x ∧ (x.op = 29 → fresh p k x.k)
theorem signOut_two {op : Int} (h : 5 ≤ op ∧ op ≤ 20) : signOut op = 1 ∨ signOut op = 2 := by
  unfold signOut
  by_cases h1 : op = 6 ∨ 12 ≤ op ∧ op ≤ 20
  · rw [if_pos h1]; omega
  · rw [if_neg h1, if_pos (by omega)]; omega
theorem in_two {l : List Int} (h : ∀ t ∈ l, t = 1 ∨ t = 2) {n : Int} (hn : has l n) : getI l n = 1 ∨ getI l n = 2 := by
  unfold getI
  obtain ⟨h0, h1⟩ := hn
  rw [List.getD_eq_getElem?_getD, List.getElem?_eq_getElem (by omega)]
  exact h _ (List.getElem_mem _)
theorem types_two {p : Pg} (h : mayOk p) : ∀ t ∈ types p.cells, t = 1 ∨ t = 2 := by
  intro t ht
  obtain ⟨c, hc, rfl⟩ := List.mem_map.1 ht
  rcases h.1 c hc with h | ⟨h, _⟩
  · exact .inl h
  · exact .inr h
theorem taken_three {p : Pg} {k : Nat} {s : LS} (hI : Inv p k s) (n : Int) : taken p (pairs p k) n = 0 ∨ taken p (pairs p k) n = 1 ∨ taken p (pairs p k) n = 2 := by
  unfold taken
  split
  · exact .inl rfl
  · have h : 0 ≤ n ∧ n < p.regs := by omega
    have := hI.three n h.1 h.2
    rwa [hI.kinds n h.1 h.2] at this
theorem step {p : Pg} {k : Nat} {s : LS} {x : In5} (hm : mayOk p) (hI : Inv p k s) (hb : s.bad = false) (hx : p.code[k]? = some x) :
    ((s.instr p k x).bad = false ↔ stepOk p k x) ∧ ((s.instr p k x).bad = false → Inv p (k + 1) (s.instr p k x)) := by
  have hr : 0 ≤ p.regs := hm.2.2.2.2.1
  obtain ⟨hop, ha, hbb, hc, hz1, hz2, hz3⟩ := hm.2.1 x (List.mem_of_getElem? hx)
  have hT := taken_three hI
  have hW := fun c => hI.wb (s := s) c
  have tk : ∀ (c : Bool) (n : Int), (s.wb c).takes n = (taken p (pairs p k) n, s.wb (c || (taken p (pairs p k) n == 0))) := fun c n => by rw [takes_eq (hW c) hr, LS.wb_wb]
  have tk0 : ∀ (n : Int), s.takes n = (taken p (pairs p k) n, s.wb (taken p (pairs p k) n == 0)) := fun n => takes_eq hI hr n
  have gb : ∀ (c : Bool) (kind : Int), ((s.wb c).gives x.a kind).bad = false ↔ c = false ∧ free p k x.a := fun c kind => by rw [gives_bad (hW c) hr ha, LS.wb_bad, hb]; simp
  have gi : ∀ (c : Bool), x.op < 29 → (givesOf p (pairs p k) x = 1 ∨ givesOf p (pairs p k) x = 2) → ((s.wb c).gives x.a (givesOf p (pairs p k) x)).bad = false → Inv p (k + 1) ((s.wb c).gives x.a (givesOf p (pairs p k) x)) := fun c h29 hg h => by
    have hf := ((gb c _).1 h).2
    rw [gives_yes (hW c) hr ha hf]
    exact inv_gives (hW c) hr hx h29 ha hf hg
  have close : ∀ C : Bool, s.instr p k x = (s.wb C).gives x.a (givesOf p (pairs p k) x) → x.op < 29 → (C = false ↔ takesOk p (pairs p k) k x ∧ (givesOf p (pairs p k) x = 1 ∨ givesOf p (pairs p k) x = 2) ∨ (C = false ∧ False)) →
      ((s.instr p k x).bad = false ↔ stepOk p k x) ∧ ((s.instr p k x).bad = false → Inv p (k + 1) (s.instr p k x)) := by
    intro C e h29 hC
    have hC' : C = false ↔ takesOk p (pairs p k) k x ∧ (givesOf p (pairs p k) x = 1 ∨ givesOf p (pairs p k) x = 2) := by rw [hC]; simp
    rw [e]
    refine ⟨?_, fun h => gi C h29 (hC'.1 ((gb C _).1 h).1).2 h⟩
    rw [gb]
    unfold stepOk instrRight free
    constructor
    · rintro ⟨h1, h2⟩
      have := hC'.1 h1
      exact ⟨⟨this.1, fun _ => ⟨h2.1, h2.2, this.2⟩, fun h => by omega⟩, fun h => by omega⟩
    · rintro ⟨⟨h1, h2, _⟩, _⟩
      have := h2 h29
      exact ⟨hC'.2 ⟨h1, this.2.2⟩, this.1, this.2.1⟩
  by_cases hsg : 5 ≤ x.op ∧ x.op ≤ 20
  · have hg : givesOf p (pairs p k) x = signOut x.op := by unfold givesOf; rw [if_pos hsg]
    have ht : takesOk p (pairs p k) k x ↔ taken p (pairs p k) x.b ≠ 0 ∧ (signIn x.op = 0 ∨ taken p (pairs p k) x.b = signIn x.op) ∧ (x.op ≤ 6 ∨ taken p (pairs p k) x.c = taken p (pairs p k) x.b) := by unfold takesOk; rw [if_pos hsg]
    by_cases h56 : x.op ≠ 5 ∧ x.op ≠ 6
    · refine close (((taken p (pairs p k) x.b == 0) || !(signIn x.op == 0 || taken p (pairs p k) x.b == signIn x.op) || (taken p (pairs p k) x.c == 0)) || !(taken p (pairs p k) x.c == taken p (pairs p k) x.b)) ?_ (by omega) ?_
      · unfold LS.instr LS.reckons
        rw [if_pos hsg, hg]
        simp only [tk0, if_pos h56, LS.need_wb, LS.wb_wb, tk]
      · rw [ht, hg]
        have h2 := signOut_two hsg
        simp only [h2, and_true, and_false, or_false, Bool.or_eq_false_iff, Bool.not_eq_false', Bool.or_eq_true, beq_iff_eq, beq_eq_false_iff_ne]
        constructor
        · rintro ⟨⟨⟨h1, h2⟩, h3⟩, h4⟩; exact ⟨h1, h2, .inr h4⟩
        · rintro ⟨h1, h2, h3⟩
          have h3' := h3.resolve_left (by omega)
          exact ⟨⟨⟨h1, h2⟩, by rw [h3']; exact h1⟩, h3'⟩
    · refine close ((taken p (pairs p k) x.b == 0) || !(signIn x.op == 0 || taken p (pairs p k) x.b == signIn x.op)) ?_ (by omega) ?_
      · unfold LS.instr LS.reckons
        rw [if_pos hsg, hg]
        simp only [tk0, if_neg h56, LS.need_wb, LS.wb_wb]
      · rw [ht, hg]
        have h2 := signOut_two hsg
        simp only [h2, and_true, and_false, or_false, Bool.or_eq_false_iff, Bool.not_eq_false', Bool.or_eq_true, beq_iff_eq, beq_eq_false_iff_ne]
        constructor
        · rintro ⟨h1, h2⟩; exact ⟨h1, h2, .inl (by omega)⟩
        · rintro ⟨h1, h2, _⟩; exact ⟨h1, h2⟩
  have hgo : ∀ y : Int, (x.op ≤ 2 → y = x.op) → (x.op = 3 → y = taken p (pairs p k) x.b) → (x.op = 27 → y = taken p (pairs p k) x.c) → (x.op = 21 → y = if has (types p.cells) x.k then getI (types p.cells) x.k else 0) → (x.op = 28 → y = if has p.ins x.k then getI p.ins x.k else 0) → (x.op ≤ 2 ∨ x.op = 3 ∨ x.op = 27 ∨ x.op = 21 ∨ x.op = 28) → givesOf p (pairs p k) x = y := by
    intro y g1 g2 g3 g4 g5 g6
    unfold givesOf
    rw [if_neg hsg]
    by_cases c1 : x.op ≤ 2
    · rw [if_pos c1, g1 c1]
    · rw [if_neg c1]
      by_cases c2 : x.op = 3
      · rw [if_pos c2, g2 c2]
      · rw [if_neg c2]
        by_cases c3 : x.op = 27
        · rw [if_pos c3, g3 c3]
        · rw [if_neg c3]
          by_cases c4 : x.op = 21
          · rw [g4 c4]
            by_cases h : has (types p.cells) x.k
            · rw [if_pos ⟨c4, h⟩, if_pos h]
            · rw [if_neg (fun h' => h h'.2), if_neg (by omega), if_neg h]
          · rw [if_neg (fun h => c4 h.1)]
            have c5 : x.op = 28 := by omega
            rw [g5 c5]
            by_cases h : has p.ins x.k
            · rw [if_pos ⟨c5, h⟩, if_pos h]
            · rw [if_neg (fun h' => h h'.2), if_neg h]
  have hsg' : ¬ (5 ≤ x.op ∧ x.op ≤ 20) := hsg
  by_cases h1 : x.op = 1
  · have hg : givesOf p (pairs p k) x = 1 := hgo 1 (fun _ => h1.symm) (by omega) (by omega) (by omega) (by omega) (by omega)
    refine close false ?_ (by omega) ?_
    · unfold LS.instr; rw [if_neg hsg, if_pos h1, hg, LS.wb_false]
    · rw [hg]; unfold takesOk
      rw [if_neg hsg, if_neg (by omega), if_neg (by omega), if_neg (by omega), if_neg (by omega), if_neg (by omega), if_neg (by omega)]; simp
  by_cases h2 : x.op = 2
  · have hg : givesOf p (pairs p k) x = 2 := hgo 2 (fun _ => h2.symm) (by omega) (by omega) (by omega) (by omega) (by omega)
    refine close (!(x.k == 0 || x.k == 1)) ?_ (by omega) ?_
    · unfold LS.instr; rw [if_neg hsg, if_neg h1, if_pos h2, hg, LS.need_wb]
    · rw [hg]; unfold takesOk
      rw [if_neg hsg, if_pos h2]; simp; omega
  by_cases h3 : x.op = 3
  · have hg : givesOf p (pairs p k) x = taken p (pairs p k) x.b := hgo _ (by omega) (fun _ => rfl) (by omega) (by omega) (by omega) (by omega)
    refine close (taken p (pairs p k) x.b == 0) ?_ (by omega) ?_
    · unfold LS.instr; rw [if_neg hsg, if_neg h1, if_neg h2, if_pos h3, hg, tk0]
    · rw [hg]; unfold takesOk
      rw [if_neg hsg, if_neg h2, if_pos h3]
      have := hT x.b
      simp only [beq_eq_false_iff_ne, and_false, or_false]
      constructor
      · intro h; exact ⟨h, this.resolve_left h⟩
      · exact fun h => h.1
  by_cases h27 : x.op = 27
  · have hg : givesOf p (pairs p k) x = taken p (pairs p k) x.c := hgo _ (by omega) (by omega) (fun _ => rfl) (by omega) (by omega) (by omega)
    refine close ((((taken p (pairs p k) x.b == 0) || !(taken p (pairs p k) x.b == 2)) || (taken p (pairs p k) x.c == 0) || (taken p (pairs p k) x.k == 0)) || !(taken p (pairs p k) x.k == taken p (pairs p k) x.c)) ?_ (by omega) ?_
    · unfold LS.instr; rw [if_neg hsg, if_neg h1, if_neg h2, if_neg h3, if_pos h27, hg]
      simp only [tk0, tk, LS.need_wb, LS.wb_wb]
    · rw [hg]; unfold takesOk
      rw [if_neg hsg, if_neg h2, if_neg h3, if_pos h27]
      have := hT x.c
      simp only [and_false, or_false, Bool.or_eq_false_iff, Bool.not_eq_false', beq_iff_eq, beq_eq_false_iff_ne]
      constructor
      · rintro ⟨⟨⟨⟨a1, a2⟩, a3⟩, a4⟩, a5⟩; exact ⟨⟨a2, a3, a5⟩, this.resolve_left a3⟩
      · rintro ⟨⟨a1, a2, a3⟩, _⟩; exact ⟨⟨⟨⟨by omega, a1⟩, a2⟩, by rw [a3]; exact a2⟩, a3⟩
  by_cases h21 : x.op = 21
  · have hg : givesOf p (pairs p k) x = if has (types p.cells) x.k then getI (types p.cells) x.k else 0 := hgo _ (by omega) (by omega) (by omega) (fun _ => rfl) (by omega) (by omega)
    refine close (!decide (has (types p.cells) x.k)) ?_ (by omega) ?_
    · unfold LS.instr; rw [if_neg hsg, if_neg h1, if_neg h2, if_neg h3, if_neg h27, if_pos h21, hg, one_eq]
    · rw [hg]; unfold takesOk
      rw [if_neg hsg, if_neg h2, if_neg h3, if_neg h27, if_neg (by omega), if_neg (by omega), if_neg (by omega)]
      by_cases h : has (types p.cells) x.k
      · have := in_two (types_two hm) h
        simp [h, this]
      · simp [h]
  by_cases h28 : x.op = 28
  · have hg : givesOf p (pairs p k) x = if has p.ins x.k then getI p.ins x.k else 0 := hgo _ (by omega) (by omega) (by omega) (by omega) (fun _ => rfl) (by omega)
    refine close (!decide (has p.ins x.k)) ?_ (by omega) ?_
    · unfold LS.instr; rw [if_neg hsg, if_neg h1, if_neg h2, if_neg h3, if_neg h27, if_neg h21, if_pos h28, hg, one_eq]
    · rw [hg]; unfold takesOk
      rw [if_neg hsg, if_neg h2, if_neg h3, if_neg h27, if_neg (by omega), if_neg (by omega), if_neg (by omega)]
      by_cases h : has p.ins x.k
      · have := in_two hm.2.2.1.1 h
        simp [h, this]
      · simp [h]
  have h29 : 29 ≤ x.op := by
    unfold hasA hasAB hasABC at hop; omega
  clear close gi gb hgo
  have hkinds := inv_kinds hI hx h29
  have hv : ¬ x.op < 29 := by omega
  by_cases o29 : x.op = 29
  · have e : s.instr p k x = (if (s.wb ((((taken p (pairs p k) x.a == 0) || !decide (has p.outs x.k)) || !(taken p (pairs p k) x.a == (if has p.outs x.k then getI p.outs x.k else 0))) || !decide (s.past ≤ k))).bad = true
        then s.wb ((((taken p (pairs p k) x.a == 0) || !decide (has p.outs x.k)) || !(taken p (pairs p k) x.a == (if has p.outs x.k then getI p.outs x.k else 0))) || !decide (s.past ≤ k))
        else { (s.wb ((((taken p (pairs p k) x.a == 0) || !decide (has p.outs x.k)) || !(taken p (pairs p k) x.a == (if has p.outs x.k then getI p.outs x.k else 0))) || !decide (s.past ≤ k))).need (!(s.outs.getD x.k.toNat false)) with outs := s.outs.set x.k.toNat true }) := by
      unfold LS.instr
      rw [if_neg hsg, if_neg h1, if_neg h2, if_neg h3, if_neg h27, if_neg h21, if_neg h28, if_pos o29]
      simp only [tk0, one_eq, LS.need_wb, LS.wb_wb]
      rfl
    generalize hC : ((((taken p (pairs p k) x.a == 0) || !decide (has p.outs x.k)) || !(taken p (pairs p k) x.a == (if has p.outs x.k then getI p.outs x.k else 0))) || !decide (s.past ≤ k)) = C at e
    have hC' : C = false ↔ (has p.outs x.k ∧ taken p (pairs p k) x.a = getI p.outs x.k) ∧ s.past ≤ k := by
      rw [← hC]
      by_cases h : has p.outs x.k
      · have := in_two hm.2.2.2.1.1 h
        simp only [h, decide_true, Bool.not_true, Bool.or_false, if_true, Bool.or_eq_false_iff, Bool.not_eq_false', beq_iff_eq, beq_eq_false_iff_ne, decide_eq_true_eq, true_and]
        constructor
        · rintro ⟨⟨_, a2⟩, a3⟩; exact ⟨a2, a3⟩
        · rintro ⟨a2, a3⟩; exact ⟨⟨by omega, a2⟩, a3⟩
      · simp [h]
    have ho : has p.outs x.k → (s.outs.getD x.k.toNat false = false ↔ fresh p k x.k) := by
      intro h
      have h0 := h.1
      have hl : x.k.toNat < p.outs.length := by have := h.2; omega
      have hk : ((x.k.toNat : Nat) : Int) = x.k := by omega
      have := hI.outs x.k.toNat hl
      rw [hk] at this
      unfold fresh
      rw [← this]; simp
    have hsk : ¬ skipped p k ↔ s.past ≤ k := by
      have := hI.past k (by omega)
      unfold skipped
      rw [← Int.not_lt]
      exact not_congr this.symm
    have hbad : (s.instr p k x).bad = false ↔ C = false ∧ s.outs.getD x.k.toNat false = false := by
      rw [e]
      cases C
      · simp [LS.wb, LS.need, hb]
      · simp [LS.wb, hb]
    refine ⟨?_, fun h => ?_⟩
    · rw [hbad, hC']
      unfold stepOk instrRight takesOk
      rw [if_neg hsg, if_neg h2, if_neg h3, if_neg h27, if_pos o29]
      constructor
      · rintro ⟨⟨a1, a2⟩, a3⟩
        exact ⟨⟨a1, fun h => absurd h hv, fun _ => hsk.2 a2⟩, fun _ => (ho a1.1).1 a3⟩
      · rintro ⟨⟨a1, _, a2⟩, a3⟩
        exact ⟨⟨a1, hsk.1 (a2 o29)⟩, (ho a1.1).2 (a3 o29)⟩
    · obtain ⟨c1, c2⟩ := hbad.1 h
      subst c1
      rw [e, if_neg (by simp [LS.wb, hb])]
      have hh := (hC'.1 rfl).1.1
      refine ⟨hI.len, hkinds, hI.three, by simpa using hI.olen, fun o ho' => ?_, fun i hi => ?_⟩
      · show (s.outs.set x.k.toNat true).getD o false = true ↔ _
        rw [List.getD_eq_getElem?_getD, List.getElem?_set]
        by_cases hoe : x.k.toNat = o
        · rw [if_pos hoe, if_pos (by rw [hI.olen]; omega)]
          exact ⟨fun _ => ⟨k, x, by omega, hx, o29, by have := hh.1; omega⟩, fun _ => rfl⟩
        · rw [if_neg hoe, ← List.getD_eq_getElem?_getD, hI.outs o ho']
          constructor
          · rintro ⟨i, y, a1, a2⟩; exact ⟨i, y, by omega, a2⟩
          · rintro ⟨i, y, a1, a2, a3, a4⟩
            refine ⟨i, y, ?_, a2, a3, a4⟩
            rcases Nat.lt_or_ge i k with h' | h'
            · exact h'
            · obtain rfl : i = k := by omega
              rw [hx] at a2; injection a2 with a2; subst a2; have := hh.1; omega
      · show i < s.past ↔ _
        rw [hI.past i hi]
        constructor
        · rintro ⟨j, y, a1, a2⟩; exact ⟨j, y, by omega, a2⟩
        · rintro ⟨j, y, a1, a2, a3, a4⟩
          refine ⟨j, y, ?_, a2, a3, a4⟩
          rcases Nat.lt_or_ge j k with h' | h'
          · exact h'
          · obtain rfl : j = k := by omega
            rw [hx] at a2; injection a2 with a2; subst a2; omega
  have houts : ∀ o : Nat, o < p.outs.length → (s.outs.getD o false = true ↔ ∃ i x, i < k + 1 ∧ p.code[i]? = some x ∧ x.op = 29 ∧ x.k = o) := fun o ho' => by
    rw [hI.outs o ho']
    constructor
    · rintro ⟨i, y, a1, a2⟩; exact ⟨i, y, by omega, a2⟩
    · rintro ⟨i, y, a1, a2, a3, a4⟩
      refine ⟨i, y, ?_, a2, a3, a4⟩
      rcases Nat.lt_or_ge i k with h' | h'
      · exact h'
      · obtain rfl : i = k := by omega
        rw [hx] at a2; injection a2 with a2; subst a2; omega
  by_cases o32 : x.op = 32
  · have e : s.instr p k x = s.wb (((taken p (pairs p k) x.a == 0) || !decide (has (types p.cells) x.k)) || !(taken p (pairs p k) x.a == (if has (types p.cells) x.k then getI (types p.cells) x.k else 0))) := by
      unfold LS.instr
      rw [if_neg hsg, if_neg h1, if_neg h2, if_neg h3, if_neg h27, if_neg h21, if_neg h28, if_neg o29, if_pos o32]
      simp only [tk0, one_eq, LS.need_wb, LS.wb_wb]
    rw [e]
    refine ⟨?_, fun h => ?_⟩
    · unfold stepOk instrRight takesOk
      rw [if_neg hsg, if_neg h2, if_neg h3, if_neg h27, if_neg o29, if_pos o32, LS.wb_bad, hb]
      simp only [hv, o29, false_implies, and_true, Bool.false_or]
      by_cases h : has (types p.cells) x.k
      · have := in_two (types_two hm) h
        simp only [h, decide_true, Bool.not_true, Bool.or_false, if_true, Bool.or_eq_false_iff, Bool.not_eq_false', beq_iff_eq, beq_eq_false_iff_ne, true_and]
        constructor
        · exact fun a => a.2
        · exact fun a => ⟨by omega, a⟩
      · simp [h]
    · refine ⟨hI.len, hkinds, hI.three, hI.olen, houts, fun i hi => ?_⟩
      show i < s.past ↔ _
      rw [hI.past i hi]
      constructor
      · rintro ⟨j, y, a1, a2⟩; exact ⟨j, y, by omega, a2⟩
      · rintro ⟨j, y, a1, a2, a3, a4⟩
        refine ⟨j, y, ?_, a2, a3, a4⟩
        rcases Nat.lt_or_ge j k with h' | h'
        · exact h'
        · obtain rfl : j = k := by omega
          rw [hx] at a2; injection a2 with a2; subst a2; omega
  have o30 : x.op = 30 ∨ x.op = 31 := by unfold hasA hasAB hasABC at hop; omega
  have hkl : k < p.code.length := (List.getElem?_eq_some_iff.1 hx).1
  have e : s.instr p k x = { s.wb ((taken p (pairs p k) x.a == 0) || !(taken p (pairs p k) x.a == 2 && (decide (0 ≤ x.k) && decide (x.k ≤ (p.code.length : Int) - 1 - k)))) with past := max s.past (k + 1 + min x.k p.code.length) } := by
    unfold LS.instr
    rw [if_neg hsg, if_neg h1, if_neg h2, if_neg h3, if_neg h27, if_neg h21, if_neg h28, if_neg o29, if_neg o32]
    simp only [tk0, LS.need_wb, LS.wb_wb]
    rfl
  have hbad : (s.instr p k x).bad = false ↔ 0 ≤ x.k ∧ x.k ≤ (p.code.length : Int) - 1 - k ∧ taken p (pairs p k) x.a = 2 := by
    rw [e]
    simp only [LS.wb, hb, Bool.false_or, Bool.or_eq_false_iff, Bool.not_eq_false', Bool.and_eq_true, beq_iff_eq, beq_eq_false_iff_ne, decide_eq_true_eq]
    constructor
    · rintro ⟨_, a1, a2, a3⟩; exact ⟨a2, a3, a1⟩
    · rintro ⟨a2, a3, a1⟩; exact ⟨by omega, a1, a2, a3⟩
  refine ⟨?_, fun h => ?_⟩
  · rw [hbad]
    unfold stepOk instrRight takesOk
    rw [if_neg hsg, if_neg h2, if_neg h3, if_neg h27, if_neg o29, if_neg o32, if_pos o30]
    simp only [hv, o29, false_implies, and_true]
  · obtain ⟨c1, c2, c3⟩ := hbad.1 h
    rw [e]
    refine ⟨hI.len, hkinds, hI.three, hI.olen, houts, fun i hi => ?_⟩
    show i < max s.past (k + 1 + min x.k p.code.length) ↔ _
    have hp := hI.past i hi
    have hmin : min x.k (p.code.length : Int) = x.k := by omega
    rw [hmin]
    constructor
    · intro h'
      by_cases hi' : i < s.past
      · obtain ⟨j, y, a1, a2⟩ := hp.1 hi'
        exact ⟨j, y, by omega, a2⟩
      · exact ⟨k, x, by omega, hx, o30, by omega⟩
    · rintro ⟨j, y, a1, a2, a3, a4⟩
      rcases Nat.lt_or_ge j k with h' | h'
      · have := hp.2 ⟨j, y, h', a2, a3, a4⟩; omega
      · obtain rfl : j = k := by omega
        rw [hx] at a2; injection a2 with a2; subst a2; omega
theorem look_inv {p : Pg} (hm : mayOk p) : ∀ k, k ≤ p.code.length → (∀ j, j ≤ k → (stTo p j).bad = false) → Inv p k (stTo p k) := by
  intro k
  induction k with
  | zero => intro _ _; exact inv_init p
  | succ k ih =>
    intro hk hb
    have hI := ih (by omega) (fun j hj => hb j (by omega))
    have hx : p.code[k]? = some p.code[k] := List.getElem?_eq_getElem (by omega)
    have e : stTo p (k + 1) = (stTo p k).instr p k p.code[k] := by simp only [stTo, hx]
    have h1 := hb (k + 1) (Nat.le_refl _)
    rw [e] at h1 ⊢
    exact (step hm hI (hb k (by omega)) hx).2 h1
theorem look_steps {p : Pg} (hm : mayOk p) : (∀ k, k ≤ p.code.length → (stTo p k).bad = false) ↔ ∀ i x, p.code[i]? = some x → stepOk p i x := by
  constructor
  · intro h i x hx
    have hi := (List.getElem?_eq_some_iff.1 hx).1
    have hI := look_inv hm i (by omega) (fun j hj => h j (by omega))
    have h1 := h (i + 1) (by omega)
    have e : stTo p (i + 1) = (stTo p i).instr p i x := by simp only [stTo, hx]
    rw [e] at h1
    exact (step hm hI (h i (by omega)) hx).1.1 h1
  · intro h k
    induction k using Nat.strongRecOn with
    | ind k ih =>
      intro hk
      cases k with
      | zero => rfl
      | succ k =>
        have hI := look_inv hm k (by omega) (fun j hj => ih j (by omega) (by omega))
        have hx : p.code[k]? = some p.code[k] := List.getElem?_eq_getElem (by omega)
        have e : stTo p (k + 1) = (stTo p k).instr p k p.code[k] := by simp only [stTo, hx]
        rw [e]
        exact (step hm hI (ih k (by omega) (by omega)) hx).1.2 (h k _ hx)
theorem outCount_pos {p : Pg} {o : Int} {l : List In5} : outCount p o l ≠ 0 ↔ ∃ x ∈ l, x.op = 29 ∧ x.k = o := by
  induction l with
  | nil => simp [outCount]
  | cons x l ih =>
    simp only [outCount]
    by_cases h : x.op = 29 ∧ x.k = o
    · rw [if_pos h]
      exact ⟨fun _ => ⟨x, by simp, h⟩, fun _ => by omega⟩
    · rw [if_neg h, Nat.zero_add, ih]
      constructor
      · rintro ⟨y, hy, h'⟩; exact ⟨y, by simp [hy], h'⟩
      · rintro ⟨y, hy, h'⟩
        rcases List.mem_cons.1 hy with rfl | hy
        · exact absurd h' h
        · exact ⟨y, hy, h'⟩
theorem outCount_one {p : Pg} {o : Int} {l : List In5} : outCount p o l ≤ 1 ↔ ∀ (i j : Nat) (x y : In5), i < j → l[i]? = some x → l[j]? = some y → (x.op = 29 ∧ x.k = o) → ¬ (y.op = 29 ∧ y.k = o) := by
  induction l with
  | nil => simp [outCount]
  | cons x l ih =>
    simp only [outCount]
    by_cases h : x.op = 29 ∧ x.k = o
    · rw [if_pos h]
      constructor
      · intro h0 i j a b hij ha hb ha' hb'
        have hz : outCount p o l = 0 := by omega
        obtain ⟨j', rfl⟩ : ∃ j', j = j' + 1 := ⟨j - 1, by omega⟩
        rw [List.getElem?_cons_succ] at hb
        exact outCount_pos.2 ⟨b, List.mem_of_getElem? hb, hb'⟩ hz
      · intro h0
        have : outCount p o l = 0 := by
          rcases Nat.eq_zero_or_pos (outCount p o l) with hz | hz
          · exact hz
          · obtain ⟨y, hy, h'⟩ := outCount_pos.1 (by omega : outCount p o l ≠ 0)
            obtain ⟨j, hj⟩ := List.getElem?_of_mem hy
            exact absurd h' (h0 0 (j + 1) x y (by omega) rfl (by simpa using hj) h)
        omega
    · rw [if_neg h, Nat.zero_add, ih]
      constructor
      · intro h0 i j a b hij ha hb ha'
        obtain ⟨j', rfl⟩ : ∃ j', j = j' + 1 := ⟨j - 1, by omega⟩
        rw [List.getElem?_cons_succ] at hb
        cases i with
        | zero => simp at ha; subst ha; exact absurd ha' h
        | succ i => rw [List.getElem?_cons_succ] at ha; exact h0 i j' a b (by omega) ha hb ha'
      · intro h0 i j a b hij ha hb ha'
        exact h0 (i + 1) (j + 1) a b (by omega) (by simpa using ha) (by simpa using hb) ha'
/-- the looker's answer is the document's -/
theorem verify_is (p : Pg) : mayOk p ∧ lookOk p ↔ rightOk p := by
  unfold lookOk rightOk
  constructor
  · rintro ⟨hm, hl, ho⟩
    have hs := (look_steps hm).1 hl
    refine ⟨hm, fun i x hx => (hs i x hx).1, fun o hol => ?_⟩
    have hI := look_inv hm p.code.length (Nat.le_refl _) hl
    have h1 : outCount p o p.code ≤ 1 := outCount_one.2 fun i j x y hij hx hy hx' hy' => (hs j y hy).2 hy'.1 ⟨i, x, hij, hx, hx'.1, by rw [hx'.2, hy'.2]⟩
    have h2 : outCount p o p.code ≠ 0 := outCount_pos.2 (by
      have hb : (stTo p p.code.length).outs.getD o false = true := by
        rw [List.getD_eq_getElem?_getD, List.getElem?_eq_getElem (by rw [hI.olen]; exact hol)]
        exact ho _ (List.getElem_mem _)
      obtain ⟨i, x, _, hx, hx'⟩ := (hI.outs o hol).1 hb
      exact ⟨x, List.mem_of_getElem? hx, hx'⟩)
    omega
  · rintro ⟨hm, hi, hc⟩
    have hs : ∀ i x, p.code[i]? = some x → stepOk p i x := fun i x hx => by
      refine ⟨hi i x hx, fun h29 => ?_⟩
      rintro ⟨j, y, hj, hy, hy1, hy2⟩
      have ht := (hi i x hx).1
      unfold takesOk at ht
      rw [if_neg (by omega), if_neg (by omega), if_neg (by omega), if_neg (by omega), if_pos h29] at ht
      have hh := ht.1
      have hcount := hc x.k.toNat (by have := hh.1; have := hh.2; omega)
      have : ((x.k.toNat : Nat) : Int) = x.k := by have := hh.1; omega
      rw [this] at hcount
      exact outCount_one.1 (by omega : outCount p x.k p.code ≤ 1) j i y x hj hy hx ⟨hy1, hy2⟩ ⟨h29, rfl⟩
    have hl := (look_steps hm).2 hs
    refine ⟨hm, hl, fun b hb => ?_⟩
    have hI := look_inv hm p.code.length (Nat.le_refl _) hl
    obtain ⟨o, ho⟩ := List.getElem?_of_mem hb
    have hol : o < p.outs.length := by rw [← hI.olen]; exact (List.getElem?_eq_some_iff.1 ho).1
    obtain ⟨x, hx, hx'⟩ := outCount_pos.1 (by rw [hc o hol]; omega : outCount p o p.code ≠ 0)
    obtain ⟨i, hi'⟩ := List.getElem?_of_mem hx
    have := (hI.outs o hol).2 ⟨i, x, (List.getElem?_eq_some_iff.1 hi').1, hi', hx'⟩
    rw [List.getD_eq_getElem?_getD, ho] at this
    exact this
end Go.Proofs.Ytbjaejgechadpaa.Vf
