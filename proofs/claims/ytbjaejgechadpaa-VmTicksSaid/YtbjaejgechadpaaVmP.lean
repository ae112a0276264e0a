/-
  A tick of a machine, as plain data.
-/
import Derived.Test.YtbjaejgechadpaaVerLess
import Derived.Test.YtbjaejgechadpaaArithOps
namespace Go.Proofs.Ytbjaejgechadpaa.Vf
def vgive (cells inn regs : List Int) (x : In5) : Int :=
  if x.op = 1 ∨ x.op = 2 then x.k
  else if x.op = 3 then getI regs x.b
  else if x.op = 5 ∨ x.op = 6 then Ar.oneV x.op (getI regs x.b)
  else if x.op = 27 then (if getI regs x.b ≠ 0 then getI regs x.c else getI regs x.k)
  else if x.op = 21 then getI cells x.k
  else if x.op = 28 then getI inn x.k
  else Ar.doV x.op (getI regs x.b) (getI regs x.c)
structure Tk where
  regs : List Int
  next : List Int
  out : List Int
def setI (l : List Int) (n v : Int) : List Int := l.set n.toNat v
def texec (cells inn : List Int) (s : Tk) (x : In5) : Tk :=
  if x.op = 29 then { s with out := setI s.out x.k (getI s.regs x.a) }
  else if x.op = 32 then { s with next := setI s.next x.k (getI s.regs x.a) }
  else if x.op = 30 ∨ x.op = 31 then s
  else { s with regs := setI s.regs x.a (vgive cells inn s.regs x) }
def tskip (s : Tk) (x : In5) : Int := if (x.op = 30 ∧ getI s.regs x.a = 0) ∨ (x.op = 31 ∧ getI s.regs x.a ≠ 0) then x.k else 0
/-- what comes of instructions, of which so many are passed over; how many were done -/
def trun (cells inn : List Int) : List In5 → Nat → Tk → Tk × Nat
  | [], _, s => (s, 0)
  | _ :: l, over + 1, s => trun cells inn l over s
  | x :: l, 0, s => ((trun cells inn l (tskip s x).toNat (texec cells inn s x)).1, (trun cells inn l (tskip s x).toNat (texec cells inn s x)).2 + 1)
theorem trun_over {cells inn : List Int} {s : Tk} : ∀ (l : List In5) (k : Nat), trun cells inn l k s = trun cells inn (l.drop k) 0 s
  | [], k => by rw [List.drop_nil]; cases k <;> rfl
  | x :: l, 0 => rfl
  | x :: l, k + 1 => by rw [trun, List.drop_succ_cons]; exact trun_over l k
theorem trun_step {cells inn : List Int} {s : Tk} {code : List In5} {i : Nat} {x : In5} (hx : code[i]? = some x) :
    trun cells inn (code.drop i) 0 s = ((trun cells inn (code.drop (i + 1 + (tskip s x).toNat)) 0 (texec cells inn s x)).1, (trun cells inn (code.drop (i + 1 + (tskip s x).toNat)) 0 (texec cells inn s x)).2 + 1) := by
  obtain ⟨h, e⟩ := List.getElem?_eq_some_iff.1 hx
  rw [List.drop_eq_getElem_cons h, e, trun, trun_over, List.drop_drop]
/-- all that an instruction takes is there -/
structure Safe (p : Pg) (i : Nat) (x : In5) : Prop where
  a : 0 ≤ x.a ∧ x.a < p.regs
  b : (x.op = 3 ∨ (5 ≤ x.op ∧ x.op ≤ 20) ∨ x.op = 27) → 0 ≤ x.b ∧ x.b < p.regs
  c : ((7 ≤ x.op ∧ x.op ≤ 20) ∨ x.op = 27) → 0 ≤ x.c ∧ x.c < p.regs
  k27 : x.op = 27 → 0 ≤ x.k ∧ x.k < p.regs
  k21 : x.op = 21 ∨ x.op = 32 → 0 ≤ x.k ∧ x.k < p.cells.length
  k28 : x.op = 28 → 0 ≤ x.k ∧ x.k < p.ins.length
  k29 : x.op = 29 → 0 ≤ x.k ∧ x.k < p.outs.length
  k30 : x.op = 30 ∨ x.op = 31 → 0 ≤ x.k ∧ x.k ≤ (p.code.length : Int) - 1 - i
  ab : (x.op = 3 ∨ (5 ≤ x.op ∧ x.op ≤ 20) ∨ x.op = 27) → x.a ≠ x.b
  ac : ((7 ≤ x.op ∧ x.op ≤ 20) ∨ x.op = 27) → x.a ≠ x.c
  op : (x.op = 1 ∨ x.op = 2 ∨ x.op = 3 ∨ x.op = 21 ∨ x.op = 27) ∨ (28 ≤ x.op ∧ x.op ≤ 32) ∨ (5 ≤ x.op ∧ x.op ≤ 20)
theorem taken_in {p : Pg} {l : List (In5 × Int)} {reg : Int} (h : taken p l reg ≠ 0) : 0 ≤ reg ∧ reg < p.regs := by
  unfold taken at h
  split at h
  · exact absurd rfl h
  · omega
theorem right_safe {p : Pg} (hr : rightOk p) {i : Nat} {x : In5} (hx : p.code[i]? = some x) : Safe p i x := by
  obtain ⟨ht, hg, _⟩ := hr.2.1 i x hx
  have hm := hr.1
  have ho := hm.2.1 x (List.mem_of_getElem? hx)
  have hop : (x.op = 1 ∨ x.op = 2 ∨ x.op = 3 ∨ x.op = 21 ∨ x.op = 27) ∨ (28 ≤ x.op ∧ x.op ≤ 32) ∨ (5 ≤ x.op ∧ x.op ≤ 20) := by
    unfold instrOk hasA hasAB hasABC at ho; omega
  have ha0 : 0 ≤ x.a := ho.2.1
  have hty : (types p.cells).length = p.cells.length := by simp [types]
  have t29 : x.op = 29 → has p.outs x.k ∧ taken p (pairs p i) x.a = getI p.outs x.k := fun e => by
    unfold takesOk at ht; rw [if_neg (by omega), if_neg (by omega), if_neg (by omega), if_neg (by omega), if_pos e] at ht; exact ht
  have t32 : x.op = 32 → has (types p.cells) x.k ∧ taken p (pairs p i) x.a = getI (types p.cells) x.k := fun e => by
    unfold takesOk at ht; rw [if_neg (by omega), if_neg (by omega), if_neg (by omega), if_neg (by omega), if_neg (by omega), if_pos e] at ht; exact ht
  have t30 : x.op = 30 ∨ x.op = 31 → 0 ≤ x.k ∧ x.k ≤ (p.code.length : Int) - 1 - i ∧ taken p (pairs p i) x.a = 2 := fun e => by
    unfold takesOk at ht; rw [if_neg (by omega), if_neg (by omega), if_neg (by omega), if_neg (by omega), if_neg (by omega), if_neg (by omega), if_pos e] at ht; exact ht
  have t27 : x.op = 27 → taken p (pairs p i) x.b = 2 ∧ taken p (pairs p i) x.c ≠ 0 ∧ taken p (pairs p i) x.k = taken p (pairs p i) x.c := fun e => by
    unfold takesOk at ht; rw [if_neg (by omega), if_neg (by omega), if_neg (by omega), if_pos e] at ht; exact ht
  have tS : 5 ≤ x.op ∧ x.op ≤ 20 → taken p (pairs p i) x.b ≠ 0 ∧ (x.op ≤ 6 ∨ taken p (pairs p i) x.c = taken p (pairs p i) x.b) := fun e => by
    unfold takesOk at ht; rw [if_pos e] at ht; exact ⟨ht.1, ht.2.2⟩
  have t3 : x.op = 3 → taken p (pairs p i) x.b ≠ 0 := fun e => by
    unfold takesOk at ht; rw [if_neg (by omega), if_neg (by omega), if_pos e] at ht; exact ht
  have hne : x.op < 29 → ∀ r, taken p (pairs p i) r ≠ 0 → x.a ≠ r := fun h29 r hr0 g => by
    rw [← g] at hr0
    exact taken_acc hr0 (hg h29).2.1
  refine ⟨?_, ?_, ?_, ?_, ?_, ?_, ?_, ?_, ?_, ?_, hop⟩
  · by_cases h29 : x.op < 29
    · exact ⟨ha0, (hg h29).1⟩
    · rcases (by omega : x.op = 29 ∨ x.op = 32 ∨ (x.op = 30 ∨ x.op = 31)) with e | e | e
      · exact taken_in (l := pairs p i) (by rw [(t29 e).2]; have := in_two hm.2.2.2.1.1 (t29 e).1; omega)
      · exact taken_in (l := pairs p i) (by rw [(t32 e).2]; have := in_two (types_two hm) (t32 e).1; omega)
      · exact taken_in (l := pairs p i) (by rw [(t30 e).2.2]; decide)
  · rintro (e | e | e)
    · exact taken_in (t3 e)
    · exact taken_in (tS e).1
    · exact taken_in (l := pairs p i) (by rw [(t27 e).1]; decide)
  · rintro (e | e)
    · exact taken_in (l := pairs p i) (by rw [((tS (by omega)).2).resolve_left (by omega)]; exact (tS (by omega)).1)
    · exact taken_in (t27 e).2.1
  · intro e
    exact taken_in (l := pairs p i) (by rw [(t27 e).2.2]; exact (t27 e).2.1)
  · rintro (e | e)
    · have h2 := (hg (by omega)).2.2
      by_cases hh : has (types p.cells) x.k
      · have := hh.2; rw [hty] at this; exact ⟨hh.1, this⟩
      · unfold givesOf at h2; rw [if_neg (by omega), if_neg (by omega), if_neg (by omega), if_neg (by omega), if_neg (fun g => hh g.2), if_neg (by omega)] at h2; omega
    · have hh := (t32 e).1
      have := hh.2; rw [hty] at this; exact ⟨hh.1, this⟩
  · intro e
    have h2 := (hg (by omega)).2.2
    by_cases hh : has p.ins x.k
    · exact hh
    · unfold givesOf at h2; rw [if_neg (by omega), if_neg (by omega), if_neg (by omega), if_neg (by omega), if_neg (by omega), if_neg (fun g => hh g.2)] at h2; omega
  · intro e
    exact (t29 e).1
  · intro e
    exact ⟨(t30 e).1, (t30 e).2.1⟩
  · rintro (e | e | e)
    · exact hne (by omega) _ (t3 e)
    · exact hne (by omega) _ (tS e).1
    · exact hne (by omega) _ (by rw [(t27 e).1]; decide)
  · rintro (e | e)
    · exact hne (by omega) _ (by rw [((tS (by omega)).2).resolve_left (by omega)]; exact (tS (by omega)).1)
    · exact hne (by omega) _ (t27 e).2.1
end Go.Proofs.Ytbjaejgechadpaa.Vf
