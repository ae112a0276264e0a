/-
  Expressions as plain data: trees, what is reckoned part by part, induction.
-/
import Derived.Below
namespace Go.Proofs.Ytolabbnchmmckaa

/-- an expression -/
inductive Ex where
  | mk (op : Int) (name : ByteArray) (n : Int) (args : List Ex) (line col : Int)
namespace Ex
def op : Ex → Int
  | .mk op _ _ _ _ _ => op
def name : Ex → ByteArray
  | .mk _ name _ _ _ _ => name
def n : Ex → Int
  | .mk _ _ n _ _ _ => n
def args : Ex → List Ex
  | .mk _ _ _ args _ _ => args
def line : Ex → Int
  | .mk _ _ _ _ line _ => line
def col : Ex → Int
  | .mk _ _ _ _ _ col => col
theorem eta (e : Ex) : Ex.mk e.op e.name e.n e.args e.line e.col = e := by cases e; rfl

/-- what is reckoned of an expression and of what is reckoned of its parts -/
noncomputable def para {α : Type} (f : Ex → List α → α) (e : Ex) : α :=
  Ex.rec (motive_1 := fun _ => α) (motive_2 := fun _ => List α) (fun op nm n args l c ih => f (.mk op nm n args l c) ih) [] (fun _ _ h t => h :: t) e
theorem para_list {α : Type} (f : Ex → List α → α) (l : List Ex) :
    Ex.rec_1 (motive_1 := fun _ => α) (motive_2 := fun _ => List α) (fun op nm n args l c ih => f (.mk op nm n args l c) ih) [] (fun _ _ h t => h :: t) l = l.map (para f) := by
  induction l with
  | nil => rfl
  | cons x l ih => rw [List.map_cons, ← ih]; rfl
theorem para_eq {α : Type} (f : Ex → List α → α) (e : Ex) : para f e = f e (e.args.map (para f)) := by
  obtain ⟨op, nm, n, args, l, c⟩ := e
  show f _ (Ex.rec_1 (motive_1 := fun _ => α) (motive_2 := fun _ => List α) _ _ _ args) = _
  rw [para_list]; rfl
theorem ind {P : Ex → Prop} (h : ∀ e : Ex, (∀ x ∈ e.args, P x) → P e) (e : Ex) : P e :=
  Ex.rec (motive_1 := P) (motive_2 := fun l => ∀ x ∈ l, P x) (fun op nm n args l c ih => h (.mk op nm n args l c) ih) (fun _ hx => absurd hx List.not_mem_nil)
    (fun _ _ h t x hx => (List.mem_cons.1 hx).elim (fun e => e ▸ h) (t x)) e
end Ex

/-- an expression, and all within it, in order -/
noncomputable def exList : Ex → List Ex := Ex.para fun e ps => e :: ps.flatten
theorem exList_eq (e : Ex) : exList e = e :: (e.args.map exList).flatten := Ex.para_eq _ e
def maxL : List Nat → Nat
  | [] => 0
  | x :: l => max x (maxL l)
noncomputable def exHeight : Ex → Nat := Ex.para fun _ ps => maxL ps + 1
theorem exHeight_eq (e : Ex) : exHeight e = maxL (e.args.map exHeight) + 1 := Ex.para_eq _ e
theorem maxL_snoc (l : List Nat) (x : Nat) : maxL (l ++ [x]) = max (maxL l) x := by
  induction l with
  | nil => simp [maxL]
  | cons y l ih => simp only [List.cons_append, maxL, ih]; omega
theorem maxL_le {l : List Nat} {b : Nat} (h : ∀ x ∈ l, x ≤ b) : maxL l ≤ b := by
  induction l with
  | nil => exact Nat.zero_le _
  | cons y l ih => simp only [maxL]; have := h y (by simp); have := ih (fun x hx => h x (by simp [hx])); omega
/-- how many parts -/
noncomputable def exSize (e : Ex) : Nat := (exList e).length
def sumL : List Nat → Nat
  | [] => 0
  | x :: l => x + sumL l
theorem exSize_eq (e : Ex) : exSize e = sumL (e.args.map exSize) + 1 := by
  unfold exSize
  rw [exList_eq, List.length_cons]
  congr 1
  have : ∀ l : List Ex, (l.map exList).flatten.length = sumL (l.map fun e => (exList e).length) := by
    intro l
    induction l with
    | nil => rfl
    | cons x l ih => simp only [List.map_cons, List.flatten_cons, List.length_append, sumL, ih]
  exact this _
theorem sumL_snoc (l : List Nat) (x : Nat) : sumL (l ++ [x]) = sumL l + x := by
  induction l with
  | nil => simp [sumL]
  | cons y l ih => simp only [List.cons_append, sumL, ih]; omega
theorem sumL_mem {l : List Nat} {x : Nat} (h : x ∈ l) : x ≤ sumL l := by
  induction l with
  | nil => cases h
  | cons y l ih =>
    simp only [sumL]
    rcases List.mem_cons.1 h with rfl | h
    · omega
    · have := ih h; omega
theorem exSize_pos (e : Ex) : 1 ≤ exSize e := by rw [exSize_eq]; omega
theorem exSize_arg {e x : Ex} (h : x ∈ e.args) : exSize x < exSize e := by
  have := sumL_mem (List.mem_map_of_mem (f := exSize) h)
  rw [exSize_eq e]; omega
theorem sumL_len {l : List Ex} : l.length ≤ sumL (l.map exSize) := by
  induction l with
  | nil => simp [sumL]
  | cons y l ih => simp only [List.map_cons, sumL, List.length_cons]; have := exSize_pos y; omega
theorem exSize_args (e : Ex) : e.args.length < exSize e := by
  rw [exSize_eq]; have := @sumL_len e.args; omega
theorem exHeight_le (e : Ex) : exHeight e ≤ exSize e := by
  induction e using Ex.ind with
  | h e ih =>
    rw [exHeight_eq, exSize_eq]
    have : maxL (e.args.map exHeight) ≤ sumL (e.args.map exSize) := maxL_le fun x hx => by
      obtain ⟨y, hy, rfl⟩ := List.mem_map.1 hx
      exact Nat.le_trans (ih y hy) (sumL_mem (List.mem_map_of_mem hy))
    omega
end Go.Proofs.Ytolabbnchmmckaa
