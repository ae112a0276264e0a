/-
  Sources as plain data: conditions, variables, equations, nodes; how they lie in memory.
-/
import Derived.Test.YtolabbnchmmckaaExMem
namespace Go.Proofs.Ytolabbnchmmckaa
open Go.RowKit

/-- a proposition's truth -/
noncomputable def cB (p : Prop) : Bool := @decide p (Classical.propDecidable p)
theorem cB_true {p : Prop} (h : p) : cB p = true := by unfold cB; exact @decide_eq_true p (Classical.propDecidable p) h
theorem cB_false {p : Prop} (h : ¬ p) : cB p = false := by unfold cB; exact @decide_eq_false p (Classical.propDecidable p) h
theorem cB_iff {p : Prop} : cB p = true ↔ p := ⟨fun h => Classical.byContradiction fun hn => (by rw [cB_false hn] at h; cases h), cB_true⟩
theorem cB_not {p : Prop} : cB p = false ↔ ¬ p := ⟨fun h hp => (by rw [cB_true hp] at h; cases h), cB_false⟩
theorem cB_congr {p q : Prop} (h : p ↔ q) : cB p = cB q := by rw [Bool.eq_iff_iff, cB_iff, cB_iff]; exact h

structure Lt where
  name : ByteArray
  no : Bool
structure Vr where
  name : ByteArray
  ty : Int
  clock : List Lt
  line : Int
  col : Int
structure Eqn where
  left : List ByteArray
  right : Ex
  line : Int
  col : Int
structure Nd where
  name : ByteArray
  ins : List Vr
  outs : List Vr
  vars : List Vr
  eqs : List Eqn
  line : Int
  col : Int
/-- what is wrong, and where -/
structure Ft where
  err : Int
  line : Int
  col : Int
theorem lt_ext {x y : Lt} (h1 : x.name = y.name) (h2 : x.no = y.no) : x = y := by cases x; cases y; simp_all
theorem ft_ext {x y : Ft} (h1 : x.err = y.err) (h2 : x.line = y.line) (h3 : x.col = y.col) : x = y := by cases x; cases y; simp_all
abbrev ftV (f : Ft) : Value := .agg #[.int .i64 f.err, .int .i64 f.line, .int .i64 f.col]
abbrev ft0 : Ft := ⟨0, 0, 0⟩
/-- a node's variables -/
def vrs (n : Nd) : List Vr := n.ins ++ n.outs ++ n.vars

/-! ### in memory -/
abbrev Keeps (B : Nat) (w w' : World) : Prop := ∀ (p : Addr) (u : Value), p.block < B → w.cell? p = some u → w'.cell? p = some u
theorem keeps_of {B : Nat} {w w' : World} (h : Below B w w') : Keeps B w w' := fun _ _ hp hc => (h.cell hp).trans hc
def isLit (x : Lt) (cs : List Value) : Prop := cs = [.string x.name, .bool x.no] ∧ x.name.size ≤ maxLen
structure VrOk (x : Vr) : Prop where
  name : x.name.size ≤ maxLen
  ty : Wf x.ty
  line : Wf x.line
  col : Wf x.col
def isVr (w : World) (B : Nat) (x : Vr) (cs : List Value) : Prop :=
  ∃ A cap, cs = [.string x.name, .int .i64 x.ty, .slice A x.clock.length cap, .int .i64 x.line, .int .i64 x.col] ∧ VrOk x ∧ x.clock.length ≤ cap ∧ cap ≤ maxLen ∧ Sl w B 2 isLit A x.clock
structure EqnOk (x : Eqn) : Prop where
  right : ExOk x.right
  line : Wf x.line
  col : Wf x.col
def isEqn (w : World) (B : Nat) (x : Eqn) (cs : List Value) : Prop :=
  ∃ A cap A' cap', cs = [.slice A x.left.length cap, .int .i64 x.right.op, .string x.right.name, .int .i64 x.right.n, .slice A' x.right.args.length cap', .int .i64 x.right.line, .int .i64 x.right.col, .int .i64 x.line, .int .i64 x.col] ∧
    EqnOk x ∧ x.left.length ≤ cap ∧ cap ≤ maxLen ∧ Sl w B 1 isStr A x.left ∧ x.right.args.length ≤ cap' ∧ cap' ≤ maxLen ∧ IsExs w B A' x.right.args
/-- where a node's lists lie -/
structure NdA where
  ai : Option Addr
  ci : Nat
  ao : Option Addr
  co : Nat
  av : Option Addr
  cv : Nat
  aq : Option Addr
  cq : Nat
structure NdAt (w : World) (B : Nat) (n : Nd) (a : NdA) : Prop where
  name : n.name.size ≤ maxLen
  line : Wf n.line
  col : Wf n.col
  li : n.ins.length ≤ a.ci
  mi : a.ci ≤ maxLen
  si : Sl w B 5 (isVr w B) a.ai n.ins
  lo : n.outs.length ≤ a.co
  mo : a.co ≤ maxLen
  so : Sl w B 5 (isVr w B) a.ao n.outs
  lv : n.vars.length ≤ a.cv
  mv : a.cv ≤ maxLen
  sv : Sl w B 5 (isVr w B) a.av n.vars
  lq : n.eqs.length ≤ a.cq
  mq : a.cq ≤ maxLen
  sq : Sl w B 9 (isEqn w B) a.aq n.eqs
abbrev ndCs (n : Nd) (a : NdA) : List Value := [.string n.name, .slice a.ai n.ins.length a.ci, .slice a.ao n.outs.length a.co, .slice a.av n.vars.length a.cv, .slice a.aq n.eqs.length a.cq, .int .i64 n.line, .int .i64 n.col]
abbrev ndV (n : Nd) (a : NdA) : Value := .agg #[.string n.name, .slice a.ai n.ins.length a.ci, .slice a.ao n.outs.length a.co, .slice a.av n.vars.length a.cv, .slice a.aq n.eqs.length a.cq, .int .i64 n.line, .int .i64 n.col]
def isNd (w : World) (B : Nat) (n : Nd) (cs : List Value) : Prop := ∃ a, cs = ndCs n a ∧ NdAt w B n a
section
variable {w w' : World} {B B' : Nat}
theorem isVr_keep (hk : Keeps B w w') (hB : B ≤ B') {x : Vr} {cs : List Value} (h : isVr w B x cs) : isVr w' B' x cs := by
  obtain ⟨A, cap, h1, h2, h3, h4, h5⟩ := h
  exact ⟨A, cap, h1, h2, h3, h4, h5.keep hk hB (fun _ _ _ h => h)⟩
theorem isEqn_keep (hk : Keeps B w w') (hB : B ≤ B') {x : Eqn} {cs : List Value} (h : isEqn w B x cs) : isEqn w' B' x cs := by
  obtain ⟨A, cap, A', cap', h1, h2, h3, h4, h5, h6, h7, h8⟩ := h
  exact ⟨A, cap, A', cap', h1, h2, h3, h4, h5.keep hk hB (fun _ _ _ h => h), h6, h7, (h8.keepS hk).more hB⟩
theorem NdAt.keep (hk : Keeps B w w') (hB : B ≤ B') {n : Nd} {a : NdA} (h : NdAt w B n a) : NdAt w' B' n a :=
  ⟨h.name, h.line, h.col, h.li, h.mi, h.si.keep hk hB (fun _ _ _ h => isVr_keep hk hB h), h.lo, h.mo, h.so.keep hk hB (fun _ _ _ h => isVr_keep hk hB h), h.lv, h.mv, h.sv.keep hk hB (fun _ _ _ h => isVr_keep hk hB h),
    h.lq, h.mq, h.sq.keep hk hB (fun _ _ _ h => isEqn_keep hk hB h)⟩
theorem NdAt.below {n : Nd} {a : NdA} (h : NdAt w B n a) (hb : Below B w w') : NdAt w' B n a := h.keep (keeps_of hb) (Nat.le_refl _)
theorem NdAt.more {n : Nd} {a : NdA} (h : NdAt w B n a) (hB : B ≤ B') : NdAt w B' n a := h.keep (fun _ _ _ h => h) hB
theorem NdAt.next {n : Nd} {a : NdA} (h : NdAt w w.heap.size n a) (hb : Below w.heap.size w w') : NdAt w' w'.heap.size n a := (h.below hb).more hb.size
theorem isNd_keep (hk : Keeps B w w') (hB : B ≤ B') {x : Nd} {cs : List Value} (h : isNd w B x cs) : isNd w' B' x cs := by
  obtain ⟨a, h1, h2⟩ := h
  exact ⟨a, h1, h2.keep hk hB⟩
/-- slices of variables, equations, nodes -/
abbrev Vrs (w : World) (B : Nat) (A : Option Addr) (l : List Vr) : Prop := Sl w B 5 (isVr w B) A l
abbrev Nds (w : World) (B : Nat) (A : Option Addr) (l : List Nd) : Prop := Sl w B 7 (isNd w B) A l
abbrev Eqs (w : World) (B : Nat) (A : Option Addr) (l : List Eqn) : Prop := Sl w B 9 (isEqn w B) A l
theorem vrs_keep {A : Option Addr} {l : List Vr} (h : Vrs w B A l) (hk : Keeps B w w') (hB : B ≤ B') : Vrs w' B' A l := h.keep hk hB (fun _ _ _ h => isVr_keep hk hB h)
theorem vrs_keep2 {C : Nat} {A : Option Addr} {l : List Vr} (h : Sl w C 5 (isVr w B) A l) (hb : Below C w w') (hB : B ≤ C) : Sl w' C 5 (isVr w' B) A l := h.keep (keeps_of hb) (Nat.le_refl _) (fun _ _ _ h => isVr_keep (keeps_of (hb.mono hB)) (Nat.le_refl _) h)
theorem eqs_keep {A : Option Addr} {l : List Eqn} (h : Eqs w B A l) (hk : Keeps B w w') (hB : B ≤ B') : Eqs w' B' A l := h.keep hk hB (fun _ _ _ h => isEqn_keep hk hB h)
theorem nds_keep {A : Option Addr} {l : List Nd} (h : Nds w B A l) (hk : Keeps B w w') (hB : B ≤ B') : Nds w' B' A l := h.keep hk hB (fun _ _ _ h => isNd_keep hk hB h)
theorem exs_keep {A : Option Addr} {l : List Ex} (h : IsExs w B A l) (hk : Keeps B w w') (hB : B ≤ B') : IsExs w' B' A l := (h.keepS hk).more hB
theorem lits_keep {A : Option Addr} {l : List Lt} (h : Sl w B 2 isLit A l) (hk : Keeps B w w') (hB : B ≤ B') : Sl w' B' 2 isLit A l := h.keep hk hB (fun _ _ _ h => h)
theorem strs_keep {A : Option Addr} {l : List ByteArray} (h : Sl w B 1 isStr A l) (hk : Keeps B w w') (hB : B ≤ B') : Sl w' B' 1 isStr A l := h.keep hk hB (fun _ _ _ h => h)
theorem Sl.lit {A : Option Addr} {l : List Lt} {k : Nat} (h : Sl w B 2 isLit A l) (hk : k < l.length) : ∃ b off x, A = some ⟨b, off, none⟩ ∧ b < B ∧ l[k]? = some x ∧ x.name.size ≤ maxLen ∧
    w.cell? ⟨b, off + k * 2, none⟩ = some (.string x.name) ∧ w.cell? ⟨b, off + k * 2 + 1, none⟩ = some (.bool x.no) := by
  obtain ⟨b, off, x, cs, h1, h2, h3, ⟨rfl, h4⟩, h5⟩ := h.at_ hk
  exact ⟨b, off, x, h1, h2, h3, h4, h5 0 _ rfl, h5 1 _ rfl⟩
theorem Sl.vr {C : Nat} {A : Option Addr} {l : List Vr} {k : Nat} (h : Sl w C 5 (isVr w B) A l) (hk : k < l.length) : ∃ b off x A' cap', A = some ⟨b, off, none⟩ ∧ b < C ∧ l[k]? = some x ∧ VrOk x ∧ x.clock.length ≤ cap' ∧ cap' ≤ maxLen ∧ Sl w B 2 isLit A' x.clock ∧
    w.cell? ⟨b, off + k * 5, none⟩ = some (.string x.name) ∧ w.cell? ⟨b, off + k * 5 + 1, none⟩ = some (.int .i64 x.ty) ∧ w.cell? ⟨b, off + k * 5 + 2, none⟩ = some (.slice A' x.clock.length cap') ∧
    w.cell? ⟨b, off + k * 5 + 3, none⟩ = some (.int .i64 x.line) ∧ w.cell? ⟨b, off + k * 5 + 4, none⟩ = some (.int .i64 x.col) := by
  obtain ⟨b, off, x, cs, h1, h2, h3, ⟨A', cap', rfl, h4, h5, h6, h7⟩, h8⟩ := h.at_ hk
  exact ⟨b, off, x, A', cap', h1, h2, h3, h4, h5, h6, h7, h8 0 _ rfl, h8 1 _ rfl, h8 2 _ rfl, h8 3 _ rfl, h8 4 _ rfl⟩
theorem Sl.eqn {A : Option Addr} {l : List Eqn} {k : Nat} (h : Eqs w B A l) (hk : k < l.length) : ∃ b off x A1 c1 A2 c2, A = some ⟨b, off, none⟩ ∧ b < B ∧ l[k]? = some x ∧ EqnOk x ∧ x.left.length ≤ c1 ∧ c1 ≤ maxLen ∧ Sl w B 1 isStr A1 x.left ∧
    x.right.args.length ≤ c2 ∧ c2 ≤ maxLen ∧ IsExs w B A2 x.right.args ∧
    w.cell? ⟨b, off + k * 9, none⟩ = some (.slice A1 x.left.length c1) ∧ w.cell? ⟨b, off + k * 9 + 1, none⟩ = some (.int .i64 x.right.op) ∧ w.cell? ⟨b, off + k * 9 + 2, none⟩ = some (.string x.right.name) ∧
    w.cell? ⟨b, off + k * 9 + 3, none⟩ = some (.int .i64 x.right.n) ∧ w.cell? ⟨b, off + k * 9 + 4, none⟩ = some (.slice A2 x.right.args.length c2) ∧ w.cell? ⟨b, off + k * 9 + 5, none⟩ = some (.int .i64 x.right.line) ∧
    w.cell? ⟨b, off + k * 9 + 6, none⟩ = some (.int .i64 x.right.col) ∧ w.cell? ⟨b, off + k * 9 + 7, none⟩ = some (.int .i64 x.line) ∧ w.cell? ⟨b, off + k * 9 + 8, none⟩ = some (.int .i64 x.col) := by
  obtain ⟨b, off, x, cs, h1, h2, h3, ⟨A1, c1, A2, c2, rfl, h4, h5, h6, h7, h8, h9, h10⟩, h11⟩ := h.at_ hk
  exact ⟨b, off, x, A1, c1, A2, c2, h1, h2, h3, h4, h5, h6, h7, h8, h9, h10, h11 0 _ rfl, h11 1 _ rfl, h11 2 _ rfl, h11 3 _ rfl, h11 4 _ rfl, h11 5 _ rfl, h11 6 _ rfl, h11 7 _ rfl, h11 8 _ rfl⟩
theorem Sl.nd {A : Option Addr} {l : List Nd} {k : Nat} (h : Nds w B A l) (hk : k < l.length) : ∃ b off x a, A = some ⟨b, off, none⟩ ∧ b < B ∧ l[k]? = some x ∧ NdAt w B x a ∧
    w.cell? ⟨b, off + k * 7, none⟩ = some (.string x.name) ∧ w.cell? ⟨b, off + k * 7 + 1, none⟩ = some (.slice a.ai x.ins.length a.ci) ∧ w.cell? ⟨b, off + k * 7 + 2, none⟩ = some (.slice a.ao x.outs.length a.co) ∧
    w.cell? ⟨b, off + k * 7 + 3, none⟩ = some (.slice a.av x.vars.length a.cv) ∧ w.cell? ⟨b, off + k * 7 + 4, none⟩ = some (.slice a.aq x.eqs.length a.cq) ∧
    w.cell? ⟨b, off + k * 7 + 5, none⟩ = some (.int .i64 x.line) ∧ w.cell? ⟨b, off + k * 7 + 6, none⟩ = some (.int .i64 x.col) := by
  obtain ⟨b, off, x, cs, h1, h2, h3, ⟨a, rfl, h4⟩, h5⟩ := h.at_ hk
  exact ⟨b, off, x, a, h1, h2, h3, h4, h5 0 _ rfl, h5 1 _ rfl, h5 2 _ rfl, h5 3 _ rfl, h5 4 _ rfl, h5 5 _ rfl, h5 6 _ rfl⟩
end
end Go.Proofs.Ytolabbnchmmckaa
