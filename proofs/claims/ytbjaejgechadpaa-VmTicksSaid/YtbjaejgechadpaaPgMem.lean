/-
  Machines' programs in memory; the contracts of package code's May and of row.Right.
-/
import Derived.Test.YtbjaejgechadpaaSl
import Derived.Test.YtbjaejgechadpaaVer
import Derived.Outline
import Derived.WalkLawsBesides
import Derived.Deep.DeepCutAuto
namespace Go.Proofs.Ytbjaejgechadpaa
open Go.RowKit Vf

/-- a proposition's truth -/
noncomputable def cB (p : Prop) : Bool := @decide p (Classical.propDecidable p)
theorem cB_true {p : Prop} (h : p) : cB p = true := by unfold cB; exact @decide_eq_true p (Classical.propDecidable p) h
theorem cB_false {p : Prop} (h : ¬ p) : cB p = false := by unfold cB; exact @decide_eq_false p (Classical.propDecidable p) h
theorem cB_iff {p : Prop} : cB p = true ↔ p := ⟨fun h => Classical.byContradiction fun hn => (by rw [cB_false hn] at h; cases h), cB_true⟩
theorem cB_not {p : Prop} : cB p = false ↔ ¬ p := ⟨fun h hp => (by rw [cB_true hp] at h; cases h), cB_false⟩
theorem cB_congr {p q : Prop} (h : p ↔ q) : cB p = cB q := by rw [Bool.eq_iff_iff, cB_iff, cB_iff]; exact h
theorem ret_i64 {a b : Int} (h : a = b) : Ending.returned (.int .i64 a) = .returned (.int .i64 b) := by rw [h]
theorem upto_succ {k : Nat} {P : Nat → Prop} (h : ∀ j, j < k → P j) (hk : P k) : ∀ j, j < k + 1 → P j := fun j hj => by
  rcases Nat.lt_or_ge j k with h1 | h1
  · exact h j h1
  · obtain rfl : j = k := by omega
    exact hk

def isCell (c : Int × Int) (cs : List Value) : Prop := cs = [.int .i64 c.1, .int .i64 c.2] ∧ Wf c.1 ∧ Wf c.2
structure In5Ok (x : In5) : Prop where
  op : Wf x.op
  a : Wf x.a
  b : Wf x.b
  c : Wf x.c
  k : Wf x.k
def isIn5 (x : In5) (cs : List Value) : Prop := cs = [.int .i64 x.op, .int .i64 x.a, .int .i64 x.b, .int .i64 x.c, .int .i64 x.k] ∧ In5Ok x
theorem Sl.cell {w : World} {B : Nat} {A : Option Addr} {l : List (Int × Int)} {k : Nat} (h : Sl w B 2 isCell A l) (hk : k < l.length) : ∃ b off x, A = some ⟨b, off, none⟩ ∧ b < B ∧ l[k]? = some x ∧ Wf x.1 ∧ Wf x.2 ∧
    w.cell? ⟨b, off + k * 2, none⟩ = some (.int .i64 x.1) ∧ w.cell? ⟨b, off + k * 2 + 1, none⟩ = some (.int .i64 x.2) := by
  obtain ⟨b, off, x, cs, h1, h2, h3, ⟨rfl, h4⟩, h5⟩ := h.at_ hk
  exact ⟨b, off, x, h1, h2, h3, h4.1, h4.2, h5 0 _ rfl, h5 1 _ rfl⟩
theorem Sl.in5 {w : World} {B : Nat} {A : Option Addr} {l : List In5} {k : Nat} (h : Sl w B 5 isIn5 A l) (hk : k < l.length) : ∃ b off x, A = some ⟨b, off, none⟩ ∧ b < B ∧ l[k]? = some x ∧ In5Ok x ∧
    w.cell? ⟨b, off + k * 5, none⟩ = some (.int .i64 x.op) ∧ w.cell? ⟨b, off + k * 5 + 1, none⟩ = some (.int .i64 x.a) ∧ w.cell? ⟨b, off + k * 5 + 2, none⟩ = some (.int .i64 x.b) ∧
    w.cell? ⟨b, off + k * 5 + 3, none⟩ = some (.int .i64 x.c) ∧ w.cell? ⟨b, off + k * 5 + 4, none⟩ = some (.int .i64 x.k) := by
  obtain ⟨b, off, x, cs, h1, h2, h3, ⟨rfl, h4⟩, h5⟩ := h.at_ hk
  exact ⟨b, off, x, h1, h2, h3, h4, h5 0 _ rfl, h5 1 _ rfl, h5 2 _ rfl, h5 3 _ rfl, h5 4 _ rfl⟩
abbrev in5V (x : In5) : Value := .agg #[.int .i64 x.op, .int .i64 x.a, .int .i64 x.b, .int .i64 x.c, .int .i64 x.k]
/-- a program by value, and what it leads to -/
structure PgAt (w : World) (B : Nat) (p : Pg) (vi vo vc vd : Value) : Prop where
  ins : SlV w B 1 isInt vi p.ins
  outs : SlV w B 1 isInt vo p.outs
  regs : Wf p.regs
  cells : SlV w B 2 isCell vc p.cells
  code : SlV w B 5 isIn5 vd p.code
abbrev pgV (p : Pg) (vi vo vc vd : Value) : Value := .agg #[vi, vo, .int .i64 p.regs, vc, vd]
theorem PgAt.below {w w' : World} {B : Nat} {p : Pg} {vi vo vc vd : Value} (h : PgAt w B p vi vo vc vd) (hb : Below B w w') : PgAt w' B p vi vo vc vd :=
  ⟨h.ins.below hb, h.outs.below hb, h.regs, h.cells.below hb, h.code.below hb⟩
theorem PgAt.more {w : World} {B B' : Nat} {p : Pg} {vi vo vc vd : Value} (h : PgAt w B p vi vo vc vd) (hB : B ≤ B') : PgAt w B' p vi vo vc vd :=
  ⟨h.ins.more hB, h.outs.more hB, h.regs, h.cells.more hB, h.code.more hB⟩
theorem PgAt.next {w w' : World} {p : Pg} {vi vo vc vd : Value} (h : PgAt w w.heap.size p vi vo vc vd) (hb : Below w.heap.size w w') : PgAt w' w'.heap.size p vi vo vc vd := (h.below hb).more hb.size

/-! ### code.fields, value, instr -/
def fieldsZ (op : Int) : Int := if op = 1 ∨ op = 2 ∨ op = 21 ∨ (28 ≤ op ∧ op ≤ 32) then 9 else if op = 3 ∨ op = 5 ∨ op = 6 then 3 else if 7 ≤ op ∧ op ≤ 20 then 7 else if op = 27 then 15 else 0
set_option maxHeartbeats 2000000 in
theorem fields_any (op : Int) (w : World) :
    Calls Try.prog 115 #[.int .i64 op] w fun e w' => e = .returned (.int .i64 (fieldsZ op)) ∧ w = w' := by
  go_enter Try.func115, Try.ntmps115
  go_wp2
  all_goals
    go_ret
    refine ⟨ret_i64 ?_, rfl⟩
    (try simp only [beq_iff_eq, beq_eq_false_iff_ne] at *)
    unfold fieldsZ
    repeat' split
    all_goals omega
theorem value_any (kind n : Int) (w : World) :
    Calls Try.prog 87 #[.int .i64 kind, .int .i64 n] w fun e w' => e = .returned (.bool (cB (valueOk kind n))) ∧ w = w' := by
  go_enter Try.func87, Try.ntmps87
  go_wp2
  all_goals
    go_ret
    refine ⟨ret_bool ?_, rfl⟩
    rw [Bool.eq_iff_iff, cB_iff]
    simp [valueOk]
    omega
theorem bits9_2 : bits .and .i64 9 2 = 0 := by decide
theorem bits9_4 : bits .and .i64 9 4 = 0 := by decide
theorem bits9_8 : bits .and .i64 9 8 = 8 := by decide
theorem bits3_2 : bits .and .i64 3 2 = 2 := by decide
theorem bits3_4 : bits .and .i64 3 4 = 0 := by decide
theorem bits3_8 : bits .and .i64 3 8 = 0 := by decide
theorem bits7_2 : bits .and .i64 7 2 = 2 := by decide
theorem bits7_4 : bits .and .i64 7 4 = 4 := by decide
theorem bits7_8 : bits .and .i64 7 8 = 0 := by decide
theorem bits15_2 : bits .and .i64 15 2 = 2 := by decide
theorem bits15_4 : bits .and .i64 15 4 = 4 := by decide
theorem bits15_8 : bits .and .i64 15 8 = 8 := by decide
theorem instrOk_iff (x : In5) : instrOk x ↔ fieldsZ x.op ≠ 0 ∧ 0 ≤ x.a ∧ 0 ≤ x.b ∧ 0 ≤ x.c ∧ (fieldsZ x.op = 9 → x.b = 0 ∧ x.c = 0) ∧ (fieldsZ x.op = 3 → x.c = 0 ∧ x.k = 0) ∧ (fieldsZ x.op = 7 → x.k = 0) := by
  unfold instrOk hasA hasAB hasABC fieldsZ
  by_cases h1 : x.op = 1 ∨ x.op = 2 ∨ x.op = 21 ∨ (28 ≤ x.op ∧ x.op ≤ 32)
  · rw [if_pos h1]; omega
  · rw [if_neg h1]
    by_cases h2 : x.op = 3 ∨ x.op = 5 ∨ x.op = 6
    · rw [if_pos h2]; omega
    · rw [if_neg h2]
      by_cases h3 : 7 ≤ x.op ∧ x.op ≤ 20
      · rw [if_pos h3]; omega
      · rw [if_neg h3]
        by_cases h4 : x.op = 27
        · rw [if_pos h4]; omega
        · rw [if_neg h4]; omega
theorem fields_cases (op : Int) : fieldsZ op = 0 ∨ fieldsZ op = 9 ∨ fieldsZ op = 3 ∨ fieldsZ op = 7 ∨ fieldsZ op = 15 := by unfold fieldsZ; repeat' split; all_goals omega
set_option maxHeartbeats 4000000 in
theorem codeInstr_any (x : In5) (w : World) :
    Calls Try.prog 88 #[in5V x] w fun e w' => e = .returned (.bool (cB (instrOk x))) ∧ Below w.heap.size w w' := by
  have HE := Lib.hid (instrOk_iff x)
  have hF := fields_cases x.op
  go_enter Try.func88, Try.ntmps88
  go_wp2_with fail
  refine (fields_any x.op _).mono ?_
  rintro e w' ⟨rfl, rfl⟩
  generalize fieldsZ x.op = F at *
  have k1 := bits9_2
  have k2 := bits9_4
  have k3 := bits9_8
  have k4 := bits3_2
  have k5 := bits3_4
  have k6 := bits3_8
  have k7 := bits7_2
  have k8 := bits7_4
  have k9 := bits7_8
  have k10 := bits15_2
  have k11 := bits15_4
  have k12 := bits15_8
  rcases hF with rfl | rfl | rfl | rfl | rfl
  all_goals
    go_wp2_with fail
    all_goals
      go_ret
      refine ⟨ret_bool ?_, (Below.refl _ _).alloc (Nat.le_refl _) _⟩
      rw [Bool.eq_iff_iff, cB_iff, HE.out]
      simp
      try omega

/-! ### row.Right -/
theorem types_no {l : List Int} {k : Nat} {t : Int} (h : l[k]? = some t) (h1 : t ≠ 1) (h2 : t ≠ 2) : ¬ typesOk l := fun ht => by
  rcases ht.1 t (List.mem_of_getElem? h) with h | h
  · exact h1 h
  · exact h2 h
theorem types_yes {l : List Int} (h : ∀ j, j < l.length → ∀ t, l[j]? = some t → t = 1 ∨ t = 2) : typesOk l ↔ 1 ≤ l.length ∧ l.length ≤ 8 := by
  unfold typesOk
  refine ⟨fun h' => h'.2, fun h' => ⟨fun t ht => ?_, h'⟩⟩
  obtain ⟨j, hj⟩ := List.getElem?_of_mem ht
  exact h j (List.getElem?_eq_some_iff.1 hj).1 t hj
set_option maxHeartbeats 1000000 in
theorem rowRight_any (l : List Int) (A : Option Addr) (cap B : Nat) (w : World) (hcap : l.length ≤ cap) (hmax : cap ≤ maxLen) (hl : Sl w B 1 isInt A l) :
    Calls Try.prog 89 #[.slice A l.length cap] w fun e w' => e = .returned (.bool (cB (typesOk l))) ∧ w = w' := by
  unfold maxLen at hmax
  go_enter Try.func89, Try.ntmps89
  go_wp2_with fail
  go_loop [7] (fun i => ∃ k : Nat, k ≤ l.length ∧ i = .int .i64 k ∧ Hid (∀ j, j < k → ∀ t, l[j]? = some t → t = 1 ∨ t = 2)) (fun i => l.length - (intOf i).toNat)
  case atStart => exact ⟨0, Nat.zero_le _, rfl, fun j h => absurd h (by omega)⟩
  case round =>
    obtain ⟨k, hk, rfl, HN⟩ := hrel
    by_cases hlt : k < l.length
    · obtain ⟨b, off, t, rfl, hb, hxk, hwf, hc⟩ := hl.int hlt
      have HK := Lib.hid hxk
      clear hxk
      by_cases h1 : t = 1
      · have h1' : (t != 1) = false := by simp [h1]
        have HN' := Lib.hid (upto_succ HN.out (fun y hy => by rw [HK.out] at hy; injection hy with hy; rw [← hy]; exact .inl h1))
        clear h1
        go_wp2_with fail
        go_round
        case rel => exact ⟨k + 1, by omega, by go_num, HN'⟩
        case measure => simp [intOf]; omega
      · have h1' : (t != 1) = true := by simp [h1]
        by_cases h2 : t = 2
        · have h2' : (t != 2) = false := by simp [h2]
          have HN' := Lib.hid (upto_succ HN.out (fun y hy => by rw [HK.out] at hy; injection hy with hy; rw [← hy]; exact .inr h2))
          clear h1 h2
          go_wp2_with fail
          go_round
          case rel => exact ⟨k + 1, by omega, by go_num, HN'⟩
          case measure => simp [intOf]; omega
        · have h2' : (t != 2) = true := by simp [h2]
          have HF := Lib.hid (cB_false (types_no HK.out h1 h2))
          clear h1 h2
          go_wp2_with fail
          go_ret
          exact ⟨ret_bool HF.out.symm, rfl⟩
    · obtain rfl : k = l.length := by omega
      have HF := Lib.hid (cB_congr (types_yes HN.out))
      go_wp2_with fail
      all_goals
        go_ret
        refine ⟨ret_bool ?_, rfl⟩
        rw [HF.out, Bool.eq_iff_iff, cB_iff]
        simp
        try omega
end Go.Proofs.Ytbjaejgechadpaa
