/-
  Names met: a map from names to 1, as a list of names.
-/
import Derived.Test.YtabceednmgijoaaGreatScE
import Derived.Maps.Own
import Derived.Maps.OwnOps
import Derived.Maps.Views
namespace Go.Proofs.YtabceednmgijoaaGreat
open Go.RowKit
/-- block b is a map that has 1 for the names of a list, and nothing else -/
def MetIs (w : World) (b : Nat) (l : List ByteArray) : Prop :=
  ∃ (n : Nat) (D : DataW Unit), w.ownsMap Tryz.prog 9 (plainElem Tryz.prog 3) b n D ∧ n ≤ l.length ∧ Maps.IsMap D ∧
    ∀ nm : ByteArray, (nm ∈ l → D.atKey (.string nm.data.toList) (.lit (.int .i64 0)) = .lit (.int .i64 1)) ∧ (nm ∉ l → D.atKey (.string nm.data.toList) (.lit (.int .i64 0)) = .lit (.int .i64 0))
theorem str_key {a b : ByteArray} (h : (Lit.string a.data.toList) = .string b.data.toList) : a = b := by
  injection h with h
  exact WideShapes.bytes_inj h
section
variable {w w' : World} {b : Nat} {l : List ByteArray}
theorem MetIs.lt (h : MetIs w b l) : b < w.heap.size := by
  obtain ⟨n, D, h1, _⟩ := h
  exact h1.lt
theorem MetIs.keep (h : MetIs w b l) (hk : w'.heap[b]? = w.heap[b]?) : MetIs w' b l := by
  obtain ⟨n, D, ⟨es, clock, h0, h1⟩, h2, h3⟩ := h
  exact ⟨n, D, ⟨es, clock, hk.trans h0, h1⟩, h2, h3⟩
theorem MetIs.below (h : MetIs w b l) (hb : Below w.heap.size w w') : MetIs w' b l := h.keep (hb.block b h.lt)
theorem MetIs.alloc (h : MetIs w b l) (o : Obj) : MetIs (w.alloc o) b l := h.below ((Below.refl _ _).alloc (Nat.le_refl _) _)
theorem MetIs.drew (h : MetIs w b l) : MetIs w.drew b l := h
theorem MetIs.grown {row : Option Nat} (h : MetIs w b l) (hg : w.grownBy w' row) (hr : some b ≠ row) : MetIs w' b l := h.keep (hg.block b h.lt hr)
theorem MetIs.set (h : MetIs w b l) {p : Addr} (hp : b ≠ p.block) (u : Value) : MetIs (w.setCell p u) b l := h.keep (Below.heap_setCell w p u b hp)
theorem MetIs.congr {l' : List ByteArray} (h : MetIs w b l) (hl : l.length ≤ l'.length) (hm : ∀ nm, nm ∈ l ↔ nm ∈ l') : MetIs w b l' := by
  obtain ⟨n, D, h1, h2, h3, h4⟩ := h
  exact ⟨n, D, h1, by omega, h3, fun nm => ⟨fun g => (h4 nm).1 ((hm nm).2 g), fun g => (h4 nm).2 (fun g' => g ((hm nm).1 g'))⟩⟩
theorem met_made (w : World) : MetIs (w.alloc (.map #[] 0)) w.heap.size [] :=
  ⟨0, .map [], World.ownsMap_made w _ _ _, Nat.le_refl _, ⟨[], rfl⟩, fun nm => ⟨fun h => absurd h (by simp), fun _ => rfl⟩⟩
theorem zero_int (w : World) : (zeroValue 3).run Tryz.prog w = .ok (.int .i64 0) w := by kernel_rfl
set_option maxRecDepth 100000 in
theorem MetIs.look (h : MetIs w b l) {nm : ByteArray} (hs : nm.size ≤ maxLen) : (nm ∈ l → (Instr.lookup 58 (.map (some b)) (.string nm) false).run Tryz.prog w = .ok (.int .i64 1) w) ∧ (nm ∉ l → (Instr.lookup 58 (.map (some b)) (.string nm) false).run Tryz.prog w = .ok (.int .i64 0) w) := by
  obtain ⟨n, D, h1, h2, h3, h4⟩ := h
  obtain ⟨c, hr, ha, _⟩ := h1.lookup_int (Maps.string_keyed Tryz.underlying9) Tryz.underlying58 Tryz.underlying3 (zero_int w) (_root_.Go.WideMaps.keyOf_string_mk Tryz.underlying9 hs)
  constructor
  · intro g
    rw [(h4 nm).1 g] at ha
    have h6 := (Lit.int.inj (DataW.lit.inj ha)).2
    rw [← h6] at hr
    exact hr
  · intro g
    rw [(h4 nm).2 g] at ha
    have h6 := (Lit.int.inj (DataW.lit.inj ha)).2
    rw [← h6] at hr
    exact hr
theorem MetIs.put (h : MetIs w b l) {nm : ByteArray} (hs : nm.size ≤ maxLen) (hn : l.length < 1000000) : ∃ w', (Instr.mapUpdate 58 (.map (some b)) (.string nm) (.int .i64 1)).run Tryz.prog w = .ok () w' ∧ MetIs w' b (l ++ [nm]) ∧ w.grownBy w' (some b) := by
  obtain ⟨n, D, h1, h2, h3, h4⟩ := h
  obtain ⟨w', hr, ho, hg⟩ := h1.update (Maps.string_keyed Tryz.underlying9) Tryz.underlying58 (by unfold maxLen; omega) (_root_.Go.WideMaps.keyOf_string_mk Tryz.underlying9 hs) (plainElem_int (a := 1) Tryz.underlying3 (by decide))
  refine ⟨w', hr, ⟨n + 1, _, ho, by simp; omega, h3.put _ _, fun x => ?_⟩, hg⟩
  by_cases e : x = nm
  · subst e
    refine ⟨fun _ => Maps.atKey_put_same h3 (by trivial) _ _, fun g => absurd (by simp) g⟩
  · have hne : (Lit.string x.data.toList) ≠ .string nm.data.toList := fun g => e (str_key g)
    rw [Maps.atKey_put_other hne]
    constructor
    · intro g
      exact (h4 x).1 ((List.mem_append.1 g).resolve_right (by simpa using e))
    · intro g
      exact (h4 x).2 (fun g' => g (List.mem_append_left _ g'))
end
theorem wpList_met {w : World} {ops : Array Oper} {rest : List Oper} {o : Oper} {a : Act} {Q : Exit → Act → World → Prop} (hg : o.guard = none) (m x v : Operand) (hop : o.op = Op.mapUpdate 58 m x v)
    (b : Nat) (l : List ByteArray) (hm : a.eval m = .map (some b)) (h : MetIs w b l) (hn : l.length < 1000000) (nm : ByteArray) (hx : a.eval x = .string nm) (hs : nm.size ≤ maxLen) (hv : a.eval v = .int .i64 1)
    (hK : ∀ w', MetIs w' b (l ++ [nm]) → w.grownBy w' (some b) → wpList Tryz.prog ops Q rest (a.put o.dst undef) w') : wpList Tryz.prog ops Q (o :: rest) a w := by
  refine wpList_plain hg fun K' hK' => ?_
  obtain ⟨w', hrun, r1, r2⟩ := h.put hs hn
  unfold Oper.wp
  simp [execOp, hop, hm, hx, hv, hrun, Result.andThen]
  exact hK' _ _ (hK w' r1 r2)
end Go.Proofs.YtabceednmgijoaaGreat
