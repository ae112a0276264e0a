/-
  A tick's state in memory.
-/
import Derived.Test.YtbjaejgechadpaaLook
import Derived.Test.YtbjaejgechadpaaVmP
import Derived.Test.YtbjaejgechadpaaApp
namespace Go.Proofs.Ytbjaejgechadpaa
open Go.RowKit Vf
structure TkAt (w : World) (C T R O : Nat) (vc vn vi : Value) (cells inn : List Int) (s : Tk) : Prop where
  row : Row w T #[.slice (some ⟨R, 0, none⟩) s.regs.length s.regs.length, vc, vn, vi, .slice (some ⟨O, 0, none⟩) s.out.length s.out.length] 85
  regs : Row w R (s.regs.map (Value.int .i64)).toArray 3
  out : Row w O (s.out.map (Value.int .i64)).toArray 3
  next : w.ownsRow C 3 1 vn s.next.length (ints s.next)
  cells : SlV w C 1 isInt vc cells
  inn : SlV w C 1 isInt vi inn
  bT : C ≤ T
  bR : C ≤ R
  bO : C ≤ O
  TR : T ≠ R
  TO : T ≠ O
  RO : R ≠ O
  nn : ∀ k, vn.ownBlock = some k → k ≠ T ∧ k ≠ R ∧ k ≠ O
  rl : s.regs.length ≤ 1600
  ol : s.out.length ≤ 1600
abbrev tkX (R O : Nat) (vn : Value) (k : Nat) : Prop := k = R ∨ k = O ∨ vn.ownBlock = some k
theorem own_far {w : World} {base : Nat} {e : TypeId} {size : Nat} {v : Value} {n : Nat} {xs : List Value} (h : w.ownsRow base e size v n xs) {p : Addr} (hp : ∀ k, v.ownBlock = some k → k ≠ p.block) (u : Value) : (w.setCell p u).ownsRow base e size v n xs := by
  refine ⟨h.1, ?_⟩
  rcases h.2 with h0 | ⟨g, c, cur, h1, h2, h3, h4⟩
  · exact .inl h0
  · exact .inr ⟨g, c, cur, h1, h2, (Below.heap_setCell w p u g (hp g (by rw [h1]; rfl))).trans h3, h4⟩
theorem ints_set (l : List Int) (n : Nat) (v : Int) : (ints l).set n (.int .i64 v) = ints (l.set n v) := by simp [ints, List.map_set]
section
variable {w w' : World} {C T R O : Nat} {vc vn vi : Value} {cells inn : List Int} {s : Tk}
theorem TkAt.size (h : TkAt w C T R O vc vn vi cells inn s) : C ≤ w.heap.size := Nat.le_trans h.bT (Nat.le_of_lt h.row.lt)
theorem TkAt.below (h : TkAt w C T R O vc vn vi cells inn s) (hb : Below w.heap.size w w') : TkAt w' C T R O vc vn vi cells inn s :=
  ⟨h.row.below hb h.row.lt, h.regs.below hb h.regs.lt, h.out.below hb h.out.lt, own_below h.next hb, h.cells.below (hb.mono h.size), h.inn.below (hb.mono h.size), h.bT, h.bR, h.bO, h.TR, h.TO, h.RO, h.nn, h.rl, h.ol⟩
theorem TkAt.alloc (h : TkAt w C T R O vc vn vi cells inn s) (o : Obj) : TkAt (w.alloc o) C T R O vc vn vi cells inn s := h.below ((Below.refl _ _).alloc (Nat.le_refl _) _)
theorem TkAt.drew (h : TkAt w C T R O vc vn vi cells inn s) : TkAt w.drew C T R O vc vn vi cells inn s := h.below ((Below.refl _ _).drew)
theorem TkAt.drewN (h : TkAt w C T R O vc vn vi cells inn s) (n : Nat) : TkAt (w.drewN n) C T R O vc vn vi cells inn s := h.below (below_drewN' (Below.refl _ _) n)
theorem TkAt.setReg (h : TkAt w C T R O vc vn vi cells inn s) (n : Nat) (v : Int) : TkAt (w.setCell ⟨R, n, none⟩ (.int .i64 v)) C T R O vc vn vi cells inn { s with regs := s.regs.set n v } := by
  refine ⟨?_, ?_, h.out.far (Ne.symm h.RO) _, own_far h.next (fun k hk => (h.nn k hk).2.1) _, h.cells.below ((Below.refl _ _).setCell h.bR _), h.inn.below ((Below.refl _ _).setCell h.bR _), h.bT, h.bR, h.bO, h.TR, h.TO, h.RO, h.nn, by simpa using h.rl, h.ol⟩
  · have := h.row.far (p := ⟨R, n, none⟩) h.TR (.int .i64 v)
    simpa using this
  · have := h.regs.set n (.int .i64 v)
    rw [map_set] at this
    exact this
theorem TkAt.setOut (h : TkAt w C T R O vc vn vi cells inn s) (n : Nat) (v : Int) : TkAt (w.setCell ⟨O, n, none⟩ (.int .i64 v)) C T R O vc vn vi cells inn { s with out := s.out.set n v } := by
  refine ⟨?_, h.regs.far h.RO _, ?_, own_far h.next (fun k hk => (h.nn k hk).2.2) _, h.cells.below ((Below.refl _ _).setCell h.bO _), h.inn.below ((Below.refl _ _).setCell h.bO _), h.bT, h.bR, h.bO, h.TR, h.TO, h.RO, h.nn, h.rl, by simpa using h.ol⟩
  · have := h.row.far (p := ⟨O, n, none⟩) h.TO (.int .i64 v)
    simpa using this
  · have := h.out.set n (.int .i64 v)
    rw [map_set] at this
    exact this
theorem TkAt.setNext {N c : Nat} (h : TkAt w C T R O vc (.slice (some ⟨N, 0, none⟩) s.next.length c) vi cells inn s) (n : Nat) (v : Int) : TkAt (w.setCell ⟨N, n, none⟩ (.int .i64 v)) C T R O vc (.slice (some ⟨N, 0, none⟩) s.next.length c) vi cells inn { s with next := s.next.set n v } := by
  have hN := h.nn N rfl
  have bN : C ≤ N := (h.next.lt N rfl).1
  refine ⟨h.row.far (Ne.symm hN.1) _, h.regs.far (Ne.symm hN.2.1) _, h.out.far (Ne.symm hN.2.2) _, ?_, h.cells.below ((Below.refl _ _).setCell bN _), h.inn.below ((Below.refl _ _).setCell bN _), h.bT, h.bR, h.bO, h.TR, h.TO, h.RO, h.nn, h.rl, h.ol⟩
  have := (h.next.stored n (.int .i64 v)).1
  rw [ints_set] at this
  simpa using this
theorem TkAt.nextAt (h : TkAt w C T R O vc vn vi cells inn s) (hl : 0 < s.next.length) : ∃ N c, vn = .slice (some ⟨N, 0, none⟩) s.next.length c := own_some h.next hl
end
theorem getI_nat (l : List Int) (n : Nat) : getI l (n : Int) = l.getD n 0 := rfl
/-- an int of a slice that came in -/
theorem sl_int {w : World} {B : Nat} {l : List Int} {v : Value} {n : Nat} (h : SlV w B 1 isInt v l) (hn : n < l.length) : ∃ b off cap, v = .slice (some ⟨b, off, none⟩) l.length cap ∧ l.length ≤ cap ∧ cap ≤ 9223372036854775807 ∧ b < B ∧ w.cell? ⟨b, off + n, none⟩ = some (.int .i64 (getI l n)) := by
  obtain ⟨A, cap, rfl, h1, h2, h3⟩ := h
  obtain ⟨b, off, x, rfl, hb, hx, _, hc⟩ := h3.int hn
  refine ⟨b, off, cap, rfl, h1, by unfold maxLen at h2; omega, hb, ?_⟩
  rw [hc]
  simp [getI, List.getD_eq_getElem?_getD, hx]
theorem in5x {W : World} {b : Nat} {x : In5} {t : TypeId} (h : Row W b #[.int .i64 x.op, .int .i64 x.a, .int .i64 x.b, .int .i64 x.c, .int .i64 x.k] t) : W.cell? ⟨b, 0, none⟩ = some (.int .i64 x.op) ∧ W.cell? ⟨b, 1, none⟩ = some (.int .i64 x.a) ∧ W.cell? ⟨b, 2, none⟩ = some (.int .i64 x.b) ∧ W.cell? ⟨b, 3, none⟩ = some (.int .i64 x.c) ∧ W.cell? ⟨b, 4, none⟩ = some (.int .i64 x.k) :=
  ⟨h.cell 0, h.cell 1, h.cell 2, h.cell 3, h.cell 4⟩
def DoesC (op : Int → Prop) : Prop := ∀ (w : World) (C T R O : Nat) (vc vn vi : Value) (cells inn : List Int) (s : Tk) (p : Pg) (i : Nat) (x : In5), op x.op → TkAt w C T R O vc vn vi cells inn s → Vf.Safe p i x → (s.regs.length : Int) = p.regs → s.out.length = p.outs.length → s.next.length = p.cells.length → cells.length = p.cells.length → inn.length = p.ins.length →
  Calls Try.prog 59 #[.pointer (some ⟨T, 0, none⟩), in5V x] w fun e w' => e = .returned (.int .i64 (tskip s x)) ∧ TkAt w' C T R O vc vn vi cells inn (texec cells inn s x) ∧ Upd (tkX R O vn) w w'
end Go.Proofs.Ytbjaejgechadpaa
