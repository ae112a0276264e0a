/-
  The looker in memory: the contracts of its small methods.
-/
import Derived.Test.YtbjaejgechadpaaPgMay
namespace Go.Proofs.Ytbjaejgechadpaa
open Go.RowKit Vf

structure Lk (w : World) (B L K O : Nat) (p : Pg) (vi vo vc vd : Value) (s : LS) : Prop where
  pg : PgAt w B p vi vo vc vd
  row : Row w L #[vi, vo, .int .i64 p.regs, vc, vd, .slice (some ⟨K, 0, none⟩) s.kinds.length s.kinds.length, .slice (some ⟨O, 0, none⟩) s.outs.length s.outs.length, .int .i64 s.past, .bool s.bad] 72
  kinds : Row w K (s.kinds.map (Value.int .i64)).toArray 3
  outs : Row w O (s.outs.map Value.bool).toArray 4
  bL : B ≤ L
  bK : B ≤ K
  bO : B ≤ O
  LK : L ≠ K
  LO : L ≠ O
  KO : K ≠ O
  klen : s.kinds.length ≤ 1600
  olen : s.outs.length ≤ 1600
  past0 : 0 ≤ s.past
  past1 : s.past ≤ 1000000
abbrev lkX (L K O : Nat) (k : Nat) : Prop := k = L ∨ k = K ∨ k = O
section
variable {w w' : World} {B L K O : Nat} {p : Pg} {vi vo vc vd : Value} {s : LS}
theorem Lk.below' (h : Lk w B L K O p vi vo vc vd s) (hb : Below w.heap.size w w') (hB : B ≤ w.heap.size) : Lk w' B L K O p vi vo vc vd s :=
  ⟨h.pg.below (hb.mono hB), h.row.below hb h.row.lt, h.kinds.below hb h.kinds.lt, h.outs.below hb h.outs.lt, h.bL, h.bK, h.bO, h.LK, h.LO, h.KO, h.klen, h.olen, h.past0, h.past1⟩
theorem Lk.size (h : Lk w B L K O p vi vo vc vd s) : B ≤ w.heap.size := Nat.le_trans h.bL (Nat.le_of_lt h.row.lt)
theorem Lk.below (h : Lk w B L K O p vi vo vc vd s) (hb : Below w.heap.size w w') : Lk w' B L K O p vi vo vc vd s := h.below' hb h.size
theorem Lk.alloc (h : Lk w B L K O p vi vo vc vd s) (o : Obj) : Lk (w.alloc o) B L K O p vi vo vc vd s := h.below ((Below.refl _ _).alloc (Nat.le_refl _) _)
theorem Lk.drew (h : Lk w B L K O p vi vo vc vd s) : Lk w.drew B L K O p vi vo vc vd s := h.below ((Below.refl _ _).drew)
theorem Lk.drewN (h : Lk w B L K O p vi vo vc vd s) (n : Nat) : Lk (w.drewN n) B L K O p vi vo vc vd s := h.below (below_drewN' (Below.refl _ _) n)
theorem Lk.setBad (h : Lk w B L K O p vi vo vc vd s) (c : Bool) : Lk (w.setCell ⟨L, 8, none⟩ (.bool c)) B L K O p vi vo vc vd { s with bad := c } :=
  ⟨h.pg.below ((Below.refl _ _).setCell h.bL _), h.row.set 8 _, h.kinds.far (Ne.symm h.LK) _, h.outs.far (Ne.symm h.LO) _, h.bL, h.bK, h.bO, h.LK, h.LO, h.KO, h.klen, h.olen, h.past0, h.past1⟩
theorem Lk.setPast (h : Lk w B L K O p vi vo vc vd s) (n : Int) (h0 : 0 ≤ n) (h1 : n ≤ 1000000) : Lk (w.setCell ⟨L, 7, none⟩ (.int .i64 n)) B L K O p vi vo vc vd { s with past := n } :=
  ⟨h.pg.below ((Below.refl _ _).setCell h.bL _), h.row.set 7 _, h.kinds.far (Ne.symm h.LK) _, h.outs.far (Ne.symm h.LO) _, h.bL, h.bK, h.bO, h.LK, h.LO, h.KO, h.klen, h.olen, h0, h1⟩
theorem map_set {α β : Type} (f : α → β) (l : List α) (i : Nat) (x : α) : (l.map f).toArray.setIfInBounds i (f x) = ((l.set i x).map f).toArray := by simp [List.map_set]
theorem Lk.setKind (h : Lk w B L K O p vi vo vc vd s) (n : Nat) (kind : Int) : Lk (w.setCell ⟨K, n, none⟩ (.int .i64 kind)) B L K O p vi vo vc vd { s with kinds := s.kinds.set n kind } := by
  refine ⟨h.pg.below ((Below.refl _ _).setCell h.bK _), ?_, ?_, h.outs.far (Ne.symm h.KO) _, h.bL, h.bK, h.bO, h.LK, h.LO, h.KO, by simpa using h.klen, h.olen, h.past0, h.past1⟩
  · have := h.row.far (p := ⟨K, n, none⟩) h.LK (.int .i64 kind)
    simpa using this
  · have := h.kinds.set n (.int .i64 kind)
    rw [map_set] at this
    exact this
theorem Lk.setOut (h : Lk w B L K O p vi vo vc vd s) (n : Nat) (b : Bool) : Lk (w.setCell ⟨O, n, none⟩ (.bool b)) B L K O p vi vo vc vd { s with outs := s.outs.set n b } := by
  refine ⟨h.pg.below ((Below.refl _ _).setCell h.bO _), ?_, h.kinds.far h.KO _, ?_, h.bL, h.bK, h.bO, h.LK, h.LO, h.KO, h.klen, by simpa using h.olen, h.past0, h.past1⟩
  · have := h.row.far (p := ⟨O, n, none⟩) h.LO (.bool b)
    simpa using this
  · have := h.outs.set n (.bool b)
    rw [map_set] at this
    exact this
end
/-- what a method leaves -/
def Left (w : World) (B L K O : Nat) (p : Pg) (vi vo vc vd : Value) (s : LS) (w' : World) : Prop := Lk w' B L K O p vi vo vc vd s ∧ Upd (lkX L K O) w w'
theorem ls_bad (s : LS) : { s with bad := s.bad } = s := rfl
theorem ls_noBad {s : LS} (h : s.bad = true) : s.no = s := by cases s; simp_all [LS.no]

theorem need_any {w : World} {B L K O : Nat} {p : Pg} {vi vo vc vd : Value} {s : LS} (b : Bool) (h : Lk w B L K O p vi vo vc vd s) :
    Calls Try.prog 119 #[.pointer (some ⟨L, 0, none⟩), .bool b] w fun e w' => e = .returned (.tuple #[]) ∧ Left w B L K O p vi vo vc vd (s.need b) w' := by
  have l0 := h.row.cell 0
  have l1 := h.row.cell 1
  have l2 := h.row.cell 2
  have l3 := h.row.cell 3
  have l4 := h.row.cell 4
  have l5 := h.row.cell 5
  have l6 := h.row.cell 6
  have l7 := h.row.cell 7
  have l8 := h.row.cell 8
  have lf := h.row.frozen 8
  simp only [List.getElem?_toArray, List.getElem?_cons_zero, List.getElem?_cons_succ] at l0 l1 l2 l3 l4 l5 l6 l7 l8
  have hS := h.setBad (s.bad || !b)
  have hU : Upd (lkX L K O) w (w.setCell ⟨L, 8, none⟩ (.bool (s.bad || !b))) := (Upd.refl _ _).setCell (.inl rfl) _
  have HS : Hid (Left w B L K O p vi vo vc vd (s.need b) (w.setCell ⟨L, 8, none⟩ (.bool (s.bad || !b)))) := ⟨hS, hU⟩
  clear hS hU h
  generalize s.bad = c at *
  cases c
  all_goals
    go_enter Try.func119, Try.ntmps119
    go_wp2_with fail
    go_end0
    exact ⟨rfl, HS.out⟩
theorem kind_cell {w : World} {K : Nat} {l : List Int} {t : TypeId} (h : Row w K (l.map (Value.int .i64)).toArray t) {n : Nat} (hn : n < l.length) : w.cell? ⟨K, n, none⟩ = some (.int .i64 (getI l n)) := by
  rw [h.cell, List.getElem?_toArray, List.getElem?_map, List.getElem?_eq_getElem hn]
  unfold getI
  rw [List.getD_eq_getElem?_getD, Int.toNat_natCast, List.getElem?_eq_getElem hn]
  rfl
set_option maxHeartbeats 1000000 in
theorem takes_any {w : World} {B L K O : Nat} {p : Pg} {vi vo vc vd : Value} {s : LS} (n : Int) (h : Lk w B L K O p vi vo vc vd s) :
    Calls Try.prog 120 #[.pointer (some ⟨L, 0, none⟩), .int .i64 n] w fun e w' => e = .returned (.int .i64 (s.takes n).1) ∧ Left w B L K O p vi vo vc vd (s.takes n).2 w' := by
  have l0 := h.row.cell 0
  have l1 := h.row.cell 1
  have l2 := h.row.cell 2
  have l3 := h.row.cell 3
  have l4 := h.row.cell 4
  have l5 := h.row.cell 5
  have l6 := h.row.cell 6
  have l7 := h.row.cell 7
  have l8 := h.row.cell 8
  have lf := h.row.frozen 8
  simp only [List.getElem?_toArray, List.getElem?_cons_zero, List.getElem?_cons_succ] at l0 l1 l2 l3 l4 l5 l6 l7 l8
  have hkl := h.klen
  have HNo : Hid (Left w B L K O p vi vo vc vd s.no (w.setCell ⟨L, 8, none⟩ (.bool true))) := ⟨h.setBad true, (Upd.refl _ _).setCell (.inl rfl) _⟩
  have HYes : Hid (Left w B L K O p vi vo vc vd s w) := ⟨h, Upd.refl _ _⟩
  by_cases hn : n < 0
  · have HT := Lib.hid (show s.takes n = (0, s.no) by unfold LS.takes; rw [if_neg (fun h => by have := h.1.1; omega)])
    clear h
    go_enter Try.func120, Try.ntmps120
    go_wp2_with fail
    go_ret
    exact ⟨ret_i64 (by rw [HT.out]), by rw [HT.out]; exact HNo.out⟩
  · obtain ⟨n, rfl⟩ := Int.eq_ofNat_of_zero_le (by omega : 0 ≤ n)
    by_cases hl : n < s.kinds.length
    · have hc := kind_cell h.kinds hl
      have hh : has s.kinds (n : Int) := ⟨by omega, by omega⟩
      generalize hG : getI s.kinds (n : Int) = G at *
      by_cases h0 : G = 0
      · have h0' : (G == 0) = true := by simp [h0]
        have HT := Lib.hid (show s.takes n = (0, s.no) by unfold LS.takes; rw [if_neg (fun h => h.2 (hG.trans h0))])
        clear h h0 hh hG
        go_enter Try.func120, Try.ntmps120
        go_wp2_with fail
        go_ret
        exact ⟨ret_i64 (by rw [HT.out]), by rw [HT.out]; exact HNo.out⟩
      · have h0' : (G == 0) = false := by simp [h0]
        have HT := Lib.hid (show s.takes n = (G, s) by unfold LS.takes; rw [hG, if_pos ⟨hh, h0⟩])
        clear h h0 hh hG
        go_enter Try.func120, Try.ntmps120
        go_wp2_with fail
        go_ret
        exact ⟨ret_i64 (by rw [HT.out]), by rw [HT.out]; exact HYes.out⟩
    · have HT := Lib.hid (show s.takes n = (0, s.no) by unfold LS.takes; rw [if_neg (fun h => by have := h.1.2; omega)])
      clear h
      go_enter Try.func120, Try.ntmps120
      go_wp2_with fail
      go_ret
      exact ⟨ret_i64 (by rw [HT.out]), by rw [HT.out]; exact HNo.out⟩
set_option maxHeartbeats 1000000 in
theorem gives_any {w : World} {B L K O : Nat} {p : Pg} {vi vo vc vd : Value} {s : LS} (n kind : Int) (h : Lk w B L K O p vi vo vc vd s) :
    Calls Try.prog 118 #[.pointer (some ⟨L, 0, none⟩), .int .i64 n, .int .i64 kind] w fun e w' => e = .returned (.tuple #[]) ∧ Left w B L K O p vi vo vc vd (s.gives n kind) w' := by
  have l0 := h.row.cell 0
  have l1 := h.row.cell 1
  have l2 := h.row.cell 2
  have l3 := h.row.cell 3
  have l4 := h.row.cell 4
  have l5 := h.row.cell 5
  have l6 := h.row.cell 6
  have l7 := h.row.cell 7
  have l8 := h.row.cell 8
  have lf := h.row.frozen 8
  simp only [List.getElem?_toArray, List.getElem?_cons_zero, List.getElem?_cons_succ] at l0 l1 l2 l3 l4 l5 l6 l7 l8
  have hkl := h.klen
  have HNo : Hid (Left w B L K O p vi vo vc vd s.no (w.setCell ⟨L, 8, none⟩ (.bool true))) := ⟨h.setBad true, (Upd.refl _ _).setCell (.inl rfl) _⟩
  by_cases hn : n < 0
  · have HT := Lib.hid (show s.gives n kind = s.no by unfold LS.gives; rw [if_neg (fun h => by have := h.1.1; omega)])
    clear h
    go_enter Try.func118, Try.ntmps118
    go_wp2_with fail
    refine bodyPost_ret (results_none rfl _ _ _) rfl ?_
    exact ⟨rfl, by rw [HT.out]; exact HNo.out⟩
  · obtain ⟨n, rfl⟩ := Int.eq_ofNat_of_zero_le (by omega : 0 ≤ n)
    by_cases hl : n < s.kinds.length
    · have hc := kind_cell h.kinds hl
      have hf := h.kinds.frozen n
      have hh : has s.kinds (n : Int) := ⟨by omega, by omega⟩
      have HSet : Hid (Left w B L K O p vi vo vc vd { s with kinds := s.kinds.set n kind } (w.setCell ⟨K, n, none⟩ (.int .i64 kind))) := ⟨h.setKind n kind, (Upd.refl _ _).setCell (.inr (.inl rfl)) _⟩
      generalize hG : getI s.kinds (n : Int) = G at *
      by_cases h0 : G = 0
      · have h0' : (G != 0) = false := by simp [h0]
        have HT := Lib.hid (show s.gives n kind = { s with kinds := s.kinds.set n kind } by unfold LS.gives; rw [if_pos ⟨hh, hG.trans h0⟩, Int.toNat_natCast])
        clear h h0 hh hG
        go_enter Try.func118, Try.ntmps118
        go_wp2_with fail
        go_end0
        exact ⟨rfl, by rw [HT.out]; exact HSet.out⟩
      · have h0' : (G != 0) = true := by simp [h0]
        have HT := Lib.hid (show s.gives n kind = s.no by unfold LS.gives; rw [if_neg (fun h => h0 (hG.symm.trans h.2))])
        clear h h0 hh hG
        go_enter Try.func118, Try.ntmps118
        go_wp2_with fail
        refine bodyPost_ret (results_none rfl _ _ _) rfl ?_
        exact ⟨rfl, by rw [HT.out]; exact HNo.out⟩
    · have HT := Lib.hid (show s.gives n kind = s.no by unfold LS.gives; rw [if_neg (fun h => by have := h.1.2; omega)])
      clear h
      go_enter Try.func118, Try.ntmps118
      go_wp2_with fail
      refine bodyPost_ret (results_none rfl _ _ _) rfl ?_
      exact ⟨rfl, by rw [HT.out]; exact HNo.out⟩
end Go.Proofs.Ytbjaejgechadpaa
