/-
  verify.Right
-/
import Derived.Test.YtbjaejgechadpaaLookK
import Derived.Test.YtbjaejgechadpaaPgMay
namespace Go.Proofs.Ytbjaejgechadpaa
open Go.RowKit Vf
theorem made_one (z : Value) (n : Nat) : madeCells #[z] n = (List.replicate n z).toArray := by
  apply Array.ext
  · simp [madeCells]
  · intro i h1 h2
    simp [madeCells, Nat.mod_one]
theorem info_bool : (Try.prog.info? 4).map (fun i => (i.zero, i.size, i.bytes)) = some (some (.bool false), 1, 1) := by kernel_rfl
set_option maxRecDepth 100000 in
theorem make_ints (n : Int) (h0 : 0 ≤ n) (h1 : n ≤ 1600) (W : World) : (Instr.makeSlice 22 (.int .i64 n) (.int .i64 n)).run Try.prog W = .ok (.slice (some ⟨W.heap.size, 0, none⟩) n.toNat n.toNat) (W.alloc (.cells (List.replicate n.toNat (.int .i64 0)).toArray 3)) := by
  obtain ⟨i0, hi0, hz0, hz1, hz2⟩ := info_parts info_int
  rw [run_make (P := Try.prog) W 22 3 i0 (.int .i64 0) rfl hi0 hz0 .i64 .i64 n n h0 (Int.le_refl _) (by rw [hz2]; omega) (by omega), hz1, Nat.mul_one, ← made_one]
  rfl
set_option maxRecDepth 100000 in
theorem make_bools (n : Int) (h0 : 0 ≤ n) (h1 : n ≤ 1600) (W : World) : (Instr.makeSlice 70 (.int .i64 n) (.int .i64 n)).run Try.prog W = .ok (.slice (some ⟨W.heap.size, 0, none⟩) n.toNat n.toNat) (W.alloc (.cells (List.replicate n.toNat (.bool false)).toArray 4)) := by
  obtain ⟨i0, hi0, hz0, hz1, hz2⟩ := info_parts info_bool
  rw [run_make (P := Try.prog) W 70 4 i0 (.bool false) rfl hi0 hz0 .i64 .i64 n n h0 (Int.le_refl _) (by rw [hz2]; omega) (by omega), hz1, Nat.mul_one, ← made_one]
  rfl
theorem map_rep {α : Type} (f : α → Value) (n : Nat) (x : α) : (Array.replicate n (f x)) = ((List.replicate n x).map f).toArray := by simp
theorem lk_new {w1 W : World} {L K O : Nat} {p : Pg} {vi vo vc vd : Value} (hm : mayOk p) (h1 : PgAt w1 w1.heap.size p vi vo vc vd) (hb : Below w1.heap.size w1 W)
    (rL : Row W L #[vi, vo, .int .i64 p.regs, vc, vd, .slice (some ⟨K, 0, none⟩) p.regs.toNat p.regs.toNat, .slice (some ⟨O, 0, none⟩) p.outs.length p.outs.length, .int .i64 0, .bool false] 72)
    (rK : Row W K (Array.replicate p.regs.toNat (.int .i64 0)) 3) (rO : Row W O (Array.replicate p.outs.length (.bool false)) 4)
    (bL : w1.heap.size ≤ L) (bK : w1.heap.size ≤ K) (bO : w1.heap.size ≤ O) (LK : L ≠ K) (LO : L ≠ O) (KO : K ≠ O) : Lk W w1.heap.size L K O p vi vo vc vd (init p) := by
  have hr1 := hm.2.2.2.2.2.1
  have ho1 := hm.2.2.2.1.2.2
  refine ⟨h1.below hb, ?_, ?_, ?_, bL, bK, bO, LK, LO, KO, ?_, ?_, ?_, ?_⟩
  · simpa [init] using rL
  · rw [map_rep] at rK; exact rK
  · rw [map_rep] at rO; exact rO
  · simp [init]; omega
  · simp [init]; omega
  · simp [init]
  · simp [init]
theorem look_below {w w1 W w' : World} {L K O : Nat} (hb : Below w.heap.size w w1) (hW : Below w1.heap.size w1 W) (hu : Upd (lkX L K O) W w') (bL : w1.heap.size ≤ L) (bK : w1.heap.size ≤ K) (bO : w1.heap.size ≤ O) : Below w.heap.size w w' := by
  have h2 : Below w1.heap.size W w' := hu.below (fun k hk => by rcases hk with rfl | rfl | rfl <;> assumption) hW.size
  exact hb.trans ((hW.trans h2).mono hb.size)
set_option maxRecDepth 100000 in
set_option maxHeartbeats 4000000 in
theorem vright_any (p : Pg) (vi vo vc vd : Value) (w : World) (h : PgAt w w.heap.size p vi vo vc vd) :
    Calls Try.prog 15 #[pgV p vi vo vc vd] w fun e w' => e = .returned (.bool (cB (rightOk p))) ∧ Below w.heap.size w w' := by
  have HV := Lib.hid (verify_is p)
  have b0 : Below w.heap.size w (w.alloc (.cells #[vi, vo, .int .i64 p.regs, vc, vd] 26)) := (Below.refl _ _).alloc (Nat.le_refl _) _
  have h0 := h.next b0
  have bX := Row.new w #[vi, vo, .int .i64 p.regs, vc, vd] 26
  have HB := Lib.hid (show ∀ W, Below w.heap.size w W → Below w.heap.size w W from fun _ g => g)
  have hM := Lib.hid (may_any p vi vo vc vd _ h0)
  obtain ⟨⟨Ai, ci, rfl, li, mi, si⟩, ⟨Ao, co, rfl, lo, mo, so⟩, hreg, ⟨Ac, cc, rfl, lc, mc, sc⟩, ⟨Ad, cd, rfl, ld, md, sd⟩⟩ := h
  go_enter Try.func15, Try.ntmps15
  go_wp2_with fail
  refine hM.out.mono ?_
  rintro e w1 ⟨rfl, hb1⟩
  have bX1 := bX.below hb1 bX.lt
  have b1 := b0.trans (hb1.mono b0.size)
  have hgx : w.heap.size < w1.heap.size := bX1.lt
  generalize hV : cB (mayOk p) = V at *
  have HW := Lib.hid hV
  clear hV
  cases V
  · go_wp2_with fail
    go_ret
    exact ⟨ret_bool (cB_false (fun g => cB_not.1 HW.out (HV.out.2 g).1)).symm, b1⟩
  · have hm := cB_iff.1 HW.out
    have hr0 := hm.2.2.2.2.1
    have hr1 := hm.2.2.2.2.2.1
    have ho1 := hm.2.2.2.1.2.2
    have h1 := h0.next hb1
    clear h0 bX b0 hb1 si so sc sd hM
    have q0 := bX1.cell 0
    have q1 := bX1.cell 1
    have q2 := bX1.cell 2
    have q3 := bX1.cell 3
    have q4 := bX1.cell 4
    simp only [List.getElem?_toArray, List.getElem?_cons_zero, List.getElem?_cons_succ] at q0 q1 q2 q3 q4
    go_wp2_with fail
    have mk1 := make_ints p.regs hr0 hr1
    have mk2 := make_bools p.outs.length (by omega) (by omega)
    go_region
    · go_wp2_with fail
      refine (look_any (B := w1.heap.size) (K := w1.heap.size) (O := w1.heap.size + 1) hm (lk_new hm h1 ((((Below.refl _ _).alloc (Nat.le_refl _) _).alloc (by simp) _).alloc (by simp; omega) _).drew (rowNew3 _ _ _ _ _).drew (((Row.new _ _ _).alloc _).alloc _).drew ((rowNew2 _ _ _ _).alloc _).drew (by omega) (by omega) (by omega) (by omega) (by omega) (by omega))).mono ?_
      rintro e w' ⟨rfl, hu⟩
      have HF := Lib.hid (look_below b1 ((((Below.refl _ _).alloc (Nat.le_refl _) _).alloc (by simp) _).alloc (by simp; omega) _).drew hu (by omega) (by omega) (by omega))
      clear hu
      go_wp2_with fail
      go_ret
      exact ⟨ret_bool (cB_congr (by rw [← HV.out]; exact ⟨fun g => ⟨hm, g⟩, fun g => g.2⟩)), HF.out⟩
    · go_wp2_with fail
      refine (look_any (B := w1.heap.size) (K := w1.heap.size + 1) (O := w1.heap.size) hm (lk_new hm h1 ((((Below.refl _ _).alloc (Nat.le_refl _) _).alloc (by simp) _).alloc (by simp; omega) _).drew (rowNew3 _ _ _ _ _).drew ((rowNew2 _ _ _ _).alloc _).drew (((Row.new _ _ _).alloc _).alloc _).drew (by omega) (by omega) (by omega) (by omega) (by omega) (by omega))).mono ?_
      rintro e w' ⟨rfl, hu⟩
      have HF := Lib.hid (look_below b1 ((((Below.refl _ _).alloc (Nat.le_refl _) _).alloc (by simp) _).alloc (by simp; omega) _).drew hu (by omega) (by omega) (by omega))
      clear hu
      go_wp2_with fail
      go_ret
      exact ⟨ret_bool (cB_congr (by rw [← HV.out]; exact ⟨fun g => ⟨hm, g⟩, fun g => g.2⟩)), HF.out⟩
end Go.Proofs.Ytbjaejgechadpaa
