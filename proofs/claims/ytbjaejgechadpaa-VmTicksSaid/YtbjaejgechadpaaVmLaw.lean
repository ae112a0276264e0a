/-
  The law of vm: the chapter's example.
-/
import Derived.Test.YtbjaejgechadpaaVmTick
import Derived.Test.YtbjaejgechadpaaVLaw
import Derived.Test.YtbjaejgechadpaaApp2
namespace Go.Proofs.Ytbjaejgechadpaa
open Go.RowKit Vf
attribute [local go_sem ↓] Go.wp_at_zero Go.wp_at_succ
theorem thr_fits : machFits thr [] := ⟨rfl, fun j hj => by simp [thr] at hj⟩
theorem thr_ins : fitsOk thr.ins [5] := by
  refine ⟨thr_may.2.2.1, rfl, fun i t v ht hv h2 => ?_⟩
  match i, ht with
  | 0, ht => simp [thr] at ht; omega
theorem thr_out : (tick thr [] [5]).1.out = [5] := by decide
theorem thr_n : (tick thr [] [5]).2 = 2 := by decide
theorem sl_ones {w : World} {b B : Nat} {t : TypeId} {n : Int} (r : Row w b #[.int .i64 n] t) (hn : Wf n) (hb : b < B) : SlV w B 1 isInt (.slice (some ⟨b, 0, none⟩) 1 1) [n] :=
  ⟨_, 1, rfl, Nat.le_refl _, by unfold maxLen; omega, sl_row r hb fun i x hi => by
    match i, hi with
    | 0, hi =>
      simp at hi; subst hi
      exact ⟨[.int .i64 n], fun j u hu => (by match j, hu with | 0, hu => simpa using hu), rfl, hn⟩⟩
set_option maxRecDepth 100000 in
set_option maxHeartbeats 4000000 in
theorem awake29_any (w : World) : Calls Try.prog 17 #[] w fun e w' => e = .returned (.bool true) ∧ Below w.heap.size w w' := by
  have b0 := (((Below.refl w.heap.size w).alloc (Nat.le_refl _) (.cells #[.int .i64 1] 3)).alloc (by simp) (.cells #[.int .i64 1] 3)).alloc (by simp; omega) (.cells #[.int .i64 28, .int .i64 0, .int .i64 0, .int .i64 0, .int .i64 0, .int .i64 29, .int .i64 0, .int .i64 0, .int .i64 0, .int .i64 0] 30)
  have hT : ThrAt (((w.alloc (.cells #[.int .i64 1] 3)).alloc (.cells #[.int .i64 1] 3)).alloc (.cells #[.int .i64 28, .int .i64 0, .int .i64 0, .int .i64 0, .int .i64 0, .int .i64 29, .int .i64 0, .int .i64 0, .int .i64 0, .int .i64 0] 30)) w.heap.size (w.heap.size + 1) (w.heap.size + 1 + 1) := ⟨((Row.new _ _ _).alloc _).alloc _, (rowNew2 _ _ _ _).alloc _, rowNew3 _ _ _ _ _⟩
  have HN := Lib.hid (new_any thr _ _ _ _ _ hT.thr)
  clear hT
  go_enter Try.func17, Try.ntmps17
  go_wp2_with fail
  refine HN.out.mono ?_
  rintro e w1 ⟨hb1, ⟨_, M, vi, vo, vc, vd, rfl, hM⟩ | ⟨hno, _⟩⟩
  rotate_left 1
  · exact absurd thr_right hno
  have b1 := b0.trans (hb1.mono b0.size)
  clear b0 hb1 HN
  have b2 := b1.alloc b1.size (.cells #[.int .i64 5] 3)
  have hM2 := hM.below ((Below.refl _ _).alloc (Nat.le_refl _) (.cells #[.int .i64 5] 3))
  have s5 := sl_ones (B := (w1.alloc (.cells #[.int .i64 5] 3)).heap.size) (Row.new w1 #[.int .i64 5] 3) (wf_small (by decide)) (Row.new w1 #[.int .i64 5] 3).lt
  have HT := Lib.hid (tick_any thr_right hM2 [] [5] (.slice none 0 0) _ SlV.nil s5 (by simp))
  clear hM hM2 s5
  go_wp2_with fail
  refine HT.out.mono ?_
  rintro e w3 ⟨hb3, ⟨_, _, vn, vp, rfl, hn, hp⟩ | ⟨hno, _⟩⟩
  rotate_left 1
  · exact absurd ⟨thr_fits, thr_ins⟩ hno
  have b3 := b2.trans (hb3.mono b2.size)
  rw [thr_out] at hp
  rw [thr_n]
  obtain ⟨Ap, cp, rfl, _⟩ := id hp
  have b4 := b3.alloc b3.size (.cells #[.int .i64 5] 3)
  have s5 := sl_ones (B := (w3.alloc (.cells #[.int .i64 5] 3)).heap.size) (Row.new w3 #[.int .i64 5] 3) (wf_small (by decide)) (Row.new w3 #[.int .i64 5] 3).lt
  have p5 := (hp.below ((Below.refl _ _).alloc (Nat.le_refl _) (.cells #[.int .i64 5] 3))).more (show w3.heap.size ≤ (w3.alloc (.cells #[.int .i64 5] 3)).heap.size by simp)
  have HI := Lib.hid (rints_any [5] [5] _ _ _ _ p5 s5)
  rw [cB_true rfl] at HI
  clear hp hn s5 p5 HT hb3
  go_wp2_with fail
  refine HI.out.mono ?_
  rintro e w4 ⟨rfl, n, rfl⟩
  go_wp2_with fail
  go_ret
  exact ⟨rfl, below_drewN' b4 _⟩
end Go.Proofs.Ytbjaejgechadpaa
