/-
  The chapter's examples of onset hold.
-/
import Derived.Test.YtolabbnchmmckaaOnsetLaw
namespace Go.Proofs.Ytolabbnchmmckaa
open Go.RowKit Nm

theorem arrow_at {W : World} {g : Nat} {A4 : Option Addr} {cap4 : Nat} (hr : Row W g #[.int .i64 1, .string ⟨#[]⟩, .int .i64 0, .slice none 0 0, .int .i64 0, .int .i64 0, .int .i64 21, .string ⟨#[]⟩, .int .i64 0, .slice A4 1 cap4, .int .i64 4, .int .i64 4] 26)
    (h1 : 1 ≤ cap4) (h2 : cap4 ≤ maxLen) (hx : IsExs W W.heap.size A4 [xE]) : IsExs W W.heap.size (some ⟨g, 0, none⟩) (arE zE (preE xE)).args := by
  refine rowEx (css := [exCells zE none 0, exCells (preE xE) A4 cap4]) hr rfl ?_ (Nat.le_refl _)
  have hz : IsEx W W.heap.size zE (exCells zE none 0) := IsEx.mk' zE_ok (Nat.le_refl _) (Nat.zero_le _) (fun h => absurd h (by simp [zE, Ex.args]))
  exact (ExsAre.one hz).append (ExsAre.one (IsEx.mk' (preE_ok xE) h1 h2 hx))
theorem cells12 {w' : World} {a b : Nat} {t u : TypeId} (h : Row w' a #[.int .i64 3, .string ⟨#[120]⟩, .int .i64 0, .slice none 0 0, .int .i64 0, .int .i64 0] t) (k : Row w' b #[.int .i64 1, .string ⟨#[]⟩, .int .i64 0, .slice none 0 0, .int .i64 0, .int .i64 0] u) : (w'.cell? ⟨a, 0, none⟩ = some (.int .i64 3) ∧ w'.cell? ⟨a, 1, none⟩ = some (.string ⟨#[120]⟩) ∧ w'.cell? ⟨a, 2, none⟩ = some (.int .i64 0) ∧ w'.cell? ⟨a, 3, none⟩ = some (.slice none 0 0) ∧ w'.cell? ⟨a, 4, none⟩ = some (.int .i64 0) ∧ w'.cell? ⟨a, 5, none⟩ = some (.int .i64 0)) ∧ w'.cell? ⟨b, 0, none⟩ = some (.int .i64 1) ∧ w'.cell? ⟨b, 1, none⟩ = some (.string ⟨#[]⟩) ∧ w'.cell? ⟨b, 2, none⟩ = some (.int .i64 0) ∧ w'.cell? ⟨b, 3, none⟩ = some (.slice none 0 0) ∧ w'.cell? ⟨b, 4, none⟩ = some (.int .i64 0) ∧ w'.cell? ⟨b, 5, none⟩ = some (.int .i64 0) :=
  ⟨⟨h.cell 0, h.cell 1, h.cell 2, h.cell 3, h.cell 4, h.cell 5⟩, k.cell 0, k.cell 1, k.cell 2, k.cell 3, k.cell 4, k.cell 5⟩
theorem xE_at (w : World) : IsExs w w.heap.size none xE.args := fun h => absurd h (by simp [xE, Ex.args])
set_option maxRecDepth 100000 in
set_option maxHeartbeats 4000000 in
theorem awake19_any (w : World) : Calls Try.prog 14 #[] w fun r w' => r = .returned (.bool true) ∧ Below w.heap.size w w' := by
  go_enter Try.func14, Try.ntmps14
  go_wp2_with fail
  refine (pre_any xE none 0 _ xE_ok (Nat.le_refl _) (by unfold maxLen; omega) (xE_at _)).mono ?_
  rintro r w1 ⟨v1, rfl, hv1, hb1⟩
  obtain ⟨A1, cap1, rfl, hok1, hcap1, hmax1, hx1⟩ := hv1
  have hsz1 := hb1.size
  simp only [World.size_alloc] at hsz1
  have bX0 : w.heap.size < w.heap.size + 1 + 1 := by omega
  have bX : Row w1 w.heap.size #[.int .i64 3, .string ⟨#[120]⟩, .int .i64 0, .slice none 0 0, .int .i64 0, .int .i64 0] 26 := ((Row.new w _ _).alloc _).below hb1 (by simp; omega)
  have bZ : Row w1 (w.heap.size + 1) #[.int .i64 1, .string ⟨#[]⟩, .int .i64 0, .slice none 0 0, .int .i64 0, .int .i64 0] 26 := by
    have := Row.new (w.alloc (.cells #[.int .i64 3, .string ⟨#[120]⟩, .int .i64 0, .slice none 0 0, .int .i64 0, .int .i64 0] 26)) #[.int .i64 1, .string ⟨#[]⟩, .int .i64 0, .slice none 0 0, .int .i64 0, .int .i64 0] 26
    rw [World.size_alloc] at this
    exact this.below hb1 (by simp)
  have hB1 : Below w.heap.size w w1 := (((Below.refl _ _).alloc (Nat.le_refl _) _).alloc (by simp) _).trans (hb1.mono (by simp; omega))
  clear hb1
  go_wp2_with fail
  refine (lateTop_any (preE xE) A1 cap1 _ hok1 hcap1 hmax1 hx1 (by unfold exSize; rw [listP, listX]; simp)).mono ?_
  rintro r w2 ⟨rfl, hb2⟩
  have hsz2 := hb2.size
  rw [topPX]
  have bX2 := bX.below hb2 bX.lt
  have bZ2 := bZ.below hb2 bZ.lt
  have hB2 := hB1.trans (hb2.mono (by omega))
  clear bX bZ hb2 hx1
  go_wp2_with fail
  have bX3 := bX2.alloc (.cells #[.int .i64 0, .int .i64 0, .int .i64 0] 31)
  have bZ3 := bZ2.alloc (.cells #[.int .i64 0, .int .i64 0, .int .i64 0] 31)
  have bF3 := Row.new w2 #[.int .i64 0, .int .i64 0, .int .i64 0] 31
  have hB3 := hB2.alloc (by omega) (.cells #[.int .i64 0, .int .i64 0, .int .i64 0] 31)
  generalize hW3 : w2.alloc (.cells #[.int .i64 0, .int .i64 0, .int .i64 0] 31) = W3 at *
  have hg4 : w2.heap.size < W3.heap.size := by rw [← hW3]; simp
  generalize hG4 : w2.heap.size = g4 at *
  have hsz3 : w.heap.size + 2 ≤ W3.heap.size := by rw [← hW3]; simp; omega
  clear bX2 bZ2 hB2 hW3 hsz1 hsz2 hcap1 hok1
  have x0 := bX3.cell 0
  have x1 := bX3.cell 1
  have x2 := bX3.cell 2
  have x3 := bX3.cell 3
  have x4 := bX3.cell 4
  have x5 := bX3.cell 5
  have z0 := bZ3.cell 0
  have z1 := bZ3.cell 1
  have z2 := bZ3.cell 2
  have z3 := bZ3.cell 3
  have z4 := bZ3.cell 4
  have z5 := bZ3.cell 5
  simp only [List.getElem?_toArray, List.getElem?_cons_zero, List.getElem?_cons_succ] at x0 x1 x2 x3 x4 x5 z0 z1 z2 z3 z4 z5
  go_cut [5, 6] (fun a b W => ∃ b6, a = .bool false ∧ b = .pointer (some ⟨b6, 0, none⟩) ∧ Row W b6 #[.int .i64 0, .int .i64 0, .int .i64 0] 31 ∧ Row W w.heap.size #[.int .i64 3, .string ⟨#[120]⟩, .int .i64 0, .slice none 0 0, .int .i64 0, .int .i64 0] 26 ∧ Row W g4 #[.int .i64 0, .int .i64 0, .int .i64 0] 31 ∧ Below w.heap.size w W)
  case first =>
    go_region_held3 (fun w' => (w'.cell? ⟨w.heap.size, 0, none⟩ = some (.int .i64 3) ∧ w'.cell? ⟨w.heap.size, 1, none⟩ = some (.string ⟨#[120]⟩) ∧ w'.cell? ⟨w.heap.size, 2, none⟩ = some (.int .i64 0) ∧ w'.cell? ⟨w.heap.size, 3, none⟩ = some (.slice none 0 0) ∧ w'.cell? ⟨w.heap.size, 4, none⟩ = some (.int .i64 0) ∧ w'.cell? ⟨w.heap.size, 5, none⟩ = some (.int .i64 0)) ∧
        w'.cell? ⟨w.heap.size + 1, 0, none⟩ = some (.int .i64 1) ∧ w'.cell? ⟨w.heap.size + 1, 1, none⟩ = some (.string ⟨#[]⟩) ∧ w'.cell? ⟨w.heap.size + 1, 2, none⟩ = some (.int .i64 0) ∧ w'.cell? ⟨w.heap.size + 1, 3, none⟩ = some (.slice none 0 0) ∧ w'.cell? ⟨w.heap.size + 1, 4, none⟩ = some (.int .i64 0) ∧ w'.cell? ⟨w.heap.size + 1, 5, none⟩ = some (.int .i64 0))
      (first | go_keep | exact cells12 bX5 bZ5 | exact cells12 (((bX5.far (by simp; omega) _).far (by simp; omega) _).far (by simp; omega) _) (((bZ5.far (by simp; omega) _).far (by simp; omega) _).far (by simp; omega) _) | exact cells12 (bX5.alloc _) (bZ5.alloc _) | exact cells12 bX4 bZ4 | exact cells12 (bX4.alloc _) (bZ4.alloc _) | exact cells12 ((bX4.alloc _).alloc _) ((bZ4.alloc _).alloc _))
      (first | (go_at_call 20; refine (pre_any xE none 0 _ xE_ok (Nat.le_refl _) (by unfold maxLen; omega) (xE_at _)).mono ?_; rintro r w4 ⟨v4, rfl, ⟨A4, cap4, rfl, hok4, hcap4, hmax4, hx4⟩, hb4⟩; (have hsz4 : W3.heap.size ≤ w4.heap.size := by have := hb4.size; simp at this; omega); (have bX4 : Row w4 w.heap.size #[.int .i64 3, .string ⟨#[120]⟩, .int .i64 0, .slice none 0 0, .int .i64 0, .int .i64 0] 26 := by first | exact bX3.below hb4 (by simp; omega) | exact bX3.drew.below hb4 (by simp; omega) | exact (bX3.alloc _).drew.below hb4 (by simp; omega)); (have bZ4 : Row w4 (w.heap.size + 1) #[.int .i64 1, .string ⟨#[]⟩, .int .i64 0, .slice none 0 0, .int .i64 0, .int .i64 0] 26 := by first | exact bZ3.below hb4 (by simp; omega) | exact bZ3.drew.below hb4 (by simp; omega) | exact (bZ3.alloc _).drew.below hb4 (by simp; omega)); (have bG4 : Row w4 g4 #[.int .i64 0, .int .i64 0, .int .i64 0] 31 := by first | exact bF3.drew.below hb4 (by simp; omega) | exact (bF3.alloc _).drew.below hb4 (by simp; omega)); (have hBw4 : Below w.heap.size w w4 := by first | exact hB3.drew.trans (hb4.mono (by simp; omega)) | exact (hB3.alloc (by omega) _).drew.trans (hb4.mono (by simp; omega))); (first | (have bF4 : Row w4 W3.heap.size #[.int .i64 0, .int .i64 0, .int .i64 0] 31 := (Row.new W3 _ _).drew.below hb4 (by first | (simp; done) | (simp; omega))) | skip)) | (go_at_call 16; refine (lateTop_any (arE zE (preE xE)) _ _ _ (arE_ok _ _) (Nat.le_refl _) (by unfold maxLen; simp [arE, Ex.args]) (arrow_at (by first | exact Row.new _ _ _ | exact (Row.new _ _ _).alloc _ | exact rowNew2 _ _ _ _) hcap4 hmax4 (by first | exact (hx4.below ((Below.refl _ _).alloc (Nat.le_refl _) _)).more (by simp) | exact (hx4.below (((Below.refl _ _).alloc (Nat.le_refl _) _).alloc (by simp) _)).more (by simp; omega))) (by unfold exSize; rw [listAr, listP, listX, listZ]; simp)).mono ?_; rintro r w5 ⟨rfl, hb5⟩; (have bX5 : Row w5 w.heap.size #[.int .i64 3, .string ⟨#[120]⟩, .int .i64 0, .slice none 0 0, .int .i64 0, .int .i64 0] 26 := by first | exact (bX4.alloc _).below hb5 (by have := bX4.lt; simp; omega) | exact ((bX4.alloc _).alloc _).below hb5 (by have := bX4.lt; simp; omega)); (have bZ5 : Row w5 (w.heap.size + 1) #[.int .i64 1, .string ⟨#[]⟩, .int .i64 0, .slice none 0 0, .int .i64 0, .int .i64 0] 26 := by first | exact (bZ4.alloc _).below hb5 (by have := bZ4.lt; simp; omega) | exact ((bZ4.alloc _).alloc _).below hb5 (by have := bZ4.lt; simp; omega)); (have bG5 : Row w5 g4 #[.int .i64 0, .int .i64 0, .int .i64 0] 31 := by first | exact (bG4.alloc _).below hb5 (by have := bG4.lt; simp; omega) | exact ((bG4.alloc _).alloc _).below hb5 (by have := bG4.lt; simp; omega)); (have hBw5 : Below w.heap.size w w5 := by first | exact (hBw4.alloc (by omega) _).trans (hb5.mono (by simp; omega)) | exact ((hBw4.alloc (by omega) _).alloc (by simp; omega) _).trans (hb5.mono (by simp; omega))); (have hsz5 : W3.heap.size + 1 ≤ w5.heap.size := by have := hb5.size; simp at this; omega); rw [topAr]; (first | (have bF5 : Row w5 W3.heap.size #[.int .i64 0, .int .i64 0, .int .i64 0] 31 := (bF4.alloc _).below hb5 (by have := bF4.lt; simp; omega)) | (have bF5 : Row w5 w4.heap.size #[.int .i64 0, .int .i64 0, .int .i64 0] 31 := ((Row.new w4 _ _).alloc _).below hb5 (by first | (simp; done) | (simp; omega))) | (have bF5 : Row w5 (w4.heap.size + 1) #[.int .i64 0, .int .i64 0, .int .i64 0] 31 := (rowNew2 w4 _ _ _).below hb5 (by first | (simp; done) | (simp; omega))) | skip); (first | (have e0 := bF5.cell 0; have e1 := bF5.cell 1; have e2 := bF5.cell 2; have d0 := bF5.frozen 0; have d1 := bF5.frozen 1; have d2 := bF5.frozen 2; simp only [List.getElem?_toArray, List.getElem?_cons_zero, List.getElem?_cons_succ] at e0 e1 e2) | skip)))

    all_goals
      go_wp2_with fail
      go_meet
      refine ⟨_, rfl, rfl, ?_, ?_, ?_, ?_⟩
      · first | exact ((bF5.set 0 _).set 1 _).set 2 _ | exact Row.new w5 _ _
      · first | exact ((bX5.far (by simp; omega) _).far (by simp; omega) _).far (by simp; omega) _ | exact bX5.alloc _
      · first | exact ((bG5.far (by simp; omega) _).far (by simp; omega) _).far (by simp; omega) _ | exact bG5.alloc _
      · first | exact ((hBw5.setCell (by simp; omega) _).setCell (by simp; omega) _).setCell (by simp; omega) _ | exact hBw5.alloc (by omega) _
  case rest =>
    obtain ⟨b6, rfl, rfl, bF6, bX6, bG6, hB6⟩ := hcut
    clear x0 x1 x2 x3 x4 x5 z0 z1 z2 z3 z4 z5 bX3 bZ3 bF3 hB3 hsz3 hg4 hG4
    have x0 := bX6.cell 0
    have x1 := bX6.cell 1
    have x2 := bX6.cell 2
    have x3 := bX6.cell 3
    have x4 := bX6.cell 4
    have x5 := bX6.cell 5
    simp only [List.getElem?_toArray, List.getElem?_cons_zero, List.getElem?_cons_succ] at x0 x1 x2 x3 x4 x5
    go_wp2_with fail
    refine (pre_any xE none 0 _ xE_ok (Nat.le_refl _) (by unfold maxLen; omega) (xE_at _)).mono ?_
    rintro r w7 ⟨v7, rfl, ⟨A7, cap7, rfl, hok7, hcap7, hmax7, hx7⟩, hb7⟩
    go_wp2_with fail
    refine (pre_any (preE xE) A7 cap7 _ hok7 hcap7 hmax7 hx7).mono ?_
    rintro r w8 ⟨v8, rfl, ⟨A8, cap8, rfl, hok8, hcap8, hmax8, hx8⟩, hb8⟩
    go_wp2_with fail
    refine (lateTop_any (preE (preE xE)) A8 cap8 _ hok8 hcap8 hmax8 hx8 (by unfold exSize; rw [listP, listP, listX]; simp)).mono ?_
    rintro r w9 ⟨rfl, hb9⟩
    rw [topPPX]
    have hb : Below wc.heap.size wc w9 := hb7.trans ((hb8.trans (hb9.mono hb8.size)).mono hb7.size)
    have bF9 := bF6.below hb bF6.lt
    have bG9 := bG6.below hb bG6.lt
    have hB9 := hB6.trans (hb.mono hB6.size)
    have hlF := bF9.lt
    have hlG := bG9.lt
    have f0 := bF9.cell 0
    have f1 := bF9.cell 1
    have f2 := bF9.cell 2
    have g0 := bG9.cell 0
    have g1 := bG9.cell 1
    have g2 := bG9.cell 2
    simp only [List.getElem?_toArray, List.getElem?_cons_zero, List.getElem?_cons_succ] at f0 f1 f2 g0 g1 g2
    clear hb hb7 hb8 hb9 bF6 bG6 bX6 x0 x1 x2 x3 x4 x5
    go_wp2_with fail
    go_ret
    exact ⟨rfl, hB9.alloc hB9.size _⟩
end Go.Proofs.Ytolabbnchmmckaa
