/-
  The contracts of tompionref03.less and take.
-/
import Derived.Test.YtjifapbgelckkaaRefArithB
namespace Go.Proofs.Ytjifapbgelckkaa
open Go.RowKit Ar Z Bz

def lessB : List Int → List Int → Bool
  | x :: l, y :: r => if x = y then lessB l r else decide (x < y)
  | _, _ => false
theorem less_hval {x y : List Int} (hx : Is01 x) (hy : Is01 y) (hl : x.length = y.length) : lessB x y = decide (hval x < hval y) := by
  induction x generalizing y with
  | nil =>
    match y, hl with
    | [], _ => rfl
  | cons a x ih =>
    match y, hl with
    | b :: y, hl =>
      have hl' : x.length = y.length := by simpa using hl
      have ih := ih (y := y) (fun z hz => hx z (List.mem_cons_of_mem _ hz)) (fun z hz => hy z (List.mem_cons_of_mem _ hz)) hl'
      have b1 := hval_bound (l := x) (fun z hz => hx z (List.mem_cons_of_mem _ hz))
      have b2 := hval_bound (l := y) (fun z hz => hy z (List.mem_cons_of_mem _ hz))
      simp only [lessB, hval, ih, hl'] at *
      rcases hx a (by simp) with rfl | rfl <;> rcases hy b (by simp) with rfl | rfl <;> simp <;> omega
theorem less_drop_eq {x y : List Int} {k : Nat} {a b : Int} (hx : x[k]? = some a) (hy : y[k]? = some b) : lessB (x.drop k) (y.drop k) = if a = b then lessB (x.drop (k + 1)) (y.drop (k + 1)) else decide (a < b) := by
  obtain ⟨h1, e1⟩ := List.getElem?_eq_some_iff.1 hx
  obtain ⟨h2, e2⟩ := List.getElem?_eq_some_iff.1 hy
  rw [List.drop_eq_getElem_cons h1, List.drop_eq_getElem_cons h2, e1, e2]; rfl
set_option maxHeartbeats 2000000 in
theorem less_any (A1 A2 : Option Addr) (c1 c2 B : Nat) (X Y : List Int) (w : World) (h1 : Rd w B 1 A1 65 (ints X)) (h2 : Rd w B 1 A2 65 (ints Y)) :
    Calls Try.prog 32 #[.slice A1 65 c1, .slice A2 65 c2] w fun e w' => e = .returned (.bool (lessB X Y)) ∧ Below w.heap.size w w' := by
  have hl1 : X.length = 65 := by have := h1.1; rw [ints_len] at this; omega
  have HL := Lib.hid hl1
  clear hl1
  go_enter Try.func32, Try.ntmps32
  go_wp2_with fail
  go_loopw [5] (fun i wr => ∃ k q : Nat, k ≤ 65 ∧ i = .int .i64 k ∧ lessB X Y = lessB (X.drop k) (Y.drop k) ∧ wr = w.drewN q) (fun i _ => 65 - (intOf i).toNat)
  case atStart => exact ⟨0, 0, Nat.zero_le _, rfl, rfl, rfl⟩
  case round =>
    obtain ⟨k, q, hk, rfl, hE, rfl⟩ := hrel
    by_cases hlt : k < 65
    · obtain ⟨ad1, u1, rfl, hB1, hx1, hcell1⟩ := h1.at1 hlt
      obtain ⟨x1, hl1, rfl⟩ := ints_get hx1
      obtain ⟨ad2, u2, rfl, hB2, hx2, hcell2⟩ := h2.at1 hlt
      obtain ⟨x2, hl2, rfl⟩ := ints_get hx2
      have hE2 := hE.trans (less_drop_eq hl1 hl2)
      have W3 : 0 ≤ (k : Int) := by omega
      clear hE hl1 hl2 hx1 hx2
      by_cases he : x1 = x2
      · subst he
        rw [if_pos rfl] at hE2
        have HE := Lib.hid hE2
        clear hE2
        go_wp2_with fail
        go_quiet (fail)
        go_wp2_with fail
        go_roundw
        case rel => exact ⟨k + 1, _, by omega, by go_num, HE.out, rfl⟩
        case measure => simp [intOf]; omega
      · rw [if_neg he] at hE2
        have HE := Lib.hid hE2
        have hne : (x1 != x2) = true := by simp [he]
        clear hE2 he
        go_wp2_with fail
        go_quiet (fail)
        go_wp2_with fail
        go_quiet (fail)
        go_wp2_with fail
        go_ret
        exact ⟨ret_bool HE.out.symm, below_drewN' (below_drewN' (below_drewN' (Below.refl _ _) _) _) _⟩
    · obtain rfl : k = 65 := by omega
      have HE := Lib.hid hE
      clear hE
      go_wp2_with fail
      go_ret
      refine ⟨ret_bool ?_, below_drewN' (Below.refl _ _) _⟩
      rw [HE.out, List.drop_of_length_le (l := X) (by rw [HL.out]; omega)]
      rfl
/-- one natural number from another -/
def subL : List Int → List Int → Int × List Int
  | x :: l, y :: r => let p := subL l r; if x - y - p.1 < 0 then (1, (x - y - p.1 + 2) :: p.2) else (0, (x - y - p.1) :: p.2)
  | _, _ => (0, [])
theorem subL_fst (x y : List Int) : (subL x y).1 = 0 ∨ (subL x y).1 = 1 := by
  match x, y with
  | a :: x, b :: y => simp only [subL]; split <;> simp
  | [], _ => exact .inl (by simp [subL])
  | _ :: _, [] => exact .inl (by simp [subL])
theorem subL_spec {x y : List Int} (hx : Is01 x) (hy : Is01 y) (hl : x.length = y.length) : (subL x y).2.length = x.length ∧ Is01 (subL x y).2 ∧ hval (subL x y).2 = hval x - hval y + (subL x y).1 * pow2 x.length := by
  induction x generalizing y with
  | nil =>
    match y, hl with
    | [], _ => exact ⟨rfl, is01_nil, rfl⟩
  | cons a x ih =>
    match y, hl with
    | b :: y, hl =>
      have hl' : x.length = y.length := by simpa using hl
      obtain ⟨i1, i2, i3⟩ := ih (y := y) (fun z hz => hx z (List.mem_cons_of_mem _ hz)) (fun z hz => hy z (List.mem_cons_of_mem _ hz)) hl'
      have hf := subL_fst x y
      have ha := hx a (by simp)
      have hb := hy b (by simp)
      simp only [subL]
      generalize hs : (subL x y).1 = s at *
      generalize ht : (subL x y).2 = t at *
      have hv : ∀ n : Int, (n = 0 ∨ n = 1) → Is01 (n :: t) := fun n hn z hz => by
        rcases List.mem_cons.1 hz with rfl | hz
        · exact hn
        · exact i2 z hz
      have e1 : (a - b - s) * pow2 x.length = a * pow2 x.length - b * pow2 x.length - s * pow2 x.length := by rw [Int.sub_mul, Int.sub_mul]
      rw [hl'] at e1 i1 i3
      split
      · refine ⟨by simp [i1, hl'], hv _ (by omega), ?_⟩
        simp only [hval, i1, List.length_cons, pow2, Int.one_mul, Int.add_mul, hl']
        omega
      · refine ⟨by simp [i1, hl'], hv _ (by omega), ?_⟩
        simp only [hval, i1, List.length_cons, Int.zero_mul, hl']
        omega
theorem sub_ge {x y : List Int} (hx : Is01 x) (hy : Is01 y) (hl : x.length = y.length) (hge : hval y ≤ hval x) : hval (subL x y).2 = hval x - hval y := by
  obtain ⟨h1, h2, h3⟩ := subL_spec hx hy hl
  have hb := hval_bound h2
  have hbx := hval_bound hx
  rw [h1] at hb
  rcases subL_fst x y with h | h
  · rw [h] at h3; omega
  · rw [h] at h3; omega

theorem sub_step {X Y : List Int} {m : Nat} {a b : Int} (hx : X[m]? = some a) (hy : Y[m]? = some b) :
    subL (X.drop m) (Y.drop m) = (if a - b - (subL (X.drop (m + 1)) (Y.drop (m + 1))).1 < 0 then (1, (a - b - (subL (X.drop (m + 1)) (Y.drop (m + 1))).1 + 2) :: (subL (X.drop (m + 1)) (Y.drop (m + 1))).2) else (0, (a - b - (subL (X.drop (m + 1)) (Y.drop (m + 1))).1) :: (subL (X.drop (m + 1)) (Y.drop (m + 1))).2)) := by
  obtain ⟨h1, e1⟩ := List.getElem?_eq_some_iff.1 hx
  obtain ⟨h2, e2⟩ := List.getElem?_eq_some_iff.1 hy
  rw [List.drop_eq_getElem_cons h1, List.drop_eq_getElem_cons h2, e1, e2]; rfl
theorem set_mid {X t : List Int} {m : Nat} (v : Int) (h : m < X.length) : (ints (X.take (m + 1) ++ t)).set m (.int .i64 v) = ints (X.take m ++ v :: t) := by
  have e : X.take (m + 1) = X.take m ++ [X[m]] := by rw [List.take_add_one, List.getElem?_eq_getElem h]; rfl
  have hl : (X.take m).length = m := by simp; omega
  unfold ints
  rw [e, List.append_assoc]
  simp only [List.map_append, List.map_cons, List.singleton_append]
  rw [List.set_append_right _ _ (by simp; omega)]
  simp [Nat.min_eq_left (Nat.le_of_lt h)]
set_option maxHeartbeats 4000000 in
theorem take_any (A1 A2 : Option Addr) (c1 c2 : Nat) (X Y : List Int) (w : World) (hx01 : Is01 X) (hy01 : Is01 Y) (h1 : Rd w w.heap.size 1 A1 65 (ints X)) (h2 : Rd w w.heap.size 1 A2 65 (ints Y)) :
    Calls Try.prog 33 #[.slice A1 65 c1, .slice A2 65 c2] w fun e w' => ∃ v, e = .returned v ∧ w'.ownsRow w.heap.size 3 1 v 65 (ints (subL X Y).2) ∧ Below w.heap.size w w' := by
  obtain ⟨i0, hi0, hz0, hz1, hz2⟩ := info_parts info_int
  have hl1 : X.length = 65 := by have := h1.1; rw [ints_len] at this; omega
  have hl2 : Y.length = 65 := by have := h2.1; rw [ints_len] at this; omega
  have HL := Lib.hid hl1
  have HL2 := Lib.hid hl2
  obtain ⟨ad1, e1, hadB, hcs⟩ := h1.2 (by omega)
  subst e1
  clear hl1 hl2
  go_enter Try.func33, Try.ntmps33
  have HC := Lib.hid hcs
  clear hcs
  go_wp2_with (at_builtin; refine wpList_append_own _ rfl _ _ 34 rfl w.heap.size 3 i0 (.int .i64 0) 1 8 Try.underlying34 hi0 hz0 hz1 hz2 rfl (by decide) _ _ _ rfl (World.ownsRow_lit w #[] 0 (Nat.le_refl _) (by unfold maxLen; omega) rfl) ad1 65 c1 (ints X) rfl ?c0 ?c1 ?c2 ?c3 ?c4 ?c5 ?_)
  case c0 => rw [ints_len, HL.out]
  case c1 => intro j u hu; rw [World.cell?_alloc_lt _ _ _ (by rw [add_block]; exact hadB)]; exact HC.out j u hu
  case c2 => intro u hu; simp only [ints, List.mem_map] at hu; obtain ⟨x, _, rfl⟩ := hu; rfl
  case c3 => unfold maxLen; omega
  case c4 => omega
  case c5 => simp
  intro v' w2 hown' hgrow _
  have hb2 : Below w.heap.size w w2 := below_own (e := 3) (size := 1) ((Below.refl _ _).alloc (Nat.le_refl _) _) (World.ownsRow_lit w #[] 0 (Nat.le_refl _) (by unfold maxLen; omega) rfl) hgrow (by simp)
  have hown : w2.ownsRow w.heap.size 3 1 v' 65 (ints X) := hown'
  clear hown' hgrow
  obtain ⟨g, cap, rfl, hgb, hgl⟩ : ∃ g cap, v' = .slice (some ⟨g, 0, none⟩) 65 cap ∧ w.heap.size ≤ g ∧ 65 ≤ cap := by
    rcases hown.2 with ⟨_, h0⟩ | ⟨g, cap, cur, h, hg, _, hc, _⟩
    · omega
    · exact ⟨g, cap, h, hg, hc⟩
  go_wp2_with fail
  go_loopw [6, 7] (fun b i wr => ∃ j : Nat, j ≤ 65 ∧ i = .int .i64 ((j : Int) - 1) ∧ b = .int .i64 (subL (X.drop j) (Y.drop j)).1 ∧ wr.ownsRow w.heap.size 3 1 (.slice (some ⟨g, 0, none⟩) 65 cap) 65 (ints (X.take j ++ (subL (X.drop j) (Y.drop j)).2)) ∧ Below w.heap.size w wr) (fun _ i _ => (intOf i + 1).toNat)
  case atStart =>
    refine ⟨65, by omega, by rfl, ?_, ?_, hb2⟩
    · rw [List.drop_of_length_le (l := X) (by rw [HL.out]; omega)]; rfl
    · rw [List.drop_of_length_le (l := X) (by rw [HL.out]; omega), List.take_of_length_le (by rw [HL.out]; omega)]
      have e : ints (X ++ (subL [] (Y.drop 65)).2) = ints X := by simp [subL]
      rw [e]; exact hown
  case round =>
    obtain ⟨j, hj, rfl, rfl, hown, hbel⟩ := hrel
    by_cases hlt : 1 ≤ j
    · obtain ⟨m, rfl⟩ : ∃ m, j = m + 1 := ⟨j - 1, by omega⟩
      obtain ⟨ad1', u1, e1, hB1, hx1, hcell1⟩ := (h1.below hbel).at1 (k := m) (by omega)
      obtain rfl : ad1 = ad1' := by injection e1
      obtain ⟨x1, hl1, rfl⟩ := ints_get hx1
      obtain ⟨ad2, u2, rfl, hB2, hx2, hcell2⟩ := (h2.below hbel).at1 (k := m) (by omega)
      obtain ⟨x2, hl2, rfl⟩ := ints_get hx2
      have HS := Lib.hid (sub_step hl1 hl2)
      have g1 := is01_get hx01 hl1
      have g2 := is01_get hy01 hl2
      have g3 := subL_fst (X.drop (m + 1)) (Y.drop (m + 1))
      have hsz := hbel.size
      clear hx1 hx2 hl1 hl2 e1
      generalize hT : subL (X.drop (m + 1)) (Y.drop (m + 1)) = T at *
      clear hT
      obtain ⟨b, t⟩ := T
      simp only at HS g3 hown
      have hold := hown.cellAt m (by omega)
      have hfr := hown.frozenAt m
      obtain ⟨old, hold'⟩ : ∃ old, wr.cell? ⟨g, m, none⟩ = some old := by
        rw [hold, List.getElem?_eq_getElem (by rw [hown.1]; omega)]; exact ⟨_, rfl⟩
      clear hold
      have HM := fun v => set_mid (X := X) (t := t) (m := m) v (by rw [HL.out]; omega)
      have HM' := Lib.hid HM
      clear HM
      rw [show ((m + 1 : Nat) : Int) - 1 = m from by omega]
      have W1 : IntKind.i64.wrap (x1 - x2) = x1 - x2 := IntWalk.i64_in _ (by omega)
      have W2 : IntKind.i64.wrap (x1 - x2 - b) = x1 - x2 - b := IntWalk.i64_in _ (by omega)
      have W3 : 0 ≤ (m : Int) := by omega
      by_cases hneg : x1 - x2 - b < 0
      · go_wp2_with fail
        go_quiet (fail)
        clear W1 W2
        go_wp2_with fail
        obtain ⟨hst, hsg⟩ := (hown.drewN nq).stored m (.int .i64 (x1 - x2 - b + 2))
        go_roundw
        case rel =>
          refine ⟨m, by omega, by go_num, by rw [HS.out, if_pos hneg], ?_, below_own (below_drewN' hbel nq) (hown.drewN nq) hsg (by simpa using hsz)⟩
          rw [HS.out, if_pos hneg]
          rw [HM'.out] at hst
          exact hst
        case measure => simp [intOf]
      · go_wp2_with fail
        go_quiet (fail)
        clear W1 W2
        go_wp2_with fail
        obtain ⟨hst, hsg⟩ := (hown.drewN nq).stored m (.int .i64 (x1 - x2 - b))
        go_roundw
        case rel =>
          refine ⟨m, by omega, by go_num, by rw [HS.out, if_neg (by omega)], ?_, below_own (below_drewN' hbel nq) (hown.drewN nq) hsg (by simpa using hsz)⟩
          rw [HS.out, if_neg (by omega)]
          rw [HM'.out] at hst
          exact hst
        case measure => simp [intOf]
    · obtain rfl : j = 0 := by omega
      rw [show ((0 : Nat) : Int) - 1 = -1 from rfl]
      simp only [List.take_zero, List.drop_zero, List.nil_append] at hown
      go_wp2_with fail
      go_ret
      exact ⟨_, rfl, hown, hbel⟩
end Go.Proofs.Ytjifapbgelckkaa
