/-
  Rows of texts and of conditions: where one is, whether two are one.
-/
import Derived.Test.YtolabbnchmmckaaScC
import Derived.Laws.StructEq
import Derived.Deep.DrawnRows
namespace Go.Proofs.Ytolabbnchmmckaa
open Go.RowKit
attribute [local go_sem ↓] Go.wp_at_zero Go.wp_at_succ
set_option maxRecDepth 100000 in
set_option maxHeartbeats 1000000 in
theorem index_str (l : List ByteArray) (nm : ByteArray) (A : Option Addr) (cap B : Nat) (w : World) (h1 : l.length ≤ cap) (h2 : cap ≤ maxLen) (h : Sl w B 1 isStr A l) :
    Calls Try.prog 76 #[.slice A l.length cap, .string nm] w fun e w' => e = .returned (.int .i64 (idxOf l nm)) ∧ w = w' := by
  have HS := Lib.hid h
  have hl3 : cap ≤ 9223372036854775807 := by unfold maxLen at h2; omega
  clear h
  go_enter Try.func76, Try.ntmps76
  go_wp2_with fail
  go_loop [8] (fun i => ∃ k : Nat, k ≤ l.length ∧ i = .int .i64 k ∧ Hid (∀ j, j < k → ∀ x, l[j]? = some x → x ≠ nm)) (fun i => l.length - (intOf i).toNat)
  case atStart => exact ⟨0, Nat.zero_le _, rfl, fun j h => absurd h (by omega)⟩
  case round =>
    obtain ⟨k, hk, rfl, HN⟩ := hrel
    by_cases hlt : k < l.length
    · obtain ⟨b, off, x, rfl, hb, hx, hsx, c0⟩ := HS.out.str hlt
      have HX := Lib.hid hx
      clear hx
      by_cases e : x = nm
      · have e1 := beq_yes e
        have e2 := beq_yes e.symm
        have HF := Lib.hid (idx_at HN.out (e ▸ HX.out))
        clear e
        go_wp2_with fail
        go_ret
        exact ⟨ret_int HF.out.symm, rfl⟩
      · have HN' := Lib.hid (step_upto (P := fun x => x ≠ nm) HN.out HX.out e)
        have e1 := beq_no e
        have e2 := beq_no (fun g => e (Eq.symm g))
        clear e
        go_wp2_with fail
        go_round
        case rel => exact ⟨k + 1, by omega, by go_num, HN'⟩
        case measure => simp [intOf]; omega
    · obtain rfl : k = l.length := by omega
      have HF := Lib.hid (idx_none HN.out)
      go_wp2_with fail
      go_ret
      exact ⟨ret_int HF.out.symm, rfl⟩
set_option maxRecDepth 100000 in
set_option maxHeartbeats 1000000 in
theorem in_str (l : List ByteArray) (nm : ByteArray) (A : Option Addr) (cap B : Nat) (w : World) (h1 : l.length ≤ cap) (h2 : cap ≤ maxLen) (h : Sl w B 1 isStr A l) :
    Calls Try.prog 58 #[.slice A l.length cap, .string nm] w fun e w' => e = .returned (.bool (cB (nm ∈ l))) ∧ w = w' := by
  have HS := Lib.hid h
  have hl3 : cap ≤ 9223372036854775807 := by unfold maxLen at h2; omega
  clear h
  go_enter Try.func58, Try.ntmps58
  go_wp2_with fail
  go_loop [5] (fun i => ∃ k : Nat, k ≤ l.length ∧ i = .int .i64 k ∧ Hid (∀ j, j < k → ∀ x, l[j]? = some x → x ≠ nm)) (fun i => l.length - (intOf i).toNat)
  case atStart => exact ⟨0, Nat.zero_le _, rfl, fun j h => absurd h (by omega)⟩
  case round =>
    obtain ⟨k, hk, rfl, HN⟩ := hrel
    by_cases hlt : k < l.length
    · obtain ⟨b, off, x, rfl, hb, hx, hsx, c0⟩ := HS.out.str hlt
      have HX := Lib.hid hx
      clear hx
      by_cases e : x = nm
      · have e1 := beq_yes e
        have e2 := beq_yes e.symm
        have HF := Lib.hid (cB_true (List.mem_of_getElem? (e ▸ HX.out)))
        clear e
        go_wp2_with fail
        go_ret
        exact ⟨ret_bool HF.out.symm, rfl⟩
      · have HN' := Lib.hid (step_upto (P := fun x => x ≠ nm) HN.out HX.out e)
        have e1 := beq_no e
        have e2 := beq_no (fun g => e (Eq.symm g))
        clear e
        go_wp2_with fail
        go_round
        case rel => exact ⟨k + 1, by omega, by go_num, HN'⟩
        case measure => simp [intOf]; omega
    · obtain rfl : k = l.length := by omega
      have HF := Lib.hid (cB_false (p := nm ∈ l) (fun hm => by obtain ⟨j, hj⟩ := List.getElem?_of_mem hm; exact HN.out j (List.getElem?_eq_some_iff.1 hj).1 nm hj rfl))
      go_wp2_with fail
      go_ret
      exact ⟨ret_bool HF.out.symm, rfl⟩
set_option maxRecDepth 100000 in
theorem contains_str (l : List ByteArray) (nm : ByteArray) (A : Option Addr) (cap B : Nat) (w : World) (h1 : l.length ≤ cap) (h2 : cap ≤ maxLen) (h : Sl w B 1 isStr A l) :
    Calls Try.prog 100 #[.slice A l.length cap, .string nm] w fun e w' => e = .returned (.bool (cB (nm ∈ l))) ∧ w = w' := by
  have HI := Lib.hid (index_str l nm A cap B w h1 h2 h)
  have HC := Lib.hid (cB_congr (@idx_mem l nm))
  clear h
  go_enter Try.func100, Try.ntmps100
  go_wp2_with fail
  refine HI.out.mono ?_
  rintro e w' ⟨rfl, rfl⟩
  go_wp2_with fail
  go_ret
  exact ⟨ret_bool (by rw [← HC.out]; by_cases c : 0 ≤ idxOf l nm <;> simp [cB, c]), rfl⟩
theorem lits_eq {l m : List Lt} (hl : l.length = m.length) (h : ∀ j, j < l.length → ∀ x y, l[j]? = some x → m[j]? = some y → x = y) : l = m := by
  apply List.ext_getElem hl
  intro i h1 h2
  exact h i h1 _ _ (List.getElem?_eq_getElem h1) (List.getElem?_eq_getElem h2)
set_option maxRecDepth 100000 in
set_option maxHeartbeats 2000000 in
theorem eqLits_any (l m : List Lt) (A1 A2 : Option Addr) (c1 c2 B : Nat) (w : World) (_l1 : l.length ≤ c1) (m1 : c1 ≤ maxLen) (s1 : Sl w B 2 isLit A1 l) (l2 : m.length ≤ c2) (m2 : c2 ≤ maxLen) (s2 : Sl w B 2 isLit A2 m) :
    Calls Try.prog 102 #[.slice A1 l.length c1, .slice A2 m.length c2] w fun e w' => e = .returned (.bool (cB (l = m))) ∧ ∃ n, w' = w.drewN n := by
  have m1' : c1 ≤ 9223372036854775807 := by unfold maxLen at m1; omega
  have m2' : c2 ≤ 9223372036854775807 := by unfold maxLen at m2; omega
  by_cases hl : l.length = m.length
  rotate_left 1
  · have HF := Lib.hid (cB_false (fun g : l = m => hl (by rw [g])))
    have hl' : ((l.length : Int) != (m.length : Int)) = true := by rw [bne_iff_ne]; omega
    clear hl
    go_enter Try.func102, Try.ntmps102
    go_wp2_with fail
    go_ret
    exact ⟨ret_bool HF.out.symm, 0, rfl⟩
  have hl' : ((l.length : Int) != (m.length : Int)) = false := by rw [bne_eq_false_iff_eq]; omega
  have HL := Lib.hid hl
  have hle1 : l.length ≤ m.length := by omega
  clear hl
  go_enter Try.func102, Try.ntmps102
  go_wp2_with fail
  go_loopw [13] (fun i wr => ∃ k : Nat, k ≤ l.length ∧ i = .int .i64 k ∧ Hid (∀ j, j < k → ∀ x y, l[j]? = some x → m[j]? = some y → x = y) ∧ ∃ n, wr = w.drewN n) (fun i _ => l.length - (intOf i).toNat)
  case atStart => exact ⟨0, Nat.zero_le _, rfl, fun j h => absurd h (by omega), 0, rfl⟩
  case round =>
    obtain ⟨k, hk, rfl, HN, n, rfl⟩ := hrel
    by_cases hlt : k < l.length
    · obtain ⟨b1, o1, x, rfl, hb1, hx, wx, d1, d1'⟩ := s1.lit hlt
      obtain ⟨b2, o2, y, rfl, hb2, hy, wy, d2, d2'⟩ := s2.lit (show k < m.length by omega)
      have HX := Lib.hid hx
      have HY := Lib.hid hy
      clear hx hy
      have hk1 : (k : Int) < l.length := by omega
      have hk2 : (k : Int) < m.length := by omega
      have hk0 : (0 : Int) ≤ (k : Int) := by omega
      by_cases e1 : x.name = y.name
      · have e1' := beq_yes e1
        by_cases e2 : x.no = y.no
        · have e2' : (x.no == y.no) = true := by simp [e2]
          have HN' := Lib.hid (upto_succ HN.out (fun x' y' hx' hy' => by rw [HX.out] at hx'; rw [HY.out] at hy'; injection hx' with hx'; injection hy' with hy'; rw [← hx', ← hy']; exact lt_ext e1 e2))
          clear e1 e2
          go_wp2_with fail
          go_quiet (fail)
          go_wp2_with fail
          go_roundw
          case rel => exact ⟨k + 1, by omega, by go_num, HN', by first | exact ⟨_, rfl⟩ | (rw [World.drewN_drewN]; exact ⟨_, rfl⟩)⟩
          case measure => simp [intOf]; omega
        · have e2' : (x.no == y.no) = false := by simp [e2]
          have HF := Lib.hid (cB_false (fun g : l = m => e2 (by have := HX.out; rw [g, HY.out] at this; injection this with this; rw [this])))
          clear e1 e2
          go_wp2_with fail
          go_quiet (fail)
          go_wp2_with fail
          go_ret
          exact ⟨ret_bool HF.out.symm, by first | exact ⟨_, rfl⟩ | (rw [World.drewN_drewN]; exact ⟨_, rfl⟩)⟩
      · have e1' := beq_no e1
        have HF := Lib.hid (cB_false (fun g : l = m => e1 (by have := HX.out; rw [g, HY.out] at this; injection this with this; rw [this])))
        clear e1
        go_wp2_with fail
        go_quiet (fail)
        go_wp2_with fail
        go_ret
        exact ⟨ret_bool HF.out.symm, by first | exact ⟨_, rfl⟩ | (rw [World.drewN_drewN]; exact ⟨_, rfl⟩)⟩
    · obtain rfl : k = l.length := by omega
      have HF := Lib.hid (cB_true (lits_eq HL.out HN.out))
      go_wp2_with fail
      go_ret
      exact ⟨ret_bool HF.out.symm, by first | exact ⟨_, rfl⟩ | (rw [World.drewN_drewN]; exact ⟨_, rfl⟩)⟩
set_option maxRecDepth 100000 in
set_option maxHeartbeats 2000000 in
theorem rlits_any (l m : List Lt) (A1 A2 : Option Addr) (c1 c2 B : Nat) (w : World) (_l1 : l.length ≤ c1) (m1 : c1 ≤ maxLen) (s1 : Sl w B 2 isLit A1 l) (l2 : m.length ≤ c2) (m2 : c2 ≤ maxLen) (s2 : Sl w B 2 isLit A2 m) :
    Calls Try.prog 26 #[.slice A1 l.length c1, .slice A2 m.length c2] w fun e w' => e = .returned (.bool (cB (l = m))) ∧ ∃ n, w' = w.drewN n := by
  have m1' : c1 ≤ 9223372036854775807 := by unfold maxLen at m1; omega
  have m2' : c2 ≤ 9223372036854775807 := by unfold maxLen at m2; omega
  by_cases hl : l.length = m.length
  rotate_left 1
  · have HF := Lib.hid (cB_false (fun g : l = m => hl (by rw [g])))
    have hl' : ((l.length : Int) != (m.length : Int)) = true := by rw [bne_iff_ne]; omega
    clear hl
    go_enter Try.func26, Try.ntmps26
    go_wp2_with fail
    go_ret
    exact ⟨ret_bool HF.out.symm, 0, rfl⟩
  have hl' : ((l.length : Int) != (m.length : Int)) = false := by rw [bne_eq_false_iff_eq]; omega
  have HL := Lib.hid hl
  have hle1 : l.length ≤ m.length := by omega
  clear hl
  go_enter Try.func26, Try.ntmps26
  go_wp2_with fail
  go_loopw [5] (fun i wr => ∃ k : Nat, k ≤ l.length ∧ i = .int .i64 k ∧ Hid (∀ j, j < k → ∀ x y, l[j]? = some x → m[j]? = some y → x = y) ∧ ∃ n, wr = w.drewN n) (fun i _ => l.length - (intOf i).toNat)
  case atStart => exact ⟨0, Nat.zero_le _, rfl, fun j h => absurd h (by omega), 0, rfl⟩
  case round =>
    obtain ⟨k, hk, rfl, HN, n, rfl⟩ := hrel
    by_cases hlt : k < l.length
    · obtain ⟨b1, o1, x, rfl, hb1, hx, wx, d1, d1'⟩ := s1.lit hlt
      obtain ⟨b2, o2, y, rfl, hb2, hy, wy, d2, d2'⟩ := s2.lit (show k < m.length by omega)
      have HX := Lib.hid hx
      have HY := Lib.hid hy
      clear hx hy
      have hk1 : (k : Int) < l.length := by omega
      have hk2 : (k : Int) < m.length := by omega
      have hk0 : (0 : Int) ≤ (k : Int) := by omega
      by_cases e1 : x.name = y.name
      · have e1' := beq_yes e1
        by_cases e2 : x.no = y.no
        · have e2' : (x.no == y.no) = true := by simp [e2]
          have HN' := Lib.hid (upto_succ HN.out (fun x' y' hx' hy' => by rw [HX.out] at hx'; rw [HY.out] at hy'; injection hx' with hx'; injection hy' with hy'; rw [← hx', ← hy']; exact lt_ext e1 e2))
          clear e1 e2
          go_wp2_with fail
          go_quiet (fail)
          go_wp2_with fail
          go_roundw
          case rel => exact ⟨k + 1, by omega, by go_num, HN', by first | exact ⟨_, rfl⟩ | (rw [World.drewN_drewN]; exact ⟨_, rfl⟩)⟩
          case measure => simp [intOf]; omega
        · have e2' : (x.no == y.no) = false := by simp [e2]
          have HF := Lib.hid (cB_false (fun g : l = m => e2 (by have := HX.out; rw [g, HY.out] at this; injection this with this; rw [this])))
          clear e1 e2
          go_wp2_with fail
          go_quiet (fail)
          go_wp2_with fail
          go_ret
          exact ⟨ret_bool HF.out.symm, by first | exact ⟨_, rfl⟩ | (rw [World.drewN_drewN]; exact ⟨_, rfl⟩)⟩
      · have e1' := beq_no e1
        have HF := Lib.hid (cB_false (fun g : l = m => e1 (by have := HX.out; rw [g, HY.out] at this; injection this with this; rw [this])))
        clear e1
        go_wp2_with fail
        go_quiet (fail)
        go_wp2_with fail
        go_ret
        exact ⟨ret_bool HF.out.symm, by first | exact ⟨_, rfl⟩ | (rw [World.drewN_drewN]; exact ⟨_, rfl⟩)⟩
    · obtain rfl : k = l.length := by omega
      have HF := Lib.hid (cB_true (lits_eq HL.out HN.out))
      go_wp2_with fail
      go_ret
      exact ⟨ret_bool HF.out.symm, by first | exact ⟨_, rfl⟩ | (rw [World.drewN_drewN]; exact ⟨_, rfl⟩)⟩
end Go.Proofs.Ytolabbnchmmckaa
