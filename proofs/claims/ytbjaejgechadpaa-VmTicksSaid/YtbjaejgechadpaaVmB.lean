/-
  The contracts of a machine's First and Fits, of tompionref01.Ints, and of does at whatever instruction.
-/
import Derived.Test.YtbjaejgechadpaaVmNew
import Derived.Test.YtbjaejgechadpaaVmInv
import Derived.Test.YtbjaejgechadpaaDoesA
import Derived.Test.YtbjaejgechadpaaDoesB
import Derived.Test.YtbjaejgechadpaaDoesC
namespace Go.Proofs.Ytbjaejgechadpaa
open Go.RowKit Vf
attribute [local go_sem ↓] Go.wp_at_zero Go.wp_at_succ
theorem does_any : DoesC (fun _ => True) := by
  intro w C T R O vc vn vi cells inn s p i x _ h hs h1 h2 h3 h4 h5
  rcases hs.op with (e | e | e | e | e) | e | e
  · exact does_int w C T R O vc vn vi cells inn s p i x e h hs h1 h2 h3 h4 h5
  · exact does_bool w C T R O vc vn vi cells inn s p i x e h hs h1 h2 h3 h4 h5
  · exact does_var w C T R O vc vn vi cells inn s p i x e h hs h1 h2 h3 h4 h5
  · exact does_pre w C T R O vc vn vi cells inn s p i x e h hs h1 h2 h3 h4 h5
  · exact does_if w C T R O vc vn vi cells inn s p i x e h hs h1 h2 h3 h4 h5
  · rcases (by omega : x.op = 28 ∨ x.op = 29 ∨ x.op = 30 ∨ x.op = 31 ∨ x.op = 32) with e | e | e | e | e
    · exact does_in w C T R O vc vn vi cells inn s p i x e h hs h1 h2 h3 h4 h5
    · exact does_out w C T R O vc vn vi cells inn s p i x e h hs h1 h2 h3 h4 h5
    · exact does_skip w C T R O vc vn vi cells inn s p i x e h hs h1 h2 h3 h4 h5
    · exact does_skipNot w C T R O vc vn vi cells inn s p i x e h hs h1 h2 h3 h4 h5
    · exact does_keep w C T R O vc vn vi cells inn s p i x e h hs h1 h2 h3 h4 h5
  · rcases (by omega : x.op = 5 ∨ x.op = 6 ∨ (7 ≤ x.op ∧ x.op ≤ 20)) with e | e | e
    · exact does_neg w C T R O vc vn vi cells inn s p i x e h hs h1 h2 h3 h4 h5
    · exact does_not w C T R O vc vn vi cells inn s p i x e h hs h1 h2 h3 h4 h5
    · exact does_do w C T R O vc vn vi cells inn s p i x e h hs h1 h2 h3 h4 h5
/-- what First gives -/
def FirstIs (l : List Int) (w : World) (e : Ending) (w' : World) : Prop := ∃ v', e = .returned v' ∧ w'.ownsRow w.heap.size 3 1 v' l.length (ints l) ∧ Below w.heap.size w w'
theorem take_snoc {α : Type} {l : List α} {k : Nat} {x : α} (h : l[k]? = some x) : l.take (k + 1) = l.take k ++ [x] := by
  obtain ⟨hl, e⟩ := List.getElem?_eq_some_iff.1 h
  rw [List.take_succ_eq_append_getElem hl, e]
theorem cell_two (w : World) (o : Obj) (t : TypeId) (x : Value) : ∀ j u, [x][j]? = some u → ((w.alloc o).alloc (.cells #[x] t)).cell? ((⟨w.heap.size + 1, 0, none⟩ : Addr).add j) = some u := by
  have := cell_one (w.alloc o) t x
  rwa [World.size_alloc] at this
set_option maxRecDepth 100000 in
set_option maxHeartbeats 2000000 in
theorem mfirst_any {w : World} {M : Nat} {p : Pg} {vi vo vc vd : Value} (h : MachAt w M p vi vo vc vd) (hl : p.cells.length ≤ 100000) :
    Calls Try.prog 21 #[.pointer (some ⟨M, 0, none⟩)] w (FirstIs (firstZ p) w) := by
  have HI := Lib.hid (is_any h)
  have q3 : w.cell? ⟨M, 3, none⟩ = some vc := h.row.cell 3
  obtain ⟨Ac, cc, rfl, lc, mc, sc⟩ := h.pg.cells
  clear h
  have mc' : cc ≤ 9223372036854775807 := by unfold maxLen at mc; omega
  have hfl : (firstZ p).length = p.cells.length := by simp [firstZ]
  obtain ⟨i0, hi0, hz0, hz1, hz2⟩ := info_parts info_int
  go_enter Try.func21, Try.ntmps21
  go_wp2_with fail
  refine HI.out.mono ?_
  rintro e w' ⟨rfl, rfl⟩
  go_wp2_with fail
  have HF := Lib.hid hfl
  clear hfl
  go_loopw [3, 15] (fun v i wr => ∃ k : Nat, k ≤ p.cells.length ∧ i = .int .i64 k ∧ wr.ownsRow w.heap.size 3 1 v k (ints ((firstZ p).take k)) ∧ Below w.heap.size w wr) (fun _ i _ => p.cells.length - (intOf i).toNat)
  case atStart => exact ⟨0, Nat.zero_le _, rfl, ⟨by simp [ints], .inl ⟨rfl, rfl⟩⟩, Below.refl _ _⟩
  case round =>
    obtain ⟨k, hk, rfl, hown, hb⟩ := hrel
    by_cases hlt : k < p.cells.length
    · obtain ⟨b, off, c, rfl, hbb, hck, wc1, wc2, d0, d1⟩ := (sc.below hb).cell hlt
      have HS := Lib.hid (show ints ((firstZ p).take (k + 1)) = ints ((firstZ p).take k) ++ [.int .i64 c.2] by
        rw [take_snoc (x := c.2) (by simp [firstZ, hck]), ints_snoc])
      clear hck
      generalize ints ((firstZ p).take k) = L at *
      have hsz := hb.size
      go_wp2_with (at_builtin; refine wpList_append_own _ rfl _ _ 22 rfl w.heap.size 3 i0 (.int .i64 0) 1 8 Try.underlying22 hi0 hz0 hz1 hz2 rfl (by decide) _ _ _ rfl ((hown.alloc _).alloc _) ⟨wr.heap.size + 1, 0, none⟩ 1 1 [.int .i64 c.2] rfl rfl ?c1 ?c2 ?c3 ?c4 ?c5 ?_)
      case c1 => exact cell_two _ _ _ _
      case c2 => intro u hu; simp at hu; subst hu; rfl
      case c3 => unfold maxLen; omega
      case c4 => omega
      case c5 => simp; omega
      intro v' w1 hown1 hgrow _
      have HB := Lib.hid (below_own ((hb.alloc hsz _).alloc (by simp; omega) _) ((hown.alloc _).alloc _) hgrow (by simp; omega))
      have HO := Lib.hid hown1
      clear hown hown1 hgrow
      go_wp2_with fail
      go_roundw
      case rel => exact ⟨k + 1, by omega, by go_num, by rw [HS.out]; exact HO.out, HB.out⟩
      case measure => simp [intOf]; omega
    · obtain rfl : k = p.cells.length := by omega
      have HO : Hid (wr.ownsRow w.heap.size 3 1 u3 (firstZ p).length (ints (firstZ p))) := by
        rw [HF.out]
        have := hown
        rwa [← HF.out, List.take_length, HF.out] at this
      clear hown
      go_wp2_with fail
      go_ret
      exact ⟨_, rfl, HO.out, hb⟩
def mAt (p : Pg) (cells : List Int) (j : Nat) : Prop := getI (types p.cells) j = 2 → getI cells j = 0 ∨ getI cells j = 1
theorem getI_some {l : List Int} {k : Nat} {x : Int} (h : l[k]? = some x) : getI l k = x := by simp [getI, List.getD_eq_getElem?_getD, h]
theorem types_some {p : Pg} {k : Nat} {c : Int × Int} (h : p.cells[k]? = some c) : getI (types p.cells) k = c.1 := by simp [getI, types, List.getD_eq_getElem?_getD, h]
theorem mfit_no {p : Pg} {cells : List Int} {k : Nat} (hk : k < p.cells.length) (h : ¬ mAt p cells k) : ¬ machFits p cells := fun g => h (g.2 k hk)
set_option maxRecDepth 100000 in
set_option maxHeartbeats 2000000 in
theorem mfits_any {w : World} {M : Nat} {p : Pg} {vi vo vc vd : Value} (h : MachAt w M p vi vo vc vd) (cells : List Int) (v : Value) (hv : SlV w w.heap.size 1 isInt v cells) :
    Calls Try.prog 22 #[.pointer (some ⟨M, 0, none⟩), v] w fun e w' => e = .returned (.bool (cB (machFits p cells))) ∧ Below w.heap.size w w' := by
  have HI := Lib.hid (is_any h)
  have q3 : w.cell? ⟨M, 3, none⟩ = some vc := h.row.cell 3
  obtain ⟨Ac, cc, rfl, lc, mc, sc⟩ := h.pg.cells
  obtain ⟨Av, cv, rfl, lv, mv, sv⟩ := hv
  clear h
  have mc' : cc ≤ 9223372036854775807 := by unfold maxLen at mc; omega
  have mv' : cv ≤ 9223372036854775807 := by unfold maxLen at mv; omega
  go_enter Try.func22, Try.ntmps22
  go_wp2_with fail
  refine HI.out.mono ?_
  rintro e w' ⟨rfl, rfl⟩
  by_cases hl : cells.length = p.cells.length
  rotate_left 1
  · have HF := Lib.hid (cB_false (fun g : machFits p cells => hl g.1))
    have hl' : ((cells.length : Int) != (p.cells.length : Int)) = true := by rw [bne_iff_ne]; omega
    clear hl
    go_wp2_with fail
    go_ret
    exact ⟨ret_bool HF.out.symm, Below.refl _ _⟩
  have hl' : ((cells.length : Int) != (p.cells.length : Int)) = false := by rw [bne_eq_false_iff_eq]; omega
  have HL := Lib.hid hl
  have hle1 : cells.length ≤ p.cells.length := by omega
  have hle2 : p.cells.length ≤ cells.length := by omega
  clear hl
  go_wp2_with fail
  go_loopw [27] (fun i wr => ∃ k : Nat, k ≤ p.cells.length ∧ i = .int .i64 k ∧ Hid (∀ j, j < k → mAt p cells j) ∧ Below w.heap.size w wr) (fun i _ => p.cells.length - (intOf i).toNat)
  case atStart => exact ⟨0, Nat.zero_le _, rfl, fun j h => absurd h (by omega), Below.refl _ _⟩
  case round =>
    obtain ⟨k, hk, rfl, HN, hb⟩ := hrel
    by_cases hlt : k < p.cells.length
    · obtain ⟨b, off, c, rfl, hbb, hck, wc1, wc2, d0, d1⟩ := (sc.below hb).cell hlt
      obtain ⟨b2, off2, u, rfl, hbb2, huk, wu, e0⟩ := (sv.below hb).int (show k < cells.length by omega)
      have HT := Lib.hid (types_some hck)
      have HU := Lib.hid (getI_some huk)
      clear hck huk
      have hkl : (k : Int) < cells.length := by omega
      have hsz := hb.size
      have hb2 := hb.alloc hsz (.cells #[.int .i64 c.1, .int .i64 c.2] 81)
      have hbz : b2 < wr.heap.size := by omega
      by_cases h2 : c.1 = 2
      · have h2' : (c.1 == 2) = true := by simp [h2]
        by_cases hu : u = 0 ∨ u = 1
        · have HN' := Lib.hid (upto_succ HN.out (show mAt p cells k from fun _ => by rw [HU.out]; exact hu))
          clear h2
          have hu0 : u = 0 → (u != 0) = false := fun e => by simp [e]
          rcases hu with hu | hu
          · have hu' : (u != 0) = false := by simp [hu]
            clear hu hu0
            go_wp2_with fail
            go_roundw
            case rel => exact ⟨k + 1, by omega, by go_num, HN', hb2⟩
            case measure => simp [intOf]; omega
          · have hu' : (u != 0) = true := by simp [hu]
            have hu2' : (u != 1) = false := by simp [hu]
            clear hu hu0
            go_wp2_with fail
            go_roundw
            case rel => exact ⟨k + 1, by omega, by go_num, HN', hb2⟩
            case measure => simp [intOf]; omega
        · have HF := Lib.hid (cB_false (mfit_no (cells := cells) hlt (fun g => hu (by have := g (HT.out.trans h2); rw [HU.out] at this; exact this))))
          have hu' : (u != 0) = true := by rw [bne_iff_ne]; omega
          have hu2' : (u != 1) = true := by rw [bne_iff_ne]; omega
          clear hu h2
          go_wp2_with fail
          go_ret
          exact ⟨ret_bool HF.out.symm, hb2⟩
      · have h2' : (c.1 == 2) = false := by simp [h2]
        have HN' := Lib.hid (upto_succ HN.out (show mAt p cells k from fun g => absurd (HT.out.symm.trans g) h2))
        clear h2
        go_wp2_with fail
        go_roundw
        case rel => exact ⟨k + 1, by omega, by go_num, HN', hb2⟩
        case measure => simp [intOf]; omega
    · obtain rfl : k = p.cells.length := by omega
      have HF := Lib.hid (cB_true (show machFits p cells from ⟨HL.out, HN.out⟩))
      go_wp2_with fail
      go_ret
      exact ⟨ret_bool HF.out.symm, hb⟩
/-! ### tompionref01.Ints -/
theorem list_eq {l m : List Int} (hl : l.length = m.length) (h : ∀ j, j < l.length → ∀ x y, l[j]? = some x → m[j]? = some y → x = y) : l = m := by
  apply List.ext_getElem hl
  intro i h1 h2
  exact h i h1 _ _ (List.getElem?_eq_getElem h1) (List.getElem?_eq_getElem h2)
set_option maxRecDepth 100000 in
set_option maxHeartbeats 2000000 in
theorem rints_any (l m : List Int) (v1 v2 : Value) (B : Nat) (w : World) (h1 : SlV w B 1 isInt v1 l) (h2 : SlV w B 1 isInt v2 m) :
    Calls Try.prog 20 #[v1, v2] w fun e w' => e = .returned (.bool (cB (l = m))) ∧ ∃ n, w' = w.drewN n := by
  obtain ⟨A1, c1, rfl, l1, m1, s1⟩ := h1
  obtain ⟨A2, c2, rfl, l2, m2, s2⟩ := h2
  have m1' : c1 ≤ 9223372036854775807 := by unfold maxLen at m1; omega
  have m2' : c2 ≤ 9223372036854775807 := by unfold maxLen at m2; omega
  by_cases hl : l.length = m.length
  rotate_left 1
  · have HF := Lib.hid (cB_false (fun g : l = m => hl (by rw [g])))
    have hl' : ((l.length : Int) != (m.length : Int)) = true := by rw [bne_iff_ne]; omega
    clear hl
    go_enter Try.func20, Try.ntmps20
    go_wp2_with fail
    go_ret
    exact ⟨ret_bool HF.out.symm, 0, rfl⟩
  have hl' : ((l.length : Int) != (m.length : Int)) = false := by rw [bne_eq_false_iff_eq]; omega
  have HL := Lib.hid hl
  have hle1 : l.length ≤ m.length := by omega
  clear hl
  go_enter Try.func20, Try.ntmps20
  go_wp2_with fail
  go_loopw [5] (fun i wr => ∃ k : Nat, k ≤ l.length ∧ i = .int .i64 k ∧ Hid (∀ j, j < k → ∀ x y, l[j]? = some x → m[j]? = some y → x = y) ∧ ∃ n, wr = w.drewN n) (fun i _ => l.length - (intOf i).toNat)
  case atStart => exact ⟨0, Nat.zero_le _, rfl, fun j h => absurd h (by omega), 0, rfl⟩
  case round =>
    obtain ⟨k, hk, rfl, HN, n, rfl⟩ := hrel
    by_cases hlt : k < l.length
    · obtain ⟨b1, o1, x, rfl, hb1, hx, wx, d1⟩ := s1.int hlt
      obtain ⟨b2, o2, y, rfl, hb2, hy, wy, d2⟩ := s2.int (show k < m.length by omega)
      have HX := Lib.hid hx
      have HY := Lib.hid hy
      clear hx hy
      have hk1 : (k : Int) < l.length := by omega
      have hk2 : (k : Int) < m.length := by omega
      have hk0 : (0 : Int) ≤ (k : Int) := by omega
      go_wp2_with fail
      go_quiet (fail)
      by_cases e : x = y
      · have e' : (x != y) = false := by simp [e]
        have HN' := Lib.hid (upto_succ HN.out (fun x' y' hx' hy' => by rw [HX.out] at hx'; rw [HY.out] at hy'; injection hx' with hx'; injection hy' with hy'; rw [← hx', ← hy']; exact e))
        clear e
        go_wp2_with fail
        go_roundw
        case rel => exact ⟨k + 1, by omega, by go_num, HN', by first | exact ⟨_, rfl⟩ | (rw [World.drewN_drewN]; exact ⟨_, rfl⟩)⟩
        case measure => simp [intOf]; omega
      · have e' : (x != y) = true := by simp [e]
        have HF := Lib.hid (cB_false (fun g : l = m => e (by have := HX.out; rw [g, HY.out] at this; injection this with this; exact this.symm)))
        clear e
        go_wp2_with fail
        go_ret
        exact ⟨ret_bool HF.out.symm, by first | exact ⟨_, rfl⟩ | (rw [World.drewN_drewN]; exact ⟨_, rfl⟩)⟩
    · obtain rfl : k = l.length := by omega
      have HF := Lib.hid (cB_true (list_eq HL.out HN.out))
      go_wp2_with fail
      go_ret
      exact ⟨ret_bool HF.out.symm, by first | exact ⟨_, rfl⟩ | (rw [World.drewN_drewN]; exact ⟨_, rfl⟩)⟩
end Go.Proofs.Ytbjaejgechadpaa
