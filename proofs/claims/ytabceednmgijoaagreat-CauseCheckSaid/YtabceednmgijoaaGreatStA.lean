/-
  Rows of names of the call's own; a name put into a rising list: the contract of tompionref17.Sorted.
-/
import Derived.Test.YtabceednmgijoaaGreatWnS
namespace Go.Proofs.YtabceednmgijoaaGreat
open Go.RowKit
attribute [local go_sem ↓] Go.wp_at_zero Go.wp_at_succ
theorem ltN_yes {x s : ByteArray} (h : ltN s x) : Op.bytesLess x.toList s.toList = false ∧ (x.toList == s.toList) = false := by
  rw [bytesLess_eq, Lib.toList_data, Lib.toList_data]
  unfold ltN at h
  exact ⟨decide_eq_false fun g => List.lt_irrefl _ (List.lt_trans h g), by rw [beq_eq_false_iff_ne]; intro e; rw [e] at h; exact List.lt_irrefl _ h⟩
theorem ltN_no {x s : ByteArray} (h : ¬ ltN s x) (hne : x ≠ s) : Op.bytesLess x.toList s.toList = true ∧ (x.toList == s.toList) = false := by
  rw [bytesLess_eq, Lib.toList_data, Lib.toList_data]
  exact ⟨decide_eq_true (ltN_of h (fun e => hne e.symm)), by rw [beq_eq_false_iff_ne]; exact fun e => hne (nmb_inj e)⟩
theorem str_at {w : World} {B b off k : Nat} {l : List ByteArray} {x : ByteArray} (h : Sl w B 1 isStr (some ⟨b, off, none⟩) l) (hx : l[k]? = some x) : w.cell? ⟨b, off + k, none⟩ = some (.string x) := by
  obtain ⟨cs, h1, h2⟩ := h.get hx
  rw [h2.1] at h1
  have := h1 0 _ rfl
  simpa using this
theorem take_none {l : List ByteArray} {k : Nat} {s x : ByteArray} (h : ∀ y ∈ l.take k, ¬ ltN s y) (hx : ¬ ltN s x) : ∀ y ∈ l.take k ++ [x], ¬ ltN s y := fun y hy => by
  rcases List.mem_append.1 hy with hy | hy
  · exact h y hy
  · rw [List.mem_singleton.1 hy]; exact hx
set_option maxRecDepth 100000 in
set_option maxHeartbeats 4000000 in
theorem rsorted_any (l : List ByteArray) (m : Nat) (A : Option Addr) (cap : Nat) (s : ByteArray) (w : World) (hm : l.length = m) (h1 : m ≤ cap) (h2 : cap ≤ maxLen) (hl : l.length < 900000) (hs : s.size ≤ maxLen) (h : Sl w w.heap.size 1 isStr A l) :
    Calls Tryz.prog 32 #[.slice A m cap, .string s] w fun e w' => (∃ v, e = .returned v ∧ SlV w' w'.heap.size 1 isStr v (ins l s)) ∧ Below w.heap.size w w' := by
  subst hm
  have HS := Lib.hid h
  have HSZ := Lib.hid (strs_size h)
  have h2' : cap ≤ 9223372036854775807 := by unfold maxLen at h2; omega
  clear h
  go_enter Tryz.func32, Tryz.ntmps32
  go_wp2_with fail
  go_loopw [5, 6, 7] (fun o d i wr => ∃ (k : Nat) (M : List ByteArray) (D : Bool), k ≤ l.length ∧ i = .int .i64 k ∧ d = .bool D ∧ M.length ≤ k + 1 ∧ wr.ownsRow w.heap.size 9 1 o M.length (M.map Value.string) ∧ Hid (s ∉ l.take k) ∧
    Hid (D = false → M = l.take k ∧ ∀ y ∈ l.take k, ¬ ltN s y) ∧ Hid (D = true → M = insR (l.take k) s ∧ ∃ y ∈ l.take k, ltN s y) ∧ Below w.heap.size w wr) (fun _ _ i _ => l.length - (intOf i).toNat)
  case atStart => exact ⟨0, [], false, Nat.zero_le _, rfl, rfl, by simp, World.ownsRow_nil _ _ _ _, by simp [Hid], fun _ => ⟨rfl, by simp⟩, (fun g => by cases g), Below.refl _ _⟩
  case round =>
    obtain ⟨k, M, D, hk, rfl, rfl, hMl, hown, HN, H0, H1, hB⟩ := hrel
    have hsB := hB.size
    by_cases hlt : k < l.length
    rotate_left 1
    · obtain rfl : k = l.length := by omega
      rw [List.take_length] at HN H0 H1
      have hMz : Hid (∀ x ∈ M, x.size ≤ maxLen) := fun x hx => by
        cases D
        · rw [(H0.out rfl).1] at hx; exact HSZ.out x hx
        · rw [(H1.out rfl).1] at hx
          rcases insR_mem.1 hx with rfl | hx
          · exact hs
          · exact HSZ.out x hx
      cases D
      · have HF : Hid (M ++ [s] = ins l s) := by
          show _ = _
          unfold ins
          rw [if_neg HN.out, insR_last (H0.out rfl).2, (H0.out rfl).1]
        clear H0 H1
        go_wp2_with (at_builtin; refine wpList_append_str rfl _ _ rfl w.heap.size M _ _ rfl (hown.alloc _) rfl wr.heap.size s rfl (((Row.new wr #[.string s] 9).cell 0).trans rfl) (by omega) (by simp; omega) ?_; intro v1 w1 o1 g1)
        go_ret
        have hB1 := below_own (hB.alloc hB.size (.cells #[.string s] 9)) (hown.alloc _) g1 (by simp; omega)
        refine ⟨⟨v1, rfl, ?_⟩, hB1⟩
        rw [← HF.out]
        exact own_strs o1 fun x hx => by
          rcases List.mem_append.1 hx with hx | hx
          · exact hMz.out x hx
          · rw [List.mem_singleton.1 hx]; exact hs
      · have HF : Hid (M = ins l s) := by
          show _ = _
          unfold ins
          rw [if_neg HN.out, (H1.out rfl).1]
        clear H0 H1
        go_wp2_with fail
        go_ret
        refine ⟨⟨_, rfl, ?_⟩, hB⟩
        rw [← HF.out]
        exact own_strs hown hMz.out
    obtain ⟨b, off, x, hA, hb, hx, hsx, c0⟩ := (HS.out.below hB).str hlt
    have HA := Lib.hid hA
    subst hA
    have HX := Lib.hid hx
    have HT : Hid (l.take (k + 1) = l.take k ++ [x]) := by
      show _ = _
      obtain ⟨q1, q2⟩ := List.getElem?_eq_some_iff.1 hx
      rw [List.take_succ_eq_append_getElem q1, q2]
    have i0 : (0 : Int) ≤ (k : Int) := by omega
    have i1 : (k : Int) < (l.length : Int) := by omega
    clear hx
    by_cases e : x = s
    · have e1 := beq_yes e
      have e2 := beq_yes e.symm
      have HF : Hid (l = ins l s) := by
        show _ = _
        unfold ins
        rw [if_pos (e ▸ List.mem_of_getElem? HX.out)]
      clear e H0 H1
      go_wp2_with fail
      go_ret
      refine ⟨⟨_, rfl, ?_⟩, hB⟩
      rw [← HF.out]
      exact ⟨_, cap, rfl, h1, h2, (HS.out.below hB).more hsB⟩
    have e1 := beq_no e
    have e2 := beq_no (fun g => e (Eq.symm g))
    have HN' : Hid (s ∉ l.take (k + 1)) := by
      show ¬ _
      rw [HT.out]
      simp only [List.mem_append, List.mem_singleton, not_or]
      exact ⟨HN.out, fun g => e g.symm⟩
    have hMl2 : M.length ≤ 900000 := by omega
    cases D
    · by_cases g : ltN s x
      · obtain ⟨t1, t2⟩ := ltN_yes g
        have HF : Hid (M ++ [s] ++ [x] = insR (l.take (k + 1)) s) := by
          show _ = _
          rw [HT.out, insR_snoc0 (H0.out rfl).2 g, (H0.out rfl).1]
          simp
        have hMk : M.length ≤ k := by rw [(H0.out rfl).1, List.length_take]; omega
        have HE : Hid (∃ y ∈ l.take (k + 1), ltN s y) := ⟨x, by rw [HT.out]; simp, g⟩
        clear e g H0 H1
        go_wp2_with (first
          | (at_builtin; refine wpList_append_str rfl _ _ rfl w.heap.size M _ _ rfl (hown.alloc _) rfl wr.heap.size s rfl (((Row.new wr #[.string s] 9).cell 0).trans rfl) (by omega) (by simp; omega) ?_; intro v1 w1 o1 g1; have hB1 := below_own (hB.alloc hB.size (.cells #[.string s] 9)) (hown.alloc _) g1 (by simp; omega); have hs1 := hB1.size; have c1 := str_at (HS.out.below hB1) HX.out)
          | (at_builtin; refine wpList_append_str rfl _ _ rfl w.heap.size (M ++ [s]) _ _ rfl (o1.alloc _) rfl w1.heap.size x rfl (((Row.new w1 #[.string x] 9).cell 0).trans rfl) (by simp; omega) (by simp; omega) ?_; intro v2 w2 o2 g2))
        have hB2 := below_own (hB1.alloc hB1.size (.cells #[.string x] 9)) (o1.alloc _) g2 (by simp; omega)
        go_roundw
        case rel => exact ⟨k + 1, M ++ [s] ++ [x], true, by omega, by go_num, rfl, by simp; omega, o2, HN', (fun g => by cases g), fun _ => ⟨HF.out, HE.out⟩, hB2⟩
        case measure => first | (simp [intOf]; omega) | simp [intOf]
      · obtain ⟨t1, t2⟩ := ltN_no g e
        have HF : Hid (M ++ [x] = l.take (k + 1) ∧ ∀ y ∈ l.take (k + 1), ¬ ltN s y) := by
          show _ ∧ _
          rw [HT.out]
          exact ⟨by rw [(H0.out rfl).1], take_none (H0.out rfl).2 g⟩
        clear e g H0 H1
        go_wp2_with (at_builtin; refine wpList_append_str rfl _ _ rfl w.heap.size M _ _ rfl (hown.alloc _) rfl wr.heap.size x rfl (((Row.new wr #[.string x] 9).cell 0).trans rfl) (by omega) (by simp; omega) ?_; intro v2 w2 o2 g2)
        have hB2 := below_own (hB.alloc hB.size (.cells #[.string x] 9)) (hown.alloc _) g2 (by simp; omega)
        go_roundw
        case rel => exact ⟨k + 1, M ++ [x], false, by omega, by go_num, rfl, by simp; omega, o2, HN', fun _ => HF.out, (fun g => by cases g), hB2⟩
        case measure => first | (simp [intOf]; omega) | simp [intOf]
    · have HF : Hid (M ++ [x] = insR (l.take (k + 1)) s ∧ ∃ y ∈ l.take (k + 1), ltN s y) := by
        show _ ∧ _
        obtain ⟨h1, y, hy, h2⟩ := H1.out rfl
        rw [HT.out]
        exact ⟨by rw [h1, insR_snoc1 ⟨y, hy, h2⟩], y, by simp [hy], h2⟩
      clear e H0 H1
      go_wp2_with (at_builtin; refine wpList_append_str rfl _ _ rfl w.heap.size M _ _ rfl (hown.alloc _) rfl wr.heap.size x rfl (((Row.new wr #[.string x] 9).cell 0).trans rfl) (by omega) (by simp; omega) ?_; intro v2 w2 o2 g2)
      have hB2 := below_own (hB.alloc hB.size (.cells #[.string x] 9)) (hown.alloc _) g2 (by simp; omega)
      go_roundw
      case rel => exact ⟨k + 1, M ++ [x], true, by omega, by go_num, rfl, by simp; omega, o2, HN', (fun g => by cases g), fun _ => HF.out, hB2⟩
      case measure => first | (simp [intOf]; omega) | simp [intOf]
end Go.Proofs.YtabceednmgijoaaGreat
