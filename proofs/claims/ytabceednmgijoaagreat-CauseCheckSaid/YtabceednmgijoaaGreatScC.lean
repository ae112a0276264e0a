/-
  A node's variable of a name, a source's node of a name: the contracts of tompionref15.Var, Node and scope.Var, Find.
-/
import Derived.Test.YtabceednmgijoaaGreatScB
import Derived.Test.YtabceednmgijoaaGreatMem
namespace Go.Proofs.YtabceednmgijoaaGreat
open Go.RowKit
theorem ba_inj {a b : ByteArray} (h : a.toList = b.toList) : a = b := WideShapes.bytes_inj (by rw [← ByteArray.toList_eq, ← ByteArray.toList_eq]; exact h)
theorem beq_yes {a b : ByteArray} (h : a = b) : (a.toList == b.toList) = true := by rw [h]; simp
theorem beq_no {a b : ByteArray} (h : a ≠ b) : (a.toList == b.toList) = false := by rw [beq_eq_false_iff_ne]; exact fun g => h (ba_inj g)
theorem map_get {α β : Type} {l : List α} {k : Nat} {x : α} (f : α → β) (h : l[k]? = some x) : (l.map f)[k]? = some (f x) := by rw [List.getElem?_map, h]; rfl
theorem map_upto {α β : Type} {l : List α} {k : Nat} {f : α → β} {P : β → Prop} (h : ∀ j, j < k → ∀ x, l[j]? = some x → P (f x)) : ∀ j, j < k → ∀ y, (l.map f)[j]? = some y → P y := fun j hj y hy => by
  rw [List.getElem?_map, Option.map_eq_some_iff] at hy
  obtain ⟨x, h1, rfl⟩ := hy
  exact h j hj x h1
theorem step_upto {α : Type} {l : List α} {k : Nat} {x : α} {P : α → Prop} (h : ∀ j, j < k → ∀ y, l[j]? = some y → P y) (hk : l[k]? = some x) (hx : P x) : ∀ j, j < k + 1 → ∀ y, l[j]? = some y → P y :=
  upto_succ h (fun y hy => by rw [hk] at hy; injection hy with hy; rw [← hy]; exact hx)
set_option maxRecDepth 100000 in
set_option maxHeartbeats 1000000 in
theorem rvar_any (n : Nd) (a : NdA) (nm : ByteArray) (w : World) (h : NdAt w w.heap.size n a) (hl : (vrs n).length ≤ 10000) :
    Calls Tryz.prog 75 #[ndV n a, .string nm] w fun e w' => e = .returned (.int .i64 (varIdx n nm)) ∧ Below w.heap.size w w' := by
  have b1 : Below w.heap.size w (w.alloc (.cells (ndArr n a) 36)) := (Below.refl _ _).alloc (Nat.le_refl _) _
  have H := Lib.hid (h.below b1)
  have HL := Lib.hid hl
  clear h hl
  go_enter Tryz.func75, Tryz.ntmps75
  go_wp2_with fail
  refine (rvars_any w.heap.size n a _ (by simp) H.out HL.out).mono ?_
  rintro e w2 ⟨⟨v, rfl, ho⟩, hb2⟩
  obtain ⟨A, cap, rfl, hl1, hl2, hs⟩ := ho.sl
  have hB : Below w.heap.size w w2 := b1.trans (hb2.mono (by simp))
  have hl3 : cap ≤ 9223372036854775807 := by unfold maxLen at hl2; omega
  have HS := Lib.hid hs
  have hl4 := HL.out
  clear ho hs hb2
  have HV : Hid (varIdx n nm = idxOf ((vrs n).map (·.name)) nm) := rfl
  generalize vrs n = l at *
  go_wp2_with fail
  go_loop [6] (fun i => ∃ k : Nat, k ≤ l.length ∧ i = .int .i64 k ∧ Hid (∀ j, j < k → ∀ x, l[j]? = some x → x.name ≠ nm)) (fun i => l.length - (intOf i).toNat)
  case atStart => exact ⟨0, Nat.zero_le _, rfl, fun j h => absurd h (by omega)⟩
  case round =>
    obtain ⟨k, hk, rfl, HN⟩ := hrel
    by_cases hlt : k < l.length
    · obtain ⟨b, off, x, A', cap', rfl, hb, hx, ok, h1, h2, h3, c0, c1, c2, c3, c4⟩ := HS.out.vr hlt
      have HX := Lib.hid hx
      clear hx h3
      by_cases e : x.name = nm
      · have HE := Lib.hid e
        have e1 := beq_yes e
        have HF := Lib.hid (show varIdx n nm = k by rw [HV.out]; exact idx_at (map_upto (P := (· ≠ nm)) HN.out) (by rw [map_get _ HX.out, e]))
        clear e
        go_wp2_with fail
        go_ret
        exact ⟨ret_int HF.out.symm, hB⟩
      · have HN' := Lib.hid (step_upto (P := fun x => x.name ≠ nm) HN.out HX.out e)
        have e1 := beq_no e
        clear e
        go_wp2_with fail
        go_round
        case rel => exact ⟨k + 1, by omega, by go_num, HN'⟩
        case measure => simp [intOf]; omega
    · obtain rfl : k = l.length := by omega
      have HF := Lib.hid (show varIdx n nm = -1 by rw [HV.out]; exact idx_none (by rw [List.length_map]; exact map_upto (P := (· ≠ nm)) HN.out))
      go_wp2_with fail
      go_ret
      exact ⟨ret_int HF.out.symm, hB⟩

abbrev vr0 : Vr := ⟨⟨#[]⟩, 0, [], 0, 0⟩
abbrev srcV (s : List Nd) (A : Option Addr) (cap : Nat) : Value := .agg #[.slice A s.length cap]
set_option maxRecDepth 100000 in
set_option maxHeartbeats 1000000 in
theorem rnode_any (s : List Nd) (A : Option Addr) (cap : Nat) (nm : ByteArray) (w : World) (hc : s.length ≤ cap) (hm : cap ≤ maxLen) (h : Nds w w.heap.size A s) :
    Calls Tryz.prog 54 #[srcV s A cap, .string nm] w fun e w' => e = .returned (.int .i64 (nodeIdx s nm)) ∧ Below w.heap.size w w' := by
  have b1 : Below w.heap.size w (w.alloc (.cells #[.slice A s.length cap] 24)) := (Below.refl _ _).alloc (Nat.le_refl _) _
  have HS := Lib.hid (nds_keep h (keeps_of b1) (Nat.le_refl _))
  have hl3 : cap ≤ 9223372036854775807 := by unfold maxLen at hm; omega
  have HV : Hid (nodeIdx s nm = idxOf (s.map (·.name)) nm) := rfl
  clear h
  go_enter Tryz.func54, Tryz.ntmps54
  go_wp2_with fail
  go_loop [5] (fun i => ∃ k : Nat, k ≤ s.length ∧ i = .int .i64 k ∧ Hid (∀ j, j < k → ∀ x, s[j]? = some x → x.name ≠ nm)) (fun i => s.length - (intOf i).toNat)
  case atStart => exact ⟨0, Nat.zero_le _, rfl, fun j h => absurd h (by omega)⟩
  case round =>
    obtain ⟨k, hk, rfl, HN⟩ := hrel
    by_cases hlt : k < s.length
    · obtain ⟨b, off, x, a, rfl, hb, hx, hat, c0, c1, c2, c3, c4, c5, c6⟩ := HS.out.nd hlt
      have HX := Lib.hid hx
      clear hx hat
      by_cases e : x.name = nm
      · have e1 := beq_yes e
        have HF := Lib.hid (show nodeIdx s nm = k by rw [HV.out]; exact idx_at (map_upto (P := (· ≠ nm)) HN.out) (by rw [map_get _ HX.out, e]))
        clear e
        go_wp2_with fail
        go_ret
        exact ⟨ret_int HF.out.symm, b1⟩
      · have HN' := Lib.hid (step_upto (P := fun x => x.name ≠ nm) HN.out HX.out e)
        have e1 := beq_no e
        clear e
        go_wp2_with fail
        go_round
        case rel => exact ⟨k + 1, by omega, by go_num, HN'⟩
        case measure => simp [intOf]; omega
    · obtain rfl : k = s.length := by omega
      have HF := Lib.hid (show nodeIdx s nm = -1 by rw [HV.out]; exact idx_none (by rw [List.length_map]; exact map_upto (P := (· ≠ nm)) HN.out))
      go_wp2_with fail
      go_ret
      exact ⟨ret_int HF.out.symm, b1⟩
/-- what scope.Var gives -/
def VarRes (n : Nd) (nm : ByteArray) (w : World) (e : Ending) (w' : World) : Prop :=
  ((∃ (k : Nat) (x : Vr) (A : Option Addr) (cap : Nat), varIdx n nm = k ∧ (vrs n)[k]? = some x ∧ e = .returned (.tuple #[vrV x A cap, .bool true]) ∧ VrOk x ∧ x.clock.length ≤ cap ∧ cap ≤ maxLen ∧ Sl w' w.heap.size 2 isLit A x.clock) ∨
    (varIdx n nm = -1 ∧ e = .returned (.tuple #[vrV vr0 none 0, .bool false]))) ∧ Below w.heap.size w w'
set_option maxRecDepth 100000 in
set_option maxHeartbeats 2000000 in
theorem svar_any (n : Nd) (a : NdA) (nm : ByteArray) (w : World) (h : NdAt w w.heap.size n a) (hl : (vrs n).length ≤ 10000) :
    Calls Tryz.prog 39 #[ndV n a, .string nm] w (VarRes n nm w) := by
  have b1 : Below w.heap.size w ((w.alloc (.cells (ndArr n a) 36)).alloc (.cells (vrArr vr0 none 0) 49)) := ((Below.refl _ _).alloc (Nat.le_refl _) _).alloc (by simp) _
  have r1 := rowNew2 w (.cells (ndArr n a) 36) (vrArr vr0 none 0) 49
  have H := Lib.hid (h.below b1)
  have HL := Lib.hid hl
  clear h hl
  go_enter Tryz.func39, Tryz.ntmps39
  go_wp2_with fail
  refine (all_any w.heap.size n a _ (by simp; omega) H.out HL.out).mono ?_
  rintro e w2 ⟨⟨v, rfl, ho⟩, hb2⟩
  obtain ⟨A, cap, rfl, hl1, hl2, hs⟩ := ho.sl
  have hB : Below w.heap.size w w2 := b1.trans (hb2.mono (by simp; omega))
  have r2 := r1.below hb2 (by simp)
  have hl3 : cap ≤ 9223372036854775807 := by unfold maxLen at hl2; omega
  have HS := Lib.hid hs
  have hl4 := HL.out
  have hsz2 := hB.size
  clear ho hs hb2 r1 b1 H
  have HV : Hid (varIdx n nm = idxOf ((vrs n).map (·.name)) nm) := rfl
  have HW : ∃ L, L = vrs n ∧ Hid (∀ (k : Nat) x, L[k]? = some x → (vrs n)[k]? = some x) := ⟨_, rfl, fun _ _ h => h⟩
  have HV : Hid (varIdx n nm = idxOf ((vrs n).map (·.name)) nm) := rfl
  obtain ⟨l, hll, HW⟩ := HW
  rw [← hll] at hl1 hl4 HV HS ⊢
  clear hll
  go_wp2_with fail
  go_loopw [11] (fun i wr => ∃ k : Nat, k ≤ l.length ∧ i = .int .i64 k ∧ Hid (∀ j, j < k → ∀ x, l[j]? = some x → x.name ≠ nm) ∧ Below w2.heap.size w2 wr) (fun i _ => l.length - (intOf i).toNat)
  case atStart => exact ⟨0, Nat.zero_le _, rfl, fun j h => absurd h (by omega), Below.refl _ _⟩
  case round =>
    obtain ⟨k, hk, rfl, HN, hbr⟩ := hrel
    have rr := r2.below hbr r2.lt
    have hszr := hbr.size
    have hlr := rr.lt
    obtain ⟨⟨z0, z1, z2, z3, z4⟩, f0, f1, f2, f3, f4⟩ := rr.five
    have hB3 := hB.trans (hbr.mono hsz2)
    by_cases hlt : k < l.length
    · obtain ⟨b, off, x, A', cap', rfl, hb, hx, ok, h1, h2, h3, c0, c1, c2, c3, c4⟩ := (vrs_keep2 HS.out hbr hsz2).vr hlt
      have HX := Lib.hid hx
      have H3 := Lib.hid h3
      clear hx h3
      by_cases e : x.name = nm
      · have e1 := beq_yes e
        have HF := Lib.hid (show varIdx n nm = k by rw [HV.out]; exact idx_at (map_upto (P := (· ≠ nm)) HN.out) (by rw [map_get _ HX.out, e]))
        clear e
        go_wp2_with fail
        have bb : Below w.heap.size wr ((((((wr.setCell ⟨w.heap.size + 1, 0, none⟩ (.string x.name)).setCell ⟨w.heap.size + 1, 1, none⟩ (.int .i64 x.ty)).setCell ⟨w.heap.size + 1, 2, none⟩ (.slice A' x.clock.length cap')).setCell ⟨w.heap.size + 1, 3, none⟩ (.int .i64 x.line)).setCell ⟨w.heap.size + 1, 4, none⟩ (.int .i64 x.col)).alloc (.cells (vrArr x A' cap') 49)) := by
          refine Below.alloc ?_ (by simp [World.setCell]; omega) _
          repeat (first | exact Below.refl _ _ | refine Below.setCell ?_ (by simp) _)
        exact bodyPost_ret (v := .tuple #[vrV x A' cap', .bool true]) (res2 rfl Tryz.underlying49 rfl (by kernel_rfl) rfl rfl ((rr.set5 _ _ _ _ _).alloc _)) rfl ⟨.inl ⟨k, x, A', cap', HF.out, HW.out k x HX.out, rfl, ok, h1, h2, H3.out.below bb⟩, hB3.trans bb⟩
      · have HN' := Lib.hid (step_upto (P := fun x => x.name ≠ nm) HN.out HX.out e)
        have e1 := beq_no e
        clear e
        go_wp2_with fail
        go_roundw
        case rel => exact ⟨k + 1, by omega, by go_num, HN', hbr.alloc hszr _⟩
        case measure => simp [intOf]; omega
    · obtain rfl : k = l.length := by omega
      have HF := Lib.hid (show varIdx n nm = -1 by rw [HV.out]; exact idx_none (by rw [List.length_map]; exact map_upto (P := (· ≠ nm)) HN.out))
      go_wp2_with fail
      refine bodyPost_ret (v := .tuple #[vrV vr0 none 0, .bool false]) (res2 rfl Tryz.underlying49 rfl (by kernel_rfl) rfl rfl (rr.set5 _ _ _ _ _)) rfl ⟨.inr ⟨HF.out, rfl⟩, ?_⟩
      repeat (first | exact hB3 | refine Below.setCell ?_ (by simp) _)
end Go.Proofs.YtabceednmgijoaaGreat
