/-
  verify's look.
-/
import Derived.Test.YtbjaejgechadpaaLookJ
namespace Go.Proofs.Ytbjaejgechadpaa
open Go.RowKit Vf
theorem opOk_of {x : In5} (h : instrOk x) : opOk x.op := by
  unfold instrOk hasA hasAB hasABC at h
  unfold opOk
  omega
section
variable {w w' : World} {B L K O : Nat} {p : Pg} {vi vo vc vd : Value} {s : LS}
theorem Lk.reK (h : Lk w B L K O p vi vo vc vd s) (u : Upd (· = K) w w') (r : Row w' K (s.kinds.map (Value.int .i64)).toArray 3) : Lk w' B L K O p vi vo vc vd s :=
  ⟨h.pg.below (u.below (fun _ e => e ▸ h.bK) h.size), u.row h.row h.LK, r, u.row h.outs (Ne.symm h.KO), h.bL, h.bK, h.bO, h.LK, h.LO, h.KO, h.klen, h.olen, h.past0, h.past1⟩
theorem Lk.reO (h : Lk w B L K O p vi vo vc vd s) (u : Upd (· = O) w w') (r : Row w' O (s.outs.map Value.bool).toArray 4) : Lk w' B L K O p vi vo vc vd s :=
  ⟨h.pg.below (u.below (fun _ e => e ▸ h.bO) h.size), u.row h.row h.LO, u.row h.kinds h.KO, r, h.bL, h.bK, h.bO, h.LK, h.LO, h.KO, h.klen, h.olen, h.past0, h.past1⟩
end
theorem look_no {p : Pg} {k : Nat} (hk : k ≤ p.code.length) (hb : (stTo p k).bad = true) : ¬ lookOk p := fun h => by
  have := h.1 k hk
  rw [hb] at this
  exact absurd this (by decide)
theorem look_end {p : Pg} (h : ∀ j, j ≤ p.code.length → (stTo p j).bad = false) : lookOk p ↔ ∀ b ∈ (stTo p p.code.length).outs, b = true := ⟨fun g => g.2, fun g => ⟨h, g⟩⟩
theorem init_bad (p : Pg) : ∀ j, j ≤ 0 → (stTo p j).bad = false := fun j hj => by
  obtain rfl : j = 0 := by omega
  rfl
theorem stTo_succ {p : Pg} {k : Nat} {x : In5} (h : p.code[k]? = some x) : (stTo p k).instr p k x = stTo p (k + 1) := by
  rw [stTo, h]
theorem upto_le {f : Nat → Prop} {k : Nat} (h : ∀ j, j ≤ k → f j) (h1 : f (k + 1)) : ∀ j, j ≤ k + 1 → f j := fun j hj => by
  by_cases e : j = k + 1
  · rw [e]; exact h1
  · exact h j (by omega)
theorem cB_no (q : Prop) : cB (¬ q) = !cB q := by by_cases h : q <;> simp [cB, h]
set_option maxRecDepth 100000 in
set_option maxHeartbeats 4000000 in
theorem look_any {w : World} {B L K O : Nat} {p : Pg} {vi vo vc vd : Value} (hm : mayOk p) (h : Lk w B L K O p vi vo vc vd (init p)) :
    Calls Try.prog 48 #[.pointer (some ⟨L, 0, none⟩)] w fun e w' => e = .returned (.bool (cB (lookOk p))) ∧ Upd (lkX L K O) w w' := by
  have e1 : (init p).kinds.map (Value.int .i64) = List.replicate p.regs.toNat (.int .i64 0) := by simp [init]
  have e2 : (init p).outs.map Value.bool = List.replicate p.outs.length (.bool false) := by simp [init]
  have e3 : (init p).kinds.length = p.regs.toNat := by simp [init]
  have e4 : (init p).outs.length = p.outs.length := by simp [init]
  have rk := h.kinds
  rw [e1] at rk
  obtain ⟨w1, q1, r1, u1⟩ := clear_row (s := 22) (e := 3) rfl (fun w => by simp [go_sem]) rfl rfl rk
  rw [← e1] at r1
  have h1 := h.reK u1 r1
  have ro := h1.outs
  rw [e2] at ro
  obtain ⟨w2, q2, r2, u2⟩ := clear_row (s := 70) (e := 4) rfl (fun w => by simp [go_sem]) rfl rfl ro
  rw [← e2] at r2
  have h2 := h1.reO u2 r2
  have u : Upd (lkX L K O) w w2 := (u1.mono (fun _ e => .inr (.inl e))).trans (u2.mono (fun _ e => .inr (.inr e)))
  have l5 := h.row.cell 5
  have l6 := h1.row.cell 6
  have l4 := h2.row.cell 4
  rw [e3, e4] at l5 l6
  simp only [List.getElem?_toArray, List.getElem?_cons_zero, List.getElem?_cons_succ] at l4 l5 l6
  obtain ⟨Ad, cd, rfl, ld, md, sd⟩ := h2.pg.code
  clear rk ro r1 r2 u1 u2 h1 h e1 e2 e3 e4
  have md' : cd ≤ 9223372036854775807 := by unfold maxLen at md; omega
  have hcl := hm.2.2.2.2.2.2.2
  go_enter Try.func48, Try.ntmps48
  go_wp2_with fail
  go_loopw [19] (fun i wr => ∃ k : Nat, k ≤ p.code.length ∧ i = .int .i64 k ∧ Hid (∀ j, j ≤ k → (stTo p j).bad = false) ∧ Lk wr B L K O p vi vo vc (.slice Ad p.code.length cd) (stTo p k) ∧ Upd (lkX L K O) w wr) (fun i _ => p.code.length - (intOf i).toNat)
  case atStart => exact ⟨0, Nat.zero_le _, rfl, ⟨init_bad p, h2, u⟩⟩
  case round =>
    clear l4 l5 l6 q1 q2 h2 u sd
    obtain ⟨k, hk, rfl, HN, hL, hu⟩ := hrel
    by_cases hlt : k < p.code.length
    · have sdr : Sl wr B 5 isIn5 Ad p.code := by
        obtain ⟨_, _, he, _, _, s⟩ := hL.pg.code
        injection he with e1 e2 e3
        subst e1
        exact s
      obtain ⟨b, off, x, rfl, hb, hxk, hok, c0, c1, c2, c3, c4⟩ := sdr.in5 hlt
      have HI := Lib.hid (look_inv hm k hk HN.out)
      have HK := Lib.hid hxk
      have HS := Lib.hid (stTo_succ hxk)
      have HO := Lib.hid (opOk_of (hm.2.1 x (List.mem_of_getElem? hxk)))
      have H3 := Lib.hid (show ((stTo p k).takes x.a).1 = 0 ∨ ((stTo p k).takes x.a).1 = 1 ∨ ((stTo p k).takes x.a).1 = 2 by rw [takes_eq HI.out hm.2.2.2.2.1]; exact taken_three HI.out _)
      have hL1 := hL.alloc (.cells #[.int .i64 x.op, .int .i64 x.a, .int .i64 x.b, .int .i64 x.c, .int .i64 x.k] 30)
      clear hxk
      go_wp2_with fail
      refine (instr_any k x hL1 HO.out HI.out.olen (by omega) (by omega) hcl hok.k H3.out).mono ?_
      rintro e w3 ⟨rfl, hl3⟩
      rw [HS.out] at hl3
      have HL := Lib.hid hl3.1
      have HU := Lib.hid ((hu.alloc _).trans hl3.2)
      have l8 := hl3.1.row.cell 8
      clear hl3 hL1 hL hu c0 c1 c2 c3 c4
      simp only [List.getElem?_toArray, List.getElem?_cons_zero, List.getElem?_cons_succ] at l8
      generalize hV : (stTo p (k + 1)).bad = V at l8
      have HV := Lib.hid hV
      clear hV
      cases V
      · have HN' := Lib.hid (upto_le HN.out HV.out)
        go_wp2_with fail
        go_roundw
        case rel => exact ⟨k + 1, by omega, by go_num, HN', HL.out, HU.out⟩
        case measure => simp [intOf]; omega
      · have HF := Lib.hid (cB_false (look_no (by omega) HV.out))
        go_wp2_with fail
        go_ret
        exact ⟨ret_bool HF.out.symm, HU.out⟩
    · obtain rfl : k = p.code.length := by omega
      have HE := Lib.hid (look_end HN.out)
      have HC := Lib.hid (contains_bool hL.outs hL.olen)
      rw [show cB (¬ ∀ b ∈ (stTo p p.code.length).outs, b = true) = !cB (lookOk p) by rw [cB_congr HE.out]; exact cB_no _] at HC
      generalize hV : cB (lookOk p) = V at HC
      have HV := Lib.hid hV
      clear hV
      have l6 := hL.row.cell 6
      simp only [List.getElem?_toArray, List.getElem?_cons_zero, List.getElem?_cons_succ] at l6
      clear hL
      go_wp2_with fail
      refine HC.out.mono ?_
      rintro e w' ⟨rfl, rfl⟩
      go_wp2_with fail
      go_ret
      exact ⟨by simp [HV.out], hu⟩
end Go.Proofs.Ytbjaejgechadpaa
