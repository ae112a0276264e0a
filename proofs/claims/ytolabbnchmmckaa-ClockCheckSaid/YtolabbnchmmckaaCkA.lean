/-
  Which clocks are right: the contracts of clock.right and tompionref18.Right.
-/
import Derived.Test.YtolabbnchmmckaaCkP
import Derived.Test.YtolabbnchmmckaaClkC
namespace Go.Proofs.Ytolabbnchmmckaa
open Go.RowKit
attribute [local go_sem ↓] Go.wp_at_zero Go.wp_at_succ
theorem right_no {n : Nd} {clock : List Lt} {k : Nat} {l : Lt} (hk : clock[k]? = some l) (h : clockOf n l.name ≠ clock.take k) : ¬ RightClk n clock := fun g => h (g k l hk)
theorem lits_take {w : World} {B : Nat} {A : Option Addr} {l : List Lt} (h : Sl w B 2 isLit A l) (k : Nat) : Sl w B 2 isLit A (l.take k) := h.take k
set_option maxRecDepth 100000 in
set_option maxHeartbeats 1000000 in
theorem cright_any (n : Nd) (a : NdA) (clock : List Lt) (A : Option Addr) (cap : Nat) (w : World) (sm : NdSm n) (hn : NdAt w w.heap.size n a) (h1 : clock.length ≤ cap) (h2 : cap ≤ maxLen) (h : Sl w w.heap.size 2 isLit A clock) :
    Calls Try.prog 111 #[ndV n a, .slice A clock.length cap] w fun r w' => r = .returned (.bool (cB (RightClk n clock))) ∧ Below w.heap.size w w' := by
  have rn1 := Row.new w (ndArr n a) 40
  have b1 : Below w.heap.size w (w.alloc (.cells (ndArr n a) 40)) := (by repeat (first | (with_reducible assumption) | (with_reducible exact Below.refl _ _) | (with_reducible refine Below.drew ?_) | (with_reducible refine below_drewN' ?_ _) | (with_reducible refine Below.alloc ?_ (by first | assumption | omega | (simp; omega) | simp | (simp [World.setCell]; omega) | simp [World.setCell]) _) | (with_reducible refine Below.setCell ?_ (by first | assumption | omega | (simp; omega) | simp | (simp [World.setCell]; omega) | simp [World.setCell]) _)))
  have HS : Hid (∀ W, Below w.heap.size w W → Sl W w.heap.size 2 isLit A clock) := fun W hW => lits_keep h (keeps_of hW) (Nat.le_refl _)
  have HO : Hid (∀ (nm : ByteArray) W, Below w.heap.size w W → Calls Try.prog 24 #[ndV n a, .string nm] W (OfRes n nm W)) := fun nm W hW => of_any n a nm W ((hn.below hW).more hW.size) sm
  have h2' : cap ≤ 9223372036854775807 := by unfold maxLen at h2; omega
  clear hn h sm
  go_enter Try.func111, Try.ntmps111
  go_upto_region 1 with (fail)
  generalize w.alloc (.cells (ndArr n a) 40) = W1 at *
  have hs1 := b1.size
  go_wp2_with fail
  go_loopw [11] (fun i wr => ∃ k : Nat, k ≤ clock.length ∧ i = .int .i64 k ∧ Hid (∀ j, j < k → ∀ x, clock[j]? = some x → clockOf n x.name = clock.take j) ∧ Below W1.heap.size W1 wr) (fun i _ => clock.length - (intOf i).toNat)
  case atStart => exact ⟨0, Nat.zero_le _, rfl, fun j h => absurd h (by omega), Below.refl _ _⟩
  case round =>
    obtain ⟨k, hk, rfl, HN, hbr⟩ := hrel
    have hszr := hbr.size
    have rn := rn1.below hbr rn1.lt
    have hB := b1.trans (hbr.mono hs1)
    have hsB := hB.size
    by_cases hlt : k < clock.length
    · obtain ⟨b, off, y, hA, hb, hy, ys, d0, d1⟩ := (HS.out wr hB).lit hlt
      subst hA
      have HY := Lib.hid hy
      have rl := Row.new wr #[.string y.name, .bool y.no] 68
      have ba : Below wr.heap.size wr (wr.alloc (.cells #[.string y.name, .bool y.no] 68)) := (by repeat (first | (with_reducible assumption) | (with_reducible exact Below.refl _ _) | (with_reducible refine Below.drew ?_) | (with_reducible refine below_drewN' ?_ _) | (with_reducible refine Below.alloc ?_ (by first | assumption | omega | (simp; omega) | simp | (simp [World.setCell]; omega) | simp [World.setCell]) _) | (with_reducible refine Below.setCell ?_ (by first | assumption | omega | (simp; omega) | simp | (simp [World.setCell]; omega) | simp [World.setCell]) _)))
      clear hy
      go_upto_region 4 with (fail)
      clear d0 d1
      generalize hW2 : wr.alloc (.cells #[.string y.name, .bool y.no] 68) = w2 at *
      clear hW2
      have hsa := ba.size
      have rn2 := rn.below ba rn.lt
      have hB2 := hB.trans (ba.mono hsB)
      have d0 := (rl.cell 0).trans rfl
      obtain ⟨c0, c1, cc2, c3, c4, c5, c6⟩ := rn2.nd
      go_wp2_with fail
      refine (HO.out y.name w2 hB2).mono ?_
      rintro r w3 ⟨⟨A3, cap3, rfl, l3, m3, s3⟩, hb3⟩
      have hB3 := hB2.trans (hb3.mono hB2.size)
      have hs3 := hb3.size
      have hsB3 := hB3.size
      have i0 : (0 : Int) ≤ (k : Int) := by omega
      have i1 : (k : Int) ≤ (cap : Int) := by omega
      have htk : (clock.take k).length = k := by rw [List.length_take]; omega
      have HE := Lib.hid (eqLits_any (clockOf n y.name) (clock.take k) A3 (some ⟨b, off, none⟩) cap3 cap w3.heap.size w3 l3 m3 s3 (by omega) h2 (lits_keep (lits_take (HS.out w3 hB3) k) (fun _ _ _ h => h) hsB3))
      rw [htk] at HE
      clear s3 htk
      go_wp2_with fail
      refine HE.out.mono ?_
      rintro r w4 ⟨rfl, nn, rfl⟩
      by_cases hq : clockOf n y.name = clock.take k
      · rw [cB_true hq]
        have HN' := Lib.hid (step_uptoI (P := fun j x => clockOf n x.name = clock.take j) HN.out HY.out hq)
        clear hq
        have b4 := below_drewN' ((hbr.trans (ba.mono hszr)).trans (hb3.mono (by omega))) nn
        go_wp2_with fail
        go_roundw
        case rel => exact ⟨k + 1, by omega, by go_num, HN', b4⟩
        case measure => first | (simp [intOf]; omega) | simp [intOf]
      · rw [cB_false hq]
        have HF : Hid (cB (RightClk n clock) = false) := cB_false (right_no HY.out hq)
        have b4 := below_drewN' hB3 nn
        clear hq
        go_wp2_with fail
        go_ret
        exact ⟨ret_bool HF.out.symm, b4⟩
    · obtain rfl : k = clock.length := by omega
      have HF : Hid (cB (RightClk n clock) = true) := cB_true (fun i l hi => HN.out i (List.getElem?_eq_some_iff.1 hi).1 l hi)
      go_wp2_with fail
      go_ret
      exact ⟨ret_bool HF.out.symm, hB⟩
set_option maxRecDepth 100000 in
set_option maxHeartbeats 1000000 in
theorem rright18_any (n : Nd) (a : NdA) (clock : List Lt) (A : Option Addr) (cap : Nat) (w : World) (sm : NdSm n) (hn : NdAt w w.heap.size n a) (h1 : clock.length ≤ cap) (h2 : cap ≤ maxLen) (h : Sl w w.heap.size 2 isLit A clock) (hv : ∀ c ∈ clock, c.name ∈ nms (vrs n)) :
    Calls Try.prog 83 #[ndV n a, .slice A clock.length cap] w fun r w' => r = .returned (.bool (cB (RightClk n clock))) ∧ Below w.heap.size w w' := by
  have rn1 := Row.new w (ndArr n a) 40
  have b1 : Below w.heap.size w (w.alloc (.cells (ndArr n a) 40)) := (by repeat (first | (with_reducible assumption) | (with_reducible exact Below.refl _ _) | (with_reducible refine Below.drew ?_) | (with_reducible refine below_drewN' ?_ _) | (with_reducible refine Below.alloc ?_ (by first | assumption | omega | (simp; omega) | simp | (simp [World.setCell]; omega) | simp [World.setCell]) _) | (with_reducible refine Below.setCell ?_ (by first | assumption | omega | (simp; omega) | simp | (simp [World.setCell]; omega) | simp [World.setCell]) _)))
  have HS : Hid (∀ W, Below w.heap.size w W → Sl W w.heap.size 2 isLit A clock) := fun W hW => lits_keep h (keeps_of hW) (Nat.le_refl _)
  have HO : Hid (∀ (nm : ByteArray) W, nm ∈ nms (vrs n) → Below w.heap.size w W → Calls Try.prog 27 #[ndV n a, .string nm] W fun e w' => (∃ v, e = .returned v ∧ LitsV w' (clockOf n nm) v) ∧ Below W.heap.size W w') := fun nm W hm hW => rof_any n a nm W ((hn.below hW).more hW.size) sm (var_mem.2 hm)
  have HV := Lib.hid hv
  have h2' : cap ≤ 9223372036854775807 := by unfold maxLen at h2; omega
  clear hn h sm hv
  go_enter Try.func83, Try.ntmps83
  go_upto_region 1 with (fail)
  generalize w.alloc (.cells (ndArr n a) 40) = W1 at *
  have hs1 := b1.size
  go_wp2_with fail
  go_loopw [5] (fun i wr => ∃ k : Nat, k ≤ clock.length ∧ i = .int .i64 k ∧ Hid (∀ j, j < k → ∀ x, clock[j]? = some x → clockOf n x.name = clock.take j) ∧ Below W1.heap.size W1 wr) (fun i _ => clock.length - (intOf i).toNat)
  case atStart => exact ⟨0, Nat.zero_le _, rfl, fun j h => absurd h (by omega), Below.refl _ _⟩
  case round =>
    obtain ⟨k, hk, rfl, HN, hbr⟩ := hrel
    have hszr := hbr.size
    have rn := rn1.below hbr rn1.lt
    have hB := b1.trans (hbr.mono hs1)
    have hsB := hB.size
    by_cases hlt : k < clock.length
    · obtain ⟨b, off, y, hA, hb, hy, ys, d0, d1⟩ := (HS.out wr hB).lit hlt
      subst hA
      have HY := Lib.hid hy
      have HVY := Lib.hid (HV.out y (List.mem_of_getElem? hy))
      obtain ⟨c0, c1, cc2, c3, c4, c5, c6⟩ := rn.nd
      have i0 : (0 : Int) ≤ (k : Int) := by omega
      have i1 : (k : Int) ≤ (cap : Int) := by omega
      have i2 : (k : Int) < (clock.length : Int) := by omega
      have htk : Hid ((clock.take k).length = k) := by show _ = _; rw [List.length_take]; omega
      have HE : Hid (∀ W A3 cap3 (nn : Nat), Below wr.heap.size wr W → (clockOf n y.name).length ≤ cap3 → cap3 ≤ maxLen → Sl W W.heap.size 2 isLit A3 (clockOf n y.name) → Calls Try.prog 26 #[.slice A3 (clockOf n y.name).length cap3, .slice (some ⟨b, off, none⟩) k cap] (W.drewN nn) fun e w' => e = .returned (.bool (cB (clockOf n y.name = clock.take k))) ∧ ∃ n, w' = (W.drewN nn).drewN n) := fun W A3 cap3 nn hW l3 m3 s3 => by
        have hWB := hB.trans (hW.mono hsB)
        have h := rlits_any (clockOf n y.name) (clock.take k) A3 (some ⟨b, off, none⟩) cap3 cap W.heap.size (W.drewN nn) l3 m3 s3 (by rw [htk.out]; omega) h2 (lits_keep (lits_take (HS.out W hWB) k) (fun _ _ _ h => h) hWB.size)
        rw [htk.out] at h
        exact h
      have HOY := Lib.hid (fun W (hW : Below wr.heap.size wr W) => HO.out y.name W HVY.out (hB.trans (hW.mono hsB)))
      clear hy
      have HCQ : Hid (∃ P : Bool, cB (clockOf n y.name = clock.take k) = P) := ⟨_, rfl⟩
      obtain ⟨P, HP⟩ : ∃ P : Bool, Hid (cB (clockOf n y.name = clock.take k) = P) := ⟨_, rfl⟩
      rw [HP.out] at HE
      have HK : Hid (∀ W, Below wr.heap.size wr W → (W.cell? ⟨w.heap.size, 0, none⟩ = some (.string n.name) ∧ W.cell? ⟨w.heap.size, 1, none⟩ = some (.slice a.ai n.ins.length a.ci) ∧ W.cell? ⟨w.heap.size, 2, none⟩ = some (.slice a.ao n.outs.length a.co) ∧ W.cell? ⟨w.heap.size, 3, none⟩ = some (.slice a.av n.vars.length a.cv) ∧ W.cell? ⟨w.heap.size, 4, none⟩ = some (.slice a.aq n.eqs.length a.cq) ∧ W.cell? ⟨w.heap.size, 5, none⟩ = some (.int .i64 n.line) ∧ W.cell? ⟨w.heap.size, 6, none⟩ = some (.int .i64 n.col)) ∧ W.cell? ⟨b, off + k * 2, none⟩ = some (.string y.name)) := fun W hW => ⟨(rn.below hW rn.lt).nd, old_cell hW d0⟩
      go_upto_region 4 with (fail)
      go_cut [23] (fun v23 W => v23 = .bool (!P) ∧ Below wr.heap.size wr W)
      case first =>
        go_region_held3 (fun W => (W.cell? ⟨w.heap.size, 0, none⟩ = some (.string n.name) ∧ W.cell? ⟨w.heap.size, 1, none⟩ = some (.slice a.ai n.ins.length a.ci) ∧ W.cell? ⟨w.heap.size, 2, none⟩ = some (.slice a.ao n.outs.length a.co) ∧ W.cell? ⟨w.heap.size, 3, none⟩ = some (.slice a.av n.vars.length a.cv) ∧ W.cell? ⟨w.heap.size, 4, none⟩ = some (.slice a.aq n.eqs.length a.cq) ∧ W.cell? ⟨w.heap.size, 5, none⟩ = some (.int .i64 n.line) ∧ W.cell? ⟨w.heap.size, 6, none⟩ = some (.int .i64 n.col)) ∧ W.cell? ⟨b, off + k * 2, none⟩ = some (.string y.name)) (first | (with_reducible exact HK.out _ (by repeat (first | (with_reducible assumption) | (with_reducible exact Below.refl _ _) | (with_reducible refine Below.drew ?_) | (with_reducible refine below_drewN' ?_ _) | (with_reducible refine Below.alloc ?_ (by first | assumption | omega | (simp; omega) | simp | (simp [World.setCell]; omega) | simp [World.setCell]) _) | (with_reducible refine Below.setCell ?_ (by first | assumption | omega | (simp; omega) | simp | (simp [World.setCell]; omega) | simp [World.setCell]) _)))) | go_keep)
          (first
            | ((go_at_call 27); (refine (HOY.out _ (by repeat (first | (with_reducible assumption) | (with_reducible exact Below.refl _ _) | (with_reducible refine Below.drew ?_) | (with_reducible refine below_drewN' ?_ _) | (with_reducible refine Below.alloc ?_ (by first | assumption | omega | (simp; omega) | simp | (simp [World.setCell]; omega) | simp [World.setCell]) _) | (with_reducible refine Below.setCell ?_ (by first | assumption | omega | (simp; omega) | simp | (simp [World.setCell]; omega) | simp [World.setCell]) _)))).mono ?_); rintro e w3 ⟨⟨v3, rfl, A3, cap3, rfl, l3, m3, s3⟩, hb3⟩; (have hb4 : Below wr.heap.size wr w3 := Below.trans (by repeat (first | (with_reducible assumption) | (with_reducible exact Below.refl _ _) | (with_reducible refine Below.drew ?_) | (with_reducible refine below_drewN' ?_ _) | (with_reducible refine Below.alloc ?_ (by first | assumption | omega | (simp; omega) | simp | (simp [World.setCell]; omega) | simp [World.setCell]) _) | (with_reducible refine Below.setCell ?_ (by first | assumption | omega | (simp; omega) | simp | (simp [World.setCell]; omega) | simp [World.setCell]) _))) (hb3.mono (by first | exact Nat.le_refl _ | simp | (simp; omega) | omega))); (have s3 := Lib.hid s3); clear hb3)
            | ((go_at_call 26); (refine (by first | exact HE.out w3 A3 cap3 0 hb4 l3 m3 s3.out | exact HE.out w3 A3 cap3 1 hb4 l3 m3 s3.out : Calls _ _ _ _ _).mono ?_); rintro e w4 ⟨rfl, nn, rfl⟩))
        all_goals
          go_wp2_with fail
          go_meet
          exact ⟨by first | rfl | (cases P <;> rfl), (by repeat (first | (with_reducible assumption) | (with_reducible exact Below.refl _ _) | (with_reducible refine Below.drew ?_) | (with_reducible refine below_drewN' ?_ _) | (with_reducible refine Below.alloc ?_ (by first | assumption | omega | (simp; omega) | simp | (simp [World.setCell]; omega) | simp [World.setCell]) _) | (with_reducible refine Below.setCell ?_ (by first | assumption | omega | (simp; omega) | simp | (simp [World.setCell]; omega) | simp [World.setCell]) _)))⟩
      case rest =>
        obtain ⟨rfl, hbc⟩ := hcut
        cases P
        · have hq : clockOf n y.name ≠ clock.take k := cB_not.1 HP.out
          have HF : Hid (cB (RightClk n clock) = false) := cB_false (right_no HY.out hq)
          have b4 := hB.trans (hbc.mono hsB)
          clear hq
          go_wp2_with fail
          go_ret
          exact ⟨ret_bool HF.out.symm, b4⟩
        · have hq := cB_iff.1 HP.out
          have HN' := Lib.hid (step_uptoI (P := fun j x => clockOf n x.name = clock.take j) HN.out HY.out hq)
          clear hq
          go_wp2_with fail
          go_roundw
          case rel => exact ⟨k + 1, by omega, by go_num, HN', hbr.trans (hbc.mono hszr)⟩
          case measure => first | (simp [intOf]; omega) | simp [intOf]
    · obtain rfl : k = clock.length := by omega
      have HF : Hid (cB (RightClk n clock) = true) := cB_true (fun i l hi => HN.out i (List.getElem?_eq_some_iff.1 hi).1 l hi)
      go_wp2_with fail
      go_ret
      exact ⟨ret_bool HF.out.symm, hB⟩
end Go.Proofs.Ytolabbnchmmckaa
