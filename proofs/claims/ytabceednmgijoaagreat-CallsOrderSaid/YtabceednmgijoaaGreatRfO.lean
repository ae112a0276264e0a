/-
  An order of nodes, by the document: the contract of tompionref17.Order.
-/
import Derived.Test.YtabceednmgijoaaGreatRfU
import Derived.Test.YtabceednmgijoaaGreatCalE
namespace Go.Proofs.YtabceednmgijoaaGreat
open Go.RowKit
attribute [local go_sem ↓] Go.wp_at_zero Go.wp_at_succ
/-- is a name ready, as far as so many have been looked at -/
def RdG (nm : ByteArray) (U row : List ByteArray) (j : Nat) (P : Bool) : Prop := P = true ↔ nm ∉ row ∧ ∀ y ∈ U.take j, y ∈ row
theorem rg_start {nm : ByteArray} {U row : List ByteArray} {P : Bool} (h : cB (nm ∈ row) = P) : RdG nm U row 0 (!P) := by
  unfold RdG
  cases P
  · simp [cB_not.1 h]
  · simp [cB_iff.1 h]
theorem rg_no {nm : ByteArray} {U row : List ByteArray} {j : Nat} {x : ByteArray} (h : RdG nm U row j false) (hx : U[j]? = some x) : RdG nm U row (j + 1) false := by
  unfold RdG at *
  refine ⟨(fun g => by cases g), fun g => h.2 ⟨g.1, fun y hy => g.2 y ?_⟩⟩
  obtain ⟨h1, h2⟩ := List.getElem?_eq_some_iff.1 hx
  rw [List.take_succ_eq_append_getElem h1]
  exact List.mem_append_left _ hy
theorem rg_yes {nm : ByteArray} {U row : List ByteArray} {j : Nat} {x : ByteArray} {P : Bool} (h : RdG nm U row j true) (hx : U[j]? = some x) (hP : cB (x ∈ row) = P) : RdG nm U row (j + 1) P := by
  unfold RdG at *
  obtain ⟨h1, h2⟩ := List.getElem?_eq_some_iff.1 hx
  rw [List.take_succ_eq_append_getElem h1, h2]
  obtain ⟨g1, g2⟩ := h.1 rfl
  cases P
  · refine ⟨(fun g => by cases g), fun g => absurd (g.2 x (by simp)) (cB_not.1 hP)⟩
  · refine ⟨fun _ => ⟨g1, fun y hy => ?_⟩, fun _ => rfl⟩
    rcases List.mem_append.1 hy with hy | hy
    · exact g2 y hy
    · rw [List.mem_singleton.1 hy]; exact cB_iff.1 hP
theorem rg_end {n : Nd} {row : List ByteArray} {P : Bool} (h : RdG n.name (usesF n) row (usesF n).length P) : (P = true → Ready row n) ∧ (P = false → ¬ Ready row n) := by
  unfold RdG at h
  rw [List.take_length] at h
  exact ⟨fun g => h.1 g, fun g r => by rw [h.2 r] at g; cases g⟩
set_option maxRecDepth 100000 in
set_option maxHeartbeats 1000000 in
theorem rorder_any (s : List Nd) (A : Option Addr) (cap : Nat) (w : World) (hc : (callsF s).err = 0) (sm : SrcSm s) (_h1 : s.length ≤ cap) (h2 : cap ≤ maxLen) (h : Nds w w.heap.size A s) :
    Calls Tryz.prog 17 #[srcV s A cap] w fun r w' => (∃ v, r = .returned v ∧ SlV w' w'.heap.size 1 isStr v (orderF s)) ∧ Below w.heap.size w w' := by
  have rs1 := Row.new w #[.slice A s.length cap] 24
  have b1 : Below w.heap.size w (w.alloc (.cells #[.slice A s.length cap] 24)) := bE
  have HS : Hid (∀ W, Below w.heap.size w W → Nds W w.heap.size A s) := fun W hW => nds_keep h (keeps_of hW) (Nat.le_refl _)
  have HSM := Lib.hid sm
  have HC := Lib.hid hc
  have HNZ : Hid (∀ k, k ≤ s.length → ∀ x ∈ ordTo s k, x.size ≤ maxLen) := fun k hk x hx => by
    obtain ⟨n, hn, rfl⟩ := List.mem_map.1 ((ord_in hc k hk).2.1 x hx)
    have := (sm.all n hn).name
    unfold maxLen; omega
  have hsl := sm.len
  have h2' : cap ≤ 9223372036854775807 := by unfold maxLen at h2; omega
  clear h sm hc
  go_enter Tryz.func17, Tryz.ntmps17
  go_upto_region 1 with (fail)
  generalize w.alloc (.cells #[.slice A s.length cap] 24) = W1 at *
  have hs1 := b1.size
  go_wp2_with fail
  go_loopw [3] (fun o wr => ∃ i : Nat, i ≤ s.length ∧ wr.ownsRow W1.heap.size 9 1 o i ((ordTo s i).map Value.string) ∧ Below W1.heap.size W1 wr) (fun o _ => s.length - sliceLen o)
  case atStart => exact ⟨0, Nat.zero_le _, World.ownsRow_nil _ _ _ _, Below.refl _ _⟩
  case round =>
    obtain ⟨i, hi, hown, hb2⟩ := hrel
    have hB2 := b1.trans (hb2.mono hs1)
    have hs2 := hB2.size
    have hs12 := hb2.size
    have rs2 := rs1.below hb2 rs1.lt
    have c0 := rs2.src
    have HOL := Lib.hid (ord_len HC.out i hi)
    obtain ⟨Ao, co, rfl, g1, g2, _⟩ := own_rd hown
    by_cases hlt : i < s.length
    rotate_left 1
    · obtain rfl : i = s.length := by omega
      go_wp2_with fail
      go_ret
      exact ⟨⟨_, rfl, own_strs hown (HNZ.out _ (Nat.le_refl _))⟩, hB2⟩
    have i0 : (i : Int) < (s.length : Int) := by omega
    obtain ⟨w2, rfl⟩ : ∃ w2 : World, w2 = wr := ⟨_, rfl⟩
    go_wp2_with fail
    clear c0
    go_loopw [4] (fun t wr => ∃ k : Nat, k ≤ s.length ∧ t = .int .i64 k ∧ Hid (∀ m, m < k → ∀ x, s[m]? = some x → ¬ Ready (ordTo s i) x) ∧ Below w2.heap.size w2 wr) (fun t _ => s.length - (intOf t).toNat)
    case atStart => exact ⟨0, Nat.zero_le _, rfl, fun j h => absurd h (by omega), Below.refl _ _⟩
    case round =>
      obtain ⟨k, hk, rfl, HN, hb3⟩ := hrel
      by_cases hlk : k < s.length
      rotate_left 1
      · obtain rfl : k = s.length := by omega
        exact (no_pick HC.out hlt HN.out).elim
      have hs23 := hb3.size
      have hB3 := hB2.trans (hb3.mono hs2)
      have hs3 := hB3.size
      have rs3 := rs2.below hb3 rs2.lt
      have c0 := rs3.src
      obtain ⟨b, off, n, a, hA, hb, hn, hat, d0, d1, d2, d3, d4, d5, d6⟩ := (HS.out wr hB3).nd hlk
      subst hA
      have HX := Lib.hid hn
      have HNS := Lib.hid (HSM.out.all n (List.mem_of_getElem? hn))
      have HAW : Hid (∀ W, Below wr.heap.size wr W → NdAt W W.heap.size n a) := fun W hW => (hat.below (hW.mono hs3)).more (Nat.le_trans hs3 hW.size)
      have HD0 := Lib.hid d0
      have j0 : (0 : Int) ≤ (k : Int) := by omega
      have j1 : (k : Int) < (s.length : Int) := by omega
      have rn1 := Row.new wr (ndArr n a) 36
      have ba : Below wr.heap.size wr (wr.alloc (.cells (ndArr n a) 36)) := bE
      clear hn hat
      go_upto_region 6 with (fail)
      clear d0 d1 d2 d3 d4 d5 d6 c0
      generalize hW4 : wr.alloc (.cells (ndArr n a) 36) = w4 at *
      clear hW4
      have hsa := ba.size
      have hb4 := hb3.trans (ba.mono hs23)
      have hs4 := hb4.size
      have hown4 := own_below hown hb4
      obtain ⟨Ar, cr, ho, t1, t2, t3⟩ := own_strs hown4 (HNZ.out i hi)
      obtain ⟨rfl, rfl⟩ : Ao = Ar ∧ co = cr := by
        injection ho with h1 h2 h3
        exact ⟨h1, h3⟩
      rw [HOL.out] at t1
      have HIN : Hid (∀ W y, Below w4.heap.size w4 W → Calls Tryz.prog 35 #[.slice Ao i co, .string y] W fun e w' => e = .returned (.bool (cB (y ∈ ordTo s i))) ∧ W = w') := fun W y hW => by
        have h := in_str (ordTo s i) y Ao co w4.heap.size W (by rw [HOL.out]; exact t1) t2 (t3.below hW)
        rwa [HOL.out] at h
      obtain ⟨P0, HP0⟩ : ∃ P : Bool, Hid (cB (n.name ∈ ordTo s i) = P) := ⟨_, rfl⟩
      have H1 := Lib.hid (HIN.out w4 n.name (Below.refl _ _))
      rw [HP0.out] at H1
      have H2 := Lib.hid (ruses_any n a w4 HNS.out (HAW.out w4 ba))
      obtain ⟨d0, d1, d2, d3, d4, d5, d6⟩ := rn1.nd
      clear t3 ho
      obtain ⟨w3, rfl⟩ : ∃ w3 : World, w3 = wr := ⟨_, rfl⟩
      go_wp2_with fail
      refine H1.out.mono ?_
      rintro r w5 ⟨rfl, rfl⟩
      go_wp2_with fail
      refine H2.out.mono ?_
      rintro r w5 ⟨⟨v5, rfl, hv5⟩, hb5⟩
      obtain ⟨A5, c5, rfl, u1, u2, u3⟩ := hv5
      have HU : Hid (∀ W, Below w5.heap.size w5 W → Sl W w5.heap.size 1 isStr A5 (usesF n)) := fun W hW => u3.below hW
      have u2' : c5 ≤ 9223372036854775807 := by unfold maxLen at u2; omega
      clear d0 d1 d2 d3 d4 d5 d6 H1 H2 u3
      go_wp2_with fail
      go_loopw [6, 8] (fun t v wr => ∃ (j : Nat) (P : Bool), j ≤ (usesF n).length ∧ v = .int .i64 j ∧ t = .bool P ∧ Hid (RdG n.name (usesF n) (ordTo s i) j P) ∧ Below w5.heap.size w5 wr) (fun _ v _ => (usesF n).length - (intOf v).toNat)
      case atStart => exact ⟨0, !P0, Nat.zero_le _, rfl, rfl, rg_start HP0.out, Below.refl _ _⟩
      case round =>
        obtain ⟨j, P, hj, rfl, rfl, HRD, hb6⟩ := hrel
        have hb46 := hb5.trans (hb6.mono hb5.size)
        have hb26 := hb4.trans (hb46.mono hs4)
        by_cases hlj : j < (usesF n).length
        rotate_left 1
        · obtain rfl : j = (usesF n).length := by omega
          have HST := Lib.hid (rg_end HRD.out)
          cases P
          · have HNR := Lib.hid (HST.out.2 rfl)
            have HN' := Lib.hid (step_uptoI (P := fun _ x => ¬ Ready (ordTo s i) x) HN.out HX.out HNR.out)
            go_wp2_with fail
            go_round
            case rel => exact ⟨k + 1, by omega, by go_num, HN', hb26⟩
            case measure => first | (simp [intOf]; omega) | simp [intOf]
          · have HPK := Lib.hid (pick_at HN.out HX.out (HST.out.1 rfl))
            have hown6 := own_below hown hb26
            have hB6 := hB2.trans (hb26.mono hs2)
            have rs6 := rs2.below hb26 rs2.lt
            have c0 := rs6.src
            have d0 := old_cell ((ba.trans (hb46.mono hsa))) HD0.out
            have hs26 := hb26.size
            have n1 : ((k : Int) == (s.length : Int)) = false := by rw [beq_eq_false_iff_ne]; omega
            go_wp2_with (at_builtin; refine wpList_append_str rfl _ _ rfl W1.heap.size (ordTo s i) i _ rfl (hown6.alloc _) HOL.out.symm wr.heap.size n.name rfl (((Row.new wr #[.string n.name] 9).cell 0).trans rfl) (by rw [HOL.out]; omega) (by first | omega | (simp; omega)) ?_; intro v13 w13 o13 g13)
            have hb13 : Below W1.heap.size W1 w13 := ((hb2.trans (hb26.mono hs12)).alloc (by omega) (.cells #[.string n.name] 9)).grown g13 (by simp; omega) (fun k e => (hown6.lt _ e).1)
            rw [← ordTo_succ HPK.out] at o13
            rw [ord_len HC.out (i + 1) (by omega)] at o13
            obtain ⟨A13, c13, rfl, _, _, _⟩ := own_rd o13
            go_round
            case rel => exact ⟨i + 1, by omega, o13, hb13⟩
            case measure => simp [sliceLen]; omega
        obtain ⟨b2, off2, y, hA2, hb2', hy, hsy, e2⟩ := (HU.out wr hb6).str hlj
        subst hA2
        have HY := Lib.hid hy
        have i6 : (0 : Int) ≤ (j : Int) := by omega
        have i7 : (j : Int) < ((usesF n).length : Int) := by omega
        clear hy
        cases P
        · have HRD' := Lib.hid (rg_no HRD.out HY.out)
          go_wp2_with fail
          go_roundw
          case rel => exact ⟨j + 1, false, by omega, by go_num, rfl, HRD', hb6⟩
          case measure => first | (simp [intOf]; omega) | simp [intOf]
        · obtain ⟨P2, HP2⟩ : ∃ P : Bool, Hid (cB (y ∈ ordTo s i) = P) := ⟨_, rfl⟩
          have HRD' := Lib.hid (rg_yes HRD.out HY.out HP2.out)
          have H3 := Lib.hid (HIN.out wr y hb46)
          rw [HP2.out] at H3
          go_wp2_with fail
          refine H3.out.mono ?_
          rintro e w13 ⟨rfl, rfl⟩
          go_wp2_with fail
          go_roundw
          case rel => exact ⟨j + 1, P2, by omega, by go_num, rfl, HRD', hb6⟩
          case measure => first | (simp [intOf]; omega) | simp [intOf]
end Go.Proofs.YtabceednmgijoaaGreat
