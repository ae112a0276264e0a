/-
  The names of nodes: the contract of scope.names. Where a name is defined: the contracts of Define.
-/
import Derived.Test.YtabceednmgijoaaGreatScE
import Derived.Deep.RegionHeld3
namespace Go.Proofs.YtabceednmgijoaaGreat
open Go.RowKit
attribute [local go_sem ↓] Go.wp_at_zero Go.wp_at_succ
theorem take_name {s : List Nd} {k : Nat} {nm : ByteArray} : nm ∈ (s.take k).map Nd.name ↔ nm ∈ (s.map Nd.name).take k := by rw [List.map_take]
set_option maxRecDepth 100000 in
set_option maxHeartbeats 1000000 in
theorem names_scope (s : List Nd) (A : Option Addr) (cap : Nat) (w : World) (h1 : s.length ≤ cap) (h2 : cap ≤ maxLen) (h : Nds w w.heap.size A s) :
    Calls Tryz.prog 44 #[srcV s A cap] w fun r w' => r = .returned (ftV (fstL (nameF s) s)) ∧ Below w.heap.size w w' := by
  have rf1 := rowNew2 w (.cells #[.slice A s.length cap] 24) ftC0 31
  have rs1 := (Row.new w #[.slice A s.length cap] 24).alloc (.cells ftC0 31)
  have b1 : Below w.heap.size w ((w.alloc (.cells #[.slice A s.length cap] 24)).alloc (.cells ftC0 31)) := bE
  have HS := Lib.hid (nds_keep h (keeps_of b1) (Nat.le_refl _))
  have h2' : cap ≤ 9223372036854775807 := by unfold maxLen at h2; omega
  clear h
  go_enter Tryz.func44, Tryz.ntmps44
  go_upto_region 1 with (fail)
  generalize (w.alloc (.cells #[.slice A s.length cap] 24)).alloc (.cells ftC0 31) = W1 at *
  have hs1 := b1.size
  have l1 := rf1.lt
  have c0 := rs1.src
  go_wp2_with fail
  clear c0
  go_loopw [10] (fun i wr => ∃ k : Nat, k ≤ s.length ∧ i = .int .i64 k ∧ Hid (∀ j, j < k → ∀ x, s[j]? = some x → (nameF s j x).err = 0) ∧ Below W1.heap.size W1 wr) (fun i _ => s.length - (intOf i).toNat)
  case atStart => exact ⟨0, Nat.zero_le _, rfl, fun j h => absurd h (by omega), Below.refl _ _⟩
  case round =>
    obtain ⟨k, hk, rfl, HN, hbr⟩ := hrel
    have hszr := hbr.size
    have rr := rf1.below hbr l1
    have rs := rs1.below hbr rs1.lt
    have lr := rr.lt
    have hB := b1.trans (hbr.mono hs1)
    have c0 := rs.src
    by_cases hlt : k < s.length
    · obtain ⟨b, off, n, a, hA, hb, hn, hat, d0, d1, d2, d3, d4, d5, d6⟩ := (nds_keep HS.out (keeps_of (hbr.mono hs1)) (Nat.le_refl _)).nd hlt
      subst hA
      have HX := Lib.hid hn
      clear hn hat
      have rn := Row.new wr (ndArr n a) 36
      have ba : Below wr.heap.size wr (wr.alloc (.cells (ndArr n a) 36)) := bE
      have rs2 := rs.below ba rs.lt
      have rr2 := rr.below ba rr.lt
      have hB2 := hB.trans (ba.mono (by omega))
      have hbr2 := hbr.trans (ba.mono hszr)
      have HNS : Hid (∀ W, Below wr.heap.size wr W → Nds W W.heap.size (some ⟨b, off, none⟩) (s.take k)) := fun W hW => (nds_keep (HS.out) (keeps_of ((hbr.mono hs1).trans (hW.mono (by omega)))) (by have := hW.size; omega)).take k
      go_upto_region 4 with (fail)
      generalize hW2 : wr.alloc (.cells (ndArr n a) 36) = W2 at *
      clear hW2
      clear d0 d1 d2 d3 d4 d5 d6 c0
      have hs2 := ba.size
      have hmk : (s.take k).length = k := by rw [List.length_take]; omega
      have HMK := Lib.hid hmk
      clear hmk
      obtain ⟨d0, d1, d2, d3, d4, d5, d6⟩ := rn.nd
      have c0 := rs2.src
      have i0 : (0 : Int) ≤ (k : Int) := by omega
      have i1 : (k : Int) ≤ (cap : Int) := by omega
      have hne1 : w.heap.size ≠ W2.heap.size := by have := rs2.lt; omega
      have hne2 : wr.heap.size ≠ W2.heap.size := by have := rn.lt; omega
      by_cases hP : n.name ∈ (s.map Nd.name).take k
      · have HC := Lib.hid (cB_true (take_name.2 hP))
        have HF : Hid (fstL (nameF s) s = ⟨23, n.line, n.col⟩) := by
          have e : nameF s k n = ⟨23, n.line, n.col⟩ := by unfold nameF; rw [if_pos hP]
          show _ = _
          rw [← e]
          exact fstL_stop HN.out HX.out (by rw [e]; show (23 : Int) ≠ 0; decide)
        clear hP
        go_cut [6] (fun v6 W => v6 = .bool true ∧ Below W2.heap.size W2 W)
        case first =>
          go_region_held3 (fun W => W.cell? ⟨w.heap.size, 0, none⟩ = some (.slice (some ⟨b, off, none⟩) s.length cap) ∧ W.cell? ⟨wr.heap.size, 0, none⟩ = some (.string n.name)) (first | (with_reducible exact kk) | (with_reducible exact ⟨(rs3.far7 hne1 _ _ _ _ _ _ _).src, (rn3.far7 hne2 _ _ _ _ _ _ _).nd.1⟩) | go_keep)
            (first | ((go_at_call 50); (refine (find_any (s.take k) k (some ⟨b, off, none⟩) cap n.name _ HMK.out (by omega) h2 (HNS.out _ (ba.trans (Below.mono (B := W2.heap.size) bE hs2)))).mono ?_); rintro e w3 ⟨⟨n', a', rfl, hyes, hno⟩, hb3⟩; (rw [HC.out]); (try (have r5 : Row w3 W2.heap.size ndZ 36 := (by first | (with_reducible exact Row.below (Row.drew (Row.new W2 ndZ 36)) hb3 (by simp)) | (with_reducible exact Row.below (Row.new W2.drew ndZ 36) hb3 (by simp))); obtain ⟨⟨x0, x1, x2, x3, x4, x5, x6⟩, g0, g1, g2, g3, g4, g5, g6⟩ := r5.seven)); (have hb5 : Below W2.heap.size W2 w3 := Below.trans bE (hb3.mono lE)); (have rs3 := rs2.below hb5 rs2.lt); (have rn3 := rn.below hb5 rn.lt); (have hb4 : Below W2.heap.size W2 w3 := Below.trans bE (hb3.mono lE)); (have hs4 := hb4.size); (have kk : (fun W => W.cell? ⟨w.heap.size, 0, none⟩ = some (.slice (some ⟨b, off, none⟩) s.length cap) ∧ W.cell? ⟨wr.heap.size, 0, none⟩ = some (.string n.name)) w3 := ⟨rs3.src, rn3.nd.1⟩)))
          all_goals
            go_wp2_with fail
            go_meet
            exact ⟨rfl, bE⟩
        case rest =>
          obtain ⟨rfl, hbc⟩ := hcut
          have rn3 := rn.below hbc rn.lt
          have rr3 := rr2.below hbc rr2.lt
          have b3 := hB2.trans (hbc.mono (Below.size hB2))
          clear d0 d1 d2 d3 d4 d5 d6 c0
          obtain ⟨y0, y1, y2, y3, y4, y5, y6⟩ := rn3.nd
          go_wp2_with fail
          refine (fault_any _ _ _ _).mono ?_
          rintro r w9 ⟨rfl, hb9⟩
          have q9 : Below wc.heap.size wc w9 := Below.trans bE (hb9.mono lE)
          have rf9 := rr3.below q9 rr3.lt
          have b9 := Below.trans b3 (q9.mono (Below.size b3))
          obtain ⟨⟨k0, k1, k2⟩, h0, h1, h2⟩ := rf9.three
          go_wp2_with fail
          exact bodyPost_ret (res1 rfl Tryz.underlying31 rfl (by kernel_rfl) rfl (rf9.set3 _ _ _)) rfl ⟨(congrArg (fun f => Ending.returned (ftV f)) HF.out).symm, below_set3 b9 (by first | omega | (simp; omega) | simp) _ _ _⟩
      · have HC := Lib.hid (cB_false (fun g => hP (take_name.1 g)))
        have HN' := Lib.hid (step_uptoI (P := fun j x => (nameF s j x).err = 0) HN.out HX.out (by unfold nameF; rw [if_neg hP]))
        clear hP
        go_cut [6] (fun v6 W => v6 = .bool false ∧ Below W2.heap.size W2 W)
        case first =>
          go_region_held3 (fun W => W.cell? ⟨w.heap.size, 0, none⟩ = some (.slice (some ⟨b, off, none⟩) s.length cap) ∧ W.cell? ⟨wr.heap.size, 0, none⟩ = some (.string n.name)) (first | (with_reducible exact kk) | (with_reducible exact ⟨(rs3.far7 hne1 _ _ _ _ _ _ _).src, (rn3.far7 hne2 _ _ _ _ _ _ _).nd.1⟩) | go_keep)
            (first | ((go_at_call 50); (refine (find_any (s.take k) k (some ⟨b, off, none⟩) cap n.name _ HMK.out (by omega) h2 (HNS.out _ (ba.trans (Below.mono (B := W2.heap.size) bE hs2)))).mono ?_); rintro e w3 ⟨⟨n', a', rfl, hyes, hno⟩, hb3⟩; (rw [HC.out]); (try (have r5 : Row w3 W2.heap.size ndZ 36 := (by first | (with_reducible exact Row.below (Row.drew (Row.new W2 ndZ 36)) hb3 (by simp)) | (with_reducible exact Row.below (Row.new W2.drew ndZ 36) hb3 (by simp))); obtain ⟨⟨x0, x1, x2, x3, x4, x5, x6⟩, g0, g1, g2, g3, g4, g5, g6⟩ := r5.seven)); (have hb5 : Below W2.heap.size W2 w3 := Below.trans bE (hb3.mono lE)); (have rs3 := rs2.below hb5 rs2.lt); (have rn3 := rn.below hb5 rn.lt); (have hb4 : Below W2.heap.size W2 w3 := Below.trans bE (hb3.mono lE)); (have hs4 := hb4.size); (have kk : (fun W => W.cell? ⟨w.heap.size, 0, none⟩ = some (.slice (some ⟨b, off, none⟩) s.length cap) ∧ W.cell? ⟨wr.heap.size, 0, none⟩ = some (.string n.name)) w3 := ⟨rs3.src, rn3.nd.1⟩)))
          all_goals
            go_wp2_with fail
            go_meet
            exact ⟨rfl, bE⟩
        case rest =>
          obtain ⟨rfl, hbc⟩ := hcut
          go_wp2_with fail
          go_roundw
          case rel => exact ⟨k + 1, by omega, by go_num, HN', hbr2.trans (hbc.mono (Below.size hbr2))⟩
          case measure => first | (simp [intOf]; omega) | simp [intOf]
    · obtain rfl : k = s.length := by omega
      have HF := Lib.hid (fstL_end HN.out)
      obtain ⟨⟨k0, k1, k2⟩, h0, h1, h2⟩ := rr.three
      go_wp2_with fail
      exact bodyPost_ret (res1 rfl Tryz.underlying31 rfl (by kernel_rfl) rfl (rr.set3 _ _ _)) rfl ⟨(congrArg (fun f => Ending.returned (ftV f)) HF.out).symm, below_set3 hB (by first | omega | (simp; omega) | simp) _ _ _⟩
end Go.Proofs.YtabceednmgijoaaGreat
namespace Go.Proofs.YtabceednmgijoaaGreat
open Go.RowKit
attribute [local go_sem ↓] Go.wp_at_zero Go.wp_at_succ
/-- where a name is defined -/
def DefZ (n : Nd) (nm : ByteArray) (a b : Int) : Prop := (∃ i k : Nat, a = i ∧ b = k ∧ DefAt n nm i k) ∨ (a = -1 ∧ b = -1 ∧ NoDef n nm)
set_option maxRecDepth 100000 in
set_option maxHeartbeats 1000000 in
theorem rdefine_any (n : Nd) (a : NdA) (nm : ByteArray) (w : World) (h : NdAt w w.heap.size n a) :
    Calls Tryz.prog 76 #[ndV n a, .string nm] w fun r w' => (∃ x y : Int, r = .returned (.tuple #[.int .i64 x, .int .i64 y]) ∧ Hid (DefZ n nm x y)) ∧ Below w.heap.size w w' := by
  have r1 := Row.new w (ndArr n a) 36
  have b1 : Below w.heap.size w (w.alloc (.cells (ndArr n a) 36)) := bE
  have HQ := Lib.hid (h.below b1).sq
  have hq2 := h.mq
  have hq1 := h.lq
  have hq2' : a.cq ≤ 9223372036854775807 := by unfold maxLen at hq2; omega
  clear h
  go_enter Tryz.func76, Tryz.ntmps76
  go_upto_region 1 with (fail)
  generalize w.alloc (.cells (ndArr n a) 36) = W1 at *
  obtain ⟨c0, c1, c2, c3, c4, c5, c6⟩ := r1.nd
  go_wp2_with fail
  go_loop [6] (fun i => ∃ k : Nat, k ≤ n.eqs.length ∧ i = .int .i64 k ∧ Hid (∀ j, j < k → ∀ q, n.eqs[j]? = some q → nm ∉ q.left)) (fun i => n.eqs.length - (intOf i).toNat)
  case atStart => exact ⟨0, Nat.zero_le _, rfl, fun j h => absurd h (by omega)⟩
  case round =>
    obtain ⟨k, hk, rfl, HN⟩ := hrel
    by_cases hlt : k < n.eqs.length
    · obtain ⟨b, off, q, A1, k1, A2, k2, haq, hb, hq, ok, lq1, mq1, sl1, lq2, mq2, sl2, d0, d1, d2, d3, d4, d5, d6, d7, d8⟩ := HQ.out.eqn hlt
      have HX := Lib.hid hq
      have HS1 := Lib.hid sl1
      rw [haq] at c4
      have HAQ := Lib.hid haq
      have mq1' : k1 ≤ 9223372036854775807 := by unfold maxLen at mq1; omega
      clear hq ok sl1 sl2 haq lq2 mq2
      go_wp2_with fail
      go_loop [7] (fun i => ∃ j : Nat, j ≤ q.left.length ∧ i = .int .i64 j ∧ Hid (∀ i, i < j → ∀ x, q.left[i]? = some x → x ≠ nm)) (fun i => q.left.length - (intOf i).toNat)
      case atStart => exact ⟨0, Nat.zero_le _, rfl, fun j h => absurd h (by omega)⟩
      case round =>
        obtain ⟨j, hj, rfl, HJ⟩ := hrel
        by_cases hlj : j < q.left.length
        · obtain ⟨b', off', y, rfl, hb', hy, ys, f0⟩ := HS1.out.str hlj
          have HY := Lib.hid hy
          clear hy
          by_cases e : y = nm
          · have e1 := beq_yes e
            have HF : Hid (DefZ n nm k j) := .inl ⟨k, j, rfl, rfl, q, HX.out, by rw [HY.out, e], HN.out, HJ.out⟩
            clear e
            go_wp2_with fail
            go_ret2
            exact ⟨⟨_, _, rfl, HF⟩, b1⟩
          · have e1 := beq_no e
            have HJ' := Lib.hid (step_upto (P := fun x : ByteArray => x ≠ nm) HJ.out HY.out e)
            clear e
            go_wp2_with fail
            go_round
            case rel => exact ⟨j + 1, by omega, by go_num, HJ'⟩
            case measure => first | (simp [intOf]; omega) | simp [intOf]
        · obtain rfl : j = q.left.length := by omega
          have HN' : Hid (∀ j, j < k + 1 → ∀ q, n.eqs[j]? = some q → nm ∉ q.left) := step_upto (P := fun q : Eqn => nm ∉ q.left) HN.out HX.out (fun g => by
            obtain ⟨i, hi⟩ := List.getElem?_of_mem g
            exact HJ.out i (List.getElem?_eq_some_iff.1 hi).1 nm hi rfl)
          go_wp2_with fail
          go_round
          case rel => exact ⟨k + 1, by omega, by go_num, HN'⟩
          case measure => first | (simp [intOf]; omega) | simp [intOf]
    · obtain rfl : k = n.eqs.length := by omega
      have HF : Hid (DefZ n nm (-1) (-1)) := .inr ⟨rfl, rfl, mem_upto HN.out⟩
      go_wp2_with fail
      go_ret2
      exact ⟨⟨_, _, rfl, HF⟩, b1⟩
set_option maxRecDepth 100000 in
set_option maxHeartbeats 1000000 in
theorem sdefine_any (n : Nd) (a : NdA) (nm : ByteArray) (w : World) (h : NdAt w w.heap.size n a) :
    Calls Tryz.prog 40 #[ndV n a, .string nm] w fun r w' => ((∃ i k : Nat, r = .returned (.tuple #[.int .i64 i, .int .i64 k, .bool true]) ∧ Hid (DefAt n nm i k)) ∨ (r = .returned (.tuple #[.int .i64 0, .int .i64 0, .bool false]) ∧ Hid (NoDef n nm))) ∧ Below w.heap.size w w' := by
  have r1 := Row.new w (ndArr n a) 36
  have b1 : Below w.heap.size w (w.alloc (.cells (ndArr n a) 36)) := bE
  have HQ := Lib.hid (h.below b1).sq
  have hq2 := h.mq
  have hq1 := h.lq
  have hq2' : a.cq ≤ 9223372036854775807 := by unfold maxLen at hq2; omega
  clear h
  go_enter Tryz.func40, Tryz.ntmps40
  go_upto_region 1 with (fail)
  generalize w.alloc (.cells (ndArr n a) 36) = W1 at *
  have hs1 := b1.size
  obtain ⟨c0, c1, c2, c3, c4, c5, c6⟩ := r1.nd
  go_wp2_with fail
  clear c0 c1 c2 c3 c4 c5 c6
  go_loopw [13] (fun i wr => ∃ k : Nat, k ≤ n.eqs.length ∧ i = .int .i64 k ∧ Hid (∀ j, j < k → ∀ q, n.eqs[j]? = some q → nm ∉ q.left) ∧ Below W1.heap.size W1 wr) (fun i _ => n.eqs.length - (intOf i).toNat)
  case atStart => exact ⟨0, Nat.zero_le _, rfl, fun j h => absurd h (by omega), Below.refl _ _⟩
  case round =>
    obtain ⟨k, hk, rfl, HN, hbr⟩ := hrel
    have hszr := hbr.size
    have hB := b1.trans (hbr.mono hs1)
    by_cases hlt : k < n.eqs.length
    · obtain ⟨b, off, q, A1, k1, A2, k2, haq, hb, hq, ok, lq1, mq1, sl1, lq2, mq2, sl2, d0, d1, d2, d3, d4, d5, d6, d7, d8⟩ := (eqs_keep HQ.out (keeps_of (hbr.mono hs1)) (Nat.le_refl _)).eqn hlt
      have HX := Lib.hid hq
      have HAQ := Lib.hid haq
      rw [haq]
      have ba : Below wr.heap.size wr (wr.alloc (.cells (eqArr q A1 k1 A2 k2) 51)) := bE
      have HI := Lib.hid (fun W (hW : Below wr.heap.size wr W) => index_str q.left nm A1 k1 w.heap.size W lq1 mq1 (strs_keep sl1 (keeps_of (hW.mono (by omega))) (Nat.le_refl _)))
      clear hq ok sl1 sl2 haq lq2 mq2
      go_wp2_with fail
      refine (HI.out _ (by exact ba)).mono ?_
      rintro e w' ⟨rfl, rfl⟩
      rcases idx_cases q.left nm with ⟨j, e1, e2, e3⟩ | ⟨e1, e2⟩
      · have HF : Hid (DefAt n nm k j) := ⟨q, HX.out, e2, HN.out, e3⟩
        rw [e1]
        clear e1 e2 e3
        go_wp2_with fail
        go_ret3
        exact ⟨.inl ⟨_, _, rfl, HF⟩, hB.trans (ba.mono (by omega))⟩
      · have HN' := Lib.hid (step_upto (P := fun q : Eqn => nm ∉ q.left) HN.out HX.out e2)
        rw [e1]
        clear e1 e2
        go_wp2_with fail
        go_roundw
        case rel => exact ⟨k + 1, by omega, by go_num, HN', hbr.trans (ba.mono hszr)⟩
        case measure => first | (simp [intOf]; omega) | simp [intOf]
    · obtain rfl : k = n.eqs.length := by omega
      have HF : Hid (NoDef n nm) := mem_upto HN.out
      go_wp2_with fail
      go_ret3
      exact ⟨.inr ⟨rfl, HF⟩, hB⟩
end Go.Proofs.YtabceednmgijoaaGreat
