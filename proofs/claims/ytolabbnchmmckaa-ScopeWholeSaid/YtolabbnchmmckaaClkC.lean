/-
  The document's clock of a name: the contract of tompionref18.Of.
-/
import Derived.Test.YtolabbnchmmckaaClkA
import Derived.Deep.RegionWith
namespace Go.Proofs.Ytolabbnchmmckaa
open Go.RowKit
theorem NdAt.drew {w : World} {B : Nat} {n : Nd} {a : NdA} (h : NdAt w B n a) : NdAt w.drew B n a := NdAt.keep (w := w) (w' := w.drew) (fun _ _ _ h => h) (Nat.le_refl _) h
theorem vr_clock {w : World} {B C k : Nat} {A : Option Addr} {l : List Vr} {x : Vr} (h : Sl w C 5 (isVr w B) A l) (hx : l[k]? = some x) : ∃ b off A' cap', A = some ⟨b, off, none⟩ ∧ b < C ∧ x.clock.length ≤ cap' ∧ cap' ≤ maxLen ∧ Sl w B 2 isLit A' x.clock ∧
    w.cell? ⟨b, off + k * 5 + 2, none⟩ = some (.slice A' x.clock.length cap') := by
  obtain ⟨b, off, y, A', cap', h1, h2, h3, h4, h5, h6, h7, h8, h9, h10, _⟩ := h.vr (List.getElem?_eq_some_iff.1 hx).1
  rw [hx] at h3
  injection h3 with h3
  subst h3
  exact ⟨b, off, A', cap', h1, h2, h5, h6, h7, h10⟩
set_option maxRecDepth 100000 in
set_option maxHeartbeats 4000000 in
theorem rof_any (n : Nd) (a : NdA) (nm : ByteArray) (w : World) (h : NdAt w w.heap.size n a) (hs : NdSm n) (hv : 0 ≤ varIdx n nm) :
    Calls Try.prog 27 #[ndV n a, .string nm] w fun e w' => (∃ v, e = .returned v ∧ LitsV w' (clockOf n nm) v) ∧ Below w.heap.size w w' := by
  obtain ⟨k, x, hk, hx, _⟩ | hk := var_cases n nm
  rotate_left 1
  · rw [hk] at hv; exact absurd hv (by decide)
  have HC := Lib.hid (clock_at hk hx)
  have hl := hs.len
  have hkl : k < (vrs n).length := (List.getElem?_eq_some_iff.1 hx).1
  have HK := Lib.hid hk
  have HX := Lib.hid hx
  have HV : Hid (∀ (W : World), w.heap.size ≤ W.heap.size → NdAt W w.heap.size n a → Calls Try.prog 25 #[ndV n a, .string nm] W fun e w' => e = .returned (.int .i64 (k : Int)) ∧ Below W.heap.size W w') := fun W hW hn => by
    rw [← hk]
    exact rvar_any n a nm W (hn.more hW) (by omega)
  have r1 := Row.new w (ndArr n a) 40
  have hB := (Below.refl w.heap.size w).alloc (Nat.le_refl _) (.cells (ndArr n a) 40)
  have hN := h.below hB
  have hW : w.heap.size + 1 ≤ (w.alloc (.cells (ndArr n a) 40)).heap.size := by simp
  have HA0 : Hid (∀ W : World, Below w.heap.size w W → NdAt W w.heap.size n a) := fun W hb => h.below hb
  clear h hs hv hk hx
  have hl1 : (k : Int) < ((vrs n).length : Int) := by omega
  have hl0 : (0 : Int) ≤ (k : Int) := by omega
  go_enter Try.func27, Try.ntmps27
  go_upto_region 1 with (fail)
  generalize w.alloc (.cells (ndArr n a) 40) = W at *
  obtain ⟨c0, c1, c2, c3, c4, c5, c6⟩ := r1.nd
  have tok : True := trivial
  go_region_with
    (first
      | ((go_at_call 34); (refine (rvars_any w.heap.size n a _ (by first | omega | (simp; omega)) (by first | exact hN | exact hN.drew) (by omega)).mono ?_); rintro e w1 ⟨⟨v, rfl, ho⟩, hb1⟩; obtain ⟨A, cap, rfl, q1, q2, hsl⟩ := ho.sl; obtain ⟨b, off, A', cap', rfl, hbb, p1, p2, p3, p4⟩ := vr_clock hsl HX.out; (have q3 : cap ≤ 9223372036854775807 := by unfold maxLen at q2; omega); (have hW := Nat.le_trans hW hb1.size); (have p3 := Lib.hid p3); (have r1 : Row w1 w.heap.size (ndArr n a) 40 := by first | exact r1.below hb1 r1.lt | exact r1.drew.below hb1 r1.lt); obtain ⟨c0, c1, c2, c3, c4, c5, c6⟩ := r1.nd; (have hB : Below w.heap.size w w1 := by first | exact hB.trans (hb1.mono (by omega)) | exact hB.drew.trans (hb1.mono (by simp; omega))); (have hN := HA0.out w1 hB); clear ho hsl)
      | ((go_at_call 25); (refine (HV.out _ (by first | omega | (simp; omega)) (by first | exact hN | exact hN.drew)).mono ?_); rintro e w2 ⟨rfl, hb2⟩; (have hW := Nat.le_trans hW hb2.size); (have r1 : Row w2 w.heap.size (ndArr n a) 40 := by first | exact r1.below hb2 r1.lt | exact r1.drew.below hb2 r1.lt); obtain ⟨c0, c1, c2, c3, c4, c5, c6⟩ := r1.nd; (have hB : Below w.heap.size w w2 := by first | exact hB.trans (hb2.mono (by omega)) | exact hB.drew.trans (hb2.mono (by simp; omega))); (have hN := HA0.out w2 hB); (try (have p4 := (hb2.cell (p := ⟨b, off + k * 5 + 2, none⟩) hbb).trans p4)); (try (have p3 := Lib.hid (p3.out.below (hb2.mono (by first | omega | (simp; omega)))))))
      )
  all_goals
    go_wp2_with fail
    go_ret
    refine ⟨⟨_, rfl, ?_⟩, by first | exact hB | exact hB.drew | exact below_drewN' hB _⟩
    rw [HC.out]
    exact ⟨A', cap', rfl, p1, p2, fun hp => lits_keep p3.out (fun _ _ _ h => h) (by first | omega | (simp; omega)) hp⟩
end Go.Proofs.Ytolabbnchmmckaa
