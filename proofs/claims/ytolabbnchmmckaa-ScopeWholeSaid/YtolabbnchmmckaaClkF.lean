/-
  Which expressions go by which clocks: the contract of clock.Fits.
-/
import Derived.Test.YtolabbnchmmckaaClkE
import Derived.Test.YtolabbnchmmckaaNmsB
namespace Go.Proofs.Ytolabbnchmmckaa
open Go.RowKit
/-- is an expression right, and all its names a node's? -/
noncomputable def knownB (n : Nd) (e : Ex) : Bool := exRight e && (nmsOf (exList e)).all (fun nm => decide (0 ≤ varIdx n nm))
noncomputable def fitsTop (n : Nd) (e : Ex) (clock : List Lt) : Ft := if knownB n e = true then fitsP n e clock else ⟨2, 0, 0⟩
theorem args_of_plain {e : Ex} (h : plainB e = true) : ArgsOk e := by
  have key : 0 ≤ partsZ e.op → (e.args.length : Int) = partsZ e.op := fun h0 => Classical.byContradiction fun hne => by
    unfold plainB at h
    rw [plainK_no2 ⟨h0, hne⟩] at h
    cases h
  constructor
  · intro ho
    have hp : partsZ e.op = 1 := by unfold partsZ; repeat' split; all_goals omega
    have := key (by omega)
    omega
  · intro ho
    have hp : partsZ e.op = 2 := by unfold partsZ; repeat' split; all_goals omega
    have := key (by omega)
    omega
theorem known_all {n : Nd} {e : Ex} (h : knownB n e = true) : ∀ x ∈ exList e, Known n x := by
  simp only [knownB, exRight, Bool.and_eq_true, List.all_eq_true, decide_eq_true_eq] at h
  intro x hx
  refine ⟨args_of_plain (h.1.1 x hx), fun ho => h.2 x.name ((nms_mem _ _).2 ⟨x, hx, ?_, rfl⟩)⟩
  simp only [namesB, decide_eq_true_eq]; omega
theorem all_snoc {α : Type} {p : α → Bool} {l : List α} {k : Nat} {x : α} (h : l[k]? = some x) : (l.take (k + 1)).all p = ((l.take k).all p && p x) := by
  rw [List.take_add_one, h]; simp
set_option maxRecDepth 100000 in
set_option maxHeartbeats 4000000 in
theorem sfits_any (n : Nd) (a : NdA) (hs : NdSm n) (e : Ex) (A : Option Addr) (cap : Nat) (clock : List Lt) (A2 : Option Addr) (c2 : Nat) (w : World) (hn : NdAt w w.heap.size n a) (hok : ExOk e) (hcap : e.args.length ≤ cap) (hmax : cap ≤ maxLen) (hx : IsExs w w.heap.size A e.args)
    (hsz : clock.length + exSize e ≤ 1000) (hc2 : clock.length ≤ c2) (hm2 : c2 ≤ maxLen) (hcl : Sl w w.heap.size 2 isLit A2 clock) :
    Calls Try.prog 28 #[ndV n a, exV e A cap, .slice A2 clock.length c2] w fun r w' => r = .returned (ftV (fitsTop n e clock)) ∧ Below w.heap.size w w' := by
  have b1 : Below w.heap.size w (((w.alloc (.cells (ndArr n a) 40)).alloc (.cells (exArr e A cap) 26)).alloc (.cells (ftArr ft0) 31)) :=
    (((Below.refl _ _).alloc (Nat.le_refl _) _).alloc (by simp) _).alloc (by simp; omega) _
  have rn1 := ((Row.new w (ndArr n a) 40).alloc (.cells (exArr e A cap) 26)).alloc (.cells (ftArr ft0) 31)
  have re1 := (rowNew2 w (.cells (ndArr n a) 40) (exArr e A cap) 26).alloc (.cells (ftArr ft0) 31)
  have rf1 := rowNew3 w (.cells (ndArr n a) 40) (.cells (exArr e A cap) 26) (ftArr ft0) 31
  have HN := Lib.hid hn
  have HX := Lib.hid hx
  have HC := Lib.hid hcl
  have HSM := Lib.hid hs
  clear hn hx hcl hs
  go_enter Try.func28, Try.ntmps28
  go_upto_region 1 with (fail)
  generalize (((w.alloc (.cells (ndArr n a) 40)).alloc (.cells (exArr e A cap) 26)).alloc (.cells (ftArr ft0) 31)) = W1 at *
  have hs1 := b1.size
  obtain ⟨x0, x1, x2, x3, x4, x5⟩ := re1.ex
  go_wp2_with fail
  refine (right_any e A cap W1 hok hcap hmax (exs_keep HX.out (keeps_of b1) hs1) (by omega)).mono ?_
  rintro r W2 ⟨rfl, hb2⟩
  have rn2 := rn1.below hb2 rn1.lt
  have re2 := re1.below hb2 re1.lt
  have rf2 := rf1.below hb2 rf1.lt
  have b2 := b1.trans (hb2.mono hs1)
  have hs2 := b2.size
  clear rn1 re1 rf1 hb2 hs1 b1 x0 x1 x2 x3 x4 x5
  obtain ⟨x0, x1, x2, x3, x4, x5⟩ := re2.ex
  go_wp2_with fail
  refine (names_tree e A cap W2 hok hcap hmax (exs_keep HX.out (keeps_of b2) hs2) (by omega)).mono ?_
  rintro r W3 ⟨⟨v3, rfl, hso⟩, hb3⟩
  obtain ⟨A3, c3, rfl, hl3, hm3, hs3⟩ := hso.sl
  have rn3 := rn2.below hb3 rn2.lt
  have re3 := re2.below hb3 re2.lt
  have rf3 := rf2.below hb3 rf2.lt
  have b3 := b2.trans (hb3.mono hs2)
  have hs3' := b3.size
  have hm3' : c3 ≤ 9223372036854775807 := by unfold maxLen at hm3; omega
  have HS3 := Lib.hid hs3
  have HKB : Hid (knownB n e = (exRight e && (nmsOf (exList e)).all (fun nm => decide (0 ≤ varIdx n nm)))) := rfl
  clear rn2 re2 rf2 hb3 hs2 b2 x0 x1 x2 x3 x4 x5 hso hs3
  generalize hgl : nmsOf (exList e) = l at *
  clear hgl
  generalize hgr : exRight e = rt at *
  clear hgr
  go_wp2_with fail
  go_loopw [7, 17] (fun v i wr => ∃ (k : Nat) (K : Bool), k ≤ l.length ∧ i = .int .i64 k ∧ v = .bool K ∧ Hid (K = (rt && (l.take k).all (fun nm => decide (0 ≤ varIdx n nm)))) ∧ Below W3.heap.size W3 wr) (fun _ i _ => l.length - (intOf i).toNat)
  case atStart => exact ⟨0, rt, Nat.zero_le _, rfl, rfl, (by simp : rt = (rt && true)), Below.refl _ _⟩
  case round =>
    obtain ⟨k, K, hk, rfl, rfl, HK, hbr⟩ := hrel
    have hszr := hbr.size
    have rnr := rn3.below hbr rn3.lt
    have bB := b3.trans (hbr.mono hs3')
    by_cases hlt : k < l.length
    · obtain ⟨b, off, nm, rfl, hb, hxk, hsx, d0⟩ := (strs_keep HS3.out (keeps_of hbr) (Nat.le_refl _)).str hlt
      have HA := Lib.hid (all_snoc (p := fun nm => decide (0 ≤ varIdx n nm)) hxk)
      obtain ⟨c0, c1, cc2, cc3, c4, c5, c6⟩ := rnr.nd
      have HV := Lib.hid (svar_any n a nm wr ((HN.out.below bB).more bB.size) (by have := HSM.out.len; omega))
      clear hxk
      go_wp2_with fail
      refine HV.out.mono ?_
      rintro r W4 ⟨(⟨kv, x, Ax, capx, hkv, hxv, rfl, okx, g1, g2, hsl⟩ | ⟨hkv, rfl⟩), hb4⟩
      · have HK2 : Hid (K = (rt && (l.take (k + 1)).all (fun nm => decide (0 ≤ varIdx n nm)))) := by
          show _ = _
          rw [HA.out, ← Bool.and_assoc, ← HK.out, decide_eq_true (by omega), Bool.and_true]
        clear hkv hxv hsl HV
        cases K
        all_goals
          go_wp2_with fail
          go_roundw
          case rel => exact ⟨k + 1, _, by omega, by go_num, rfl, HK2, (hbr.trans (hb4.mono hszr)).alloc (by have := hb4.size; omega) _⟩
          case measure => simp [intOf]; omega
      · have HK2 : Hid (false = (rt && (l.take (k + 1)).all (fun nm => decide (0 ≤ varIdx n nm)))) := by
          show _ = _
          rw [HA.out, decide_eq_false (by omega), Bool.and_false, Bool.and_false]
        clear hkv HV
        cases K
        all_goals
          go_wp2_with fail
          go_roundw
          case rel => exact ⟨k + 1, false, by omega, by go_num, rfl, HK2, (hbr.trans (hb4.mono hszr)).alloc (by have := hb4.size; omega) _⟩
          case measure => simp [intOf]; omega
    · obtain rfl : k = l.length := by omega
      have HK3 : Hid (knownB n e = K) := by show _ = _; rw [HKB.out, HK.out, List.take_length]
      have rer := re3.below hbr re3.lt
      have rfr := rf3.below hbr rf3.lt
      obtain ⟨⟨z0, z1, z2⟩, g0, g1, g2⟩ := rfr.three
      clear HK HKB
      cases K
      · have HF : Hid (fitsTop n e clock = ⟨2, 0, 0⟩) := by show _ = _; unfold fitsTop; rw [HK3.out]; rfl
        go_wp2_with fail
        exact bodyPost_ret (v := ftV ⟨2, 0, 0⟩) (res1 rfl Try.underlying31 rfl (by kernel_rfl) rfl (rfr.set3 _ _ _)) rfl ⟨by rw [HF.out], by repeat (first | exact bB | refine Below.setCell ?_ (by first | (simp; omega) | simp) _)⟩
      · have HF : Hid (fitsTop n e clock = fitsP n e clock) := by show _ = _; unfold fitsTop; rw [if_pos HK3.out]
        obtain ⟨c0, c1, cc2, cc3, c4, c5, c6⟩ := rnr.nd
        obtain ⟨x0, x1, x2, x3, x4, x5⟩ := rer.ex
        have HC2 := Lib.hid (fits_any n a HSM.out e A cap clock A2 c2 wr ((HN.out.below bB).more bB.size) hok hcap hmax (exs_keep HX.out (keeps_of bB) bB.size) (fun x hx => (known_all HK3.out x hx).1) hsz hc2 hm2 (lits_keep HC.out (keeps_of bB) bB.size))
        go_wp2_with fail
        refine HC2.out.mono ?_
        rintro r W5 ⟨rfl, hb5⟩
        have rf5 := rfr.below hb5 rfr.lt
        have bB5 := bB.trans (hb5.mono bB.size)
        clear z0 z1 z2 g0 g1 g2
        obtain ⟨⟨z0, z1, z2⟩, g0, g1, g2⟩ := rf5.three
        generalize fitsP n e clock = f at *
        go_wp2_with fail
        exact bodyPost_ret (v := ftV f) (res1 rfl Try.underlying31 rfl (by kernel_rfl) rfl (rf5.set3 _ _ _)) rfl ⟨by rw [HF.out], by repeat (first | exact bB5 | refine Below.setCell ?_ (by first | (simp; omega) | simp) _)⟩
end Go.Proofs.Ytolabbnchmmckaa
