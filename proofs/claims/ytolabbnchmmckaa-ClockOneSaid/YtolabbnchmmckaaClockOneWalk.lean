/-
  ClockOne: the walk.
-/
import Derived.Test.YtolabbnchmmckaaClkH
import Derived.Test.YtolabbnchmmckaaClkI
import Derived.Test.YtolabbnchmmckaaFewM
namespace Go.Proofs.Ytolabbnchmmckaa
open Go.RowKit Nm
attribute [local go_sem ↓] Go.wp_at_zero Go.wp_at_succ
theorem fit_of_small' {e : Ex} {on : List Lt} (h : Small e ∧ exSize e ≤ 200) (h' : on.length ≤ 10) : on.length + exSize e ≤ 1000 := by omega
def hB (x : Ex) : Bool := x.op == 3 || x.op == 26
theorem any_snoc {α : Type} {p : α → Bool} {l : List α} {k : Nat} {x : α} (h : l[k]? = some x) : (l.take (k + 1)).any p = ((l.take k).any p || p x) := by
  rw [List.take_add_one, h]; simp
theorem held_of {e : Ex} (h : (exList e).any hB = true) : heldP e := by
  obtain ⟨x, hx, h⟩ := List.any_eq_true.1 h
  refine ⟨x, hx, ?_⟩
  simpa [hB] using h
abbrev on2 (l1 : List Lt) (A1 : Option Addr) (k1 : Nat) (l2 : List Lt) (A2 : Option Addr) (k2 : Nat) : Array Value := #[.slice A1 l1.length k1, .slice A2 l2.length k2]
theorem Row.on2 {W : World} {b : Nat} {x0 x1 : Value} {t : TypeId} (h : Row W b #[x0, x1] t) : W.cell? ⟨b, 0, none⟩ = some x0 ∧ W.cell? ⟨b, 1, none⟩ = some x1 := ⟨(h.cell 0).trans rfl, (h.cell 1).trans rfl⟩
theorem field_err (f : Ft) (W : World) : (Instr.field 31 (.agg #[.int .i64 f.err, .int .i64 f.line, .int .i64 f.col]) 0).run Try.prog W = .ok (.int .i64 f.err) W := by kernel_rfl
set_option maxRecDepth 100000 in
set_option maxHeartbeats 8000000 in
theorem clockOne_walk (n : Nd) (a : NdA) (e : Ex) (A : Option Addr) (cap : Nat) (l1 : List Lt) (A1 : Option Addr) (k1 : Nat) (l2 : List Lt) (A2 : Option Addr) (k2 : Nat) (w : World) (hn : NdAt w w.heap.size n a) (hok : ExOk e) (hcap : e.args.length ≤ cap) (hmax : cap ≤ maxLen) (hx : IsExs w w.heap.size A e.args)
    (hc1 : l1.length ≤ k1) (hm1 : k1 ≤ maxLen) (hcl1 : Sl w w.heap.size 2 isLit A1 l1) (hc2 : l2.length ≤ k2) (hm2 : k2 ≤ maxLen) (hcl2 : Sl w w.heap.size 2 isLit A2 l2) :
    Calls Try.prog 6 #[ndV n a, exV e A cap, .agg #[.slice A1 l1.length k1, .slice A2 l2.length k2]] w fun r w' => r = .returned (.bool true) ∧ Below w.heap.size w w' := by
  have b1 : Below w.heap.size w (((w.alloc (.cells (ndArr n a) 40)).alloc (.cells (exArr e A cap) 26)).alloc (.cells #[.slice A1 l1.length k1, .slice A2 l2.length k2] 55)) := (((Below.refl _ _).alloc (Nat.le_refl _) _).alloc (by simp) _).alloc (by simp; omega) _
  have rn1 := ((Row.new w (ndArr n a) 40).alloc (.cells (exArr e A cap) 26)).alloc (.cells #[.slice A1 l1.length k1, .slice A2 l2.length k2] 55)
  have re1 := (rowNew2 w (.cells (ndArr n a) 40) (exArr e A cap) 26).alloc (.cells #[.slice A1 l1.length k1, .slice A2 l2.length k2] 55)
  have ro1 := rowNew3 w (.cells (ndArr n a) 40) (.cells (exArr e A cap) 26) #[.slice A1 l1.length k1, .slice A2 l2.length k2] 55
  have HN := Lib.hid hn
  have HX := Lib.hid hx
  have HC1 := Lib.hid hcl1
  have HC2 := Lib.hid hcl2
  have hm1' : k1 ≤ 9223372036854775807 := by unfold maxLen at hm1; omega
  have hm2' : k2 ≤ 9223372036854775807 := by unfold maxLen at hm2; omega
  clear hn hx hcl1 hcl2
  go_enter Try.func6, Try.ntmps6
  go_upto_region 1 with (fail)
  generalize (((w.alloc (.cells (ndArr n a) 40)).alloc (.cells (exArr e A cap) 26)).alloc (.cells #[.slice A1 l1.length k1, .slice A2 l2.length k2] 55)) = W1 at *
  have hs1 := b1.size
  go_wp2_with fail
  refine (awake18_any W1).mono ?_
  rintro r W2 ⟨rfl, hb2⟩
  have rn2 := rn1.below hb2 rn1.lt
  have re2 := re1.below hb2 re1.lt
  have ro2 := ro1.below hb2 ro1.lt
  have b2 := b1.trans (hb2.mono hs1)
  have hs2 := b2.size
  clear rn1 re1 ro1 b1 hb2 hs1
  obtain ⟨c0, c1, cc2, c3, c4, c5, c6⟩ := rn2.nd
  have rs := Row.new W2 (ndArr n a) 40
  have b3 : Below W2.heap.size W2 (W2.alloc (.cells (ndArr n a) 40)) := (Below.refl _ _).alloc (Nat.le_refl _) _
  have HS : Hid (Nds (W2.alloc (.cells (ndArr n a) 40)) (W2.alloc (.cells (ndArr n a) 40)).heap.size (some ⟨W2.heap.size, 0, none⟩) [n]) :=
    sl_one (cs := ndCs n a) rs rs.lt ⟨a, rfl, HN.out.keep (keeps_of (b2.trans (b3.mono hs2))) (by simp; omega)⟩
  go_wp2_with fail
  refine (fewNodes_any [n] (some ⟨W2.heap.size, 0, none⟩) 1 (W2.alloc (.cells (ndArr n a) 40)) (Nat.le_refl _) (by decide) HS.out).mono ?_
  rintro r W3 ⟨⟨bf, rfl, HFN⟩, hb3⟩
  have rn3 := rn2.below (b3.trans (hb3.mono (by simp))) rn2.lt
  have re3 := re2.below (b3.trans (hb3.mono (by simp))) re2.lt
  have ro3 := ro2.below (b3.trans (hb3.mono (by simp))) ro2.lt
  have b3' := b2.trans ((b3.trans (hb3.mono (by simp))).mono hs2)
  have hs3 := b3'.size
  clear rn2 re2 ro2 b2 b3 hb3 hs2 HS rs c0 c1 cc2 c3 c4 c5 c6
  cases bf
  · go_wp2_with fail
    go_ret
    exact ⟨rfl, b3'⟩
  have HSM : Hid (NdSm n) := (HFN.out (by first | rfl | trivial)).all n (by simp)
  clear HFN
  obtain ⟨x0, x1, x2, x3, x4, x5⟩ := re3.ex
  go_wp2_with fail
  refine (few_any e A cap W3 hok hcap hmax (exs_keep HX.out (keeps_of b3') hs3)).mono ?_
  rintro r W4 ⟨rfl, hb4⟩
  have rn4 := rn3.below hb4 rn3.lt
  have re4 := re3.below hb4 re3.lt
  have ro4 := ro3.below hb4 ro3.lt
  have b4 := b3'.trans (hb4.mono hs3)
  have hs4 := b4.size
  clear rn3 re3 ro3 b3' hb4 hs3 x0 x1 x2 x3 x4 x5
  by_cases hfew : fewB e = true
  rotate_left 1
  · have hfew' : fewB e = false := by simpa using hfew
    rw [hfew']
    clear hfew hfew'
    go_wp2_with fail
    go_ret
    exact ⟨rfl, b4⟩
  have HFS := Lib.hid (few_small hfew)
  rw [hfew]
  clear hfew
  obtain ⟨o0, o1⟩ := ro4.on2
  by_cases hon : 10 < l1.length
  · have hon' : decide (10 < (l1.length : Int)) = true := by simp; omega
    go_wp2_with fail
    go_ret
    exact ⟨rfl, b4⟩
  have hon' : decide (10 < (l1.length : Int)) = false := by simp; omega
  by_cases hon2 : 10 < l2.length
  · have hon2' : decide (10 < (l2.length : Int)) = true := by simp; omega
    go_wp2_with fail
    go_ret
    exact ⟨rfl, b4⟩
  have hon2' : decide (10 < (l2.length : Int)) = false := by simp; omega
  have HSZ1 := Lib.hid (fit_of_small' (on := l1) HFS.out (by omega))
  have HSZ2 := Lib.hid (fit_of_small' (on := l2) HFS.out (by omega))
  obtain ⟨x0, x1, x2, x3, x4, x5⟩ := re4.ex
  go_wp2_with fail
  refine (list_any w.heap.size e A cap W4 hok hcap hmax hs4 (exs_keep HX.out (keeps_of b4) (Nat.le_refl _)) (by have := HFS.out.2; omega)).mono ?_
  rintro r W5 ⟨v5, css, rfl, hown, hare, hb5⟩
  have hs5' := hb5.size
  obtain ⟨A5, k5, rfl, hn5, hl5, hm5, hs5⟩ := own_exs hown hare (by omega)
  have rn5 := rn4.below hb5 rn4.lt
  have re5 := re4.below hb5 re4.lt
  have ro5 := ro4.below hb5 ro4.lt
  have b5 := b4.trans (hb5.mono hs4)
  have hm5' : k5 ≤ 9223372036854775807 := by unfold maxLen at hm5; omega
  have HS5 := Lib.hid hs5
  have HH : Hid ((exList e).any hB = true → heldP e) := fun h => held_of h
  clear rn4 re4 ro4 b4 hb5 hs4 x0 x1 x2 x3 x4 x5 o0 o1 hown hare hn5 hs5
  generalize hgl : exList e = L at *
  clear hgl
  have hs5'' := b5.size
  go_wp2_with fail
  go_loopw [7, 37] (fun v i wr => ∃ (k : Nat) (K : Bool), k ≤ L.length ∧ i = .int .i64 k ∧ v = .bool K ∧ Hid (K = (L.take k).any hB) ∧ Below W5.heap.size W5 wr) (fun _ i _ => L.length - (intOf i).toNat)
  case atStart => exact ⟨0, false, Nat.zero_le _, rfl, rfl, rfl, Below.refl _ _⟩
  case round =>
    obtain ⟨k, K, hk, rfl, rfl, HK, hbr⟩ := hrel
    have hszr := hbr.size
    have bB := b5.trans (hbr.mono hs5'')
    by_cases hlt : k < L.length
    · obtain ⟨b, off, x, A', cap', rfl, hb, hxk, hxm, hok', hcap', hmax', hx', d0, d1, d2, d3, d4, d5⟩ := (HS5.out.below hbr).at_ hlt
      have HA := Lib.hid (any_snoc (p := hB) hxk)
      clear hxk hxm hx'
      cases K
      · by_cases h3 : x.op = 3
        · have o3 : (x.op == 3) = true := by rw [beq_iff_eq]; exact h3
          have HK2 : Hid (true = (L.take (k + 1)).any hB) := by show _ = _; rw [HA.out, ← HK.out]; simp [hB, h3]
          clear h3
          go_wp2_with fail
          go_roundw
          case rel => exact ⟨k + 1, true, by omega, by go_num, rfl, HK2, hbr.alloc hszr _⟩
          case measure => simp [intOf]; omega
        · have o3 : (x.op == 3) = false := by rw [beq_eq_false_iff_ne]; exact h3
          by_cases h26 : x.op = 26
          · have o26 : (x.op == 26) = true := by rw [beq_iff_eq]; exact h26
            have HK2 : Hid (true = (L.take (k + 1)).any hB) := by show _ = _; rw [HA.out, ← HK.out]; simp [hB, h26]
            clear h3 h26
            go_wp2_with fail
            go_roundw
            case rel => exact ⟨k + 1, true, by omega, by go_num, rfl, HK2, hbr.alloc hszr _⟩
            case measure => simp [intOf]; omega
          · have o26 : (x.op == 26) = false := by rw [beq_eq_false_iff_ne]; exact h26
            have HK2 : Hid (false = (L.take (k + 1)).any hB) := by show _ = _; rw [HA.out, ← HK.out]; simp [hB, h26, h3]
            clear h3 h26
            go_wp2_with fail
            go_roundw
            case rel => exact ⟨k + 1, false, by omega, by go_num, rfl, HK2, hbr.alloc hszr _⟩
            case measure => simp [intOf]; omega
      · have HK2 : Hid (true = (L.take (k + 1)).any hB) := by show _ = _; rw [HA.out, ← HK.out]; rfl
        go_wp2_with fail
        go_roundw
        case rel => exact ⟨k + 1, true, by omega, by go_num, rfl, HK2, hbr.alloc hszr _⟩
        case measure => simp [intOf]; omega
    · obtain rfl : k = L.length := by omega
      rw [List.take_length] at HK
      have rnr := rn5.below hbr rn5.lt
      have rer := re5.below hbr re5.lt
      have ror := ro5.below hbr ro5.lt
      obtain ⟨o0, o1⟩ := ror.on2
      cases K
      · go_wp2_with fail
        go_ret
        exact ⟨rfl, bB⟩
      have hheld := HH.out HK.out.symm
      have HHE := Lib.hid hheld
      clear hheld HH HK
      go_wp2_with fail
      refine (rlits_any l1 l2 A1 A2 k1 k2 wr.heap.size wr hc1 hm1 (lits_keep HC1.out (keeps_of bB) bB.size) hc2 hm2 (lits_keep HC2.out (keeps_of bB) bB.size)).mono ?_
      rintro r W6 ⟨rfl, nn, rfl⟩
      have b6 := below_drewN' bB nn
      have rn6 := rnr.drewN nn
      have re6 := rer.drewN nn
      have ro6 := ror.drewN nn
      clear o0 o1 rnr rer ror
      generalize wr.drewN nn = W6 at *
      by_cases heq : l1 = l2
      · rw [cB_true heq]
        clear heq
        go_wp2_with fail
        go_ret
        exact ⟨rfl, b6⟩
      rw [cB_false heq]
      have HNE := Lib.hid heq
      clear heq
      obtain ⟨o0, o1⟩ := ro6.on2
      obtain ⟨c0, c1, cc2, c3, c4, c5, c6⟩ := rn6.nd
      obtain ⟨x0, x1, x2, x3, x4, x5⟩ := re6.ex
      go_wp2_with fail
      refine (sfits_any n a HSM.out e A cap l1 A1 k1 W6 ((HN.out.below b6).more b6.size) hok hcap hmax (exs_keep HX.out (keeps_of b6) b6.size) HSZ1.out hc1 hm1 (lits_keep HC1.out (keeps_of b6) b6.size)).mono ?_
      rintro r W7 ⟨rfl, hb7⟩
      have b7 := b6.trans (hb7.mono b6.size)
      have rn7 := rn6.below hb7 rn6.lt
      have re7 := re6.below hb7 re6.lt
      have ro7 := ro6.below hb7 ro6.lt
      clear o0 o1 c0 c1 cc2 c3 c4 c5 c6 x0 x1 x2 x3 x4 x5
      by_cases hf : (fitsTop n e l1).err = 0
      · have HF2 := Lib.hid (top_one HHE.out HNE.out hf)
        have hf1 : ((fitsTop n e l1).err != 0) = false := by simp [hf]
        clear hf
        generalize fitsTop n e l1 = f1 at *
        have fe1 := field_err f1
        obtain ⟨o0, o1⟩ := ro7.on2
        obtain ⟨c0, c1, cc2, c3, c4, c5, c6⟩ := rn7.nd
        obtain ⟨x0, x1, x2, x3, x4, x5⟩ := re7.ex
        go_wp2_with fail
        refine (sfits_any n a HSM.out e A cap l2 A2 k2 W7 ((HN.out.below b7).more b7.size) hok hcap hmax (exs_keep HX.out (keeps_of b7) b7.size) HSZ2.out hc2 hm2 (lits_keep HC2.out (keeps_of b7) b7.size)).mono ?_
        rintro r W8 ⟨rfl, hb8⟩
        have b8 := b7.trans (hb8.mono b7.size)
        have hf2 : ((fitsTop n e l2).err != 0) = true := by rw [bne_iff_ne]; exact HF2.out
        generalize fitsTop n e l2 = f2 at *
        have fe2 := field_err f2
        go_wp2_with fail
        go_ret
        exact ⟨rfl, b8⟩
      · have hf1 : ((fitsTop n e l1).err != 0) = true := by rw [bne_iff_ne]; exact hf
        clear hf
        generalize fitsTop n e l1 = f1 at *
        have fe1 := field_err f1
        go_wp2_with fail
        go_ret
        exact ⟨rfl, b7⟩
end Go.Proofs.Ytolabbnchmmckaa
