/-
  What is wrong first with a source's names: the contracts of scope.first, equations and Check. What is wrong first with a node's equations: the contract of scope.equations.
-/
import Derived.Test.YtabceednmgijoaaGreatScG
import Derived.Test.YtabceednmgijoaaGreatScR
import Derived.Test.YtabceednmgijoaaGreatScN
import Derived.Test.YtabceednmgijoaaGreatRfC
import Derived.Laws.EntriesVeiled
namespace Go.Proofs.YtabceednmgijoaaGreat
open Go.RowKit
set_option maxRecDepth 100000 in
set_option maxHeartbeats 1000000 in
theorem first_two (F1 F2 : FuncId) (c1 c2 : Array Value) (b : Nat) (w : World) (X : Nat → Prop) (f1 f2 : Ft) (R1 R2 : World → Prop) (t : TypeId)
    (hF1 : ∀ args w, (callFunc F1 args).run Tryz.prog w = .ok (.enter F1 args) w) (hF2 : ∀ args w, (callFunc F2 args).run Tryz.prog w = .ok (.enter F2 args) w)
    (hr : Row w b #[.func (.func F1) #[] c1, .func (.func F2) #[] c2] t) (hX : ¬ X b)
    (hR1 : ∀ W o, R1 W → R1 (W.alloc o)) (hR2 : ∀ W o, R2 W → R2 (W.alloc o)) (hR3 : ∀ W g y0 y1 y2, w.heap.size ≤ g → R2 W → R2 (((W.setCell ⟨g, 0, none⟩ y0).setCell ⟨g, 1, none⟩ y1).setCell ⟨g, 2, none⟩ y2))
    (H1 : ∀ W, Below w.heap.size w W → Calls Tryz.prog F1 c1 W fun r W' => r = .returned (ftV f1) ∧ Upd X W W' ∧ Hid (f1.err = 0 → R1 W'))
    (H2 : ∀ W, Upd X w W → R1 W → Calls Tryz.prog F2 c2 W fun r W' => r = .returned (ftV f2) ∧ Upd X W W' ∧ Hid (f2.err = 0 → R2 W')) (hXw : ∀ k, X k → k < w.heap.size) (hZ : f2.err = 0 → f2 = ft0) :
    Calls Tryz.prog 45 #[.slice (some ⟨b, 0, none⟩) 2 2] w fun r w' => r = .returned (ftV (ft2 f1 f2)) ∧ Upd X w w' ∧ Hid ((ft2 f1 f2).err = 0 → R2 w') := by
  have b1 : Below w.heap.size w (w.alloc (.cells ftC0 31)) := bE
  have rf1 := Row.new w ftC0 31
  have hbw := hr.lt
  have HH1 := Lib.hid H1
  have HH2 := Lib.hid H2
  have HF2 := Lib.hid hF2
  have HR1 := Lib.hid hR1
  have HR2 := Lib.hid hR2
  have HR3 := Lib.hid hR3
  have HX : Hid (¬ X w.heap.size) := fun h => by have := hXw _ h; omega
  have HZ := Lib.hid hZ
  have HXb := Lib.hid hX
  clear H1 H2 hF2 hR1 hR2 hR3 hXw hX hZ
  go_enter Tryz.func45, Tryz.ntmps45
  go_upto_region 1 with (fail)
  generalize w.alloc (.cells ftC0 31) = W1 at *
  go_wp2_with fail
  go_loopw [8] (fun i wr => ∃ k : Nat, k ≤ 2 ∧ i = .int .i64 k ∧ Upd X w wr ∧ Row wr w.heap.size ftC0 31 ∧ Hid (k = 0 → Below w.heap.size w wr) ∧ Hid (1 ≤ k → f1.err = 0) ∧ Hid (k = 1 → R1 wr) ∧ Hid (k = 2 → f2.err = 0 ∧ R2 wr)) (fun i _ => 2 - (intOf i).toNat)
  case atStart => exact ⟨0, by omega, rfl, Upd.of_below b1, rf1, fun _ => b1, fun h => absurd h (by omega), fun h => absurd h (by omega), fun h => absurd h (by omega)⟩
  case round =>
    obtain ⟨k, hk, rfl, hu, rf, K0, K1, K2, K3⟩ := hrel
    have hszr := hu.size
    have rr := hu.row hr HXb.out
    have q0 : wr.cell? ⟨b, 0, none⟩ = some (.func (.func F1) #[] c1) := (rr.cell 0).trans rfl
    have q1 : wr.cell? ⟨b, 1, none⟩ = some (.func (.func F2) #[] c2) := (rr.cell 1).trans rfl
    have h3 : k = 0 ∨ k = 1 ∨ k = 2 := by omega
    rcases h3 with rfl | rfl | rfl
    · go_wp2_with fail
      refine (HH1.out wr (K0.out (by first | rfl | trivial))).mono ?_
      rintro r w2 ⟨rfl, hu2, hr1⟩
      have rf2 := hu2.row rf HX.out
      have hu3 := hu.trans hu2
      have hl2 := rf2.lt
      by_cases hf : f1.err = 0
      · have hf1 : (f1.err != 0) = false := neq_no hf
        have HE := Lib.hid hf
        have HR := Lib.hid (HR1.out w2 (.cells (ftC f1) 31) (hr1.out hf))
        clear hf
        go_wp2_with fail
        go_roundw
        case rel => exact ⟨1, by omega, by go_num, hu3.alloc _, rf2.alloc _, fun h => absurd h (by omega), fun _ => HE.out, fun _ => HR.out, fun h => absurd h (by omega)⟩
        case measure => first | (simp [intOf]; omega) | simp [intOf]
      · have hf1 : (f1.err != 0) = true := neq_yes hf
        have HF := Lib.hid (ft2_1 (b := f2) hf)
        have HE : Hid ((ft2 f1 f2).err ≠ 0) := by show _ ≠ _; rw [HF.out]; exact hf
        clear hf
        obtain ⟨⟨k0, k1, k2⟩, g0, g1, g2⟩ := rf2.three
        go_wp2_with fail
        exact bodyPost_ret (res1 rfl Tryz.underlying31 rfl (by kernel_rfl) rfl ((rf2.set3 _ _ _).alloc _)) rfl ⟨(congrArg (fun f => Ending.returned (ftV f)) HF.out).symm, (hu3.set3 (Nat.le_refl _) _ _ _).alloc _, fun g => absurd g HE.out⟩
    · have hF2 := HF2.out
      clear hF1
      go_wp2_with fail
      refine (HH2.out wr hu (K2.out (by first | rfl | trivial))).mono ?_
      rintro r w2 ⟨rfl, hu2, hr2⟩
      have rf2 := hu2.row rf HX.out
      have hu3 := hu.trans hu2
      have hl2 := rf2.lt
      have HE1 := Lib.hid (K1.out (by first | omega | trivial | simp))
      by_cases hf : f2.err = 0
      · have hf1 : (f2.err != 0) = false := neq_no hf
        have HE := Lib.hid hf
        have HR := Lib.hid (HR2.out w2 (.cells (ftC f2) 31) (hr2.out hf))
        clear hf
        go_wp2_with fail
        go_roundw
        case rel => exact ⟨2, by omega, by go_num, hu3.alloc _, rf2.alloc _, fun h => absurd h (by omega), fun _ => HE1.out, fun h => absurd h (by omega), fun _ => ⟨HE.out, HR.out⟩⟩
        case measure => first | (simp [intOf]; omega) | simp [intOf]
      · have hf1 : (f2.err != 0) = true := neq_yes hf
        have HF := Lib.hid (ft2_0 (b := f2) HE1.out)
        have HE : Hid ((ft2 f1 f2).err ≠ 0) := by show _ ≠ _; rw [HF.out]; exact hf
        clear hf
        obtain ⟨⟨k0, k1, k2⟩, g0, g1, g2⟩ := rf2.three
        go_wp2_with fail
        exact bodyPost_ret (res1 rfl Tryz.underlying31 rfl (by kernel_rfl) rfl ((rf2.set3 _ _ _).alloc _)) rfl ⟨(congrArg (fun f => Ending.returned (ftV f)) HF.out).symm, (hu3.set3 (Nat.le_refl _) _ _ _).alloc _, fun g => absurd g HE.out⟩
    · have HF : Hid (ft2 f1 f2 = ft0) := by
        show _ = _
        rw [ft2_0 (K1.out (by first | omega | trivial | simp)), HZ.out (K3.out (by first | rfl | trivial)).1]
      have HR := Lib.hid (HR3.out wr w.heap.size (.int .i64 0) (.int .i64 0) (.int .i64 0) (Nat.le_refl _) (K3.out (by first | rfl | trivial)).2)
      obtain ⟨⟨k0, k1, k2⟩, g0, g1, g2⟩ := rf.three
      go_wp2_with fail
      exact bodyPost_ret (res1 rfl Tryz.underlying31 rfl (by kernel_rfl) rfl (rf.set3 _ _ _)) rfl ⟨(congrArg (fun f => Ending.returned (ftV f)) HF.out).symm, hu.set3 (Nat.le_refl _) _ _ _, fun _ => HR.out⟩
end Go.Proofs.YtabceednmgijoaaGreat
namespace Go.Proofs.YtabceednmgijoaaGreat
open Go.RowKit
theorem lefts_len {l : List Eqn} (h : ∀ q ∈ l, q.left.length ≤ 12) : (lefts l).length ≤ 12 * l.length := by
  induction l with
  | nil => simp [lefts]
  | cons q l ih =>
    have h1 := ih (fun q hq => h q (by simp [hq]))
    have h2 := h q (by simp)
    simp only [lefts, List.map_cons, List.flatten_cons, List.length_append, List.length_cons] at h1 ⊢
    omega
theorem metTo_succ {n : Nd} {k : Nat} {q : Eqn} (h : n.eqs[k]? = some q) : metTo n (k + 1) = metTo n k ++ q.left := by
  unfold metTo lefts
  rw [List.take_add_one, h]
  simp
theorem metTo_len {n : Nd} (sm : NdSm n) (k : Nat) : (metTo n k).length ≤ 1000 := by
  unfold metTo
  rw [List.length_append, List.length_map]
  have h1 := lefts_len (l := n.eqs.take k) (fun q hq => (sm.eq q (List.mem_of_mem_take hq)).left)
  have h2 := sm.ins
  have h3 := sm.eqs
  have h4 : (n.eqs.take k).length ≤ n.eqs.length := List.length_take_le' _ _
  omega
set_option maxRecDepth 100000 in
set_option maxHeartbeats 1000000 in
theorem eqs1_any (n : Nd) (a : NdA) (q : Eqn) (A1 : Option Addr) (k1 : Nat) (A2 : Option Addr) (k2 : Nat) (met : List ByteArray) (bm b1 b2 b3 : Nat) (w : World) (t : TypeId) (hl : (vrs n).length ≤ 10000) (hn : NdAt w w.heap.size n a) (m1 : k1 ≤ maxLen) (s1 : Sl w w.heap.size 1 isStr A1 q.left) (hm : MetIs w bm met) (hlen : met.length + q.left.length < 1000000)
    (r1 : Row w b1 (ndArr n a) 36) (r2 : Row w b2 (eqArr q A1 k1 A2 k2) 51) (r3 : Row w b3 #[.map (some bm)] t) :
    Calls Tryz.prog 69 #[.pointer (some ⟨b1, 0, none⟩), .pointer (some ⟨b2, 0, none⟩), .pointer (some ⟨b3, 0, none⟩)] w (LeftRes n met q bm w) := by
  have b0 : Below w.heap.size w (w.alloc (.cells ftC0 31)) := bE
  have rf := Row.new w ftC0 31
  have r1' := r1.below b0 r1.lt
  have r2' := r2.below b0 r2.lt
  have r3' := r3.below b0 r3.lt
  have mt := hm.below b0
  have hbm := hm.lt
  have HN := Lib.hid (hn.next b0)
  have HS := Lib.hid (strs_keep s1 (keeps_of b0) b0.size)
  clear hn s1 r1 r2 r3
  go_enter Tryz.func69, Tryz.ntmps69
  go_upto_region 1 with (fail)
  generalize w.alloc (.cells ftC0 31) = W1 at *
  obtain ⟨c0, c1, cc2, c3, c4, c5, c6⟩ := r1'.nd
  obtain ⟨d0, d1, d2, d3, d4, d5, d6, d7, d8⟩ := r2'.eqn
  have e0 := r3'.src
  go_wp2_with fail
  refine (left_any n a q A1 k1 A2 k2 met bm W1 hl HN.out m1 HS.out mt hlen).mono ?_
  rintro r w2 ⟨rfl, hm2, hu2⟩
  have rf2 := UpdM.row hu2 mt rf
  have hu3 : UpdM bm w w2 := (UpdM.of b0).trans hu2
  obtain ⟨⟨k0, k1', k2'⟩, g0, g1, g2⟩ := rf2.three
  have hne : bm ≠ w.heap.size := by omega
  go_wp2_with fail
  exact bodyPost_ret (res1 rfl Tryz.underlying31 rfl (by kernel_rfl) rfl (rf2.set3 _ _ _)) rfl ⟨rfl, fun g => (hm2.out g).set3 hne _ _ _, Upd.set3 hu3 (Nat.le_refl _) _ _ _⟩
set_option maxRecDepth 100000 in
set_option maxHeartbeats 1000000 in
theorem eqs2_any (s : List Nd) (A : Option Addr) (cap : Nat) (n : Nd) (a : NdA) (q : Eqn) (A1 : Option Addr) (k1 : Nat) (A2 : Option Addr) (k2 : Nat) (b1 b2 b3 : Nat) (w : World) (h1 : s.length ≤ cap) (h2 : cap ≤ maxLen) (hl : (vrs n).length ≤ 10000) (ok : ExOk q.right) (hk2 : q.right.args.length ≤ k2) (hm2 : k2 ≤ maxLen)
    (hs : Nds w w.heap.size A s) (hn : NdAt w w.heap.size n a) (hx : IsExs w w.heap.size A2 q.right.args)
    (r1 : Row w b1 #[.slice A s.length cap] 24) (r2 : Row w b2 (ndArr n a) 36) (r3 : Row w b3 (eqArr q A1 k1 A2 k2) 51) :
    Calls Tryz.prog 71 #[.pointer (some ⟨b1, 0, none⟩), .pointer (some ⟨b2, 0, none⟩), .pointer (some ⟨b3, 0, none⟩)] w fun r w' => r = .returned (ftV (exprF s n q.left.length q.right)) ∧ Below w.heap.size w w' := by
  have b0 : Below w.heap.size w (w.alloc (.cells ftC0 31)) := bE
  have rf := Row.new w ftC0 31
  have r1' := r1.below b0 r1.lt
  have r2' := r2.below b0 r2.lt
  have r3' := r3.below b0 r3.lt
  have HS := Lib.hid (nds_keep hs (keeps_of b0) b0.size)
  have HN := Lib.hid (hn.next b0)
  have HX := Lib.hid (exs_keep hx (keeps_of b0) b0.size)
  clear hs hn hx r1 r2 r3
  go_enter Tryz.func71, Tryz.ntmps71
  go_upto_region 1 with (fail)
  generalize w.alloc (.cells ftC0 31) = W1 at *
  have z0 := r1'.src
  obtain ⟨c0, c1, cc2, c3, c4, c5, c6⟩ := r2'.nd
  obtain ⟨d0, d1, d2, d3, d4, d5, d6, d7, d8⟩ := r3'.eqn
  go_wp2_with fail
  refine (right_scope s A cap n a q A1 k1 A2 k2 W1 h1 h2 hl ok hk2 hm2 HS.out HN.out HX.out).mono ?_
  rintro r w2 ⟨rfl, hb2⟩
  have rf2 := rf.below hb2 rf.lt
  have hB2 := b0.trans (hb2.mono b0.size)
  obtain ⟨⟨k0, k1', k2'⟩, g0, g1, g2⟩ := rf2.three
  go_wp2_with fail
  exact bodyPost_ret (res1 rfl Tryz.underlying31 rfl (by kernel_rfl) rfl (rf2.set3 _ _ _)) rfl ⟨rfl, below_set3 hB2 (Nat.le_refl _) _ _ _⟩
end Go.Proofs.YtabceednmgijoaaGreat
