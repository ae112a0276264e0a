/-
  What is wrong with an expression, but for what is within it: the contract of scope.one; scope.Var in one form.
-/
import Derived.Test.YtabceednmgijoaaGreatScE
import Derived.Test.YtabceednmgijoaaGreatClkA
namespace Go.Proofs.YtabceednmgijoaaGreat
open Go.RowKit
/-- what scope.Var gives, in one form -/
def Var1 (n : Nd) (nm : ByteArray) (w : World) (e : Ending) (w' : World) : Prop :=
  (∃ (x : Vr) (A : Option Addr) (cap : Nat), e = .returned (.tuple #[vrV x A cap, .bool (cB (nm ∈ nms (vrs n)))]) ∧ Hid (nm ∈ nms (vrs n) → ∃ k : Nat, varIdx n nm = k ∧ (vrs n)[k]? = some x ∧ VrOk x ∧ x.clock.length ≤ cap ∧ cap ≤ maxLen ∧ Sl w' w.heap.size 2 isLit A x.clock) ∧ Hid (nm ∉ nms (vrs n) → x = vr0 ∧ A = none ∧ cap = 0)) ∧ Below w.heap.size w w'
theorem svar1_any (n : Nd) (a : NdA) (nm : ByteArray) (w : World) (h : NdAt w w.heap.size n a) (hl : (vrs n).length ≤ 10000) :
    Calls Tryz.prog 39 #[ndV n a, .string nm] w (Var1 n nm w) := by
  refine (svar_any n a nm w h hl).mono fun e w' hr => ?_
  obtain ⟨⟨k, x, A, cap, h1, h2, rfl, h3, h4, h5, h6⟩ | ⟨h1, rfl⟩, hb⟩ := hr
  · have hm : nm ∈ nms (vrs n) := var_mem.1 (by rw [h1]; omega)
    exact ⟨⟨x, A, cap, by rw [cB_true hm], fun _ => ⟨k, h1, h2, h3, h4, h5, h6⟩, fun g => absurd hm g⟩, hb⟩
  · have hm : nm ∉ nms (vrs n) := var_neg.1 (by rw [h1]; decide)
    exact ⟨⟨vr0, none, 0, by rw [cB_false hm], fun g => absurd g hm, fun _ => ⟨rfl, rfl, rfl⟩⟩, hb⟩
theorem names_four {op : Int} (h : namesB op = true) : op = 3 ∨ op = 24 ∨ op = 25 ∨ op = 26 := by simpa [namesB] using h
theorem names_not {op : Int} (h : namesB op = false) : op ≠ 3 ∧ op ≠ 24 ∧ op ≠ 25 ∧ op ≠ 26 := by
  have h : ¬ (op = 3 ∨ op = 24 ∨ op = 25 ∨ op = 26) := by simpa [namesB] using h
  omega
set_option maxRecDepth 100000 in
set_option maxHeartbeats 1000000 in
theorem one_any (s : List Nd) (A : Option Addr) (cap : Nat) (n : Nd) (a : NdA) (e : Ex) (A2 : Option Addr) (cap2 : Nat) (outs : Int) (w : World) (h1 : s.length ≤ cap) (h2 : cap ≤ maxLen) (hl : (vrs n).length ≤ 10000) (hm2 : cap2 ≤ maxLen)
    (hs : Nds w w.heap.size A s) (hn : NdAt w w.heap.size n a) :
    Calls Tryz.prog 85 #[srcV s A cap, ndV n a, exV e A2 cap2, .int .i64 outs] w fun r w' => r = .returned (ftV (oneF s n outs e)) ∧ Below w.heap.size w w' := by
  have rs1 := (((Row.new w #[.slice A s.length cap] 24).alloc (.cells (ndArr n a) 36)).alloc (.cells (exA e A2 cap2) 45)).alloc (.cells ftC0 31)
  have rn1 := ((rowNew2 w (.cells #[.slice A s.length cap] 24) (ndArr n a) 36).alloc (.cells (exA e A2 cap2) 45)).alloc (.cells ftC0 31)
  have re1 := (rowNew3 w (.cells #[.slice A s.length cap] 24) (.cells (ndArr n a) 36) (exA e A2 cap2) 45).alloc (.cells ftC0 31)
  have rf1 := rowNewD w (.cells #[.slice A s.length cap] 24) (.cells (ndArr n a) 36) (.cells (exA e A2 cap2) 45) ftC0 31
  have b1 : Below w.heap.size w ((((w.alloc (.cells #[.slice A s.length cap] 24)).alloc (.cells (ndArr n a) 36)).alloc (.cells (exA e A2 cap2) 45)).alloc (.cells ftC0 31)) := bE
  have HS : Hid (∀ W, Below w.heap.size w W → Nds W w.heap.size A s) := fun W hW => nds_keep hs (keeps_of hW) (Nat.le_refl _)
  have HN : Hid (∀ W, Below w.heap.size w W → NdAt W w.heap.size n a) := fun W hW => hn.below hW
  have HL := Lib.hid hl
  have h2' : cap ≤ 9223372036854775807 := by unfold maxLen at h2; omega
  have hm2' : cap2 ≤ 9223372036854775807 := by unfold maxLen at hm2; omega
  clear hs hn hl
  go_enter Tryz.func85, Tryz.ntmps85
  go_upto_region 1 with (fail)
  generalize (((w.alloc (.cells #[.slice A s.length cap] 24)).alloc (.cells (ndArr n a) 36)).alloc (.cells (exA e A2 cap2) 45)).alloc (.cells ftC0 31) = W1 at *
  have hs1 := b1.size
  obtain ⟨x0, x1, x2, x3, x4, x5⟩ := re1.ex6
  obtain ⟨c0, c1, cc2, c3, c4, c5, c6⟩ := rn1.nd
  have z0 := rs1.src
  by_cases hnb : namesB e.op = true
  · have hcs : (e.op == 3) = true ∨ ((e.op == 3) = false ∧ (e.op == 24) = true) ∨ ((e.op == 3) = false ∧ (e.op == 24) = false ∧ (e.op == 25) = true) ∨ ((e.op == 3) = false ∧ (e.op == 24) = false ∧ (e.op == 25) = false ∧ (e.op == 26) = true) := by
      rcases names_four hnb with g | g | g | g
      · exact .inl (eq_yes g)
      · exact .inr (.inl ⟨eq_no (by omega), eq_yes g⟩)
      · exact .inr (.inr (.inl ⟨eq_no (by omega), eq_no (by omega), eq_yes g⟩))
      · exact .inr (.inr (.inr ⟨eq_no (by omega), eq_no (by omega), eq_no (by omega), eq_yes g⟩))
    have HR := Lib.hid (svar1_any n a e.name W1 ((HN.out W1 b1).more hs1) HL.out)
    by_cases hin : e.name ∈ nms (vrs n)
    · have HB := Lib.hid (cB_true hin)
      have HF : Hid (oneF s n outs e = ft0) := by show _ = _; unfold oneF; rw [if_pos hnb, if_neg (fun g => g hin)]
      clear hnb hin
      rcases hcs with o3 | ⟨o3, o24⟩ | ⟨o3, o24, o25⟩ | ⟨o3, o24, o25, o26⟩
      all_goals
        go_wp2_with fail
        refine HR.out.mono ?_
        rintro r w2 ⟨⟨x, A', cap', rfl, hx1, hx2⟩, hb2⟩
        rw [HB.out]
        have rf2 := rf1.below hb2 rf1.lt
        have hq2 := rf2.lt
        have hq2' : w.heap.size + 1 + 1 + 1 < w2.heap.size := hq2
        have hq3 : w.heap.size + 2 < w2.heap.size := by omega
        have hq3' : w.heap.size + 1 + 1 < w2.heap.size := hq3
        have hB2 := b1.trans (hb2.mono hs1)
        have hs2 := hB2.size
        have hl2 := rf2.lt
        have hl2' : w.heap.size + 1 + 1 + 1 < w2.heap.size := hl2
        obtain ⟨⟨k0, k1, k2⟩, g0, g1, g2⟩ := rf2.three
        go_wp2_with fail
        exact bodyPost_ret (res1 rfl Tryz.underlying31 rfl (by kernel_rfl) rfl ((rf2.set3 _ _ _).alloc _)) rfl ⟨(congrArg (fun f => Ending.returned (ftV f)) HF.out).symm, (below_set3 hB2 (by first | omega | (simp; omega) | simp) _ _ _).alloc (by first | (simp [World.setCell]; omega) | simp [World.setCell]) _⟩
    · have HB := Lib.hid (cB_false hin)
      have HF : Hid (oneF s n outs e = ⟨24, e.line, e.col⟩) := by show _ = _; unfold oneF; rw [if_pos hnb, if_pos hin]
      clear hnb hin
      rcases hcs with o3 | ⟨o3, o24⟩ | ⟨o3, o24, o25⟩ | ⟨o3, o24, o25, o26⟩
      all_goals
        go_wp2_with fail
        refine HR.out.mono ?_
        rintro r w2 ⟨⟨x, A', cap', rfl, hx1, hx2⟩, hb2⟩
        rw [HB.out]
        have rf2 := rf1.below hb2 rf1.lt
        have hq2 := rf2.lt
        have hq2' : w.heap.size + 1 + 1 + 1 < w2.heap.size := hq2
        have hq3 : w.heap.size + 2 < w2.heap.size := by omega
        have hq3' : w.heap.size + 1 + 1 < w2.heap.size := hq3
        have re2 := re1.below hb2 re1.lt
        have hB2 := b1.trans (hb2.mono hs1)
        obtain ⟨y0, y1, y2, y3, y4, y5⟩ := re2.ex6
        go_wp2_with fail
        refine (fault_any _ _ _ _).mono ?_
        rintro r w9 ⟨rfl, hb9⟩
        have q9 : Below w2.heap.size w2 w9 := Below.trans bE (hb9.mono lE)
        have rf9 := rf2.below q9 rf2.lt
        have b9 := Below.trans hB2 (q9.mono (Below.size hB2))
        obtain ⟨⟨k0, k1, k2⟩, h0, h1, h2⟩ := rf9.three
        go_wp2_with fail
        exact bodyPost_ret (res1 rfl Tryz.underlying31 rfl (by kernel_rfl) rfl (rf9.set3 _ _ _)) rfl ⟨(congrArg (fun f => Ending.returned (ftV f)) HF.out).symm, below_set3 b9 (by first | omega | (simp; omega) | simp) _ _ _⟩
  · have HNB := Lib.hid (bool_no hnb)
    obtain ⟨n3, n24, n25, n26⟩ := names_not HNB.out
    have o3 := eq_no n3
    have o24 := eq_no n24
    have o25 := eq_no n25
    have o26 := eq_no n26
    clear n3 n24 n25 n26
    by_cases h4 : e.op = 4
    · have HO4 := Lib.hid h4
      have o4 := eq_yes h4
      have HR := Lib.hid (find_any s s.length A cap e.name W1 rfl h1 h2 (nds_keep (HS.out W1 b1) (fun _ _ _ h => h) hs1))
      clear h4 hnb
      by_cases hin : e.name ∈ s.map Nd.name
      · have HB := Lib.hid (cB_true hin)
        have HIN := Lib.hid hin
        clear hin
        go_wp2_with fail
        refine HR.out.mono ?_
        rintro r w2 ⟨⟨m, am, rfl, hm1, hm0⟩, hb2⟩
        rw [HB.out]
        obtain ⟨hat, hma⟩ := hm1.out HIN.out
        have gi := hma.mi
        have go := hma.mo
        have rf2 := rf1.below hb2 rf1.lt
        have hq2 := rf2.lt
        have hq2' : w.heap.size + 1 + 1 + 1 < w2.heap.size := hq2
        have hq3 : w.heap.size + 2 < w2.heap.size := by omega
        have hq3' : w.heap.size + 1 + 1 < w2.heap.size := hq3
        have re2 := re1.below hb2 re1.lt
        have hB2 := b1.trans (hb2.mono hs1)
        have hs2 := hB2.size
        have hl2 := rf2.lt
        have hl2' : w.heap.size + 1 + 1 + 1 < w2.heap.size := hl2
        have HAT := Lib.hid hat
        clear hat hma x0 x1 x2 x3 x4 x5 c0 c1 cc2 c3 c4 c5 c6 z0
        obtain ⟨y0, y1, y2, y3, y4, y5⟩ := re2.ex6
        obtain ⟨⟨k0, k1, k2⟩, g0, g1, g2⟩ := rf2.three
        by_cases q1 : m.ins.length = e.args.length
        · have q1' : ((m.ins.length : Int) != (e.args.length : Int)) = false := neq_no (by omega)
          by_cases q2 : (m.outs.length : Int) = outs
          · have q2' : ((m.outs.length : Int) != outs) = false := neq_no q2
            have HF : Hid (oneF s n outs e = ft0) := by
              show _ = _
              unfold oneF
              rw [if_neg (by rw [HNB.out]; decide), if_pos HO4.out, HAT.out]
              simp only
              rw [if_neg (by rintro (g | g); exact g q1; exact g q2)]
            clear q1 q2
            go_wp2_with fail
            exact bodyPost_ret (res1 rfl Tryz.underlying31 rfl (by kernel_rfl) rfl ((rf2.set3 _ _ _).alloc _)) rfl ⟨(congrArg (fun f => Ending.returned (ftV f)) HF.out).symm, (below_set3 hB2 (by first | omega | (simp; omega) | simp) _ _ _).alloc (by first | (simp [World.setCell]; omega) | simp [World.setCell]) _⟩
          · have q2' : ((m.outs.length : Int) != outs) = true := neq_yes q2
            have HF : Hid (oneF s n outs e = ⟨25, e.line, e.col⟩) := by
              show _ = _
              unfold oneF
              rw [if_neg (by rw [HNB.out]; decide), if_pos HO4.out, HAT.out]
              simp only
              rw [if_pos (.inr q2)]
            clear q1 q2
            go_wp2_with fail
            refine (fault_any _ _ _ _).mono ?_
            rintro r w9 ⟨rfl, hb9⟩
            have q9 : Below w2.heap.size w2 w9 := Below.trans bE (hb9.mono lE)
            have rf9 := rf2.below q9 rf2.lt
            have b9 := Below.trans hB2 (q9.mono (Below.size hB2))
            obtain ⟨⟨k0, k1, k2⟩, h0, h1, h2⟩ := rf9.three
            go_wp2_with fail
            exact bodyPost_ret (res1 rfl Tryz.underlying31 rfl (by kernel_rfl) rfl (rf9.set3 _ _ _)) rfl ⟨(congrArg (fun f => Ending.returned (ftV f)) HF.out).symm, below_set3 b9 (by first | omega | (simp; omega) | simp) _ _ _⟩
        · have q1' : ((m.ins.length : Int) != (e.args.length : Int)) = true := neq_yes (by omega)
          have HF : Hid (oneF s n outs e = ⟨25, e.line, e.col⟩) := by
            show _ = _
            unfold oneF
            rw [if_neg (by rw [HNB.out]; decide), if_pos HO4.out, HAT.out]
            simp only
            rw [if_pos (.inl q1)]
          clear q1
          go_wp2_with fail
          refine (fault_any _ _ _ _).mono ?_
          rintro r w9 ⟨rfl, hb9⟩
          have q9 : Below w2.heap.size w2 w9 := Below.trans bE (hb9.mono lE)
          have rf9 := rf2.below q9 rf2.lt
          have b9 := Below.trans hB2 (q9.mono (Below.size hB2))
          obtain ⟨⟨k0, k1, k2⟩, h0, h1, h2⟩ := rf9.three
          go_wp2_with fail
          exact bodyPost_ret (res1 rfl Tryz.underlying31 rfl (by kernel_rfl) rfl (rf9.set3 _ _ _)) rfl ⟨(congrArg (fun f => Ending.returned (ftV f)) HF.out).symm, below_set3 b9 (by first | omega | (simp; omega) | simp) _ _ _⟩
      · have HB := Lib.hid (cB_false hin)
        have HF : Hid (oneF s n outs e = ⟨24, e.line, e.col⟩) := by
          show _ = _
          unfold oneF
          rw [if_neg (by rw [HNB.out]; decide), if_pos HO4.out, nodeAt_none.2 hin]
        clear hin
        go_wp2_with fail
        refine HR.out.mono ?_
        rintro r w2 ⟨⟨m, am, rfl, hm1, hm0⟩, hb2⟩
        rw [HB.out]
        have rf2 := rf1.below hb2 rf1.lt
        have hq2 := rf2.lt
        have hq2' : w.heap.size + 1 + 1 + 1 < w2.heap.size := hq2
        have hq3 : w.heap.size + 2 < w2.heap.size := by omega
        have hq3' : w.heap.size + 1 + 1 < w2.heap.size := hq3
        have re2 := re1.below hb2 re1.lt
        have hB2 := b1.trans (hb2.mono hs1)
        clear x0 x1 x2 x3 x4 x5
        obtain ⟨y0, y1, y2, y3, y4, y5⟩ := re2.ex6
        go_wp2_with fail
        refine (fault_any _ _ _ _).mono ?_
        rintro r w9 ⟨rfl, hb9⟩
        have q9 : Below w2.heap.size w2 w9 := Below.trans bE (hb9.mono lE)
        have rf9 := rf2.below q9 rf2.lt
        have b9 := Below.trans hB2 (q9.mono (Below.size hB2))
        obtain ⟨⟨k0, k1, k2⟩, h0, h1, h2⟩ := rf9.three
        go_wp2_with fail
        exact bodyPost_ret (res1 rfl Tryz.underlying31 rfl (by kernel_rfl) rfl (rf9.set3 _ _ _)) rfl ⟨(congrArg (fun f => Ending.returned (ftV f)) HF.out).symm, below_set3 b9 (by first | omega | (simp; omega) | simp) _ _ _⟩
    · have o4 := eq_no h4
      have HF : Hid (oneF s n outs e = ft0) := by show _ = _; unfold oneF; rw [if_neg hnb, if_neg h4]
      clear h4 hnb
      obtain ⟨⟨k0, k1, k2⟩, g0, g1, g2⟩ := rf1.three
      go_wp2_with fail
      exact bodyPost_ret (res1 rfl Tryz.underlying31 rfl (by kernel_rfl) rfl (rf1.set3 _ _ _)) rfl ⟨(congrArg (fun f => Ending.returned (ftV f)) HF.out).symm, below_set3 b1 (by first | omega | (simp; omega) | simp) _ _ _⟩
end Go.Proofs.YtabceednmgijoaaGreat
