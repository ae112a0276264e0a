/-
  All on which a name hangs, found from hand to hand: the contract of calls.reach.
-/
import Derived.Test.YtabceednmgijoaaGreatCalA
namespace Go.Proofs.YtabceednmgijoaaGreat
open Go.RowKit
attribute [local go_sem ↓] Go.wp_at_zero Go.wp_at_succ
noncomputable def metLen (w : World) (o : Value) : Nat := match (Builtin.len_ #[58] 58 #[o]).run Tryz.prog w with
  | .ok (.int _ n) _ => n.toNat
  | _ => 0
theorem metLen_eq {w : World} {b : Nat} {l : List ByteArray} (h : MetS w b l) : metLen w (.map (some b)) = l.length := by
  unfold metLen
  rw [h.len]
  simp
def sliceLen : Value → Nat
  | .slice _ n _ => n
  | _ => 0
theorem WinS.form {w : World} {base : Nat} {v : Value} {l : List ByteArray} (h : WinS w base v l) : ∃ A c, v = .slice A l.length c := by
  rcases h with ⟨rfl, rfl⟩ | ⟨g, off, cap, rfl, _⟩
  · exact ⟨_, _, rfl⟩
  · exact ⟨_, _, rfl⟩
theorem fnd_len {s : List Nd} {a : ByteArray} {l wt : List ByteArray} (h0 : (scopeF s).err = 0) (sm : SrcSm s) (h : Fnd (usesAt s) a l wt) : l.length ≤ 20 := by
  have := nodup_len h.nd fun x hx => hg_sub (uses_V h0) (h.hg x (.inl hx))
  rw [List.length_map] at this
  have := sm.len
  omega
theorem fnd_new {s : List Nd} {a x : ByteArray} {l wt : List ByteArray} (h0 : (scopeF s).err = 0) (sm : SrcSm s) (h : Fnd (usesAt s) a l (x :: wt)) (hx : x ∉ l) : l.length < 20 := by
  have := fnd_len h0 sm (h.new hx)
  simp only [List.length_append, List.length_cons, List.length_nil] at this
  omega
set_option maxRecDepth 100000 in
set_option maxHeartbeats 1000000 in
theorem reach_any (s : List Nd) (b : Nat) (nm : ByteArray) (w : World) (h0 : (scopeF s).err = 0) (sm : SrcSm s) (hU : UsesM w b s s.length) (hs : nm.size ≤ maxLen) :
    Calls Tryz.prog 34 #[.map (some b), .string nm] w fun e w' => (∃ b' L, e = .returned (.map (some b')) ∧ MetS w' b' L ∧ Hid (∀ x, x ∈ L ↔ Hg (usesAt s) nm x)) ∧ Below w.heap.size w w' := by
  have HSM := Lib.hid sm
  have H0 := Lib.hid h0
  have hmm := @run_makeMap Tryz.prog
  have b1 : Below w.heap.size w (w.alloc (.map #[] 0)) := bE
  have m1 := mets_made w
  have hU1 := hU.below b1
  obtain ⟨A0, c0, hlk, g1, g2, g3⟩ := hU1.look hs
  have hl0 := usesAt_len h0 sm nm
  have HC := Lib.hid (clone_strs (usesAt s nm) A0 c0 (w.alloc (.map #[] 0)) (by omega) g3)
  have hbl := hU.lt
  clear sm h0 g1 g2 g3
  go_enter Tryz.func34, Tryz.ntmps34
  go_wp2_with fail
  refine Calls.mono HC.out ?_
  rintro e w2 ⟨⟨v2, rfl, hv2⟩, hb2⟩
  have hB2 := b1.trans (hb2.mono b1.size)
  have m2 := m1.below hb2 m1.lt
  have hU2 := hU1.below hb2
  have hs2 := hb2.size
  rw [World.size_alloc] at hv2 hs2
  clear HC hb2 m1 hU1 b1
  go_wp2_with fail
  go_loopw [6, 7] (fun wt _ wr => ∃ (L W : List ByteArray), MetS wr w.heap.size L ∧ WinS wr (w.heap.size + 1) wt W ∧ Hid (Fnd (usesAt s) nm L W) ∧ W.length ≤ 20 * (L.length + 1) ∧ Below w.heap.size w wr ∧ w.heap.size < wr.heap.size ∧ Hid (∀ x ∈ W, x.size ≤ maxLen)) (fun wt _ W => (21 - metLen W (.map (some w.heap.size))) * 50 + sliceLen wt)
  case atStart => exact ⟨[], usesAt s nm, m2, hv2, Fnd.start nm, by simp; omega, hB2, by omega, by
    obtain ⟨n, f, _, _, h⟩ := hU2
    have := strsV_size (h nm)
    rw [usesTo_all] at this
    exact this⟩
  case round =>
    obtain ⟨L, W, m3, hW, HF, hWl, hB3, hl3, HZ⟩ := hrel
    have hs3 := hB3.size
    have hU3 := hU.below hB3
    cases W with
    | nil =>
      obtain ⟨A, c, rfl⟩ := hW.form
      have i0 : decide ((0 : Int) < 0) = false := rfl
      go_wp2_with fail
      go_ret
      exact ⟨⟨_, L, rfl, m3, fun x => HF.out.end_ x⟩, hB3⟩
    | cons x W =>
      obtain ⟨g, off, cap, rfl, q1, q2, c0, hW'⟩ := hW.head
      have hx := HZ.out x (by simp)
      have HZ' : Hid (∀ y ∈ W, y.size ≤ maxLen) := fun y hy => HZ.out y (by simp [hy])
      have q2' : cap ≤ 9223372036854775807 := by unfold maxLen at q2; omega
      have i0 : (0 : Int) < (W.length : Int) + 1 := by omega
      have i1 : (1 : Int) ≤ (W.length : Int) + 1 := by omega
      simp only [List.length_cons] at hWl
      rcases hW' with ⟨hc1, hW'⟩ | ⟨rfl, rfl, hW'⟩
      · skip
        by_cases hP : x ∈ L
        · have hlk3 := (m3.look hx).1 hP
          have HF' := Lib.hid (HF.out.old hP)
          clear hP HF HZ
          go_wp2_with fail
          go_roundw
          case rel => exact ⟨L, W, m3, by simpa using hW', HF', by first | omega | (simp; omega) | simp, hB3, hl3, HZ'⟩
          case measure => simp [sliceLen]
        · have hlk3 := (m3.look hx).2 hP
          have HF' := Lib.hid (HF.out.new hP)
          have hL := fnd_new H0.out HSM.out HF.out hP
          have hlx := usesAt_len H0.out HSM.out x
          have HPN : Hid (putN L x = L ++ [x]) := by show _ = _; unfold putN; rw [if_neg hP]
          clear hP HF HZ
          go_wp2_with (first
            | (at_mapUpdate; refine wpList_mets rfl _ _ _ rfl w.heap.size L rfl m3 (by omega) x rfl hx rfl ?_; intro w4 m4 hg4; rw [HPN.out] at m4; have hU4 := hU3.grown m3.isO hg4 (by omega); obtain ⟨A4, c4, hlk4, r1, r2, r3⟩ := hU4.look hx; have hZ4 := strs_size r3; have hW4 := hW'.grown hg4 (fun k hk e => by have := (hW'.own k hk).1; injection e with e; omega); have hs4 := hg4.size)
            | (at_builtin; refine wpList_append_wins rfl _ _ rfl (w.heap.size + 1) W (usesAt s x) _ rfl hW4 A4 c4 rfl r3 (by first | omega | (simp; omega)) (by omega) ?_; intro v5 w5 hW5 hg5))
          have hB4 := hB3.grown hg4 hs3 (fun k e => by cases e; omega)
          have ob := hW4.own
          obtain ⟨A5, c5, rfl⟩ := hW5.form
          have m5 := m4.grown hg5 (fun e => by have := (ob _ e.symm).1; omega)
          have hB5 := hB4.grown hg5 (Nat.le_trans hs3 hs4) (fun k e => by have := (ob k e).1; omega)
          go_roundw
          case rel => exact ⟨L ++ [x], W ++ usesAt s x, m5, hW5, HF', by simp; omega, hB5, by have := hg5.size; omega, fun y hy => by
            rcases List.mem_append.1 hy with hy | hy
            · exact HZ'.out y hy
            · exact hZ4 y hy⟩
          case measure =>
            rw [metLen_eq m5, metLen_eq m3]
            simp [sliceLen]
            omega
      · clear hW
        by_cases hP : x ∈ L
        · have hlk3 := (m3.look hx).1 hP
          have HF' := Lib.hid (HF.out.old hP)
          clear hP HF HZ
          go_wp2_with fail
          go_roundw
          case rel => exact ⟨L, ([] : List ByteArray), m3, by simpa using hW', HF', by first | omega | (simp; omega) | simp, hB3, hl3, HZ'⟩
          case measure => simp [sliceLen]
        · have hlk3 := (m3.look hx).2 hP
          have HF' := Lib.hid (HF.out.new hP)
          have hL := fnd_new H0.out HSM.out HF.out hP
          have hlx := usesAt_len H0.out HSM.out x
          have HPN : Hid (putN L x = L ++ [x]) := by show _ = _; unfold putN; rw [if_neg hP]
          clear hP HF HZ
          go_wp2_with (first
            | (at_mapUpdate; refine wpList_mets rfl _ _ _ rfl w.heap.size L rfl m3 (by omega) x rfl hx rfl ?_; intro w4 m4 hg4; rw [HPN.out] at m4; have hU4 := hU3.grown m3.isO hg4 (by omega); obtain ⟨A4, c4, hlk4, r1, r2, r3⟩ := hU4.look hx; have hZ4 := strs_size r3; have hW4 := hW'.grown hg4 (fun k hk e => by have := (hW'.own k hk).1; injection e with e; omega); have hs4 := hg4.size)
            | (at_builtin; refine wpList_append_wins rfl _ _ rfl (w.heap.size + 1) ([] : List ByteArray) (usesAt s x) _ rfl hW4 A4 c4 rfl r3 (by first | omega | (simp; omega)) (by omega) ?_; intro v5 w5 hW5 hg5))
          have hB4 := hB3.grown hg4 hs3 (fun k e => by cases e; omega)
          have ob := hW4.own
          obtain ⟨A5, c5, rfl⟩ := hW5.form
          have m5 := m4.grown hg5 (fun e => by have := (ob _ e.symm).1; omega)
          have hB5 := hB4.grown hg5 (Nat.le_trans hs3 hs4) (fun k e => by have := (ob k e).1; omega)
          go_roundw
          case rel => exact ⟨L ++ [x], ([] : List ByteArray) ++ usesAt s x, m5, hW5, HF', by simp; omega, hB5, by have := hg5.size; omega, fun y hy => by
            rcases List.mem_append.1 hy with hy | hy
            · exact HZ'.out y hy
            · exact hZ4 y hy⟩
          case measure =>
            rw [metLen_eq m5, metLen_eq m3]
            simp [sliceLen]
            omega
end Go.Proofs.YtabceednmgijoaaGreat
