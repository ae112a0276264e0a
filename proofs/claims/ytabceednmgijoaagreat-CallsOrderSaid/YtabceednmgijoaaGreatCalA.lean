/-
  The map from each node to what it calls, and all on which a name hangs: the contracts of calls.all and calls.reach.
-/
import Derived.Test.YtabceednmgijoaaGreatCalP
import Derived.Test.YtabceednmgijoaaGreatWnS
namespace Go.Proofs.YtabceednmgijoaaGreat
open Go.RowKit
attribute [local go_sem ↓] Go.wp_at_zero Go.wp_at_succ
theorem cell_kept {w w' : World} {b : Nat} (hb : ∃ o, w.heap[b]? = some o ∧ ∀ cs t f, o ≠ .cells cs t f) (hg : w.grownBy w' (some b)) {p : Addr} {u : Value} (hc : w.cell? p = some u) : w'.cell? p = some u :=
  hg.cell hc (fun e => by
    injection e with e
    obtain ⟨o, ho, hn⟩ := hb
    simp only [World.cell?] at hc
    rw [← e] at ho
    rw [ho] at hc
    cases o with
    | cells cs t f => exact hn _ _ _ rfl
    | _ => cases hc)
theorem MapV.isMap {w : World} {b n : Nat} {f : ByteArray → Value} (h : MapV w b n f) : ∃ o, w.heap[b]? = some o ∧ ∀ cs t f, o ≠ .cells cs t f := by
  obtain ⟨D, ⟨es, clock, h1, _⟩, _⟩ := h
  exact ⟨_, h1, fun _ _ _ e => by cases e⟩
theorem row_mapv {W W' : World} {b c n : Nat} {f : ByteArray → Value} {cs : Array Value} {t : TypeId} (r : Row W c cs t) (h : MapV W b n f) (hg : W.grownBy W' (some b)) : Row W' c cs t := by
  obtain ⟨D, ⟨es, clock, hm, _⟩, _⟩ := h
  exact r.own hg (fun r e => by cases e; exact ⟨_, hm, rfl⟩)
theorem MetS.isO {w : World} {b : Nat} {l : List ByteArray} (h : MetS w b l) : ∃ o, w.heap[b]? = some o ∧ ∀ cs t f, o ≠ .cells cs t f := by
  obtain ⟨es, clock, h1⟩ := h.isMap
  exact ⟨_, h1, fun _ _ _ e => by cases e⟩
open Classical in
/-- what each of the first so many nodes calls -/
noncomputable def usesTo (s : List Nd) (k : Nat) (nm : ByteArray) : List ByteArray := if nm ∈ (s.map Nd.name).take k then usesAt s nm else []
theorem usesTo_all (s : List Nd) (nm : ByteArray) : usesTo s s.length nm = usesAt s nm := by
  unfold usesTo
  rw [List.take_of_length_le (by simp)]
  split
  · rfl
  · rename_i h
    unfold usesAt
    rw [nodeAt_none.2 h]
theorem usesTo_succ {s : List Nd} (h0 : (scopeF s).err = 0) {k : Nat} {n : Nd} (hk : s[k]? = some n) (nm : ByteArray) : (nm = n.name → usesTo s (k + 1) nm = usesF n) ∧ (nm ≠ n.name → usesTo s (k + 1) nm = usesTo s k nm) := by
  have e : (s.map Nd.name).take (k + 1) = (s.map Nd.name).take k ++ [n.name] := by
    have h := map_get Nd.name hk
    obtain ⟨h1, h2⟩ := List.getElem?_eq_some_iff.1 h
    rw [List.take_succ_eq_append_getElem h1, h2]
  unfold usesTo
  rw [e]
  constructor
  · rintro rfl
    rw [if_pos (by simp), usesAt_self h0 (List.mem_of_getElem? hk)]
  · intro hne
    by_cases g : nm ∈ (s.map Nd.name).take k
    · rw [if_pos g, if_pos (by simp [g])]
    · rw [if_neg g, if_neg (by simp [g, hne])]
/-- block b is the map from each of the first so many nodes to what it calls -/
def UsesM (w : World) (b : Nat) (s : List Nd) (k : Nat) : Prop := ∃ (n : Nat) (f : ByteArray → Value), MapV w b n f ∧ n ≤ k ∧ ∀ nm, SlV w w.heap.size 1 isStr (f nm) (usesTo s k nm)
section
variable {w w' : World} {b k : Nat} {s : List Nd}
theorem UsesM.lt (h : UsesM w b s k) : b < w.heap.size := by
  obtain ⟨n, f, h1, _⟩ := h
  exact h1.lt
theorem UsesM.below (h : UsesM w b s k) (hb : Below w.heap.size w w') : UsesM w' b s k := by
  obtain ⟨n, f, h1, h2, h3⟩ := h
  exact ⟨n, f, h1.below hb h1.lt, h2, fun nm => ((h3 nm).below hb).more hb.size⟩
theorem UsesM.grown (h : UsesM w b s k) {b' : Nat} (hb : ∃ o, w.heap[b']? = some o ∧ ∀ cs t f, o ≠ .cells cs t f) (hg : w.grownBy w' (some b')) (hne : b ≠ b') : UsesM w' b s k := by
  obtain ⟨n, f, h1, h2, h3⟩ := h
  exact ⟨n, f, h1.grown hg (fun e => hne (by injection e)), h2, fun nm => ((h3 nm).keep (fun p u _ hc => cell_kept hb hg hc) (Nat.le_refl _) (fun _ _ _ h => h)).more hg.size⟩
theorem usesM_put (h0 : (scopeF s).err = 0) {n : Nd} (hk : s[k]? = some n) {m : Nat} {f : ByteArray → Value} {v : Value} (hM0 : MapV w b m f) (hm : m ≤ k) (hf : ∀ nm, SlV w w.heap.size 1 isStr (f nm) (usesTo s k nm)) (hv : SlV w w.heap.size 1 isStr v (usesF n))
    {g : ByteArray → Value} (hg1 : ∀ nm, nm = n.name → g nm = v) (hg2 : ∀ nm, nm ≠ n.name → g nm = f nm) (hM : MapV w' b (m + 1) g) (hg : w.grownBy w' (some b)) : UsesM w' b s (k + 1) := by
  refine ⟨m + 1, g, hM, by omega, fun nm => ?_⟩
  by_cases e : nm = n.name
  · rw [hg1 nm e, (usesTo_succ h0 hk nm).1 e]
    exact (hv.keep (fun p u _ hc => cell_kept hM0.isMap hg hc) (Nat.le_refl _) (fun _ _ _ h => h)).more hg.size
  · rw [hg2 nm e, (usesTo_succ h0 hk nm).2 e]
    exact ((hf nm).keep (fun p u _ hc => cell_kept hM0.isMap hg hc) (Nat.le_refl _) (fun _ _ _ h => h)).more hg.size
theorem UsesM.look (h : UsesM w b s s.length) {nm : ByteArray} (hs : nm.size ≤ maxLen) : ∃ A c, (Instr.lookup 68 (.map (some b)) (.string nm) false).run Tryz.prog w = .ok (.slice A (usesAt s nm).length c) w ∧ (usesAt s nm).length ≤ c ∧ c ≤ maxLen ∧ Sl w w.heap.size 1 isStr A (usesAt s nm) := by
  obtain ⟨n, f, h1, h2, h3⟩ := h
  have hl := h1.look hs
  obtain ⟨A, c, e, g1, g2, g3⟩ := h3 nm
  rw [usesTo_all] at e g1 g3
  rw [e] at hl
  exact ⟨A, c, hl, g1, g2, g3⟩
end
theorem usesAt_len {s : List Nd} (h0 : (scopeF s).err = 0) (sm : SrcSm s) (nm : ByteArray) : (usesAt s nm).length ≤ 20 := by
  have := nodup_len (usesAt_rising s nm).nodup (uses_V h0 nm)
  rw [List.length_map] at this
  have := sm.len
  omega
/-- an entry more, in a region -/
theorem step_mapv {w : World} {ops : Array Oper} {o : Oper} {a : Act} {K : Act → World → Prop} {Q : Exit → Act → World → Prop} {E : Prop} (hgd : o.guard = none) (m x v : Operand) (hop : o.op = Op.mapUpdate 68 m x v)
    (b n : Nat) (f : ByteArray → Value) (hm : a.eval m = .map (some b)) (h : MapV w b n f) (hn : n < 1000000) (nm : ByteArray) (hx : a.eval x = .string nm) (hs : nm.size ≤ maxLen) (u : Value) (hv : a.eval v = u)
    (hK : ∀ w' g, MapV w' b (n + 1) g → (∀ x, x = nm → g x = u) → (∀ x, x ≠ nm → g x = f x) → w.grownBy w' (some b) → K (a.put o.dst undef) w') :
    if Region.wanted o (yielded ops a.tmps) = true then Oper.wp Tryz.prog o a w K Q else E := by
  have hw : Region.wanted o (yielded ops a.tmps) = true := by simp [Region.wanted, hgd]
  rw [if_pos hw]
  obtain ⟨w', hrun, r1, r2⟩ := h.put hs hn u
  unfold Oper.wp
  simp [execOp, hop, hm, hx, hv, hrun, Result.andThen]
  exact hK w' _ r1 (fun x e => if_pos e) (fun x e => if_neg e) r2
set_option maxRecDepth 100000 in
set_option maxHeartbeats 1000000 in
theorem all_calls (s : List Nd) (A : Option Addr) (cap : Nat) (w : World) (h0 : (scopeF s).err = 0) (sm : SrcSm s) (h1 : s.length ≤ cap) (h2 : cap ≤ maxLen) (h : Nds w w.heap.size A s) :
    Calls Tryz.prog 33 #[srcV s A cap] w fun e w' => (∃ b, e = .returned (.map (some b)) ∧ UsesM w' b s s.length ∧ w.heap.size ≤ b) ∧ Below w.heap.size w w' := by
  have HS : Hid (∀ W, Below w.heap.size w W → Nds W w.heap.size A s) := fun W hW => nds_keep h (keeps_of hW) (Nat.le_refl _)
  have HSM := Lib.hid sm
  have H0 := Lib.hid h0
  have hmm := @run_makeMap Tryz.prog
  have h2' : cap ≤ 9223372036854775807 := by unfold maxLen at h2; omega
  have b1 : Below w.heap.size w ((w.alloc (.cells #[.slice A s.length cap] 24)).alloc (.map #[] 0)) := bE
  have m1 : UsesM ((w.alloc (.cells #[.slice A s.length cap] 24)).alloc (.map #[] 0)) (w.heap.size + 1) s 0 := by
    have h := mapv_made (w.alloc (.cells #[.slice A s.length cap] 24))
    rw [World.size_alloc] at h
    exact ⟨0, _, h, Nat.le_refl _, fun nm => by unfold usesTo; rw [if_neg (by simp)]; exact SlV.nil⟩
  clear h sm h0
  go_enter Tryz.func33, Tryz.ntmps33
  go_wp2_with fail
  go_loopw [10] (fun i wr => ∃ k : Nat, k ≤ s.length ∧ i = .int .i64 k ∧ UsesM wr (w.heap.size + 1) s k ∧ Below w.heap.size w wr) (fun i _ => s.length - (intOf i).toNat)
  case atStart => exact ⟨0, Nat.zero_le _, rfl, m1, b1⟩
  case round =>
    obtain ⟨k, hk, rfl, hM, hB⟩ := hrel
    have hsB := hB.size
    by_cases hlt : k < s.length
    rotate_left 1
    · obtain rfl : k = s.length := by omega
      go_wp2_with fail
      go_ret
      exact ⟨⟨_, rfl, hM, by omega⟩, hB⟩
    obtain ⟨b, off, n, a, hA, hb, hn, hat, d0, d1, d2, d3, d4, d5, d6⟩ := (HS.out wr hB).nd hlt
    subst hA
    have HX := Lib.hid hn
    have HNS := Lib.hid (HSM.out.all n (List.mem_of_getElem? hn))
    have HAW : Hid (∀ W, Below wr.heap.size wr W → NdAt W W.heap.size n a) := fun W hW => (hat.below (hW.mono hsB)).more (Nat.le_trans hsB hW.size)
    have i0 : (0 : Int) ≤ (k : Int) := by omega
    have i1 : (k : Int) < (s.length : Int) := by omega
    have rn1 := Row.new wr (ndArr n a) 36
    have ba : Below wr.heap.size wr (wr.alloc (.cells (ndArr n a) 36)) := bE
    have hnm := hat.name
    clear hn hat
    go_upto_region 5 with (fail)
    clear d0 d1 d2 d3 d4 d5 d6
    generalize hW5 : wr.alloc (.cells (ndArr n a) 36) = w5 at *
    clear hW5
    have hM5 := hM.below ba
    have hB5 := hB.trans (ba.mono hsB)
    have hs5 := hB5.size
    have HK : Hid (∀ W, Below w5.heap.size w5 W → (W.cell? ⟨wr.heap.size, 0, none⟩ = some (.string n.name) ∧ W.cell? ⟨wr.heap.size, 1, none⟩ = some (.slice a.ai n.ins.length a.ci) ∧ W.cell? ⟨wr.heap.size, 2, none⟩ = some (.slice a.ao n.outs.length a.co) ∧ W.cell? ⟨wr.heap.size, 3, none⟩ = some (.slice a.av n.vars.length a.cv) ∧ W.cell? ⟨wr.heap.size, 4, none⟩ = some (.slice a.aq n.eqs.length a.cq) ∧ W.cell? ⟨wr.heap.size, 5, none⟩ = some (.int .i64 n.line) ∧ W.cell? ⟨wr.heap.size, 6, none⟩ = some (.int .i64 n.col))) := fun W hW => (rn1.below hW rn1.lt).nd
    refine wp_region_held_drew (S := fun W => (W.cell? ⟨wr.heap.size, 0, none⟩ = some (.string n.name) ∧ W.cell? ⟨wr.heap.size, 1, none⟩ = some (.slice a.ai n.ins.length a.ci) ∧ W.cell? ⟨wr.heap.size, 2, none⟩ = some (.slice a.ao n.outs.length a.co) ∧ W.cell? ⟨wr.heap.size, 3, none⟩ = some (.slice a.av n.vars.length a.cv) ∧ W.cell? ⟨wr.heap.size, 4, none⟩ = some (.slice a.aq n.eqs.length a.cq) ∧ W.cell? ⟨wr.heap.size, 5, none⟩ = some (.int .i64 n.line) ∧ W.cell? ⟨wr.heap.size, 6, none⟩ = some (.int .i64 n.col))) (by kernel_rfl) ?_ (fun hHeld => ?_)
    · (try dsimp only); (first | (with_reducible exact rn8.nd) | (with_reducible exact HK.out _ bE) | exact hHeld | assumption | trivial)
    refine tk 0 (some 14) rfl ?_
    refine tk 1 (some 15) rfl ?_
    refine tk 2 (some 16) rfl ?_
    refine tk 3 (some 17) rfl ?_
    refine rd1 4 (some 18) rfl (fun KK hKK => ?_)
    go_simp
    (go_at_call 12; refine Calls.mono (uses_any n a _ HNS.out (HAW.out _ (ba.trans (Below.mono (B := w5.heap.size) bE ba.size)))) ?_; rintro e w6 ⟨⟨v6, rfl, hv6⟩, hb6⟩; (have hb7 : Below w5.heap.size w5 w6 := Below.trans bE (hb6.mono lE)); (obtain ⟨m0, f0, hM0, hm0, hf0⟩ := UsesM.below hM5 hb7))
    (try go_wp2_with fail)
    refine hKK.out _ _ ?_ (fun hHeld => ?_)
    · (try dsimp only); (first | (with_reducible exact rn8.nd) | (with_reducible exact HK.out _ bE) | exact hHeld | assumption | trivial)
    clear hKK KK
    try simp only [Act.put, List.setIfInBounds_toArray, List.set_cons_zero, List.set_cons_succ]
    refine rd1 5 none rfl (fun KK hKK => ?_)
    (refine step_mapv rfl _ _ _ rfl (w.heap.size + 1) m0 f0 rfl hM0 (by have := HSM.out.len; omega) n.name rfl hnm v6 rfl ?_; intro w8 g8 hM8 hg1 hg2 hg8; have rn8 := row_mapv (rn1.below hb7 rn1.lt) hM0 hg8)
    refine hKK.out _ _ ?_ (fun hHeld => ?_)
    · (try dsimp only); (first | (with_reducible exact rn8.nd) | (with_reducible exact HK.out _ bE) | exact hHeld | assumption | trivial)
    clear hKK KK
    try simp only [Act.put]
    refine wpAnyH_done (by kernel_rfl) ?_ _
    have hM9 := usesM_put H0.out HX.out hM0 hm0 hf0 hv6 hg1 hg2 hM8 hg8
    have hB9 := (hB5.trans (hb7.mono hs5)).grown hg8 (Nat.le_trans hs5 hb7.size) (fun k e => by cases e; omega)
    go_wp2_with fail
    go_roundw
    case rel => exact ⟨k + 1, by omega, by go_num, hM9, hB9⟩
    case measure => first | (simp [intOf]; omega) | simp [intOf]
end Go.Proofs.YtabceednmgijoaaGreat
