/-
  Ticks of right machines: values are of their types (plain).
-/
import Derived.Test.YtbjaejgechadpaaVmP
import Derived.Test.YtbjaejgechadpaaZ
namespace Go.Proofs.Ytbjaejgechadpaa.Vf
open Z
theorem getI_set_same {l : List Int} {n : Nat} {v : Int} (h : n < l.length) : getI (l.set n v) (n : Int) = v := by
  simp [getI, List.getD_eq_getElem?_getD, h]
theorem getI_set_ne {l : List Int} {n m : Nat} {v : Int} (h : n ≠ m) : getI (l.set n v) (m : Int) = getI l (m : Int) := by
  simp [getI, List.getD_eq_getElem?_getD, List.getElem?_set_ne h]
theorem in_one (op a : Int) : In (Ar.oneV op a) := by
  unfold Ar.oneV
  split
  · exact in_neg _
  · split
    · unfold Ar.flagZ; split <;> (unfold In; omega)
    · unfold In; omega
theorem in_flag (b : Bool) : In (Ar.flagZ b) := by unfold Ar.flagZ; split <;> (unfold In; omega)
theorem in_do (op a b : Int) : In (Ar.doV op a b) := by
  unfold Ar.doV
  split
  · exact in_add _ _
  split
  · exact in_sub _ _
  split
  · exact in_mul _ _
  split
  · exact in_div _ _
  split
  · exact in_mod _ _
  split
  · exact in_flag _
  split
  · exact in_flag _
  · unfold In; omega
theorem flag_two (b : Bool) : Ar.flagZ b = 0 ∨ Ar.flagZ b = 1 := by unfold Ar.flagZ; split <;> simp
def machFits (p : Pg) (cells : List Int) : Prop := cells.length = p.cells.length ∧ ∀ j : Nat, j < p.cells.length → getI (types p.cells) j = 2 → getI cells j = 0 ∨ getI cells j = 1
def insFit (ts vs : List Int) : Prop := vs.length = ts.length ∧ ∀ j : Nat, j < ts.length → getI ts j = 2 → getI vs j = 0 ∨ getI vs j = 1
def AllIn (l : List Int) : Prop := ∀ v ∈ l, In v
theorem AllIn.get {l : List Int} (h : AllIn l) (n : Int) : In (getI l n) := by
  unfold getI
  rw [List.getD_eq_getElem?_getD]
  cases hg : l[n.toNat]? with
  | none => show In 0; unfold In; omega
  | some v => exact h v (List.mem_of_getElem? hg)
theorem AllIn.set {l : List Int} (h : AllIn l) (n : Nat) {v : Int} (hv : In v) : AllIn (l.set n v) := fun u hu => by
  rcases List.mem_or_eq_of_mem_set hu with g | g
  · exact h u g
  · rw [g]; exact hv
structure TI (p : Pg) (i : Nat) (s : Tk) : Prop where
  rlen : s.regs.length = p.regs.toNat
  nlen : s.next.length = p.cells.length
  olen : s.out.length = p.outs.length
  rin : AllIn s.regs
  nin : AllIn s.next
  oin : AllIn s.out
  k0 : ∀ r : Nat, r < p.regs.toNat → kindAcc (pairs p i) r 0 = 0 → getI s.regs r = 0
  k2 : ∀ r : Nat, r < p.regs.toNat → kindAcc (pairs p i) r 0 = 2 → getI s.regs r = 0 ∨ getI s.regs r = 1
  nfit : ∀ j : Nat, j < p.cells.length → getI (types p.cells) j = 2 → getI s.next j = 0 ∨ getI s.next j = 1
  ofit : ∀ j : Nat, j < p.outs.length → getI p.outs j = 2 → getI s.out j = 0 ∨ getI s.out j = 1
theorem pairs_succ {p : Pg} {i : Nat} {x : In5} (hx : p.code[i]? = some x) : pairs p (i + 1) = pairs p i ++ [(x, givesOf p (pairs p i) x)] := by rw [pairs, hx]
section
variable {p : Pg} {cells inn : List Int} {i : Nat} {s : Tk} {x : In5}
theorem TI.pass (hr : rightOk p) (hx : p.code[i]? = some x) (h : TI p i s) : TI p (i + 1) s := by
  refine ⟨h.rlen, h.nlen, h.olen, h.rin, h.nin, h.oin, fun r hr' hk => ?_, fun r hr' hk => ?_, h.nfit, h.ofit⟩
  all_goals
    rw [pairs_succ hx] at hk
    by_cases hg : 29 ≤ x.op ∨ x.a ≠ r
    · rw [kindAcc_other hg] at hk
      first | exact h.k0 r hr' hk | exact h.k2 r hr' hk
    · have ha : x.a = r := by omega
      have h0 := ((hr.2.1 i x hx).2.1 (by omega)).2.1
      rw [ha] at h0
      have := h.k0 r hr' h0
      first | exact this | exact .inl this
/-- what a register that is taken has -/
theorem TI.taken2 (h : TI p i s) {r : Int} (ht : taken p (pairs p i) r = 2) : getI s.regs r = 0 ∨ getI s.regs r = 1 := by
  have hin := taken_in (p := p) (l := pairs p i) (reg := r) (by rw [ht]; decide)
  obtain ⟨n, rfl⟩ := Int.eq_ofNat_of_zero_le hin.1
  refine h.k2 n (by omega) ?_
  unfold taken at ht
  rwa [if_neg (by omega)] at ht
theorem give_in (h : TI p i s) (hc : AllIn cells) (hi : AllIn inn) (hk : In x.k) : In (vgive cells inn s.regs x) := by
  unfold vgive
  split
  · exact hk
  split
  · exact h.rin.get _
  split
  · exact in_one _ _
  split
  · split
    · exact h.rin.get _
    · exact h.rin.get _
  split
  · exact hc.get _
  split
  · exact hi.get _
  · exact in_do _ _ _
theorem give_two (hr : rightOk p) (hx : p.code[i]? = some x) (h : TI p i s) (hc : machFits p cells) (hi : insFit p.ins inn) (hop : x.op < 29) (hg : givesOf p (pairs p i) x = 2) : vgive cells inn s.regs x = 0 ∨ vgive cells inn s.regs x = 1 := by
  obtain ⟨ht, _, _⟩ := hr.2.1 i x hx
  have hs := right_safe hr hx
  have ho := hs.op
  unfold takesOk at ht
  unfold givesOf at hg
  unfold vgive
  by_cases hS : 5 ≤ x.op ∧ x.op ≤ 20
  · rw [if_pos hS] at hg
    by_cases h56 : x.op = 5 ∨ x.op = 6
    · rw [if_neg (by omega), if_neg (by omega), if_pos h56]
      by_cases h5 : x.op = 5
      · rw [h5] at hg; simp [signOut] at hg
      · have h6 : x.op = 6 := by omega
        rw [h6]
        show Ar.oneV 6 _ = 0 ∨ Ar.oneV 6 _ = 1
        simp only [Ar.oneV]
        exact flag_two _
    · rw [if_neg (by omega), if_neg (by omega), if_neg h56, if_neg (by omega), if_neg (by omega), if_neg (by omega)]
      have h12 : 12 ≤ x.op := by
        unfold signOut at hg
        split at hg
        · omega
        · split at hg <;> omega
      unfold Ar.doV
      rw [if_neg (by omega), if_neg (by omega), if_neg (by omega), if_neg (by omega), if_neg (by omega)]
      split
      · exact flag_two _
      · rw [if_pos (by omega)]; exact flag_two _
  · rw [if_neg hS] at hg ht
    by_cases h12 : x.op = 1 ∨ x.op = 2
    · rw [if_pos h12]
      rw [if_pos (by omega)] at hg
      rw [if_pos hg] at ht
      exact ht
    · rw [if_neg h12]
      rw [if_neg (by omega)] at hg
      by_cases h3 : x.op = 3
      · rw [if_pos h3]
        rw [if_pos h3] at hg
        exact h.taken2 hg
      · rw [if_neg h3, if_neg (by omega)]
        rw [if_neg h3] at hg
        by_cases h27 : x.op = 27
        · rw [if_pos h27]
          rw [if_pos h27] at hg
          rw [if_neg (by omega), if_neg (by omega), if_pos h27] at ht
          split
          · exact h.taken2 hg
          · exact h.taken2 (by rw [ht.2.2]; exact hg)
        · rw [if_neg h27]
          rw [if_neg h27] at hg
          by_cases h21 : x.op = 21
          · rw [if_pos h21]
            have hk := hs.k21 (.inl h21)
            obtain ⟨n, hn⟩ := Int.eq_ofNat_of_zero_le hk.1
            have hty : (types p.cells).length = p.cells.length := by simp [types]
            rw [if_pos ⟨h21, by unfold has; rw [hty]; exact hk⟩] at hg
            rw [hn] at hg ⊢
            exact hc.2 n (by omega) hg
          · rw [if_neg h21]
            rw [if_neg (fun g => h21 g.1)] at hg
            have h28 : x.op = 28 := by omega
            rw [if_pos h28]
            have hk := hs.k28 h28
            obtain ⟨n, hn⟩ := Int.eq_ofNat_of_zero_le hk.1
            rw [if_pos ⟨h28, hk⟩] at hg
            rw [hn] at hg ⊢
            exact hi.2 n (by omega) hg
theorem TI.step (hr : rightOk p) (hx : p.code[i]? = some x) (hc : machFits p cells) (hi : insFit p.ins inn) (hcI : AllIn cells) (hiI : AllIn inn) (hk : In x.k) (h : TI p i s) : TI p (i + 1) (texec cells inn s x) := by
  have hs := right_safe hr hx
  have hR := hr.2.1 i x hx
  have hm := hr.1
  have hP := h.pass hr hx
  obtain ⟨na, hna⟩ := Int.eq_ofNat_of_zero_le hs.a.1
  have hal := hs.a.2
  unfold texec setI
  by_cases h29 : x.op = 29
  · rw [if_pos h29]
    have ht := hR.1
    unfold takesOk at ht
    rw [if_neg (by omega), if_neg (by omega), if_neg (by omega), if_neg (by omega), if_pos h29] at ht
    obtain ⟨nk, hnk⟩ := Int.eq_ofNat_of_zero_le ht.1.1
    refine ⟨hP.rlen, hP.nlen, by simpa using hP.olen, hP.rin, hP.nin, hP.oin.set _ (h.rin.get _), hP.k0, hP.k2, hP.nfit, fun j hj h2 => ?_⟩
    show getI (s.out.set x.k.toNat (getI s.regs x.a)) j = 0 ∨ _
    rw [hnk, Int.toNat_natCast]
    by_cases e : nk = j
    · subst e
      rw [getI_set_same (by rw [h.olen]; exact hj)]
      exact h.taken2 (by rw [ht.2, hnk]; exact h2)
    · rw [getI_set_ne e]
      exact hP.ofit j hj h2
  · rw [if_neg h29]
    by_cases h32 : x.op = 32
    · rw [if_pos h32]
      have ht := hR.1
      unfold takesOk at ht
      rw [if_neg (by omega), if_neg (by omega), if_neg (by omega), if_neg (by omega), if_neg (by omega), if_pos h32] at ht
      obtain ⟨nk, hnk⟩ := Int.eq_ofNat_of_zero_le ht.1.1
      refine ⟨hP.rlen, by simpa using hP.nlen, hP.olen, hP.rin, hP.nin.set _ (h.rin.get _), hP.oin, hP.k0, hP.k2, fun j hj h2 => ?_, hP.ofit⟩
      show getI (s.next.set x.k.toNat (getI s.regs x.a)) j = 0 ∨ _
      rw [hnk, Int.toNat_natCast]
      by_cases e : nk = j
      · subst e
        rw [getI_set_same (by rw [h.nlen]; exact hj)]
        exact h.taken2 (by rw [ht.2, hnk]; exact h2)
      · rw [getI_set_ne e]
        exact hP.nfit j hj h2
    · rw [if_neg h32]
      by_cases h30 : x.op = 30 ∨ x.op = 31
      · rw [if_pos h30]; exact hP
      · rw [if_neg h30]
        have hop : x.op < 29 := by have := hs.op; omega
        have hg := (hR.2.1 hop).2
        refine ⟨by simpa using hP.rlen, hP.nlen, hP.olen, hP.rin.set _ (give_in h hcI hiI hk), hP.nin, hP.oin, fun r hr' hk => ?_, fun r hr' hk => ?_, hP.nfit, hP.ofit⟩
        · show getI (s.regs.set x.a.toNat (vgive cells inn s.regs x)) r = 0
          rw [pairs_succ hx] at hk
          rw [hna, Int.toNat_natCast]
          by_cases e : na = r
          · subst e
            rw [kindAcc_zero hop hna 0 (by rw [← hna]; exact hg.1)] at hk
            have := hg.2
            omega
          · rw [kindAcc_other (.inr (by omega))] at hk
            rw [getI_set_ne e]
            exact h.k0 r hr' hk
        · show getI (s.regs.set x.a.toNat (vgive cells inn s.regs x)) r = 0 ∨ getI (s.regs.set x.a.toNat (vgive cells inn s.regs x)) r = 1
          rw [pairs_succ hx] at hk
          rw [hna, Int.toNat_natCast]
          by_cases e : na = r
          · subst e
            rw [kindAcc_zero hop hna 0 (by rw [← hna]; exact hg.1)] at hk
            rw [getI_set_same (by rw [h.rlen]; exact hr')]
            exact give_two hr hx h hc hi hop hk
          · rw [kindAcc_other (.inr (by omega))] at hk
            rw [getI_set_ne e]
            exact h.k2 r hr' hk
/-- all of an instruction's number is in range -/
def codeIn (p : Pg) : Prop := ∀ x ∈ p.code, In x.k
theorem trun_inv (hr : rightOk p) (hc : machFits p cells) (hi : insFit p.ins inn) (hcI : AllIn cells) (hiI : AllIn inn) (hk : codeIn p) :
    ∀ (n i over : Nat) (s : Tk), p.code.length = i + n → TI p i s → TI p p.code.length (trun cells inn (p.code.drop i) over s).1
  | 0, i, over, s, hn, h => by
    rw [List.drop_eq_nil_of_le (by omega), show trun cells inn [] over s = (s, 0) by cases over <;> rfl, hn]
    exact h
  | n + 1, i, over, s, hn, h => by
    have hil : i < p.code.length := by omega
    have hx : p.code[i]? = some p.code[i] := List.getElem?_eq_getElem hil
    rw [List.drop_eq_getElem_cons hil]
    cases over with
    | zero => exact trun_inv hr hc hi hcI hiI hk n (i + 1) _ _ (by omega) (h.step hr hx hc hi hcI hiI (hk _ (List.getElem_mem hil)))
    | succ over => exact trun_inv hr hc hi hcI hiI hk n (i + 1) over s (by omega) (h.pass hr hx)
theorem trun_le : ∀ (l : List In5) (over : Nat) (s : Tk), (trun cells inn l over s).2 ≤ l.length
  | [], over, s => by cases over <;> simp [trun]
  | x :: l, 0, s => by
    have := trun_le l (tskip s x).toNat (texec cells inn s x)
    simp only [trun, List.length_cons]
    omega
  | x :: l, over + 1, s => by
    have := trun_le l over s
    simp only [trun, List.length_cons]
    omega
end
def tk0 (p : Pg) (cells : List Int) : Tk := ⟨List.replicate p.regs.toNat 0, cells, List.replicate p.outs.length 0⟩
def tick (p : Pg) (cells inn : List Int) : Tk × Nat := trun cells inn p.code 0 (tk0 p cells)
theorem in_zero : In 0 := by unfold In; omega
theorem tk0_inv {p : Pg} {cells : List Int} (hc : machFits p cells) (hcI : AllIn cells) : TI p 0 (tk0 p cells) := by
  have hz : ∀ (n : Nat) (r : Int), getI (List.replicate n 0) r = 0 := fun n r => by
    unfold getI
    rw [List.getD_eq_getElem?_getD, List.getElem?_replicate]
    split <;> rfl
  refine ⟨by simp [tk0], hc.1, by simp [tk0], fun v hv => ?_, hcI, fun v hv => ?_, fun r _ _ => hz _ _, fun r _ _ => .inl (hz _ _), hc.2, fun j _ _ => .inl (hz _ _)⟩
  · rw [(List.mem_replicate.1 hv).2]; exact in_zero
  · rw [(List.mem_replicate.1 hv).2]; exact in_zero
theorem tick_inv {p : Pg} {cells inn : List Int} (hr : rightOk p) (hc : machFits p cells) (hi : insFit p.ins inn) (hcI : AllIn cells) (hiI : AllIn inn) (hk : codeIn p) : TI p p.code.length (tick p cells inn).1 := by
  have := trun_inv hr hc hi hcI hiI hk p.code.length 0 0 (tk0 p cells) (by omega) (tk0_inv hc hcI)
  rwa [List.drop_zero] at this
def firstZ (p : Pg) : List Int := p.cells.map (·.2)
theorem first_fits {p : Pg} (hm : mayOk p) : machFits p (firstZ p) := by
  refine ⟨by simp [firstZ], fun j hj h2 => ?_⟩
  have hv := hm.1 p.cells[j] (List.getElem_mem hj)
  have e1 : getI (types p.cells) j = p.cells[j].1 := by simp [getI, types, List.getD_eq_getElem?_getD, hj]
  have e2 : getI (firstZ p) j = p.cells[j].2 := by simp [getI, firstZ, List.getD_eq_getElem?_getD, hj]
  rw [e1] at h2
  rw [e2]
  unfold valueOk at hv
  omega
end Go.Proofs.Ytbjaejgechadpaa.Vf
