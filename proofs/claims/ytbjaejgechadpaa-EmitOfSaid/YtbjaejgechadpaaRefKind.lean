/-
  The contracts of tompionref28's Kind, taken, Gives (they call one another).
-/
import Derived.Test.YtbjaejgechadpaaPgA
import Derived.Test.YtbjaejgechadpaaArZ
namespace Go.Proofs.Ytbjaejgechadpaa
open Go.RowKit Vf

theorem pairs_len {p : Pg} : ∀ {n : Nat}, n ≤ p.code.length → (pairs p n).length = n
  | 0, _ => rfl
  | n + 1, h => by
    rw [pairs, List.getElem?_eq_getElem (by omega)]
    simp only [List.length_append, List.length_singleton]
    rw [pairs_len (by omega)]
theorem pairs_get {p : Pg} {k : Nat} {x : In5} (hx : p.code[k]? = some x) : ∀ {n : Nat}, k < n → n ≤ p.code.length → (pairs p n)[k]? = some (x, givesOf p (pairs p k) x)
  | 0, h, _ => absurd h (by omega)
  | n + 1, h, hn => by
    have hl := pairs_len (p := p) (n := n) (by omega)
    rw [pairs]
    by_cases e : k = n
    · subst e
      rw [hx]
      simp only
      rw [List.getElem?_append_right (by omega), hl, Nat.sub_self]
      rfl
    · rw [List.getElem?_eq_getElem (show n < p.code.length by omega)]
      simp only
      rw [List.getElem?_append_left (by omega)]
      exact pairs_get hx (by omega) (by omega)
theorem pairs_drop {p : Pg} {k n : Nat} {x : In5} (hx : p.code[k]? = some x) (hk : k < n) (hn : n ≤ p.code.length) : (pairs p n).drop k = (x, givesOf p (pairs p k) x) :: (pairs p n).drop (k + 1) := by
  have hl := pairs_len hn
  have hg := pairs_get hx hk hn
  rw [List.drop_eq_getElem_cons (by omega)]
  congr 1
  rw [List.getElem?_eq_getElem (by omega)] at hg
  injection hg
/-- what becomes of the loop -/
def kindIs (p : Pg) (n : Nat) (reg : Int) (k : Nat) (out : Int) : Prop := kindAcc ((pairs p n).drop k) reg out = kindAcc (pairs p n) reg 0
theorem kindIs_start {p : Pg} {n : Nat} {reg : Int} : kindIs p n reg 0 0 := by unfold kindIs; rw [List.drop_zero]
theorem kindIs_skip {p : Pg} {n k : Nat} {reg out : Int} {x : In5} (h : kindIs p n reg k out) (hx : p.code[k]? = some x) (hk : k < n) (hn : n ≤ p.code.length) (hs : 29 ≤ x.op ∨ x.a ≠ reg) : kindIs p n reg (k + 1) out := by
  unfold kindIs at h ⊢
  rw [pairs_drop hx hk hn, kindAcc, if_pos hs] at h
  exact h
theorem kindIs_nine {p : Pg} {n k : Nat} {reg out : Int} {x : In5} (h : kindIs p n reg k out) (hx : p.code[k]? = some x) (hk : k < n) (hn : n ≤ p.code.length) (h1 : ¬ 29 ≤ x.op) (h2 : x.a = reg) (ho : out ≠ 0) : kindAcc (pairs p n) reg 0 = 9 := by
  unfold kindIs at h
  rw [pairs_drop hx hk hn, kindAcc, if_neg (fun hc => hc.elim h1 (fun g => g h2)), if_pos ho] at h
  exact h.symm
theorem kindIs_new {p : Pg} {n k : Nat} {reg out : Int} {x : In5} (h : kindIs p n reg k out) (hx : p.code[k]? = some x) (hk : k < n) (hn : n ≤ p.code.length) (h1 : ¬ 29 ≤ x.op) (h2 : x.a = reg) (ho : out = 0) : kindIs p n reg (k + 1) (givesOf p (pairs p k) x) := by
  unfold kindIs at h ⊢
  rw [pairs_drop hx hk hn, kindAcc, if_neg (fun hc => hc.elim h1 (fun g => g h2)), if_neg (fun hc => hc ho)] at h
  exact h
theorem kindIs_end {p : Pg} {n : Nat} {reg out : Int} (hn : n ≤ p.code.length) (h : kindIs p n reg n out) : kindAcc (pairs p n) reg 0 = out := by
  unfold kindIs at h
  rw [List.drop_eq_nil_of_le (by rw [pairs_len hn]; omega), kindAcc] at h
  exact h.symm

def KindC (p : Pg) (vi vo vc vd : Value) (n : Nat) : Prop := ∀ (reg : Int) (w : World), PgAt w w.heap.size p vi vo vc vd →
  Calls Try.prog 52 #[pgV p vi vo vc vd, .int .i64 n, .int .i64 reg] w fun e w' => e = .returned (.int .i64 (kindAcc (pairs p n) reg 0)) ∧ Below w.heap.size w w'
def TakenC (p : Pg) (vi vo vc vd : Value) (n : Nat) : Prop := ∀ (reg : Int) (w : World), PgAt w w.heap.size p vi vo vc vd →
  Calls Try.prog 94 #[pgV p vi vo vc vd, .int .i64 n, .int .i64 reg] w fun e w' => e = .returned (.int .i64 (taken p (pairs p n) reg)) ∧ Below w.heap.size w w'
def GivesC (p : Pg) (vi vo vc vd : Value) (i : Nat) : Prop := ∀ (x : In5) (w : World), p.code[i]? = some x → PgAt w w.heap.size p vi vo vc vd →
  Calls Try.prog 51 #[pgV p vi vo vc vd, .int .i64 i] w fun e w' => e = .returned (.int .i64 (givesOf p (pairs p i) x)) ∧ Below w.heap.size w w'
section
variable {p : Pg} {vi vo vc vd : Value}
set_option maxRecDepth 100000 in
set_option maxHeartbeats 2000000 in
theorem taken_of {n : Nat} (hK : KindC p vi vo vc vd n) : TakenC p vi vo vc vd n := by
  intro reg w h
  have HK := Lib.hid hK
  clear hK
  have b0 : Below w.heap.size w (w.alloc (.cells #[vi, vo, .int .i64 p.regs, vc, vd] 26)) := (Below.refl _ _).alloc (Nat.le_refl _) _
  have h0 := Lib.hid (h.next b0)
  clear h
  by_cases h1 : reg < 0
  · have HT := Lib.hid (show taken p (pairs p n) reg = 0 by unfold taken; rw [if_pos (.inl h1)])
    go_enter Try.func94, Try.ntmps94
    go_wp2_with fail
    go_ret
    exact ⟨ret_i64 HT.out.symm, b0⟩
  · by_cases h2 : p.regs ≤ reg
    · have HT := Lib.hid (show taken p (pairs p n) reg = 0 by unfold taken; rw [if_pos (.inr h2)])
      go_enter Try.func94, Try.ntmps94
      go_wp2_with fail
      go_ret
      exact ⟨ret_i64 HT.out.symm, b0⟩
    · have HT := Lib.hid (show taken p (pairs p n) reg = kindAcc (pairs p n) reg 0 by unfold taken; rw [if_neg (by omega)])
      go_enter Try.func94, Try.ntmps94
      go_wp2_with fail
      refine (HK.out reg _ h0.out).mono ?_
      rintro e w1 ⟨rfl, hb1⟩
      have HB := Lib.hid (b0.trans (hb1.mono b0.size))
      clear hb1
      go_wp2_with fail
      go_ret
      exact ⟨ret_i64 HT.out.symm, HB.out⟩
set_option maxRecDepth 100000 in
set_option maxHeartbeats 8000000 in
theorem gives_of {i : Nat} (hT : TakenC p vi vo vc vd i) : GivesC p vi vo vc vd i := by
  intro x w hx h
  have HT := Lib.hid hT
  clear hT
  have b0 : Below w.heap.size w (w.alloc (.cells #[vi, vo, .int .i64 p.regs, vc, vd] 26)) := (Below.refl _ _).alloc (Nat.le_refl _) _
  have h0 := h.next b0
  have bP := (Row.new w #[vi, vo, .int .i64 p.regs, vc, vd] 26).alloc (.cells #[.int .i64 x.op, .int .i64 x.a, .int .i64 x.b, .int .i64 x.c, .int .i64 x.k] 30)
  have bX := rowNew2 w (.cells #[vi, vo, .int .i64 p.regs, vc, vd] 26) #[.int .i64 x.op, .int .i64 x.a, .int .i64 x.b, .int .i64 x.c, .int .i64 x.k] 30
  have b1 : Below w.heap.size w ((w.alloc (.cells #[vi, vo, .int .i64 p.regs, vc, vd] 26)).alloc (.cells #[.int .i64 x.op, .int .i64 x.a, .int .i64 x.b, .int .i64 x.c, .int .i64 x.k] 30)) := b0.alloc (by simp) _
  have h1 := h.next b1
  have hi : i < p.code.length := (List.getElem?_eq_some_iff.1 hx).1
  obtain ⟨⟨Ai, ci, rfl, li, mi, si⟩, ⟨Ao, co, rfl, lo, mo, so⟩, hreg, ⟨Ac, cc, rfl, lc, mc, sc⟩, ⟨Ad, cd, rfl, ld, md, sd⟩⟩ := h
  have mc' : cc ≤ 9223372036854775807 := by unfold maxLen at mc; omega
  have md' : cd ≤ 9223372036854775807 := by unfold maxLen at md; omega
  obtain ⟨b, off, x', rfl, hb, hxk, hok, c0, c1, c2, c3, c4⟩ := (sd.below b0).in5 hi
  obtain rfl : x' = x := by rw [hx] at hxk; injection hxk with h; exact h.symm
  have HX := Lib.hid hx
  clear hxk hx h0
  have hil : (i : Int) < p.code.length := by omega
  go_enter Try.func51, Try.ntmps51
  go_wp2_with fail
  by_cases hs : 5 ≤ x'.op ∧ x'.op ≤ 20
  · have HG := Lib.hid (show givesOf p (pairs p i) x' = Ar.signOut x'.op by unfold givesOf; rw [if_pos hs]; rfl)
    refine (rsign_yes x'.op _ hs).mono ?_
    rintro e w2 ⟨rfl, hb2⟩
    have HB := Lib.hid (b1.trans (hb2.mono b1.size))
    clear hb2
    go_wp2_with fail
    go_ret
    exact ⟨ret_i64 HG.out.symm, HB.out⟩
  refine (rsign_no x'.op _ (by omega)).mono ?_
  rintro e w2 ⟨rfl, hb2⟩
  have b2 := b1.trans (hb2.mono b1.size)
  have h2 := h1.next hb2
  have bP2 := bP.below hb2 bP.lt
  have bX2 := bX.below hb2 bX.lt
  have si2 := si.below b2
  have sc2 := sc.below b2
  clear hb2 bP bX h1 b1 b0 c0 c1 c2 c3 c4 si so sc sd
  have q0 := bP2.cell 0
  have q1 := bP2.cell 1
  have q2 := bP2.cell 2
  have q3 := bP2.cell 3
  have q4 := bP2.cell 4
  have x0 := bX2.cell 0
  have x1 := bX2.cell 1
  have x2 := bX2.cell 2
  have x3 := bX2.cell 3
  have x4 := bX2.cell 4
  simp only [List.getElem?_toArray, List.getElem?_cons_zero, List.getElem?_cons_succ] at q0 q1 q2 q3 q4 x0 x1 x2 x3 x4
  clear bP2 bX2
  by_cases o2 : x'.op ≤ 2
  · have HG := Lib.hid (show givesOf p (pairs p i) x' = x'.op by unfold givesOf; rw [if_neg hs, if_pos o2])
    go_wp2_with fail
    go_ret
    exact ⟨ret_i64 HG.out.symm, b2⟩
  by_cases o3 : x'.op = 3
  · have HG := Lib.hid (show givesOf p (pairs p i) x' = taken p (pairs p i) x'.b by unfold givesOf; rw [if_neg hs, if_neg o2, if_pos o3])
    have o3' : (x'.op == 3) = true := by simp [o3]
    clear o3
    go_wp2_with fail
    refine (HT.out x'.b _ h2).mono ?_
    rintro e w3 ⟨rfl, hb3⟩
    have HB := Lib.hid (b2.trans (hb3.mono b2.size))
    clear hb3
    go_wp2_with fail
    go_ret
    exact ⟨ret_i64 HG.out.symm, HB.out⟩
  have o3' : (x'.op == 3) = false := by simp [o3]
  by_cases o27 : x'.op = 27
  · have HG := Lib.hid (show givesOf p (pairs p i) x' = taken p (pairs p i) x'.c by unfold givesOf; rw [if_neg hs, if_neg o2, if_neg o3, if_pos o27])
    have o27' : (x'.op == 27) = true := by simp [o27]
    clear o27 o3
    go_wp2_with fail
    refine (HT.out x'.c _ h2).mono ?_
    rintro e w3 ⟨rfl, hb3⟩
    have HB := Lib.hid (b2.trans (hb3.mono b2.size))
    clear hb3
    go_wp2_with fail
    go_ret
    exact ⟨ret_i64 HG.out.symm, HB.out⟩
  have o27' : (x'.op == 27) = false := by simp [o27]
  have hty : (types p.cells).length = p.cells.length := by simp [types]
  by_cases o21 : x'.op = 21
  · have o21' : (x'.op == 21) = true := by simp [o21]
    have o28' : (x'.op == 28) = false := by simp [o21]
    by_cases hh : has (types p.cells) x'.k
    · obtain ⟨n, hn⟩ := Int.eq_ofNat_of_zero_le hh.1
      have hnl : n < p.cells.length := by have := hh.2; rw [hty, hn] at this; omega
      obtain ⟨b', off', c, rfl, hb', hck, wc1, wc2, d0, d1⟩ := sc2.cell hnl
      have HG := Lib.hid (show givesOf p (pairs p i) x' = c.1 by
        unfold givesOf; rw [if_neg hs, if_neg o2, if_neg o3, if_neg o27, if_pos ⟨o21, hh⟩, hn]
        simp [getI, types, List.getD_eq_getElem?_getD, hck])
      rw [hn] at x4
      clear hck hh o3 o27 o21 hn
      have hnl' : (n : Int) < p.cells.length := by omega
      go_wp2_with fail
      go_ret
      exact ⟨ret_i64 HG.out.symm, b2⟩
    · have HG := Lib.hid (show givesOf p (pairs p i) x' = 0 by unfold givesOf; rw [if_neg hs, if_neg o2, if_neg o3, if_neg o27, if_neg (fun g => hh g.2), if_neg (by omega)])
      have hk2 : x'.k < 0 ∨ (0 ≤ x'.k ∧ (p.cells.length : Int) ≤ x'.k) := by unfold has at hh; rw [hty] at hh; omega
      clear hh o3 o27 o21
      rcases hk2 with hk2 | ⟨hk2, hk3⟩
      all_goals
        go_wp2_with fail
        go_ret
        exact ⟨ret_i64 HG.out.symm, b2⟩
  have o21' : (x'.op == 21) = false := by simp [o21]
  by_cases o28 : x'.op = 28
  · have o28' : (x'.op == 28) = true := by simp [o28]
    by_cases hh : has p.ins x'.k
    · obtain ⟨n, hn⟩ := Int.eq_ofNat_of_zero_le hh.1
      have hnl : n < p.ins.length := by have := hh.2; rw [hn] at this; omega
      obtain ⟨b', off', c, rfl, hb', hck, wc1, d0⟩ := si2.int hnl
      have HG := Lib.hid (show givesOf p (pairs p i) x' = c by
        unfold givesOf; rw [if_neg hs, if_neg o2, if_neg o3, if_neg o27, if_neg (fun g => o21 g.1), if_pos ⟨o28, hh⟩, hn]
        simp [getI, List.getD_eq_getElem?_getD, hck])
      rw [hn] at x4
      clear hck hh o3 o27 o21 o28 hn
      have hnl' : (n : Int) < p.ins.length := by omega
      go_wp2_with fail
      go_ret
      exact ⟨ret_i64 HG.out.symm, b2⟩
    · have HG := Lib.hid (show givesOf p (pairs p i) x' = 0 by unfold givesOf; rw [if_neg hs, if_neg o2, if_neg o3, if_neg o27, if_neg (fun g => o21 g.1), if_neg (fun g => hh g.2)])
      have hk2 : x'.k < 0 ∨ (0 ≤ x'.k ∧ (p.ins.length : Int) ≤ x'.k) := by unfold has at hh; omega
      clear hh o3 o27 o21 o28
      rcases hk2 with hk2 | ⟨hk2, hk3⟩
      all_goals
        go_wp2_with fail
        go_ret
        exact ⟨ret_i64 HG.out.symm, b2⟩
  have o28' : (x'.op == 28) = false := by simp [o28]
  have HG := Lib.hid (show givesOf p (pairs p i) x' = 0 by unfold givesOf; rw [if_neg hs, if_neg o2, if_neg o3, if_neg o27, if_neg (fun g => o21 g.1), if_neg (fun g => o28 g.1)])
  clear o3 o27 o21 o28
  go_wp2_with fail
  go_ret
  exact ⟨ret_i64 HG.out.symm, b2⟩
set_option maxRecDepth 100000 in
set_option maxHeartbeats 4000000 in
theorem kind_of {n : Nat} (hn : n ≤ p.code.length) (hG : ∀ i, i < n → GivesC p vi vo vc vd i) : KindC p vi vo vc vd n := by
  intro reg w h
  have HG := Lib.hid hG
  have HP := Lib.hid h
  clear hG
  obtain ⟨⟨Ai, ci, rfl, li, mi, si⟩, ⟨Ao, co, rfl, lo, mo, so⟩, hreg, ⟨Ac, cc, rfl, lc, mc, sc⟩, ⟨Ad, cd, rfl, ld, md, sd⟩⟩ := h
  have md' : cd ≤ 9223372036854775807 := by unfold maxLen at md; omega
  go_enter Try.func52, Try.ntmps52
  go_wp2_with fail
  go_loopw [7, 8] (fun o i wr => ∃ (k : Nat) (out : Int), k ≤ n ∧ i = .int .i64 k ∧ o = .int .i64 out ∧ Hid (kindIs p n reg k out) ∧ Below (w.heap.size + 1) (w.alloc (.cells #[.slice Ai p.ins.length ci, .slice Ao p.outs.length co, .int .i64 p.regs, .slice Ac p.cells.length cc, .slice Ad p.code.length cd] 26)) wr) (fun _ i _ => n - (intOf i).toNat)
  case atStart => exact ⟨0, 0, Nat.zero_le _, rfl, rfl, kindIs_start, by simpa using Below.refl _ _⟩
  case round =>
    obtain ⟨k, out, hk, rfl, rfl, HN, hbox⟩ := hrel
    obtain ⟨⟨q0, q1, q2, q3, q4⟩, hbel, hsz⟩ := pgBox hbox
    by_cases hlt : k < n
    · obtain ⟨b, off, x, rfl, hb, hxk, hok, c0, c1, c2, c3, c4⟩ := (sd.below hbel).in5 (show k < p.code.length by omega)
      have HK := Lib.hid hxk
      clear hxk
      have hkl : (k : Int) < p.code.length := by omega
      by_cases h1 : 29 ≤ x.op
      · have HN' := Lib.hid (kindIs_skip HN.out HK.out hlt hn (.inl h1))
        go_wp2_with fail
        go_roundw
        case rel => exact ⟨k + 1, out, by omega, by go_num, rfl, HN', hbox⟩
        case measure => simp [intOf]; omega
      · by_cases h2 : x.a = reg
        · have h2' : (x.a != reg) = false := by simp [h2]
          by_cases ho : out = 0
          · have ho' : (out != 0) = false := by simp [ho]
            have HN' := Lib.hid (kindIs_new HN.out HK.out hlt hn h1 h2 ho)
            clear h2 ho
            go_wp2_with fail
            refine (HG.out k hlt x _ HK.out (HP.out.next hbel)).mono ?_
            rintro e w1 ⟨rfl, hb1⟩
            have HB := Lib.hid (hbox.trans (hb1.mono hsz))
            clear hb1
            go_wp2_with fail
            go_roundw
            case rel => exact ⟨k + 1, _, by omega, by go_num, rfl, HN', HB.out⟩
            case measure => simp [intOf]; omega
          · have ho' : (out != 0) = true := by simp [ho]
            have HF := Lib.hid (kindIs_nine HN.out HK.out hlt hn h1 h2 ho)
            clear h2 ho
            go_wp2_with fail
            go_ret
            exact ⟨ret_i64 HF.out.symm, hbel⟩
        · have h2' : (x.a != reg) = true := by simp [h2]
          have HN' := Lib.hid (kindIs_skip HN.out HK.out hlt hn (.inr h2))
          clear h2
          go_wp2_with fail
          go_roundw
          case rel => exact ⟨k + 1, out, by omega, by go_num, rfl, HN', hbox⟩
          case measure => simp [intOf]; omega
    · obtain rfl : k = n := by omega
      have HF := Lib.hid (kindIs_end hn HN.out)
      go_wp2_with fail
      go_ret
      exact ⟨ret_i64 HF.out.symm, hbel⟩
theorem kind_all : ∀ n, n ≤ p.code.length → KindC p vi vo vc vd n := by
  intro n
  induction n using Nat.strongRecOn with
  | _ n ih =>
    intro hn
    exact kind_of hn (fun i hi => gives_of (taken_of (ih i hi (by omega))))
theorem taken_all {n : Nat} (hn : n ≤ p.code.length) : TakenC p vi vo vc vd n := taken_of (kind_all n hn)
theorem gives_all {n : Nat} (hn : n ≤ p.code.length) : GivesC p vi vo vc vd n := gives_of (taken_all hn)
end
end Go.Proofs.Ytbjaejgechadpaa
