/-
  The chapter's examples of types: the contract of tompionlaw16.awake.
-/
import Derived.Test.YtolabbnchmmckaaTyF
import Derived.Test.YtolabbnchmmckaaWhA
namespace Go.Proofs.Ytolabbnchmmckaa
open Go.RowKit Nm
attribute [local go_sem ↓] Go.wp_at_zero Go.wp_at_succ
/-- a new row of expressions -/
theorem rowExs {w : World} {g B : Nat} {l : List Ex} {css : List (List Value)} {cs : Array Value} {t : TypeId} (h : Row w g cs t) (hc : cs.toList = css.flatten) (hx : ExsAre w B l css) (hB : B ≤ w.heap.size) : IsExs w w.heap.size (some ⟨g, 0, none⟩) l := fun hn => by
  refine ⟨g, 0, rfl, h.lt, fun i x hi => ?_⟩
  have hil : i < css.length := by rw [hx.1]; exact (List.getElem?_eq_some_iff.1 hi).1
  refine ⟨css[i], fun j u hu => ?_, ((hx.2 i x _ hi (List.getElem?_eq_getElem hil)).more hB)⟩
  have hj : j < 6 := by rw [← hx.six css[i] (List.getElem_mem hil)]; exact (List.getElem?_eq_some_iff.1 hu).1
  have h2 : css.flatten[i * 6 + j]? = some u := by rw [flatten_get hx.six (List.getElem?_eq_getElem hil) hj]; exact hu
  rw [Nat.zero_add, h.cell, ← Array.getElem?_toList, hc]
  exact h2
abbrev tOne : Ex := .mk 1 ⟨#[]⟩ 1 [] 1 1
abbrev tYes : Ex := .mk 2 ⟨#[]⟩ 1 [] 2 1
abbrev tSum : Ex := .mk 7 ⟨#[]⟩ 0 [tOne, tYes] 3 1
abbrev tIs : Ex := .mk 12 ⟨#[]⟩ 0 [tOne, tYes] 3 1
abbrev wVA : Vr := ⟨aNm, 2, [], 0, 0⟩
abbrev wVB (kd : Int) : Vr := ⟨bNm, kd, [], 0, 0⟩
abbrev wQ (e : Ex) : Eqn := ⟨[bNm], e, 9, 1⟩
abbrev wN (e : Ex) (kd : Int) : Nd := ⟨mainNm, [wVA], [wVB kd], [], [wQ e], 0, 0⟩
theorem nil_small : (⟨#[]⟩ : ByteArray).size ≤ maxLen := by simp [ByteArray.size, maxLen]
theorem tOne_ok : ExOk tOne := ⟨wf_of (n := 1) (by omega), nil_small, wf_of (n := 1) (by omega), wf_of (n := 1) (by omega), wf_of (n := 1) (by omega)⟩
theorem tYes_ok : ExOk tYes := ⟨wf_of (n := 2) (by omega), nil_small, wf_of (n := 1) (by omega), wf_of (n := 2) (by omega), wf_of (n := 1) (by omega)⟩
theorem tSum_ok : ExOk tSum := ⟨wf_of (n := 7) (by omega), nil_small, wf_of (n := 0) (by omega), wf_of (n := 3) (by omega), wf_of (n := 1) (by omega)⟩
theorem tIs_ok : ExOk tIs := ⟨wf_of (n := 12) (by omega), nil_small, wf_of (n := 0) (by omega), wf_of (n := 3) (by omega), wf_of (n := 1) (by omega)⟩
theorem two_at {W : World} {g : Nat} (hr : Row W g #[.int .i64 1, .string ⟨#[]⟩, .int .i64 1, .slice none 0 0, .int .i64 1, .int .i64 1, .int .i64 2, .string ⟨#[]⟩, .int .i64 1, .slice none 0 0, .int .i64 2, .int .i64 1] 26) : IsExs W W.heap.size (some ⟨g, 0, none⟩) [tOne, tYes] := by
  refine rowExs (css := [exCells tOne none 0, exCells tYes none 0]) hr rfl ?_ (Nat.le_refl _)
  have h1 : IsEx W W.heap.size tOne (exCells tOne none 0) := IsEx.mk' tOne_ok (Nat.le_refl _) (Nat.zero_le _) (fun h => absurd h (by simp [Ex.args]))
  have h2 : IsEx W W.heap.size tYes (exCells tYes none 0) := IsEx.mk' tYes_ok (Nat.le_refl _) (Nat.zero_le _) (fun h => absurd h (by simp [Ex.args]))
  exact (ExsAre.one h1).append (ExsAre.one h2)
theorem yes_at (w : World) : IsExs w w.heap.size none tYes.args := fun h => absurd h (by simp [Ex.args])
abbrev wEqA (e : Ex) (A2 : Option Addr) (c2 g : Nat) : Array Value := #[.slice (some ⟨g, 0, none⟩) 1 1, .int .i64 e.op, .string e.name, .int .i64 e.n, .slice A2 e.args.length c2, .int .i64 e.line, .int .i64 e.col, .int .i64 9, .int .i64 1]
abbrev wAa : Array Value := #[.string ⟨#[97]⟩, .int .i64 2, .slice none 0 0, .int .i64 0, .int .i64 0]
abbrev wBa (kd : Int) : Array Value := #[.string ⟨#[98]⟩, .int .i64 kd, .slice none 0 0, .int .i64 0, .int .i64 0]
abbrev wN0 (g h : Nat) : Array Value := #[.string ⟨#[109, 97, 105, 110]⟩, .slice (some ⟨g, 0, none⟩) 1 1, .slice (some ⟨h, 0, none⟩) 1 1, .slice none 0 0, .slice none 0 0, .int .i64 0, .int .i64 0]
abbrev wN1 (g h i : Nat) : Array Value := #[.string ⟨#[109, 97, 105, 110]⟩, .slice (some ⟨g, 0, none⟩) 1 1, .slice (some ⟨h, 0, none⟩) 1 1, .slice none 0 0, .slice (some ⟨i, 0, none⟩) 1 1, .int .i64 0, .int .i64 0]
theorem with_nds {e : Ex} {kd : Int} {A2 : Option Addr} {c2 : Nat} {W : World} {ga gb gs gq gn : Nat} (hok : ExOk e) (hl : e.args.length ≤ c2) (hm : c2 ≤ maxLen) (hkd : Wf kd)
    (ra : Row W ga wAa 64) (rb : Row W gb (wBa kd) 64) (rs : Row W gs #[.string ⟨#[98]⟩] 9) (rq : Row W gq (wEqA e A2 c2 gs) 60) (rn : Row W gn (wN1 ga gb gq) 40) (hx : IsExs W W.heap.size A2 e.args) :
    Nds W W.heap.size (some ⟨gn, 0, none⟩) [wN e kd] := by
  have sA : Vrs W W.heap.size (some ⟨ga, 0, none⟩) [wVA] := sl_one (cs := wAa.toList) ra ra.lt ⟨none, 0, rfl, ⟨by simp [ByteArray.size, maxLen], wf_of (n := 2) (by omega), wf_of (n := 0) (by omega), wf_of (n := 0) (by omega)⟩, Nat.le_refl _, Nat.zero_le _, Sl.nil⟩
  have sB : Vrs W W.heap.size (some ⟨gb, 0, none⟩) [wVB kd] := sl_one (cs := (wBa kd).toList) rb rb.lt ⟨none, 0, rfl, ⟨by simp [ByteArray.size, maxLen], hkd, wf_of (n := 0) (by omega), wf_of (n := 0) (by omega)⟩, Nat.le_refl _, Nat.zero_le _, Sl.nil⟩
  have sS : Sl W W.heap.size 1 isStr (some ⟨gs, 0, none⟩) [bNm] := sl_one (cs := [.string bNm]) rs rs.lt ⟨rfl, by simp [ByteArray.size, maxLen]⟩
  have sQ : Eqs W W.heap.size (some ⟨gq, 0, none⟩) [wQ e] := sl_one (cs := (wEqA e A2 c2 gs).toList) rq rq.lt ⟨some ⟨gs, 0, none⟩, 1, A2, c2, rfl, ⟨hok, wf_of (n := 9) (by omega), wf_of (n := 1) (by omega)⟩, Nat.le_refl _, by unfold maxLen; decide, sS, hl, hm, hx⟩
  exact sl_one (cs := (wN1 ga gb gq).toList) rn rn.lt ⟨⟨some ⟨ga, 0, none⟩, 1, some ⟨gb, 0, none⟩, 1, none, 0, some ⟨gq, 0, none⟩, 1⟩, rfl, ⟨by simp [ByteArray.size, maxLen], wf_of (n := 0) (by omega), wf_of (n := 0) (by omega), Nat.le_refl _, by show (1 : Nat) ≤ maxLen; unfold maxLen; decide, sA, Nat.le_refl _, by show (1 : Nat) ≤ maxLen; unfold maxLen; decide, sB, Nat.le_refl _, Nat.zero_le _, Sl.nil, Nat.le_refl _, by show (1 : Nat) ≤ maxLen; unfold maxLen; decide, sQ⟩⟩
set_option maxRecDepth 100000 in
set_option maxHeartbeats 1000000 in
theorem twith_any (e : Ex) (A2 : Option Addr) (c2 : Nat) (kd : Int) (w : World) (hok : ExOk e) (hl : e.args.length ≤ c2) (hm : c2 ≤ maxLen) (hkd : Wf kd) (hx : IsExs w w.heap.size A2 e.args) :
    Calls Try.prog 77 #[exV e A2 c2, .int .i64 kd] w fun r w' => (∃ g, r = .returned (srcV [wN e kd] (some ⟨g, 0, none⟩) 1) ∧ Nds w' w'.heap.size (some ⟨g, 0, none⟩) [wN e kd]) ∧ Below w.heap.size w w' := by
  have re1 := (Row.new w (exA e A2 c2) 26).alloc (.cells #[.slice none 0 0] 45)
  have rs1 := rowNew2 w (.cells (exA e A2 c2) 26) #[.slice none 0 0] 45
  have b1 : Below w.heap.size w ((w.alloc (.cells (exA e A2 c2) 26)).alloc (.cells #[.slice none 0 0] 45)) := (by repeat (first | (with_reducible assumption) | (with_reducible exact Below.refl _ _) | (with_reducible refine Below.drew ?_) | (with_reducible refine below_drewN' ?_ _) | (with_reducible refine Below.alloc ?_ (by first | assumption | omega | (simp; omega) | simp | (simp [World.setCell]; omega) | simp [World.setCell]) _) | (with_reducible refine Below.setCell ?_ (by first | assumption | omega | (simp; omega) | simp | (simp [World.setCell]; omega) | simp [World.setCell]) _)))
  have HX : Hid (∀ W, Below w.heap.size w W → IsExs W W.heap.size A2 e.args) := fun W hW => (hx.below hW).more hW.size
  have HOK := Lib.hid hok
  have HL := Lib.hid hl
  have HM := Lib.hid hm
  have HKD := Lib.hid hkd
  clear hok hl hm hkd hx
  go_enter Try.func77, Try.ntmps77
  go_upto_region 1 with (fail)
  generalize (w.alloc (.cells (exA e A2 c2) 26)).alloc (.cells #[.slice none 0 0] 45) = W1 at *
  have hs1 := b1.size
  have hle := re1.lt
  have hls := rs1.lt
  have ra2 : Row (((W1.alloc (.cells wAa 64)).alloc (.cells (wBa kd) 64)).alloc (.cells (wN0 W1.heap.size (W1.heap.size + 1)) 40)) W1.heap.size wAa 64 := ((Row.new W1 _ _).alloc _).alloc _
  have rb2 : Row (((W1.alloc (.cells wAa 64)).alloc (.cells (wBa kd) 64)).alloc (.cells (wN0 W1.heap.size (W1.heap.size + 1)) 40)) (W1.heap.size + 1) (wBa kd) 64 := (rowNew2 W1 _ _ _).alloc _
  have rn2 : Row (((W1.alloc (.cells wAa 64)).alloc (.cells (wBa kd) 64)).alloc (.cells (wN0 W1.heap.size (W1.heap.size + 1)) 40)) (W1.heap.size + 1 + 1) (wN0 W1.heap.size (W1.heap.size + 1)) 40 := rowNew3 W1 _ _ _ _
  have b2 : Below w.heap.size w (((W1.alloc (.cells wAa 64)).alloc (.cells (wBa kd) 64)).alloc (.cells (wN0 W1.heap.size (W1.heap.size + 1)) 40)) := (by repeat (first | (with_reducible assumption) | (with_reducible exact Below.refl _ _) | (with_reducible refine Below.drew ?_) | (with_reducible refine below_drewN' ?_ _) | (with_reducible refine Below.alloc ?_ (by first | assumption | omega | (simp; omega) | simp | (simp [World.setCell]; omega) | simp [World.setCell]) _) | (with_reducible refine Below.setCell ?_ (by first | assumption | omega | (simp; omega) | simp | (simp [World.setCell]; omega) | simp [World.setCell]) _)))
  have re2 := ((re1.alloc (.cells wAa 64)).alloc (.cells (wBa kd) 64)).alloc (.cells (wN0 W1.heap.size (W1.heap.size + 1)) 40)
  have rs2 := ((rs1.alloc (.cells wAa 64)).alloc (.cells (wBa kd) 64)).alloc (.cells (wN0 W1.heap.size (W1.heap.size + 1)) 40)
  go_upto_region 2 with (fail)
  generalize ((W1.alloc (.cells wAa 64)).alloc (.cells (wBa kd) 64)).alloc (.cells (wN0 W1.heap.size (W1.heap.size + 1)) 40) = W2 at *
  have hs2 := b2.size
  have hln := rn2.lt
  have hle2 : w.heap.size < W2.heap.size := re2.lt
  obtain ⟨gn, HGN⟩ : ∃ gn, Hid (W1.heap.size + 1 + 1 = gn) := ⟨_, rfl⟩
  have hgn : W1.heap.size + 1 + 1 = gn := HGN.out
  have hgn1 : W1.heap.size + 1 < gn := by omega
  have hgn0 : w.heap.size + 1 < gn := by omega
  obtain ⟨x0, x1, x2, x3, x4, x5⟩ := re2.ex6
  have z4 := rn2.frozen 4
  have n4 : W2.cell? ⟨W1.heap.size + 1 + 1, 4, none⟩ = some (.slice none 0 0) := (rn2.cell 4).trans rfl
  rw [hgn] at z4 n4 rn2 hln
  have HB2 := Lib.hid b2
  have HRA := Lib.hid ra2
  have HRB := Lib.hid rb2
  have HRN := Lib.hid rn2
  have HRS := Lib.hid rs2
  rw [show W1.heap.size + 1 + 1 = gn from hgn]
  clear hgn b1 b2 re1 rs1 re2 rs2 ra2 rb2 rn2
  go_upto_region 3 with (fail)
  have hzs : (W2.setCell ⟨gn, 4, none⟩ (.slice (some ⟨W2.heap.size + 1, 0, none⟩) 1 1)).heap.size = W2.heap.size := by simp [World.setCell]
  have rn3 : Row (((W2.setCell ⟨gn, 4, none⟩ (.slice (some ⟨W2.heap.size + 1, 0, none⟩) 1 1)).alloc (.cells #[.string ⟨#[98]⟩] 9)).alloc (.cells (wEqA e A2 c2 W2.heap.size) 60)) gn (wN1 W1.heap.size (W1.heap.size + 1) (W2.heap.size + 1)) 40 := by
    have := ((HRN.out.set 4 (.slice (some ⟨W2.heap.size + 1, 0, none⟩) 1 1)).alloc (.cells #[.string ⟨#[98]⟩] 9)).alloc (.cells (wEqA e A2 c2 W2.heap.size) 60)
    simpa using this
  have ra3 := ((HRA.out.far (p := ⟨gn, 4, none⟩) (show W1.heap.size ≠ gn by omega) (.slice (some ⟨W2.heap.size + 1, 0, none⟩) 1 1)).alloc (.cells #[.string ⟨#[98]⟩] 9)).alloc (.cells (wEqA e A2 c2 W2.heap.size) 60)
  have rb3 := ((HRB.out.far (p := ⟨gn, 4, none⟩) (show W1.heap.size + 1 ≠ gn by omega) (.slice (some ⟨W2.heap.size + 1, 0, none⟩) 1 1)).alloc (.cells #[.string ⟨#[98]⟩] 9)).alloc (.cells (wEqA e A2 c2 W2.heap.size) 60)
  have rs3 := ((HRS.out.far (p := ⟨gn, 4, none⟩) (show w.heap.size + 1 ≠ gn by omega) (.slice (some ⟨W2.heap.size + 1, 0, none⟩) 1 1)).alloc (.cells #[.string ⟨#[98]⟩] 9)).alloc (.cells (wEqA e A2 c2 W2.heap.size) 60)
  have rq3 : Row (((W2.setCell ⟨gn, 4, none⟩ (.slice (some ⟨W2.heap.size + 1, 0, none⟩) 1 1)).alloc (.cells #[.string ⟨#[98]⟩] 9)).alloc (.cells (wEqA e A2 c2 W2.heap.size) 60)) (W2.heap.size + 1) (wEqA e A2 c2 W2.heap.size) 60 := by
    have := rowNew2 (W2.setCell ⟨gn, 4, none⟩ (.slice (some ⟨W2.heap.size + 1, 0, none⟩) 1 1)) (.cells #[.string ⟨#[98]⟩] 9) (wEqA e A2 c2 W2.heap.size) 60
    rwa [hzs] at this
  have rt3 : Row (((W2.setCell ⟨gn, 4, none⟩ (.slice (some ⟨W2.heap.size + 1, 0, none⟩) 1 1)).alloc (.cells #[.string ⟨#[98]⟩] 9)).alloc (.cells (wEqA e A2 c2 W2.heap.size) 60)) W2.heap.size #[.string ⟨#[98]⟩] 9 := (Row.newAt _ _ hzs _ _).alloc _
  have b3 : Below w.heap.size w (((W2.setCell ⟨gn, 4, none⟩ (.slice (some ⟨W2.heap.size + 1, 0, none⟩) 1 1)).alloc (.cells #[.string ⟨#[98]⟩] 9)).alloc (.cells (wEqA e A2 c2 W2.heap.size) 60)) := ((HB2.out.setCell (p := ⟨gn, 4, none⟩) (show w.heap.size ≤ gn by omega) _).alloc (by rw [hzs]; exact hs2) _).alloc (by simp [World.setCell]; omega) _
  clear hzs
  clear x0 x1 x2 x3 x4 x5 z4 n4
  generalize ((W2.setCell ⟨gn, 4, none⟩ (.slice (some ⟨W2.heap.size + 1, 0, none⟩) 1 1)).alloc (.cells #[.string ⟨#[98]⟩] 9)).alloc (.cells (wEqA e A2 c2 W2.heap.size) 60) = W3 at *
  have hs3 := b3.size
  have hls3 := rs3.lt
  have hln3 := rn3.lt
  have n0 : W3.cell? ⟨gn, 0, none⟩ = some (.string ⟨#[109, 97, 105, 110]⟩) := (rn3.cell 0).trans rfl
  have n1 : W3.cell? ⟨gn, 1, none⟩ = some (.slice (some ⟨W1.heap.size, 0, none⟩) 1 1) := (rn3.cell 1).trans rfl
  have n2 : W3.cell? ⟨gn, 2, none⟩ = some (.slice (some ⟨W1.heap.size + 1, 0, none⟩) 1 1) := (rn3.cell 2).trans rfl
  have n3 : W3.cell? ⟨gn, 3, none⟩ = some (.slice none 0 0) := (rn3.cell 3).trans rfl
  have n4 : W3.cell? ⟨gn, 4, none⟩ = some (.slice (some ⟨W2.heap.size + 1, 0, none⟩) 1 1) := (rn3.cell 4).trans rfl
  have n5 : W3.cell? ⟨gn, 5, none⟩ = some (.int .i64 0) := (rn3.cell 5).trans rfl
  have n6 : W3.cell? ⟨gn, 6, none⟩ = some (.int .i64 0) := (rn3.cell 6).trans rfl
  have s0 : W3.cell? ⟨w.heap.size + 1, 0, none⟩ = some (.slice none 0 0) := (rs3.cell 0).trans rfl
  have sf := rs3.frozen 0
  have HRA3 := Lib.hid ra3
  have HRB3 := Lib.hid rb3
  have HRN3 := Lib.hid rn3
  have HRQ3 := Lib.hid rq3
  have HRT3 := Lib.hid rt3
  have HRS3 := Lib.hid rs3
  have HB3 := Lib.hid b3
  clear ra3 rb3 rn3 rq3 rt3 rs3 b3
  go_wp2_with fail
  have q1 : w.heap.size + 1 ≠ W3.heap.size := by omega
  have hzs : (W3.setCell ⟨w.heap.size + 1, 0, none⟩ (.slice (some ⟨W3.heap.size, 0, none⟩) 1 1)).heap.size = W3.heap.size := by simp [World.setCell]
  have f1 : ∀ {b : Nat} {cs : Array Value} {t : TypeId}, b ≠ w.heap.size + 1 → Row W3 b cs t → Row ((W3.setCell ⟨w.heap.size + 1, 0, none⟩ (.slice (some ⟨W3.heap.size, 0, none⟩) 1 1)).alloc (.cells (wN1 W1.heap.size (W1.heap.size + 1) (W2.heap.size + 1)) 40)) b cs t := fun hb hr => (hr.far (p := ⟨w.heap.size + 1, 0, none⟩) hb _).alloc _
  have hnew : Row ((W3.setCell ⟨w.heap.size + 1, 0, none⟩ (.slice (some ⟨W3.heap.size, 0, none⟩) 1 1)).alloc (.cells (wN1 W1.heap.size (W1.heap.size + 1) (W2.heap.size + 1)) 40)) W3.heap.size (wN1 W1.heap.size (W1.heap.size + 1) (W2.heap.size + 1)) 40 := Row.newAt _ _ hzs _ _
  have hres : Row ((W3.setCell ⟨w.heap.size + 1, 0, none⟩ (.slice (some ⟨W3.heap.size, 0, none⟩) 1 1)).alloc (.cells (wN1 W1.heap.size (W1.heap.size + 1) (W2.heap.size + 1)) 40)) (w.heap.size + 1) #[.slice (some ⟨W3.heap.size, 0, none⟩) 1 1] 45 := by
    have := (HRS3.out.set 0 (.slice (some ⟨W3.heap.size, 0, none⟩) 1 1)).alloc (.cells (wN1 W1.heap.size (W1.heap.size + 1) (W2.heap.size + 1)) 40)
    simpa using this
  have hbb : Below w.heap.size w ((W3.setCell ⟨w.heap.size + 1, 0, none⟩ (.slice (some ⟨W3.heap.size, 0, none⟩) 1 1)).alloc (.cells (wN1 W1.heap.size (W1.heap.size + 1) (W2.heap.size + 1)) 40)) := (HB3.out.setCell (p := ⟨w.heap.size + 1, 0, none⟩) (show w.heap.size ≤ w.heap.size + 1 by omega) _).alloc (by rw [hzs]; exact hs3) _
  exact bodyPost_ret (res1 rfl Try.underlying45 rfl (by kernel_rfl) rfl hres) rfl ⟨⟨W3.heap.size, rfl, with_nds HOK.out HL.out HM.out HKD.out (f1 (by omega) HRA3.out) (f1 (by omega) HRB3.out) (f1 (by omega) HRT3.out) (f1 (by omega) HRQ3.out) hnew (HX.out _ hbb)⟩, hbb⟩
/-! ### what is wrong with the examples -/
theorem list_sum : exList tSum = [tSum, tOne, tYes] := by rw [exList_eq]; simp [Ex.args, exList_eq]
theorem list_is : exList tIs = [tIs, tOne, tYes] := by rw [exList_eq]; simp [Ex.args, exList_eq]
theorem list_yes : exList tYes = [tYes] := by rw [exList_eq]; rfl
def Bare (e : Ex) : Prop := exRight e = true ∧ (∀ x ∈ exList e, namesB x.op = false ∧ x.op ≠ 4) ∧ e.op ≠ 4 ∧ Small e
theorem bare_expr {s : List Nd} {n : Nd} {e : Ex} {outs : Int} (h : ∀ x ∈ exList e, namesB x.op = false ∧ x.op ≠ 4) : exprF s n outs e = ft0 := by
  rw [← exprF_list]
  refine fstL_end fun j _ x hx => ?_
  obtain ⟨h1, h2⟩ := h x (List.mem_of_getElem? hx)
  show (oneF s n _ x).err = 0
  unfold oneF
  rw [if_neg (by rw [h1]; decide), if_neg h2]
theorem w_small {e : Ex} {kd : Int} (h : Small e) : SrcSm [wN e kd] := by
  refine ⟨by simp, fun n hn => ?_⟩
  simp at hn
  subst hn
  refine ⟨by show mainNm.size ≤ 30; decide, by simp, by simp, by simp, by simp, fun v hv => ?_, fun q hq => ?_⟩
  · simp [vrs] at hv
    rcases hv with rfl | rfl
    · exact ⟨by show aNm.size ≤ 30; decide, by simp, fun c hc => by simp at hc⟩
    · exact ⟨by show bNm.size ≤ 30; decide, by simp, fun c hc => by simp at hc⟩
  · simp at hq
    subst hq
    exact ⟨by simp, fun x hx => by simp at hx; subst hx; decide, h⟩
theorem w_scope {e : Ex} {kd : Int} (hk : kd = 1 ∨ kd = 2) (h : Bare e) : scopeF [wN e kd] = ft0 := by
  obtain ⟨hr, hb, h4, _⟩ := h
  have ha : nameB aNm.toList = true := by decide +kernel
  have hbn : nameB bNm.toList = true := by decide +kernel
  have hrt : SrcRt [wN e kd] := by
    refine ⟨fun n hn => ?_, by simp, by simp⟩
    simp at hn
    subst hn
    refine ⟨fun q hq => ?_, by show nameB mainNm.toList = true; decide +kernel, by simp, by simp, ⟨fun v hv => ?_, by simp, by simp⟩, ⟨fun v hv => ?_, by simp, by simp⟩, ⟨fun v hv => by simp at hv, by simp, by simp⟩⟩
    · simp at hq
      subst hq
      exact ⟨fun x hx => by simp at hx; subst hx; exact hbn, by simp, by simp, hr⟩
    · simp at hv
      subst hv
      exact ⟨fun c hc => by simp at hc, ha, .inr rfl, by simp⟩
    · simp at hv
      subst hv
      exact ⟨fun c hc => by simp at hc, hbn, hk, by simp⟩
  have hba : ¬ bNm = aNm := by decide
  have e1 : leftNF (wN e kd) (metTo (wN e kd) 0) (wQ e) 0 bNm = ft0 := by unfold leftNF; rw [if_neg (by simp [vrs]), if_neg (by simp [metTo, lefts, hba])]
  have e2 : leftF (wN e kd) (metTo (wN e kd) 0) (wQ e) = ft0 := by
    unfold leftF
    rw [fstL_end (fun j hj x hx => by
      have hj2 : j = 0 := by simp at hj; omega
      subst hj2
      simp at hx; subst hx
      rw [e1]), ft2_0 (a := ft0) rfl]
    unfold countF; rw [if_neg (by simp)]
  have e3 : eqnF [wN e kd] (wN e kd) 0 (wQ e) = ft0 := by unfold eqnF; rw [e2, ft2_0 (a := ft0) rfl]; exact bare_expr hb
  have e4 : equationsF [wN e kd] (wN e kd) = ft0 := by
    unfold equationsF
    rw [fstL_end (fun j hj x hx => by
      have hj2 : j = 0 := by simp at hj; omega
      subst hj2
      simp at hx; subst hx
      rw [e3]), ft2_0 (a := ft0) rfl]
    refine fstL_end fun j hj x hx => ?_
    have hj2 : j = 0 := by simp at hj; omega
    subst hj2
    simp at hx; subst hx
    unfold defF; rw [if_neg (by simp [metTo, lefts])]
  have e6 : variablesF (wN e kd) = ft0 := by
    unfold variablesF
    have e7 : fstL (varF (wN e kd)) (vrs (wN e kd)) = ft0 := by
      refine fstL_end fun j hj x hx => ?_
      have hj2 : j = 0 ∨ j = 1 := by have : (vrs (wN e kd)).length = 2 := rfl; omega
      rcases hj2 with rfl | rfl
      · simp [vrs] at hx; subst hx
        unfold varF; rw [if_neg (by simp), if_neg (by simp)]
      · simp [vrs] at hx; subst hx
        unfold varF; rw [if_neg (by simp [vrs]), if_neg (by simp)]
    rw [e7]; rfl
  have e8 : fstL (nameF [wN e kd]) [wN e kd] = ft0 := by
    refine fstL_end fun j hj x hx => ?_
    have hj2 : j = 0 := by simp at hj; omega
    subst hj2
    simp at hx; subst hx
    unfold nameF; rw [if_neg (by simp)]
  have e5 : nodeF [wN e kd] 0 (wN e kd) = ft0 := by unfold nodeF; rw [e6, e4]; rfl
  rw [scopeF_rt hrt, e8, ft2_0 (a := ft0) rfl, fstL_end (fun j hj x hx => by
      have hj2 : j = 0 := by simp at hj; omega
      subst hj2
      simp at hx; subst hx
      rw [e5]), ft2_0 (a := ft0) rfl]
  unfold mainF; rw [if_neg (by simp)]
theorem w_types {e : Ex} {kd : Int} (hk : kd = 1 ∨ kd = 2) (h : Bare e) : typesF [wN e kd] = ft2 (tyF [wN e kd] (wN e kd) e) (needF (kd == tyK [wN e kd] (wN e kd) e) 9 1) := by
  have hc : comeOf [wN e kd] (wN e kd) (wQ e) = [tyK [wN e kd] (wN e kd) e] := if_neg h.2.2.1
  have hv : tyOf (wN e kd) bNm = kd := ty_at (k := 1) (x := wVB kd) (by show idxOf [aNm, bNm] bNm = _; decide +kernel) rfl
  have h1 : leftTs [wN e kd] (wN e kd) (wQ e) = [needF (kd == tyK [wN e kd] (wN e kd) e) 9 1] := by
    unfold leftTs
    rw [hc]
    show [needF (tyOf (wN e kd) bNm == _) 9 1] = _
    rw [hv]; rfl
  have h2 : eqnTF [wN e kd] (wN e kd) (wQ e) = ft2 (tyF [wN e kd] (wN e kd) e) (needF (kd == tyK [wN e kd] (wN e kd) e) 9 1) := by
    unfold eqnTF
    rw [h1]
    refine congrArg (ft2 _) ?_
    exact (fstl_snoc (l := []) (need_fz _ _ _)).trans (ft2_l _)
  unfold typesF
  rw [w_scope hk h, ft2_l, fstL_map]
  show fstl [nodeTF [wN e kd] (wN e kd)] = _
  rw [show [nodeTF [wN e kd] (wN e kd)] = [] ++ [nodeTF [wN e kd] (wN e kd)] from rfl, fstl_snoc nodeTF_fz]
  show ft2 ft0 _ = _
  rw [ft2_l]
  unfold nodeTF
  show ft2 ft0 (fstl [eqnTF [wN e kd] (wN e kd) (wQ e)]) = _
  rw [ft2_l, show [eqnTF [wN e kd] (wN e kd) (wQ e)] = [] ++ [eqnTF [wN e kd] (wN e kd) (wQ e)] from rfl, fstl_snoc eqnTF_fz]
  show ft2 ft0 _ = _
  rw [ft2_l, h2]
theorem one_ty {s : List Nd} {n : Nd} : tyF s n tOne = ft0 ∧ tyK s n tOne = 1 := ⟨by rw [tyF_eq, (op_1 rfl).1]; rfl, by rw [tyK_eq]; exact (op_1 rfl).2⟩
theorem yes_ty {s : List Nd} {n : Nd} : tyF s n tYes = ft0 ∧ tyK s n tYes = 2 := ⟨by rw [tyF_eq, (op_2 rfl).1]; rfl, by rw [tyK_eq]; exact (op_2 rfl).2⟩
theorem two_args {s : List Nd} {n : Nd} {e : Ex} (h : e.args = [tOne, tYes]) : argFs s n e = [ft0, ft0] ∧ argKs s n e = [1, 2] := by
  unfold argFs argKs
  rw [h]
  show [tyF s n tOne, tyF s n tYes] = _ ∧ [tyK s n tOne, tyK s n tYes] = _
  rw [one_ty.1, one_ty.2, yes_ty.1, yes_ty.2]
  exact ⟨rfl, rfl⟩
theorem sum_bare : Bare tSum := by
  refine ⟨?_, fun x hx => ?_, by decide, ⟨by unfold exSize; rw [list_sum]; decide, fun x hx => ?_⟩⟩
  · unfold exRight; rw [list_sum, exHeight_eq]; simp only [Ex.args, List.map_cons, List.map_nil, exHeight_eq]; decide +kernel
  · rw [list_sum] at hx; simp at hx; rcases hx with rfl | rfl | rfl <;> exact ⟨by decide, by decide⟩
  · rw [list_sum] at hx; simp at hx; rcases hx with rfl | rfl | rfl <;> decide
theorem is_bare : Bare tIs := by
  refine ⟨?_, fun x hx => ?_, by decide, ⟨by unfold exSize; rw [list_is]; decide, fun x hx => ?_⟩⟩
  · unfold exRight; rw [list_is, exHeight_eq]; simp only [Ex.args, List.map_cons, List.map_nil, exHeight_eq]; decide +kernel
  · rw [list_is] at hx; simp at hx; rcases hx with rfl | rfl | rfl <;> exact ⟨by decide, by decide⟩
  · rw [list_is] at hx; simp at hx; rcases hx with rfl | rfl | rfl <;> decide
theorem yes_bare : Bare tYes := by
  refine ⟨?_, fun x hx => ?_, by decide, ⟨by unfold exSize; rw [list_yes]; decide, fun x hx => ?_⟩⟩
  · unfold exRight; rw [list_yes, exHeight_eq]; decide +kernel
  · rw [list_yes] at hx; simp at hx; subst hx; exact ⟨by decide, by decide⟩
  · rw [list_yes] at hx; simp at hx; subst hx; decide
theorem t_sum : typesF [wN tSum 1] = ⟨28, 2, 1⟩ := by
  rw [w_types (.inl rfl) sum_bare]
  have h : tyF [wN tSum 1] (wN tSum 1) tSum = ⟨28, 2, 1⟩ := by
    rw [tyF_eq, (two_args rfl).1, (two_args rfl).2, (op_sign (by decide)).1]; rfl
  rw [h]; rfl
theorem t_is : typesF [wN tIs 2] = ⟨28, 3, 1⟩ := by
  rw [w_types (.inr rfl) is_bare]
  have h : tyF [wN tIs 2] (wN tIs 2) tIs = ⟨28, 3, 1⟩ := by
    rw [tyF_eq, (two_args rfl).1, (two_args rfl).2, (op_sign (by decide)).1]; rfl
  rw [h]; rfl
theorem t_yes : typesF [wN tYes 2] = ft0 := by
  rw [w_types (.inr rfl) yes_bare, yes_ty.1, yes_ty.2]; rfl
end Go.Proofs.Ytolabbnchmmckaa
