/-
  The chapter's examples of types: the contract of tompionlaw16.awake.
-/
import Derived.Test.YtolabbnchmmckaaTyF
import Derived.Test.YtolabbnchmmckaaWhA
import Derived.Deep.RegionHeld3
namespace Go.Proofs.Ytolabbnchmmckaa
open Go.RowKit Nm
attribute [local go_sem ↓] Go.wp_at_zero Go.wp_at_succ
/-- a new row of expressions -/
theorem rowExs {w : World} {g B : Nat} {l : List Ex} {css : List (List Value)} {cs : Array Value} {t : TypeId} (h : Row w g cs t) (hc : cs.toList = css.flatten) (hx : ExsAre w B l css) (hB : B ≤ w.heap.size) : IsExs w w.heap.size (some ⟨g, 0, none⟩) l := fun hn => by
  refine ⟨g, 0, rfl, h.lt, fun i x hi => ?_⟩
  have hil : i < css.length := by rw [hx.1]; exact (List.getElem?_eq_some_iff.1 hi).1
  refine ⟨css[i], fun j u hu => ?_, ((hx.2 i x _ hi (List.getElem?_eq_getElem hil)).more hB)⟩
  have hj : j < 6 := by rw [← hx.six css[i] (List.getElem_mem hil)]; exact (List.getElem?_eq_some_iff.1 hu).1
  have h2 : css.flatten[i * 6 + j]? = some u := by rw [flatten_get hx.six (List.getElem?_eq_getElem hil) hj]; exact hu
  rw [Nat.zero_add, h.cell, ← Array.getElem?_toList, hc]
  exact h2
abbrev tOne : Ex := .mk 1 ⟨#[]⟩ 1 [] 1 1
abbrev tYes : Ex := .mk 2 ⟨#[]⟩ 1 [] 2 1
abbrev tSum : Ex := .mk 7 ⟨#[]⟩ 0 [tOne, tYes] 3 1
abbrev tIs : Ex := .mk 12 ⟨#[]⟩ 0 [tOne, tYes] 3 1
abbrev wVA : Vr := ⟨aNm, 2, [], 0, 0⟩
abbrev wVB (kd : Int) : Vr := ⟨bNm, kd, [], 0, 0⟩
abbrev wQ (e : Ex) : Eqn := ⟨[bNm], e, 9, 1⟩
abbrev wN (e : Ex) (kd : Int) : Nd := ⟨mainNm, [wVA], [wVB kd], [], [wQ e], 0, 0⟩
theorem nil_small : (⟨#[]⟩ : ByteArray).size ≤ maxLen := by simp [ByteArray.size, maxLen]
theorem tOne_ok : ExOk tOne := ⟨wf_of (n := 1) (by omega), nil_small, wf_of (n := 1) (by omega), wf_of (n := 1) (by omega), wf_of (n := 1) (by omega)⟩
theorem tYes_ok : ExOk tYes := ⟨wf_of (n := 2) (by omega), nil_small, wf_of (n := 1) (by omega), wf_of (n := 2) (by omega), wf_of (n := 1) (by omega)⟩
theorem tSum_ok : ExOk tSum := ⟨wf_of (n := 7) (by omega), nil_small, wf_of (n := 0) (by omega), wf_of (n := 3) (by omega), wf_of (n := 1) (by omega)⟩
theorem tIs_ok : ExOk tIs := ⟨wf_of (n := 12) (by omega), nil_small, wf_of (n := 0) (by omega), wf_of (n := 3) (by omega), wf_of (n := 1) (by omega)⟩
theorem two_at {W : World} {g : Nat} (hr : Row W g #[.int .i64 1, .string ⟨#[]⟩, .int .i64 1, .slice none 0 0, .int .i64 1, .int .i64 1, .int .i64 2, .string ⟨#[]⟩, .int .i64 1, .slice none 0 0, .int .i64 2, .int .i64 1] 26) : IsExs W W.heap.size (some ⟨g, 0, none⟩) [tOne, tYes] := by
  refine rowExs (css := [exCells tOne none 0, exCells tYes none 0]) hr rfl ?_ (Nat.le_refl _)
  have h1 : IsEx W W.heap.size tOne (exCells tOne none 0) := IsEx.mk' tOne_ok (Nat.le_refl _) (Nat.zero_le _) (fun h => absurd h (by simp [Ex.args]))
  have h2 : IsEx W W.heap.size tYes (exCells tYes none 0) := IsEx.mk' tYes_ok (Nat.le_refl _) (Nat.zero_le _) (fun h => absurd h (by simp [Ex.args]))
  exact (ExsAre.one h1).append (ExsAre.one h2)
theorem yes_at (w : World) : IsExs w w.heap.size none tYes.args := fun h => absurd h (by simp [Ex.args])
abbrev wEqA (e : Ex) (A2 : Option Addr) (c2 g : Nat) : Array Value := #[.slice (some ⟨g, 0, none⟩) 1 1, .int .i64 e.op, .string e.name, .int .i64 e.n, .slice A2 e.args.length c2, .int .i64 e.line, .int .i64 e.col, .int .i64 9, .int .i64 1]
abbrev wAa : Array Value := #[.string ⟨#[97]⟩, .int .i64 2, .slice none 0 0, .int .i64 0, .int .i64 0]
abbrev wBa (kd : Int) : Array Value := #[.string ⟨#[98]⟩, .int .i64 kd, .slice none 0 0, .int .i64 0, .int .i64 0]
abbrev wN0 (g h : Nat) : Array Value := #[.string ⟨#[109, 97, 105, 110]⟩, .slice (some ⟨g, 0, none⟩) 1 1, .slice (some ⟨h, 0, none⟩) 1 1, .slice none 0 0, .slice none 0 0, .int .i64 0, .int .i64 0]
abbrev wN1 (g h i : Nat) : Array Value := #[.string ⟨#[109, 97, 105, 110]⟩, .slice (some ⟨g, 0, none⟩) 1 1, .slice (some ⟨h, 0, none⟩) 1 1, .slice none 0 0, .slice (some ⟨i, 0, none⟩) 1 1, .int .i64 0, .int .i64 0]
theorem with_nds {e : Ex} {kd : Int} {A2 : Option Addr} {c2 : Nat} {W : World} {ga gb gs gq gn : Nat} (hok : ExOk e) (hl : e.args.length ≤ c2) (hm : c2 ≤ maxLen) (hkd : Wf kd)
    (ra : Row W ga wAa 64) (rb : Row W gb (wBa kd) 64) (rs : Row W gs #[.string ⟨#[98]⟩] 9) (rq : Row W gq (wEqA e A2 c2 gs) 60) (rn : Row W gn (wN1 ga gb gq) 40) (hx : IsExs W W.heap.size A2 e.args) :
    Nds W W.heap.size (some ⟨gn, 0, none⟩) [wN e kd] := by
  have sA : Vrs W W.heap.size (some ⟨ga, 0, none⟩) [wVA] := sl_one (cs := wAa.toList) ra ra.lt ⟨none, 0, rfl, ⟨by simp [ByteArray.size, maxLen], wf_of (n := 2) (by omega), wf_of (n := 0) (by omega), wf_of (n := 0) (by omega)⟩, Nat.le_refl _, Nat.zero_le _, Sl.nil⟩
  have sB : Vrs W W.heap.size (some ⟨gb, 0, none⟩) [wVB kd] := sl_one (cs := (wBa kd).toList) rb rb.lt ⟨none, 0, rfl, ⟨by simp [ByteArray.size, maxLen], hkd, wf_of (n := 0) (by omega), wf_of (n := 0) (by omega)⟩, Nat.le_refl _, Nat.zero_le _, Sl.nil⟩
  have sS : Sl W W.heap.size 1 isStr (some ⟨gs, 0, none⟩) [bNm] := sl_one (cs := [.string bNm]) rs rs.lt ⟨rfl, by simp [ByteArray.size, maxLen]⟩
  have sQ : Eqs W W.heap.size (some ⟨gq, 0, none⟩) [wQ e] := sl_one (cs := (wEqA e A2 c2 gs).toList) rq rq.lt ⟨some ⟨gs, 0, none⟩, 1, A2, c2, rfl, ⟨hok, wf_of (n := 9) (by omega), wf_of (n := 1) (by omega)⟩, Nat.le_refl _, by unfold maxLen; decide, sS, hl, hm, hx⟩
  exact sl_one (cs := (wN1 ga gb gq).toList) rn rn.lt ⟨⟨some ⟨ga, 0, none⟩, 1, some ⟨gb, 0, none⟩, 1, none, 0, some ⟨gq, 0, none⟩, 1⟩, rfl, ⟨by simp [ByteArray.size, maxLen], wf_of (n := 0) (by omega), wf_of (n := 0) (by omega), Nat.le_refl _, by show (1 : Nat) ≤ maxLen; unfold maxLen; decide, sA, Nat.le_refl _, by show (1 : Nat) ≤ maxLen; unfold maxLen; decide, sB, Nat.le_refl _, Nat.zero_le _, Sl.nil, Nat.le_refl _, by show (1 : Nat) ≤ maxLen; unfold maxLen; decide, sQ⟩⟩
set_option maxRecDepth 100000 in
set_option maxHeartbeats 1000000 in
theorem twith_any (e : Ex) (A2 : Option Addr) (c2 : Nat) (kd : Int) (w : World) (hok : ExOk e) (hl : e.args.length ≤ c2) (hm : c2 ≤ maxLen) (hkd : Wf kd) (hx : IsExs w w.heap.size A2 e.args) :
    Calls Try.prog 77 #[exV e A2 c2, .int .i64 kd] w fun r w' => (∃ g, r = .returned (srcV [wN e kd] (some ⟨g, 0, none⟩) 1) ∧ Nds w' w'.heap.size (some ⟨g, 0, none⟩) [wN e kd]) ∧ Below w.heap.size w w' := by
  have re1 := (Row.new w (exA e A2 c2) 26).alloc (.cells #[.slice none 0 0] 45)
  have rs1 := rowNew2 w (.cells (exA e A2 c2) 26) #[.slice none 0 0] 45
  have b1 : Below w.heap.size w ((w.alloc (.cells (exA e A2 c2) 26)).alloc (.cells #[.slice none 0 0] 45)) := (by repeat (first | (with_reducible assumption) | (with_reducible exact Below.refl _ _) | (with_reducible refine Below.drew ?_) | (with_reducible refine below_drewN' ?_ _) | (with_reducible refine Below.alloc ?_ (by first | assumption | omega | (simp; omega) | simp | (simp [World.setCell]; omega) | simp [World.setCell]) _) | (with_reducible refine Below.setCell ?_ (by first | assumption | omega | (simp; omega) | simp | (simp [World.setCell]; omega) | simp [World.setCell]) _)))
  have HX : Hid (∀ W, Below w.heap.size w W → IsExs W W.heap.size A2 e.args) := fun W hW => (hx.below hW).more hW.size
  have HOK := Lib.hid hok
  have HL := Lib.hid hl
  have HM := Lib.hid hm
  have HKD := Lib.hid hkd
  clear hok hl hm hkd hx
  go_enter Try.func77, Try.ntmps77
  go_upto_region 1 with (fail)
  generalize (w.alloc (.cells (exA e A2 c2) 26)).alloc (.cells #[.slice none 0 0] 45) = W1 at *
  have hs1 := b1.size
  have hle := re1.lt
  have hls := rs1.lt
  have ra2 : Row (((W1.alloc (.cells wAa 64)).alloc (.cells (wBa kd) 64)).alloc (.cells (wN0 W1.heap.size (W1.heap.size + 1)) 40)) W1.heap.size wAa 64 := ((Row.new W1 _ _).alloc _).alloc _
  have rb2 : Row (((W1.alloc (.cells wAa 64)).alloc (.cells (wBa kd) 64)).alloc (.cells (wN0 W1.heap.size (W1.heap.size + 1)) 40)) (W1.heap.size + 1) (wBa kd) 64 := (rowNew2 W1 _ _ _).alloc _
  have rn2 : Row (((W1.alloc (.cells wAa 64)).alloc (.cells (wBa kd) 64)).alloc (.cells (wN0 W1.heap.size (W1.heap.size + 1)) 40)) (W1.heap.size + 1 + 1) (wN0 W1.heap.size (W1.heap.size + 1)) 40 := rowNew3 W1 _ _ _ _
  have b2 : Below w.heap.size w (((W1.alloc (.cells wAa 64)).alloc (.cells (wBa kd) 64)).alloc (.cells (wN0 W1.heap.size (W1.heap.size + 1)) 40)) := (by repeat (first | (with_reducible assumption) | (with_reducible exact Below.refl _ _) | (with_reducible refine Below.drew ?_) | (with_reducible refine below_drewN' ?_ _) | (with_reducible refine Below.alloc ?_ (by first | assumption | omega | (simp; omega) | simp | (simp [World.setCell]; omega) | simp [World.setCell]) _) | (with_reducible refine Below.setCell ?_ (by first | assumption | omega | (simp; omega) | simp | (simp [World.setCell]; omega) | simp [World.setCell]) _)))
  have re2 := ((re1.alloc (.cells wAa 64)).alloc (.cells (wBa kd) 64)).alloc (.cells (wN0 W1.heap.size (W1.heap.size + 1)) 40)
  have rs2 := ((rs1.alloc (.cells wAa 64)).alloc (.cells (wBa kd) 64)).alloc (.cells (wN0 W1.heap.size (W1.heap.size + 1)) 40)
  go_upto_region 2 with (fail)
  generalize ((W1.alloc (.cells wAa 64)).alloc (.cells (wBa kd) 64)).alloc (.cells (wN0 W1.heap.size (W1.heap.size + 1)) 40) = W2 at *
  have hs2 := b2.size
  have hln := rn2.lt
  have hle2 : w.heap.size < W2.heap.size := re2.lt
  obtain ⟨gn, HGN⟩ : ∃ gn, Hid (W1.heap.size + 1 + 1 = gn) := ⟨_, rfl⟩
  have hgn : W1.heap.size + 1 + 1 = gn := HGN.out
  have hgn1 : W1.heap.size + 1 < gn := by omega
  have hgn0 : w.heap.size + 1 < gn := by omega
  obtain ⟨x0, x1, x2, x3, x4, x5⟩ := re2.ex6
  have z4 := rn2.frozen 4
  have n4 : W2.cell? ⟨W1.heap.size + 1 + 1, 4, none⟩ = some (.slice none 0 0) := (rn2.cell 4).trans rfl
  rw [hgn] at z4 n4 rn2 hln
  have HB2 := Lib.hid b2
  have HRA := Lib.hid ra2
  have HRB := Lib.hid rb2
  have HRN := Lib.hid rn2
  have HRS := Lib.hid rs2
  rw [show W1.heap.size + 1 + 1 = gn from hgn]
  clear hgn b1 b2 re1 rs1 re2 rs2 ra2 rb2 rn2
  go_upto_region 3 with (fail)
  have hzs : (W2.setCell ⟨gn, 4, none⟩ (.slice (some ⟨W2.heap.size + 1, 0, none⟩) 1 1)).heap.size = W2.heap.size := by simp [World.setCell]
  have rn3 : Row (((W2.setCell ⟨gn, 4, none⟩ (.slice (some ⟨W2.heap.size + 1, 0, none⟩) 1 1)).alloc (.cells #[.string ⟨#[98]⟩] 9)).alloc (.cells (wEqA e A2 c2 W2.heap.size) 60)) gn (wN1 W1.heap.size (W1.heap.size + 1) (W2.heap.size + 1)) 40 := by
    have := ((HRN.out.set 4 (.slice (some ⟨W2.heap.size + 1, 0, none⟩) 1 1)).alloc (.cells #[.string ⟨#[98]⟩] 9)).alloc (.cells (wEqA e A2 c2 W2.heap.size) 60)
    simpa using this
  have ra3 := ((HRA.out.far (p := ⟨gn, 4, none⟩) (show W1.heap.size ≠ gn by omega) (.slice (some ⟨W2.heap.size + 1, 0, none⟩) 1 1)).alloc (.cells #[.string ⟨#[98]⟩] 9)).alloc (.cells (wEqA e A2 c2 W2.heap.size) 60)
  have rb3 := ((HRB.out.far (p := ⟨gn, 4, none⟩) (show W1.heap.size + 1 ≠ gn by omega) (.slice (some ⟨W2.heap.size + 1, 0, none⟩) 1 1)).alloc (.cells #[.string ⟨#[98]⟩] 9)).alloc (.cells (wEqA e A2 c2 W2.heap.size) 60)
  have rs3 := ((HRS.out.far (p := ⟨gn, 4, none⟩) (show w.heap.size + 1 ≠ gn by omega) (.slice (some ⟨W2.heap.size + 1, 0, none⟩) 1 1)).alloc (.cells #[.string ⟨#[98]⟩] 9)).alloc (.cells (wEqA e A2 c2 W2.heap.size) 60)
  have rq3 : Row (((W2.setCell ⟨gn, 4, none⟩ (.slice (some ⟨W2.heap.size + 1, 0, none⟩) 1 1)).alloc (.cells #[.string ⟨#[98]⟩] 9)).alloc (.cells (wEqA e A2 c2 W2.heap.size) 60)) (W2.heap.size + 1) (wEqA e A2 c2 W2.heap.size) 60 := by
    have := rowNew2 (W2.setCell ⟨gn, 4, none⟩ (.slice (some ⟨W2.heap.size + 1, 0, none⟩) 1 1)) (.cells #[.string ⟨#[98]⟩] 9) (wEqA e A2 c2 W2.heap.size) 60
    rwa [hzs] at this
  have rt3 : Row (((W2.setCell ⟨gn, 4, none⟩ (.slice (some ⟨W2.heap.size + 1, 0, none⟩) 1 1)).alloc (.cells #[.string ⟨#[98]⟩] 9)).alloc (.cells (wEqA e A2 c2 W2.heap.size) 60)) W2.heap.size #[.string ⟨#[98]⟩] 9 := (Row.newAt _ _ hzs _ _).alloc _
  have b3 : Below w.heap.size w (((W2.setCell ⟨gn, 4, none⟩ (.slice (some ⟨W2.heap.size + 1, 0, none⟩) 1 1)).alloc (.cells #[.string ⟨#[98]⟩] 9)).alloc (.cells (wEqA e A2 c2 W2.heap.size) 60)) := ((HB2.out.setCell (p := ⟨gn, 4, none⟩) (show w.heap.size ≤ gn by omega) _).alloc (by rw [hzs]; exact hs2) _).alloc (by simp [World.setCell]; omega) _
  clear hzs
  clear x0 x1 x2 x3 x4 x5 z4 n4
  generalize ((W2.setCell ⟨gn, 4, none⟩ (.slice (some ⟨W2.heap.size + 1, 0, none⟩) 1 1)).alloc (.cells #[.string ⟨#[98]⟩] 9)).alloc (.cells (wEqA e A2 c2 W2.heap.size) 60) = W3 at *
  have hs3 := b3.size
  have hls3 := rs3.lt
  have hln3 := rn3.lt
  have n0 : W3.cell? ⟨gn, 0, none⟩ = some (.string ⟨#[109, 97, 105, 110]⟩) := (rn3.cell 0).trans rfl
  have n1 : W3.cell? ⟨gn, 1, none⟩ = some (.slice (some ⟨W1.heap.size, 0, none⟩) 1 1) := (rn3.cell 1).trans rfl
  have n2 : W3.cell? ⟨gn, 2, none⟩ = some (.slice (some ⟨W1.heap.size + 1, 0, none⟩) 1 1) := (rn3.cell 2).trans rfl
  have n3 : W3.cell? ⟨gn, 3, none⟩ = some (.slice none 0 0) := (rn3.cell 3).trans rfl
  have n4 : W3.cell? ⟨gn, 4, none⟩ = some (.slice (some ⟨W2.heap.size + 1, 0, none⟩) 1 1) := (rn3.cell 4).trans rfl
  have n5 : W3.cell? ⟨gn, 5, none⟩ = some (.int .i64 0) := (rn3.cell 5).trans rfl
  have n6 : W3.cell? ⟨gn, 6, none⟩ = some (.int .i64 0) := (rn3.cell 6).trans rfl
  have s0 : W3.cell? ⟨w.heap.size + 1, 0, none⟩ = some (.slice none 0 0) := (rs3.cell 0).trans rfl
  have sf := rs3.frozen 0
  have HRA3 := Lib.hid ra3
  have HRB3 := Lib.hid rb3
  have HRN3 := Lib.hid rn3
  have HRQ3 := Lib.hid rq3
  have HRT3 := Lib.hid rt3
  have HRS3 := Lib.hid rs3
  have HB3 := Lib.hid b3
  clear ra3 rb3 rn3 rq3 rt3 rs3 b3
  go_wp2_with fail
  have q1 : w.heap.size + 1 ≠ W3.heap.size := by omega
  have hzs : (W3.setCell ⟨w.heap.size + 1, 0, none⟩ (.slice (some ⟨W3.heap.size, 0, none⟩) 1 1)).heap.size = W3.heap.size := by simp [World.setCell]
  have f1 : ∀ {b : Nat} {cs : Array Value} {t : TypeId}, b ≠ w.heap.size + 1 → Row W3 b cs t → Row ((W3.setCell ⟨w.heap.size + 1, 0, none⟩ (.slice (some ⟨W3.heap.size, 0, none⟩) 1 1)).alloc (.cells (wN1 W1.heap.size (W1.heap.size + 1) (W2.heap.size + 1)) 40)) b cs t := fun hb hr => (hr.far (p := ⟨w.heap.size + 1, 0, none⟩) hb _).alloc _
  have hnew : Row ((W3.setCell ⟨w.heap.size + 1, 0, none⟩ (.slice (some ⟨W3.heap.size, 0, none⟩) 1 1)).alloc (.cells (wN1 W1.heap.size (W1.heap.size + 1) (W2.heap.size + 1)) 40)) W3.heap.size (wN1 W1.heap.size (W1.heap.size + 1) (W2.heap.size + 1)) 40 := Row.newAt _ _ hzs _ _
  have hres : Row ((W3.setCell ⟨w.heap.size + 1, 0, none⟩ (.slice (some ⟨W3.heap.size, 0, none⟩) 1 1)).alloc (.cells (wN1 W1.heap.size (W1.heap.size + 1) (W2.heap.size + 1)) 40)) (w.heap.size + 1) #[.slice (some ⟨W3.heap.size, 0, none⟩) 1 1] 45 := by
    have := (HRS3.out.set 0 (.slice (some ⟨W3.heap.size, 0, none⟩) 1 1)).alloc (.cells (wN1 W1.heap.size (W1.heap.size + 1) (W2.heap.size + 1)) 40)
    simpa using this
  have hbb : Below w.heap.size w ((W3.setCell ⟨w.heap.size + 1, 0, none⟩ (.slice (some ⟨W3.heap.size, 0, none⟩) 1 1)).alloc (.cells (wN1 W1.heap.size (W1.heap.size + 1) (W2.heap.size + 1)) 40)) := (HB3.out.setCell (p := ⟨w.heap.size + 1, 0, none⟩) (show w.heap.size ≤ w.heap.size + 1 by omega) _).alloc (by rw [hzs]; exact hs3) _
  exact bodyPost_ret (res1 rfl Try.underlying45 rfl (by kernel_rfl) rfl hres) rfl ⟨⟨W3.heap.size, rfl, with_nds HOK.out HL.out HM.out HKD.out (f1 (by omega) HRA3.out) (f1 (by omega) HRB3.out) (f1 (by omega) HRT3.out) (f1 (by omega) HRQ3.out) hnew (HX.out _ hbb)⟩, hbb⟩
/-! ### what is wrong with the examples -/
theorem list_sum : exList tSum = [tSum, tOne, tYes] := by rw [exList_eq]; simp [Ex.args, exList_eq]
theorem list_is : exList tIs = [tIs, tOne, tYes] := by rw [exList_eq]; simp [Ex.args, exList_eq]
theorem list_yes : exList tYes = [tYes] := by rw [exList_eq]; rfl
def Bare (e : Ex) : Prop := exRight e = true ∧ (∀ x ∈ exList e, namesB x.op = false ∧ x.op ≠ 4) ∧ e.op ≠ 4 ∧ Small e
theorem bare_expr {s : List Nd} {n : Nd} {e : Ex} {outs : Int} (h : ∀ x ∈ exList e, namesB x.op = false ∧ x.op ≠ 4) : exprF s n outs e = ft0 := by
  rw [← exprF_list]
  refine fstL_end fun j _ x hx => ?_
  obtain ⟨h1, h2⟩ := h x (List.mem_of_getElem? hx)
  show (oneF s n _ x).err = 0
  unfold oneF
  rw [if_neg (by rw [h1]; decide), if_neg h2]
theorem w_small {e : Ex} {kd : Int} (h : Small e) : SrcSm [wN e kd] := by
  refine ⟨by simp, fun n hn => ?_⟩
  simp at hn
  subst hn
  refine ⟨by show mainNm.size ≤ 30; decide, by simp, by simp, by simp, by simp, fun v hv => ?_, fun q hq => ?_⟩
  · simp [vrs] at hv
    rcases hv with rfl | rfl
    · exact ⟨by show aNm.size ≤ 30; decide, by simp, fun c hc => by simp at hc⟩
    · exact ⟨by show bNm.size ≤ 30; decide, by simp, fun c hc => by simp at hc⟩
  · simp at hq
    subst hq
    exact ⟨by simp, fun x hx => by simp at hx; subst hx; decide, h⟩
theorem w_scope {e : Ex} {kd : Int} (hk : kd = 1 ∨ kd = 2) (h : Bare e) : scopeF [wN e kd] = ft0 := by
  obtain ⟨hr, hb, h4, _⟩ := h
  have ha : nameB aNm.toList = true := by decide +kernel
  have hbn : nameB bNm.toList = true := by decide +kernel
  have hrt : SrcRt [wN e kd] := by
    refine ⟨fun n hn => ?_, by simp, by simp⟩
    simp at hn
    subst hn
    refine ⟨fun q hq => ?_, by show nameB mainNm.toList = true; decide +kernel, by simp, by simp, ⟨fun v hv => ?_, by simp, by simp⟩, ⟨fun v hv => ?_, by simp, by simp⟩, ⟨fun v hv => by simp at hv, by simp, by simp⟩⟩
    · simp at hq
      subst hq
      exact ⟨fun x hx => by simp at hx; subst hx; exact hbn, by simp, by simp, hr⟩
    · simp at hv
      subst hv
      exact ⟨fun c hc => by simp at hc, ha, .inr rfl, by simp⟩
    · simp at hv
      subst hv
      exact ⟨fun c hc => by simp at hc, hbn, hk, by simp⟩
  have hba : ¬ bNm = aNm := by decide
  have e1 : leftNF (wN e kd) (metTo (wN e kd) 0) (wQ e) 0 bNm = ft0 := by unfold leftNF; rw [if_neg (by simp [vrs]), if_neg (by simp [metTo, lefts, hba])]
  have e2 : leftF (wN e kd) (metTo (wN e kd) 0) (wQ e) = ft0 := by
    unfold leftF
    rw [fstL_end (fun j hj x hx => by
      have hj2 : j = 0 := by simp at hj; omega
      subst hj2
      simp at hx; subst hx
      rw [e1]), ft2_0 (a := ft0) rfl]
    unfold countF; rw [if_neg (by simp)]
  have e3 : eqnF [wN e kd] (wN e kd) 0 (wQ e) = ft0 := by unfold eqnF; rw [e2, ft2_0 (a := ft0) rfl]; exact bare_expr hb
  have e4 : equationsF [wN e kd] (wN e kd) = ft0 := by
    unfold equationsF
    rw [fstL_end (fun j hj x hx => by
      have hj2 : j = 0 := by simp at hj; omega
      subst hj2
      simp at hx; subst hx
      rw [e3]), ft2_0 (a := ft0) rfl]
    refine fstL_end fun j hj x hx => ?_
    have hj2 : j = 0 := by simp at hj; omega
    subst hj2
    simp at hx; subst hx
    unfold defF; rw [if_neg (by simp [metTo, lefts])]
  have e6 : variablesF (wN e kd) = ft0 := by
    unfold variablesF
    have e7 : fstL (varF (wN e kd)) (vrs (wN e kd)) = ft0 := by
      refine fstL_end fun j hj x hx => ?_
      have hj2 : j = 0 ∨ j = 1 := by have : (vrs (wN e kd)).length = 2 := rfl; omega
      rcases hj2 with rfl | rfl
      · simp [vrs] at hx; subst hx
        unfold varF; rw [if_neg (by simp), if_neg (by simp)]
      · simp [vrs] at hx; subst hx
        unfold varF; rw [if_neg (by simp [vrs]), if_neg (by simp)]
    rw [e7]; rfl
  have e8 : fstL (nameF [wN e kd]) [wN e kd] = ft0 := by
    refine fstL_end fun j hj x hx => ?_
    have hj2 : j = 0 := by simp at hj; omega
    subst hj2
    simp at hx; subst hx
    unfold nameF; rw [if_neg (by simp)]
  have e5 : nodeF [wN e kd] 0 (wN e kd) = ft0 := by unfold nodeF; rw [e6, e4]; rfl
  rw [scopeF_rt hrt, e8, ft2_0 (a := ft0) rfl, fstL_end (fun j hj x hx => by
      have hj2 : j = 0 := by simp at hj; omega
      subst hj2
      simp at hx; subst hx
      rw [e5]), ft2_0 (a := ft0) rfl]
  unfold mainF; rw [if_neg (by simp)]
theorem w_types {e : Ex} {kd : Int} (hk : kd = 1 ∨ kd = 2) (h : Bare e) : typesF [wN e kd] = ft2 (tyF [wN e kd] (wN e kd) e) (needF (kd == tyK [wN e kd] (wN e kd) e) 9 1) := by
  have hc : comeOf [wN e kd] (wN e kd) (wQ e) = [tyK [wN e kd] (wN e kd) e] := if_neg h.2.2.1
  have hv : tyOf (wN e kd) bNm = kd := ty_at (k := 1) (x := wVB kd) (by show idxOf [aNm, bNm] bNm = _; decide +kernel) rfl
  have h1 : leftTs [wN e kd] (wN e kd) (wQ e) = [needF (kd == tyK [wN e kd] (wN e kd) e) 9 1] := by
    unfold leftTs
    rw [hc]
    show [needF (tyOf (wN e kd) bNm == _) 9 1] = _
    rw [hv]; rfl
  have h2 : eqnTF [wN e kd] (wN e kd) (wQ e) = ft2 (tyF [wN e kd] (wN e kd) e) (needF (kd == tyK [wN e kd] (wN e kd) e) 9 1) := by
    unfold eqnTF
    rw [h1]
    refine congrArg (ft2 _) ?_
    exact (fstl_snoc (l := []) (need_fz _ _ _)).trans (ft2_l _)
  unfold typesF
  rw [w_scope hk h, ft2_l, fstL_map]
  show fstl [nodeTF [wN e kd] (wN e kd)] = _
  rw [show [nodeTF [wN e kd] (wN e kd)] = [] ++ [nodeTF [wN e kd] (wN e kd)] from rfl, fstl_snoc nodeTF_fz]
  show ft2 ft0 _ = _
  rw [ft2_l]
  unfold nodeTF
  show ft2 ft0 (fstl [eqnTF [wN e kd] (wN e kd) (wQ e)]) = _
  rw [ft2_l, show [eqnTF [wN e kd] (wN e kd) (wQ e)] = [] ++ [eqnTF [wN e kd] (wN e kd) (wQ e)] from rfl, fstl_snoc eqnTF_fz]
  show ft2 ft0 _ = _
  rw [ft2_l, h2]
theorem one_ty {s : List Nd} {n : Nd} : tyF s n tOne = ft0 ∧ tyK s n tOne = 1 := ⟨by rw [tyF_eq, (op_1 rfl).1]; rfl, by rw [tyK_eq]; exact (op_1 rfl).2⟩
theorem yes_ty {s : List Nd} {n : Nd} : tyF s n tYes = ft0 ∧ tyK s n tYes = 2 := ⟨by rw [tyF_eq, (op_2 rfl).1]; rfl, by rw [tyK_eq]; exact (op_2 rfl).2⟩
theorem two_args {s : List Nd} {n : Nd} {e : Ex} (h : e.args = [tOne, tYes]) : argFs s n e = [ft0, ft0] ∧ argKs s n e = [1, 2] := by
  unfold argFs argKs
  rw [h]
  show [tyF s n tOne, tyF s n tYes] = _ ∧ [tyK s n tOne, tyK s n tYes] = _
  rw [one_ty.1, one_ty.2, yes_ty.1, yes_ty.2]
  exact ⟨rfl, rfl⟩
theorem sum_bare : Bare tSum := by
  refine ⟨?_, fun x hx => ?_, by decide, ⟨by unfold exSize; rw [list_sum]; decide, fun x hx => ?_⟩⟩
  · unfold exRight; rw [list_sum, exHeight_eq]; simp only [Ex.args, List.map_cons, List.map_nil, exHeight_eq]; decide +kernel
  · rw [list_sum] at hx; simp at hx; rcases hx with rfl | rfl | rfl <;> exact ⟨by decide, by decide⟩
  · rw [list_sum] at hx; simp at hx; rcases hx with rfl | rfl | rfl <;> decide
theorem is_bare : Bare tIs := by
  refine ⟨?_, fun x hx => ?_, by decide, ⟨by unfold exSize; rw [list_is]; decide, fun x hx => ?_⟩⟩
  · unfold exRight; rw [list_is, exHeight_eq]; simp only [Ex.args, List.map_cons, List.map_nil, exHeight_eq]; decide +kernel
  · rw [list_is] at hx; simp at hx; rcases hx with rfl | rfl | rfl <;> exact ⟨by decide, by decide⟩
  · rw [list_is] at hx; simp at hx; rcases hx with rfl | rfl | rfl <;> decide
theorem yes_bare : Bare tYes := by
  refine ⟨?_, fun x hx => ?_, by decide, ⟨by unfold exSize; rw [list_yes]; decide, fun x hx => ?_⟩⟩
  · unfold exRight; rw [list_yes, exHeight_eq]; decide +kernel
  · rw [list_yes] at hx; simp at hx; subst hx; exact ⟨by decide, by decide⟩
  · rw [list_yes] at hx; simp at hx; subst hx; decide
theorem t_sum : typesF [wN tSum 1] = ⟨28, 2, 1⟩ := by
  rw [w_types (.inl rfl) sum_bare]
  have h : tyF [wN tSum 1] (wN tSum 1) tSum = ⟨28, 2, 1⟩ := by
    rw [tyF_eq, (two_args rfl).1, (two_args rfl).2, (op_sign (by decide)).1]; rfl
  rw [h]; rfl
theorem t_is : typesF [wN tIs 2] = ⟨28, 3, 1⟩ := by
  rw [w_types (.inr rfl) is_bare]
  have h : tyF [wN tIs 2] (wN tIs 2) tIs = ⟨28, 3, 1⟩ := by
    rw [tyF_eq, (two_args rfl).1, (two_args rfl).2, (op_sign (by decide)).1]; rfl
  rw [h]; rfl
theorem t_yes : typesF [wN tYes 2] = ft0 := by
  rw [w_types (.inr rfl) yes_bare, yes_ty.1, yes_ty.2]; rfl
end Go.Proofs.Ytolabbnchmmckaa
namespace Go.Proofs.Ytolabbnchmmckaa
open Go.RowKit Nm
attribute [local go_sem ↓] Go.wp_at_zero Go.wp_at_succ
abbrev oneA : Array Value := #[.int .i64 1, .string ⟨#[]⟩, .int .i64 1, .slice none 0 0, .int .i64 1, .int .i64 1]
abbrev yesA : Array Value := #[.int .i64 2, .string ⟨#[]⟩, .int .i64 1, .slice none 0 0, .int .i64 2, .int .i64 1]
abbrev twoA : Array Value := #[.int .i64 1, .string ⟨#[]⟩, .int .i64 1, .slice none 0 0, .int .i64 1, .int .i64 1, .int .i64 2, .string ⟨#[]⟩, .int .i64 1, .slice none 0 0, .int .i64 2, .int .i64 1]
theorem Row.six {W : World} {b : Nat} {x0 x1 x2 x3 x4 x5 : Value} {t : TypeId} (h : Row W b #[x0, x1, x2, x3, x4, x5] t) : W.cell? ⟨b, 0, none⟩ = some x0 ∧ W.cell? ⟨b, 1, none⟩ = some x1 ∧ W.cell? ⟨b, 2, none⟩ = some x2 ∧ W.cell? ⟨b, 3, none⟩ = some x3 ∧ W.cell? ⟨b, 4, none⟩ = some x4 ∧ W.cell? ⟨b, 5, none⟩ = some x5 :=
  ⟨(h.cell 0).trans rfl, (h.cell 1).trans rfl, (h.cell 2).trans rfl, (h.cell 3).trans rfl, (h.cell 4).trans rfl, (h.cell 5).trans rfl⟩
theorem Row.pair {W : World} {b : Nat} {x0 x1 : Value} {t : TypeId} (h : Row W b #[x0, x1] t) : W.cell? ⟨b, 0, none⟩ = some x0 ∧ W.cell? ⟨b, 1, none⟩ = some x1 := ⟨(h.cell 0).trans rfl, (h.cell 1).trans rfl⟩
theorem nds_on {W W' : World} {A : Option Addr} {s : List Nd} (h : Nds W W.heap.size A s) (hb : Below W.heap.size W W') : Nds W' W'.heap.size A s := nds_keep h (keeps_of hb) hb.size
set_option linter.unusedSimpArgs false in
set_option maxRecDepth 100000 in
set_option maxHeartbeats 4000000 in
theorem awake16_any (w : World) : Calls Try.prog 42 #[] w fun r w' => r = .returned (.bool true) ∧ Below w.heap.size w w' := by
  have r1 := ((Row.new w oneA 26).alloc (.cells yesA 26)).alloc (.cells #[.int .i64 3, .int .i64 1] 24)
  have r2 := (rowNew2 w (.cells oneA 26) yesA 26).alloc (.cells #[.int .i64 3, .int .i64 1] 24)
  have r3 := rowNew3 w (.cells oneA 26) (.cells yesA 26) #[.int .i64 3, .int .i64 1] 24
  have b1 : Below w.heap.size w (((w.alloc (.cells oneA 26)).alloc (.cells yesA 26)).alloc (.cells #[.int .i64 3, .int .i64 1] 24)) := (by repeat (first | (with_reducible assumption) | (with_reducible exact Below.refl _ _) | (with_reducible refine Below.drew ?_) | (with_reducible refine below_drewN' ?_ _) | (with_reducible refine Below.alloc ?_ (by first | assumption | omega | (simp; omega) | simp | (simp [World.setCell]; omega) | simp [World.setCell]) _) | (with_reducible refine Below.setCell ?_ (by first | assumption | omega | (simp; omega) | simp | (simp [World.setCell]; omega) | simp [World.setCell]) _)))
  go_enter Try.func42, Try.ntmps42
  go_upto_region 4 with (fail)
  generalize ((w.alloc (.cells oneA 26)).alloc (.cells yesA 26)).alloc (.cells #[.int .i64 3, .int .i64 1] 24) = W1 at *
  have hs1 := b1.size
  obtain ⟨x0, x1, x2, x3, x4, x5⟩ := r1.six
  obtain ⟨y0, y1, y2, y3, y4, y5⟩ := r2.six
  obtain ⟨p0, p1⟩ := r3.pair
  have hl3 : w.heap.size + 1 + 1 < W1.heap.size := r3.lt
  have ba : Below W1.heap.size W1 (W1.alloc (.cells twoA 26)) := (by repeat (first | (with_reducible assumption) | (with_reducible exact Below.refl _ _) | (with_reducible refine Below.drew ?_) | (with_reducible refine below_drewN' ?_ _) | (with_reducible refine Below.alloc ?_ (by first | assumption | omega | (simp; omega) | simp | (simp [World.setCell]; omega) | simp [World.setCell]) _) | (with_reducible refine Below.setCell ?_ (by first | assumption | omega | (simp; omega) | simp | (simp [World.setCell]; omega) | simp [World.setCell]) _)))
  have HW1 := Lib.hid (twith_any tSum (some ⟨W1.heap.size, 0, none⟩) 2 1 (W1.alloc (.cells twoA 26)) tSum_ok (Nat.le_refl _) (by unfold maxLen; decide) (wf_of (n := 1) (by omega)) (two_at (Row.new W1 _ _)))
  go_wp2_with fail
  refine HW1.out.mono ?_
  rintro r w2 ⟨⟨g1, rfl, hn1⟩, hb2⟩
  have hb12 : Below W1.heap.size W1 w2 := ba.trans (hb2.mono ba.size)
  have r12 := r1.below hb12 r1.lt
  have r22 := r2.below hb12 r2.lt
  have r32 := r3.below hb12 r3.lt
  have b2 := b1.trans (hb12.mono hs1)
  have hs2 := b2.size
  have HN1 := Lib.hid hn1
  clear x0 x1 x2 x3 x4 x5 y0 y1 y2 y3 y4 y5 p0 p1 hn1 r1 r2 r3 HW1 ba
  have bc : Below w2.heap.size w2 (w2.alloc (.cells #[.slice (some ⟨g1, 0, none⟩) 1 1] 45)) := (by repeat (first | (with_reducible assumption) | (with_reducible exact Below.refl _ _) | (with_reducible refine Below.drew ?_) | (with_reducible refine below_drewN' ?_ _) | (with_reducible refine Below.alloc ?_ (by first | assumption | omega | (simp; omega) | simp | (simp [World.setCell]; omega) | simp [World.setCell]) _) | (with_reducible refine Below.setCell ?_ (by first | assumption | omega | (simp; omega) | simp | (simp [World.setCell]; omega) | simp [World.setCell]) _)))
  have s1 := Row.new w2 #[.slice (some ⟨g1, 0, none⟩) 1 1] 45
  go_upto_region 5 with (fail)
  generalize hW3 : w2.alloc (.cells #[.slice (some ⟨g1, 0, none⟩) 1 1] 45) = w3 at *
  clear hW3
  have r13 := r12.below bc r12.lt
  have r23 := r22.below bc r22.lt
  have r33 := r32.below bc r32.lt
  have b3 := b2.trans (bc.mono hs2)
  have hs3 := b3.size
  have HN2 := Lib.hid (nds_on HN1.out bc)
  clear r12 r22 r32
  obtain ⟨x0, x1, x2, x3, x4, x5⟩ := r13.six
  obtain ⟨y0, y1, y2, y3, y4, y5⟩ := r23.six
  obtain ⟨p0, p1⟩ := r33.pair
  have hl4 : w.heap.size + 1 + 1 < w3.heap.size := r33.lt
  have ba : Below w3.heap.size w3 (w3.alloc (.cells twoA 26)) := (by repeat (first | (with_reducible assumption) | (with_reducible exact Below.refl _ _) | (with_reducible refine Below.drew ?_) | (with_reducible refine below_drewN' ?_ _) | (with_reducible refine Below.alloc ?_ (by first | assumption | omega | (simp; omega) | simp | (simp [World.setCell]; omega) | simp [World.setCell]) _) | (with_reducible refine Below.setCell ?_ (by first | assumption | omega | (simp; omega) | simp | (simp [World.setCell]; omega) | simp [World.setCell]) _)))
  have HW1 := Lib.hid (twith_any tIs (some ⟨w3.heap.size, 0, none⟩) 2 2 (w3.alloc (.cells twoA 26)) tIs_ok (Nat.le_refl _) (by unfold maxLen; decide) (wf_of (n := 2) (by omega)) (two_at (Row.new w3 _ _)))
  go_wp2_with fail
  refine HW1.out.mono ?_
  rintro r w4 ⟨⟨g2, rfl, hn2⟩, hb4⟩
  have hb34 : Below w3.heap.size w3 w4 := ba.trans (hb4.mono ba.size)
  have r14 := r13.below hb34 r13.lt
  have r24 := r23.below hb34 r23.lt
  have r34 := r33.below hb34 r33.lt
  have s14 := s1.below hb34 s1.lt
  have b4 := b3.trans (hb34.mono hs3)
  have hs4 := b4.size
  have HN3 := Lib.hid hn2
  have HN4 := Lib.hid (nds_on HN2.out hb34)
  clear x0 x1 x2 x3 x4 x5 y0 y1 y2 y3 y4 y5 p0 p1 hn2 r13 r23 r33 s1 HW1 ba
  have bd : Below w4.heap.size w4 (w4.alloc (.cells #[.slice (some ⟨g2, 0, none⟩) 1 1] 45)) := (by repeat (first | (with_reducible assumption) | (with_reducible exact Below.refl _ _) | (with_reducible refine Below.drew ?_) | (with_reducible refine below_drewN' ?_ _) | (with_reducible refine Below.alloc ?_ (by first | assumption | omega | (simp; omega) | simp | (simp [World.setCell]; omega) | simp [World.setCell]) _) | (with_reducible refine Below.setCell ?_ (by first | assumption | omega | (simp; omega) | simp | (simp [World.setCell]; omega) | simp [World.setCell]) _)))
  have s2 := Row.new w4 #[.slice (some ⟨g2, 0, none⟩) 1 1] 45
  go_upto_region 6 with (fail)
  generalize hW5 : w4.alloc (.cells #[.slice (some ⟨g2, 0, none⟩) 1 1] 45) = w5 at *
  clear hW5
  have r25 := r24.below bd r24.lt
  have r35 := r34.below bd r34.lt
  have s15 := s14.below bd s14.lt
  have b5 := b4.trans (bd.mono hs4)
  have hs5 := b5.size
  have HM1 := Lib.hid (nds_on HN4.out bd)
  have HM2 := Lib.hid (nds_on HN3.out bd)
  clear r14 r24 r34 s14
  have HC1 : Hid (∀ W, Below w5.heap.size w5 W → Calls Try.prog 43 #[.agg #[.slice (some ⟨g1, 0, none⟩) 1 1]] W fun r w' => r = .returned (.agg #[.int .i64 28, .int .i64 2, .int .i64 1]) ∧ Below W.heap.size W w') := fun W hW => by
    have h3 := tcheck_any [wN tSum 1] (some ⟨g1, 0, none⟩) 1 W (w_small sum_bare.2.2.2) (Nat.le_refl _) (by unfold maxLen; decide) (nds_on HM1.out hW)
    rw [t_sum] at h3
    exact h3
  have HC2 : Hid (∀ W, Below w5.heap.size w5 W → Calls Try.prog 43 #[.agg #[.slice (some ⟨g2, 0, none⟩) 1 1]] W fun r w' => r = .returned (.agg #[.int .i64 28, .int .i64 3, .int .i64 1]) ∧ Below W.heap.size W w') := fun W hW => by
    have h3 := tcheck_any [wN tIs 2] (some ⟨g2, 0, none⟩) 1 W (w_small is_bare.2.2.2) (Nat.le_refl _) (by unfold maxLen; decide) (nds_on HM2.out hW)
    rw [t_is] at h3
    exact h3
  have HC3 : Hid (∀ (g3 : Nat) W, Nds W W.heap.size (some ⟨g3, 0, none⟩) [wN tYes 2] → Calls Try.prog 43 #[.agg #[.slice (some ⟨g3, 0, none⟩) 1 1]] W fun r w' => r = .returned (.agg #[.int .i64 0, .int .i64 0, .int .i64 0]) ∧ Below W.heap.size W w') := fun g3 W hW => by
    have h3 := tcheck_any [wN tYes 2] (some ⟨g3, 0, none⟩) 1 W (w_small yes_bare.2.2.2) (Nat.le_refl _) (by unfold maxLen; decide) hW
    rw [t_yes] at h3
    exact h3
  have HWY : Hid (∀ W, Calls Try.prog 77 #[.agg #[.int .i64 2, .string ⟨#[]⟩, .int .i64 1, .slice none 0 0, .int .i64 2, .int .i64 1], .int .i64 2] W fun r w' => (∃ g3, r = .returned (.agg #[.slice (some ⟨g3, 0, none⟩) 1 1]) ∧ Hid (Nds w' w'.heap.size (some ⟨g3, 0, none⟩) [wN tYes 2])) ∧ Below W.heap.size W w') := fun W =>
    twith_any tYes none 0 2 W tYes_ok (Nat.le_refl _) (Nat.zero_le _) (wf_of (n := 2) (by omega)) (yes_at W)
  have HK : Hid (∀ W, Below w5.heap.size w5 W → W.cell? ⟨w2.heap.size, 0, none⟩ = some (.slice (some ⟨g1, 0, none⟩) 1 1) ∧ W.cell? ⟨w4.heap.size, 0, none⟩ = some (.slice (some ⟨g2, 0, none⟩) 1 1) ∧ (W.cell? ⟨w.heap.size + 1 + 1, 0, none⟩ = some (.int .i64 3) ∧ W.cell? ⟨w.heap.size + 1 + 1, 1, none⟩ = some (.int .i64 1)) ∧ (W.cell? ⟨w.heap.size + 1, 0, none⟩ = some (.int .i64 2) ∧ W.cell? ⟨w.heap.size + 1, 1, none⟩ = some (.string ⟨#[]⟩) ∧ W.cell? ⟨w.heap.size + 1, 2, none⟩ = some (.int .i64 1) ∧ W.cell? ⟨w.heap.size + 1, 3, none⟩ = some (.slice none 0 0) ∧ W.cell? ⟨w.heap.size + 1, 4, none⟩ = some (.int .i64 2) ∧ W.cell? ⟨w.heap.size + 1, 5, none⟩ = some (.int .i64 1))) := fun W hW =>
    ⟨(s15.below hW s15.lt).src, (s2.below hW s2.lt).src, (r35.below hW r35.lt).pair, (r25.below hW r25.lt).six⟩
  refine wp_region_held_drew (S := fun W => W.cell? ⟨w2.heap.size, 0, none⟩ = some (.slice (some ⟨g1, 0, none⟩) 1 1) ∧ W.cell? ⟨w4.heap.size, 0, none⟩ = some (.slice (some ⟨g2, 0, none⟩) 1 1) ∧ (W.cell? ⟨w.heap.size + 1 + 1, 0, none⟩ = some (.int .i64 3) ∧ W.cell? ⟨w.heap.size + 1 + 1, 1, none⟩ = some (.int .i64 1)) ∧ (W.cell? ⟨w.heap.size + 1, 0, none⟩ = some (.int .i64 2) ∧ W.cell? ⟨w.heap.size + 1, 1, none⟩ = some (.string ⟨#[]⟩) ∧ W.cell? ⟨w.heap.size + 1, 2, none⟩ = some (.int .i64 1) ∧ W.cell? ⟨w.heap.size + 1, 3, none⟩ = some (.slice none 0 0) ∧ W.cell? ⟨w.heap.size + 1, 4, none⟩ = some (.int .i64 2) ∧ W.cell? ⟨w.heap.size + 1, 5, none⟩ = some (.int .i64 1))) (by kernel_rfl) ?_ (fun hHeld => ?_)
  · (try dsimp only); (first | (with_reducible exact HK.out _ (by repeat (first | (with_reducible assumption) | (with_reducible exact Below.refl _ _) | (with_reducible refine Below.drew ?_) | (with_reducible refine below_drewN' ?_ _) | (with_reducible refine Below.alloc ?_ (by first | assumption | omega | (simp; omega) | simp | (simp [World.setCell]; omega) | simp [World.setCell]) _) | (with_reducible refine Below.setCell ?_ (by first | assumption | omega | (simp; omega) | simp | (simp [World.setCell]; omega) | simp [World.setCell]) _)))) | go_keep)
  refine wpAnyH_take (i := 0) (oi := { dst := some 23, op := _, type := _, pos := _, after := _, guard := _ }) (v := ?_) rfl (by kernel_rfl) (by kernel_rfl) (by kernel_rfl) (fun _ _ _ h => h) (Or.inl ⟨by kernel_rfl, ?_⟩) (by first | assumption | trivial) ?_
  rotate_left 1
  · intro w hSw; (try dsimp only at hSw); go_simp; (try with_reducible rfl)
  try simp only [Act.put, List.setIfInBounds_toArray, List.set_cons_zero, List.set_cons_succ]
  refine wpAnyH_take (i := 2) (oi := { dst := some 25, op := _, type := _, pos := _, after := _, guard := _ }) (v := ?_) rfl (by kernel_rfl) (by kernel_rfl) (by kernel_rfl) (fun _ _ _ h => h) (Or.inl ⟨by kernel_rfl, ?_⟩) (by first | assumption | trivial) ?_
  rotate_left 1
  · intro w hSw; (try dsimp only at hSw); go_simp; (try with_reducible rfl)
  try simp only [Act.put, List.setIfInBounds_toArray, List.set_cons_zero, List.set_cons_succ]
  refine wpAnyH_take (i := 3) (oi := { dst := some 26, op := _, type := _, pos := _, after := _, guard := _ }) (v := ?_) rfl (by kernel_rfl) (by kernel_rfl) (by kernel_rfl) (fun _ _ _ h => h) (Or.inl ⟨by kernel_rfl, ?_⟩) (by first | assumption | trivial) ?_
  rotate_left 1
  · intro w hSw; (try dsimp only at hSw); go_simp; (try with_reducible rfl)
  try simp only [Act.put, List.setIfInBounds_toArray, List.set_cons_zero, List.set_cons_succ]
  refine wpAnyH_take (i := 4) (oi := { dst := some 27, op := _, type := _, pos := _, after := _, guard := _ }) (v := ?_) rfl (by kernel_rfl) (by kernel_rfl) (by kernel_rfl) (fun _ _ _ h => h) (Or.inl ⟨by kernel_rfl, ?_⟩) (by first | assumption | trivial) ?_
  rotate_left 1
  · intro w hSw; (try dsimp only at hSw); go_simp; (try with_reducible rfl)
  try simp only [Act.put, List.setIfInBounds_toArray, List.set_cons_zero, List.set_cons_succ]
  refine wpAnyH_ready (rs := [1]) (by kernel_rfl) (by simp) ?_
  refine AllReadyH.cons (o := { dst := some 24, op := _, type := _, pos := _, after := _, guard := _ }) rfl (fun KK hKK => ?_) AllReadyH.nil
  go_simp
  first | (go_at_call 43; (refine (by first | (with_reducible exact HC1.out _ (by repeat (first | (with_reducible assumption) | (with_reducible exact Below.refl _ _) | (with_reducible refine Below.drew ?_) | (with_reducible refine below_drewN' ?_ _) | (with_reducible refine Below.alloc ?_ (by first | assumption | omega | (simp; omega) | simp | (simp [World.setCell]; omega) | simp [World.setCell]) _) | (with_reducible refine Below.setCell ?_ (by first | assumption | omega | (simp; omega) | simp | (simp [World.setCell]; omega) | simp [World.setCell]) _)))) | (with_reducible exact HC2.out _ (by repeat (first | (with_reducible assumption) | (with_reducible exact Below.refl _ _) | (with_reducible refine Below.drew ?_) | (with_reducible refine below_drewN' ?_ _) | (with_reducible refine Below.alloc ?_ (by first | assumption | omega | (simp; omega) | simp | (simp [World.setCell]; omega) | simp [World.setCell]) _) | (with_reducible refine Below.setCell ?_ (by first | assumption | omega | (simp; omega) | simp | (simp [World.setCell]; omega) | simp [World.setCell]) _)))) | exact HC3.out _ _ HN9.out : Calls _ _ _ _ _).mono ?_); rintro r w6 ⟨rfl, hb6⟩; (have hb7 : Below w5.heap.size w5 w6 := Below.trans (by repeat (first | (with_reducible assumption) | (with_reducible exact Below.refl _ _) | (with_reducible refine Below.drew ?_) | (with_reducible refine below_drewN' ?_ _) | (with_reducible refine Below.alloc ?_ (by first | assumption | omega | (simp; omega) | simp | (simp [World.setCell]; omega) | simp [World.setCell]) _) | (with_reducible refine Below.setCell ?_ (by first | assumption | omega | (simp; omega) | simp | (simp [World.setCell]; omega) | simp [World.setCell]) _))) (hb6.mono (by first | exact Nat.le_refl _ | omega | (simp; omega) | simp))); (have hs7 := hb7.size)) | (go_at_call 77; (refine (HWY.out _).mono ?_); rintro r w6 ⟨⟨g3, rfl, HN9⟩, hb6⟩; (have hb7 : Below w5.heap.size w5 w6 := Below.trans (by repeat (first | (with_reducible assumption) | (with_reducible exact Below.refl _ _) | (with_reducible refine Below.drew ?_) | (with_reducible refine below_drewN' ?_ _) | (with_reducible refine Below.alloc ?_ (by first | assumption | omega | (simp; omega) | simp | (simp [World.setCell]; omega) | simp [World.setCell]) _) | (with_reducible refine Below.setCell ?_ (by first | assumption | omega | (simp; omega) | simp | (simp [World.setCell]; omega) | simp [World.setCell]) _))) (hb6.mono (by first | exact Nat.le_refl _ | omega | (simp; omega) | simp))); (have hs7 := hb7.size))
  (try go_wp2_with fail)
  refine hKK.out _ _ ?_ (fun hHeld => ?_)
  · (try dsimp only); (first | (with_reducible exact HK.out _ (by repeat (first | (with_reducible assumption) | (with_reducible exact Below.refl _ _) | (with_reducible refine Below.drew ?_) | (with_reducible refine below_drewN' ?_ _) | (with_reducible refine Below.alloc ?_ (by first | assumption | omega | (simp; omega) | simp | (simp [World.setCell]; omega) | simp [World.setCell]) _) | (with_reducible refine Below.setCell ?_ (by first | assumption | omega | (simp; omega) | simp | (simp [World.setCell]; omega) | simp [World.setCell]) _)))) | go_keep)
  clear hKK KK
  try simp only [Act.put, List.setIfInBounds_toArray, List.set_cons_zero, List.set_cons_succ]
  refine wpAnyH_take (i := 5) (oi := { dst := some 28, op := _, type := _, pos := _, after := _, guard := _ }) (v := ?_) rfl (by kernel_rfl) (by kernel_rfl) (by kernel_rfl) (fun _ _ _ h => h) (Or.inl ⟨by kernel_rfl, ?_⟩) (by first | assumption | trivial) ?_
  rotate_left 1
  · intro w hSw; (try dsimp only at hSw); go_simp; (try with_reducible rfl)
  try simp only [Act.put, List.setIfInBounds_toArray, List.set_cons_zero, List.set_cons_succ]
  refine wpAnyH_take (i := 6) (oi := { dst := some 29, op := _, type := _, pos := _, after := _, guard := _ }) (v := ?_) rfl (by kernel_rfl) (by kernel_rfl) (by kernel_rfl) (fun _ _ _ h => h) (Or.inl ⟨by kernel_rfl, ?_⟩) (by first | assumption | trivial) ?_
  rotate_left 1
  · intro w hSw; (try dsimp only at hSw); go_simp; (try with_reducible rfl)
  try simp only [Act.put, List.setIfInBounds_toArray, List.set_cons_zero, List.set_cons_succ]
  refine wpAnyH_take (i := 7) (oi := { dst := some 30, op := _, type := _, pos := _, after := _, guard := _ }) (v := ?_) rfl (by kernel_rfl) (by kernel_rfl) (by kernel_rfl) (fun _ _ _ h => h) (Or.inl ⟨by kernel_rfl, ?_⟩) (by first | assumption | trivial) ?_
  rotate_left 1
  · intro w hSw; (try dsimp only at hSw); go_simp; (try with_reducible rfl)
  try simp only [Act.put, List.setIfInBounds_toArray, List.set_cons_zero, List.set_cons_succ]
  refine wpAnyH_take (i := 9) (oi := { dst := some 32, op := _, type := _, pos := _, after := _, guard := _ }) (v := ?_) rfl (by kernel_rfl) (by kernel_rfl) (by kernel_rfl) (fun _ _ _ h => h) (Or.inl ⟨by kernel_rfl, ?_⟩) (by first | assumption | trivial) ?_
  rotate_left 1
  · intro w hSw; (try dsimp only at hSw); go_simp; (try with_reducible rfl)
  try simp only [Act.put, List.setIfInBounds_toArray, List.set_cons_zero, List.set_cons_succ]
  refine wpAnyH_take (i := 10) (oi := { dst := some 33, op := _, type := _, pos := _, after := _, guard := _ }) (v := ?_) rfl (by kernel_rfl) (by kernel_rfl) (by kernel_rfl) (fun _ _ _ h => h) (Or.inl ⟨by kernel_rfl, ?_⟩) (by first | assumption | trivial) ?_
  rotate_left 1
  · intro w hSw; (try dsimp only at hSw); go_simp; (try with_reducible rfl)
  try simp only [Act.put, List.setIfInBounds_toArray, List.set_cons_zero, List.set_cons_succ]
  refine wpAnyH_ready (rs := [8]) (by kernel_rfl) (by simp) ?_
  refine AllReadyH.cons (o := { dst := some 31, op := _, type := _, pos := _, after := _, guard := _ }) rfl (fun KK hKK => ?_) AllReadyH.nil
  go_simp
  first | (go_at_call 43; (refine (by first | (with_reducible exact HC1.out _ (by repeat (first | (with_reducible assumption) | (with_reducible exact Below.refl _ _) | (with_reducible refine Below.drew ?_) | (with_reducible refine below_drewN' ?_ _) | (with_reducible refine Below.alloc ?_ (by first | assumption | omega | (simp; omega) | simp | (simp [World.setCell]; omega) | simp [World.setCell]) _) | (with_reducible refine Below.setCell ?_ (by first | assumption | omega | (simp; omega) | simp | (simp [World.setCell]; omega) | simp [World.setCell]) _)))) | (with_reducible exact HC2.out _ (by repeat (first | (with_reducible assumption) | (with_reducible exact Below.refl _ _) | (with_reducible refine Below.drew ?_) | (with_reducible refine below_drewN' ?_ _) | (with_reducible refine Below.alloc ?_ (by first | assumption | omega | (simp; omega) | simp | (simp [World.setCell]; omega) | simp [World.setCell]) _) | (with_reducible refine Below.setCell ?_ (by first | assumption | omega | (simp; omega) | simp | (simp [World.setCell]; omega) | simp [World.setCell]) _)))) | exact HC3.out _ _ HN9.out : Calls _ _ _ _ _).mono ?_); rintro r w6 ⟨rfl, hb6⟩; (have hb7 : Below w5.heap.size w5 w6 := Below.trans (by repeat (first | (with_reducible assumption) | (with_reducible exact Below.refl _ _) | (with_reducible refine Below.drew ?_) | (with_reducible refine below_drewN' ?_ _) | (with_reducible refine Below.alloc ?_ (by first | assumption | omega | (simp; omega) | simp | (simp [World.setCell]; omega) | simp [World.setCell]) _) | (with_reducible refine Below.setCell ?_ (by first | assumption | omega | (simp; omega) | simp | (simp [World.setCell]; omega) | simp [World.setCell]) _))) (hb6.mono (by first | exact Nat.le_refl _ | omega | (simp; omega) | simp))); (have hs7 := hb7.size)) | (go_at_call 77; (refine (HWY.out _).mono ?_); rintro r w6 ⟨⟨g3, rfl, HN9⟩, hb6⟩; (have hb7 : Below w5.heap.size w5 w6 := Below.trans (by repeat (first | (with_reducible assumption) | (with_reducible exact Below.refl _ _) | (with_reducible refine Below.drew ?_) | (with_reducible refine below_drewN' ?_ _) | (with_reducible refine Below.alloc ?_ (by first | assumption | omega | (simp; omega) | simp | (simp [World.setCell]; omega) | simp [World.setCell]) _) | (with_reducible refine Below.setCell ?_ (by first | assumption | omega | (simp; omega) | simp | (simp [World.setCell]; omega) | simp [World.setCell]) _))) (hb6.mono (by first | exact Nat.le_refl _ | omega | (simp; omega) | simp))); (have hs7 := hb7.size))
  (try go_wp2_with fail)
  refine hKK.out _ _ ?_ (fun hHeld => ?_)
  · (try dsimp only); (first | (with_reducible exact HK.out _ (by repeat (first | (with_reducible assumption) | (with_reducible exact Below.refl _ _) | (with_reducible refine Below.drew ?_) | (with_reducible refine below_drewN' ?_ _) | (with_reducible refine Below.alloc ?_ (by first | assumption | omega | (simp; omega) | simp | (simp [World.setCell]; omega) | simp [World.setCell]) _) | (with_reducible refine Below.setCell ?_ (by first | assumption | omega | (simp; omega) | simp | (simp [World.setCell]; omega) | simp [World.setCell]) _)))) | go_keep)
  clear hKK KK
  try simp only [Act.put, List.setIfInBounds_toArray, List.set_cons_zero, List.set_cons_succ]
  refine wpAnyH_take (i := 11) (oi := { dst := some 34, op := _, type := _, pos := _, after := _, guard := _ }) (v := ?_) rfl (by kernel_rfl) (by kernel_rfl) (by kernel_rfl) (fun _ _ _ h => h) (Or.inl ⟨by kernel_rfl, ?_⟩) (by first | assumption | trivial) ?_
  rotate_left 1
  · intro w hSw; (try dsimp only at hSw); go_simp; (try with_reducible rfl)
  try simp only [Act.put, List.setIfInBounds_toArray, List.set_cons_zero, List.set_cons_succ]
  refine wpAnyH_take (i := 12) (oi := { dst := some 35, op := _, type := _, pos := _, after := _, guard := _ }) (v := ?_) rfl (by kernel_rfl) (by kernel_rfl) (by kernel_rfl) (fun _ _ _ h => h) (Or.inl ⟨by kernel_rfl, ?_⟩) (by first | assumption | trivial) ?_
  rotate_left 1
  · intro w hSw; (try dsimp only at hSw); go_simp; (try with_reducible rfl)
  try simp only [Act.put, List.setIfInBounds_toArray, List.set_cons_zero, List.set_cons_succ]
  refine wpAnyH_take (i := 13) (oi := { dst := some 36, op := _, type := _, pos := _, after := _, guard := _ }) (v := ?_) rfl (by kernel_rfl) (by kernel_rfl) (by kernel_rfl) (fun _ _ _ h => h) (Or.inl ⟨by kernel_rfl, ?_⟩) (by first | assumption | trivial) ?_
  rotate_left 1
  · intro w hSw; (try dsimp only at hSw); go_simp; (try with_reducible rfl)
  try simp only [Act.put, List.setIfInBounds_toArray, List.set_cons_zero, List.set_cons_succ]
  refine wpAnyH_take (i := 14) (oi := { dst := some 37, op := _, type := _, pos := _, after := _, guard := _ }) (v := ?_) rfl (by kernel_rfl) (by kernel_rfl) (by kernel_rfl) (fun _ _ _ h => h) (Or.inl ⟨by kernel_rfl, ?_⟩) (by first | assumption | trivial) ?_
  rotate_left 1
  · intro w hSw; (try dsimp only at hSw); go_simp; (try with_reducible rfl)
  try simp only [Act.put, List.setIfInBounds_toArray, List.set_cons_zero, List.set_cons_succ]
  refine wpAnyH_take (i := 17) (oi := { dst := some 40, op := _, type := _, pos := _, after := _, guard := _ }) (v := ?_) rfl (by kernel_rfl) (by kernel_rfl) (by kernel_rfl) (fun _ _ _ h => h) (Or.inl ⟨by kernel_rfl, ?_⟩) (by first | assumption | trivial) ?_
  rotate_left 1
  · intro w hSw; (try dsimp only at hSw); go_simp; (try with_reducible rfl)
  try simp only [Act.put, List.setIfInBounds_toArray, List.set_cons_zero, List.set_cons_succ]
  refine wpAnyH_ready (rs := [15]) (by kernel_rfl) (by simp) ?_
  refine AllReadyH.cons (o := { dst := some 38, op := _, type := _, pos := _, after := _, guard := _ }) rfl (fun KK hKK => ?_) AllReadyH.nil
  go_simp
  first | (go_at_call 43; (refine (by first | (with_reducible exact HC1.out _ (by repeat (first | (with_reducible assumption) | (with_reducible exact Below.refl _ _) | (with_reducible refine Below.drew ?_) | (with_reducible refine below_drewN' ?_ _) | (with_reducible refine Below.alloc ?_ (by first | assumption | omega | (simp; omega) | simp | (simp [World.setCell]; omega) | simp [World.setCell]) _) | (with_reducible refine Below.setCell ?_ (by first | assumption | omega | (simp; omega) | simp | (simp [World.setCell]; omega) | simp [World.setCell]) _)))) | (with_reducible exact HC2.out _ (by repeat (first | (with_reducible assumption) | (with_reducible exact Below.refl _ _) | (with_reducible refine Below.drew ?_) | (with_reducible refine below_drewN' ?_ _) | (with_reducible refine Below.alloc ?_ (by first | assumption | omega | (simp; omega) | simp | (simp [World.setCell]; omega) | simp [World.setCell]) _) | (with_reducible refine Below.setCell ?_ (by first | assumption | omega | (simp; omega) | simp | (simp [World.setCell]; omega) | simp [World.setCell]) _)))) | exact HC3.out _ _ HN9.out : Calls _ _ _ _ _).mono ?_); rintro r w6 ⟨rfl, hb6⟩; (have hb7 : Below w5.heap.size w5 w6 := Below.trans (by repeat (first | (with_reducible assumption) | (with_reducible exact Below.refl _ _) | (with_reducible refine Below.drew ?_) | (with_reducible refine below_drewN' ?_ _) | (with_reducible refine Below.alloc ?_ (by first | assumption | omega | (simp; omega) | simp | (simp [World.setCell]; omega) | simp [World.setCell]) _) | (with_reducible refine Below.setCell ?_ (by first | assumption | omega | (simp; omega) | simp | (simp [World.setCell]; omega) | simp [World.setCell]) _))) (hb6.mono (by first | exact Nat.le_refl _ | omega | (simp; omega) | simp))); (have hs7 := hb7.size)) | (go_at_call 77; (refine (HWY.out _).mono ?_); rintro r w6 ⟨⟨g3, rfl, HN9⟩, hb6⟩; (have hb7 : Below w5.heap.size w5 w6 := Below.trans (by repeat (first | (with_reducible assumption) | (with_reducible exact Below.refl _ _) | (with_reducible refine Below.drew ?_) | (with_reducible refine below_drewN' ?_ _) | (with_reducible refine Below.alloc ?_ (by first | assumption | omega | (simp; omega) | simp | (simp [World.setCell]; omega) | simp [World.setCell]) _) | (with_reducible refine Below.setCell ?_ (by first | assumption | omega | (simp; omega) | simp | (simp [World.setCell]; omega) | simp [World.setCell]) _))) (hb6.mono (by first | exact Nat.le_refl _ | omega | (simp; omega) | simp))); (have hs7 := hb7.size))
  (try go_wp2_with fail)
  refine hKK.out _ _ ?_ (fun hHeld => ?_)
  · (try dsimp only); (first | (with_reducible exact HK.out _ (by repeat (first | (with_reducible assumption) | (with_reducible exact Below.refl _ _) | (with_reducible refine Below.drew ?_) | (with_reducible refine below_drewN' ?_ _) | (with_reducible refine Below.alloc ?_ (by first | assumption | omega | (simp; omega) | simp | (simp [World.setCell]; omega) | simp [World.setCell]) _) | (with_reducible refine Below.setCell ?_ (by first | assumption | omega | (simp; omega) | simp | (simp [World.setCell]; omega) | simp [World.setCell]) _)))) | go_keep)
  clear hKK KK
  try simp only [Act.put, List.setIfInBounds_toArray, List.set_cons_zero, List.set_cons_succ]
  refine wpAnyH_ready (rs := [16]) (by kernel_rfl) (by simp) ?_
  refine AllReadyH.cons (o := { dst := some 39, op := _, type := _, pos := _, after := _, guard := _ }) rfl (fun KK hKK => ?_) AllReadyH.nil
  go_simp
  first | (go_at_call 43; (refine (by first | (with_reducible exact HC1.out _ (by repeat (first | (with_reducible assumption) | (with_reducible exact Below.refl _ _) | (with_reducible refine Below.drew ?_) | (with_reducible refine below_drewN' ?_ _) | (with_reducible refine Below.alloc ?_ (by first | assumption | omega | (simp; omega) | simp | (simp [World.setCell]; omega) | simp [World.setCell]) _) | (with_reducible refine Below.setCell ?_ (by first | assumption | omega | (simp; omega) | simp | (simp [World.setCell]; omega) | simp [World.setCell]) _)))) | (with_reducible exact HC2.out _ (by repeat (first | (with_reducible assumption) | (with_reducible exact Below.refl _ _) | (with_reducible refine Below.drew ?_) | (with_reducible refine below_drewN' ?_ _) | (with_reducible refine Below.alloc ?_ (by first | assumption | omega | (simp; omega) | simp | (simp [World.setCell]; omega) | simp [World.setCell]) _) | (with_reducible refine Below.setCell ?_ (by first | assumption | omega | (simp; omega) | simp | (simp [World.setCell]; omega) | simp [World.setCell]) _)))) | exact HC3.out _ _ HN9.out : Calls _ _ _ _ _).mono ?_); rintro r w6 ⟨rfl, hb6⟩; (have hb7 : Below w5.heap.size w5 w6 := Below.trans (by repeat (first | (with_reducible assumption) | (with_reducible exact Below.refl _ _) | (with_reducible refine Below.drew ?_) | (with_reducible refine below_drewN' ?_ _) | (with_reducible refine Below.alloc ?_ (by first | assumption | omega | (simp; omega) | simp | (simp [World.setCell]; omega) | simp [World.setCell]) _) | (with_reducible refine Below.setCell ?_ (by first | assumption | omega | (simp; omega) | simp | (simp [World.setCell]; omega) | simp [World.setCell]) _))) (hb6.mono (by first | exact Nat.le_refl _ | omega | (simp; omega) | simp))); (have hs7 := hb7.size)) | (go_at_call 77; (refine (HWY.out _).mono ?_); rintro r w6 ⟨⟨g3, rfl, HN9⟩, hb6⟩; (have hb7 : Below w5.heap.size w5 w6 := Below.trans (by repeat (first | (with_reducible assumption) | (with_reducible exact Below.refl _ _) | (with_reducible refine Below.drew ?_) | (with_reducible refine below_drewN' ?_ _) | (with_reducible refine Below.alloc ?_ (by first | assumption | omega | (simp; omega) | simp | (simp [World.setCell]; omega) | simp [World.setCell]) _) | (with_reducible refine Below.setCell ?_ (by first | assumption | omega | (simp; omega) | simp | (simp [World.setCell]; omega) | simp [World.setCell]) _))) (hb6.mono (by first | exact Nat.le_refl _ | omega | (simp; omega) | simp))); (have hs7 := hb7.size))
  (try go_wp2_with fail)
  refine hKK.out _ _ ?_ (fun hHeld => ?_)
  · (try dsimp only); (first | (with_reducible exact HK.out _ (by repeat (first | (with_reducible assumption) | (with_reducible exact Below.refl _ _) | (with_reducible refine Below.drew ?_) | (with_reducible refine below_drewN' ?_ _) | (with_reducible refine Below.alloc ?_ (by first | assumption | omega | (simp; omega) | simp | (simp [World.setCell]; omega) | simp [World.setCell]) _) | (with_reducible refine Below.setCell ?_ (by first | assumption | omega | (simp; omega) | simp | (simp [World.setCell]; omega) | simp [World.setCell]) _)))) | go_keep)
  clear hKK KK
  try simp only [Act.put, List.setIfInBounds_toArray, List.set_cons_zero, List.set_cons_succ]
  refine wpAnyH_take (i := 18) (oi := { dst := some 41, op := _, type := _, pos := _, after := _, guard := _ }) (v := ?_) rfl (by kernel_rfl) (by kernel_rfl) (by kernel_rfl) (fun _ _ _ h => h) (Or.inl ⟨by kernel_rfl, ?_⟩) (by first | assumption | trivial) ?_
  rotate_left 1
  · intro w hSw; (try dsimp only at hSw); go_simp; (try with_reducible rfl)
  try simp only [Act.put, List.setIfInBounds_toArray, List.set_cons_zero, List.set_cons_succ]
  refine wpAnyH_take (i := 19) (oi := { dst := some 42, op := _, type := _, pos := _, after := _, guard := _ }) (v := ?_) rfl (by kernel_rfl) (by kernel_rfl) (by kernel_rfl) (fun _ _ _ h => h) (Or.inl ⟨by kernel_rfl, ?_⟩) (by first | assumption | trivial) ?_
  rotate_left 1
  · intro w hSw; (try dsimp only at hSw); go_simp; (try with_reducible rfl)
  try simp only [Act.put, List.setIfInBounds_toArray, List.set_cons_zero, List.set_cons_succ]
  refine wpAnyH_take (i := 20) (oi := { dst := some 0, op := _, type := _, pos := _, after := _, guard := _ }) (v := ?_) rfl (by kernel_rfl) (by kernel_rfl) (by kernel_rfl) (fun _ _ _ h => h) (Or.inl ⟨by kernel_rfl, ?_⟩) (by first | assumption | trivial) ?_
  rotate_left 1
  · intro w hSw; (try dsimp only at hSw); go_simp; (try with_reducible rfl)
  try simp only [Act.put, List.setIfInBounds_toArray, List.set_cons_zero, List.set_cons_succ]
  refine wpAnyH_done (by kernel_rfl) ?_ _
  go_wp2_with fail
  go_ret
  exact ⟨by first | rfl | simp, b5.trans (hb7.mono hs5)⟩
end Go.Proofs.Ytolabbnchmmckaa
