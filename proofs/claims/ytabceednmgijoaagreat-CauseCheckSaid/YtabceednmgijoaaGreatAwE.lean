/-
  The chapter's example of causes: the contracts of cause.Wants and of tompionlaw20.awake.
-/
import Derived.Test.YtabceednmgijoaaGreatCauD
import Derived.Test.YtabceednmgijoaaGreatEqR
namespace Go.Proofs.YtabceednmgijoaaGreat
open Go.RowKit
attribute [local go_sem ↓] Go.wp_at_zero Go.wp_at_succ
set_option maxRecDepth 100000 in
set_option maxHeartbeats 1000000 in
theorem cwants_any (e : Ex) (A2 : Option Addr) (cap2 : Nat) (w : World) (ok : ExOk e) (h1 : e.args.length ≤ cap2) (h2 : cap2 ≤ maxLen) (hx : IsExs w w.heap.size A2 e.args) (hs : exSize e ≤ 900) :
    Calls Tryz.prog 20 #[exV e A2 cap2] w fun r w' => (∃ v, r = .returned v ∧ SlV w' w'.heap.size 1 isStr v (insAll [] (wantsL e))) ∧ Below w.heap.size w w' := by
  have hmm := @run_makeMap Tryz.prog
  have rx1 := (Row.new w (exA e A2 cap2) 45).alloc (.map #[] 0)
  have b1 : Below w.heap.size w ((w.alloc (.cells (exA e A2 cap2) 45)).alloc (.map #[] 0)) := bE
  have m1 : MetS ((w.alloc (.cells (exA e A2 cap2) 45)).alloc (.map #[] 0)) (w.heap.size + 1) [] := by
    have h := mets_made (w.alloc (.cells (exA e A2 cap2) 45))
    rwa [World.size_alloc] at h
  have HX := Lib.hid (exs_keep hx (keeps_of b1) b1.size)
  clear hx
  go_enter Tryz.func20, Tryz.ntmps20
  go_upto_region 2 with (fail)
  generalize (w.alloc (.cells (exA e A2 cap2) 45)).alloc (.map #[] 0) = W1 at *
  have hs1 := b1.size
  obtain ⟨x0, x1, x2, x3, x4, x5⟩ := rx1.ex6
  go_wp2_with fail
  refine (wants_any e A2 cap2 (w.heap.size + 1) [] W1 ok h1 h2 HX.out m1 (by simp; omega)).mono ?_
  rintro r w2 ⟨rfl, ⟨L2, m2, hL2, HL2⟩, u2⟩
  have hB2 : Below w.heap.size w w2 := b1.trans (u2.below (fun k e => by omega) hs1)
  have hs2 := hB2.size
  have HS := Lib.hid (sorted_all m2 (by simp at hL2; omega))
  have HU : Hid (insAll [] L2 = insAll [] (wantsL e)) := rising_eq (insAll_rising List.Pairwise.nil) (insAll_rising List.Pairwise.nil) fun y => by
    rw [insAll_mem, insAll_mem, HL2.out]
    simp
  rw [HU.out] at HS
  clear x0 x1 x2 x3 x4 x5
  go_wp2_with (first | (go_at_call 30; refine Calls.mono (keys_all _ _) ?_; rintro e w5 ⟨rfl, rfl⟩) | (go_at_call 29; refine Calls.mono HS.out ?_; rintro e w9 ⟨v, rfl, hS, hb9⟩))
  go_ret
  exact ⟨⟨v, rfl, hS⟩, hB2.trans (hb9.mono hs2)⟩
abbrev xA : ByteArray := ⟨#[97]⟩
abbrev xB : ByteArray := ⟨#[98]⟩
abbrev vX (nm : ByteArray) : Ex := .mk 3 nm 0 [] 0 0
abbrev iX (k : Int) : Ex := .mk 1 ⟨#[]⟩ k [] 0 0
abbrev sumX : Ex := .mk 7 ⟨#[]⟩ 0 [vX xB, iX 1] 0 0
abbrev wasX : Ex := .mk 22 ⟨#[]⟩ 0 [iX 0, vX xA] 0 0
abbrev vrX (nm : ByteArray) : Vr := ⟨nm, 1, [], 0, 0⟩
abbrev ndX : Nd := ⟨⟨#[109, 97, 105, 110]⟩, [], [vrX xA, vrX xB], [], [⟨[xA], sumX, 0, 0⟩, ⟨[xB], wasX, 0, 0⟩], 0, 0⟩
set_option maxRecDepth 100000 in
set_option maxHeartbeats 1000000 in
theorem v20_any (nm : ByteArray) (w : World) : Calls Tryz.prog 18 #[.string nm] w fun r w' => r = .returned (exV (vX nm) none 0) ∧ Below w.heap.size w w' := by
  go_enter Tryz.func18, Tryz.ntmps18
  go_wp2_with fail
  exact bodyPost_ret (res1 rfl Tryz.underlying45 rfl (by kernel_rfl) rfl (Row.new w (exA (vX nm) none 0) 45)) rfl ⟨rfl, bE⟩
theorem sl_two {α : Type} {W : World} {B g size : Nat} {t : TypeId} {cs ds : List Value} {rel : α → List Value → Prop} {x y : α} (h : Row W g (cs ++ ds).toArray t) (hB : g < B) (h1 : cs.length = size) (hx : rel x cs) (hy : rel y ds) : Sl W B size rel (some ⟨g, 0, none⟩) [x, y] := fun _ => by
  refine ⟨g, 0, rfl, hB, fun i z hi => ?_⟩
  match i, hi with
  | 0, hi =>
    simp at hi; subst hi
    refine ⟨cs, fun j u hu => ?_, hx⟩
    simp only [Nat.zero_mul, Nat.zero_add]
    refine (h.cell j).trans ?_
    rw [List.getElem?_toArray, List.getElem?_append_left (List.getElem?_eq_some_iff.1 hu).1]
    exact hu
  | 1, hi =>
    simp at hi; subst hi
    refine ⟨ds, fun j u hu => ?_, hy⟩
    simp only [Nat.one_mul, Nat.zero_add]
    refine (h.cell (size + j)).trans ?_
    rw [List.getElem?_toArray, List.getElem?_append_right (by omega), h1, Nat.add_sub_cancel_left]
    exact hu
theorem wf0 : Wf 0 := wf_of (n := 0) (by omega)
theorem vX_ok (nm : ByteArray) (h : nm.size ≤ 30) : ExOk (vX nm) := ⟨wf_of (n := 3) (by omega), by simp [Ex.name, maxLen]; omega, wf0, wf0, wf0⟩
theorem iX_ok (k : Int) (h : Wf k) : ExOk (iX k) := ⟨wf_of (n := 1) (by omega), by simp [Ex.name, ByteArray.size, maxLen], h, wf0, wf0⟩
theorem leaf_at {W : World} {B : Nat} {e : Ex} (h : e.args = []) : IsExs W B none e.args := fun g => absurd g (by simp [h])
theorem two_args {W : World} {g : Nat} {x y : Ex} (hx : ExOk x) (hy : ExOk y) (ax : x.args = []) (ay : y.args = []) (r : Row W g (exCells x none 0 ++ exCells y none 0).toArray 45) : IsExs W W.heap.size (some ⟨g, 0, none⟩) [x, y] := fun _ => by
  refine ⟨g, 0, rfl, r.lt, fun i z hi => ?_⟩
  match i, hi with
  | 0, hi =>
    simp at hi; subst hi
    refine ⟨exCells x none 0, fun j u hu => ?_, IsEx.mk' hx (by rw [ax]; exact Nat.le_refl _) (Nat.zero_le _) (leaf_at ax)⟩
    simp only [Nat.zero_mul, Nat.zero_add]
    refine (r.cell j).trans ?_
    rw [List.getElem?_toArray, List.getElem?_append_left (List.getElem?_eq_some_iff.1 hu).1]
    exact hu
  | 1, hi =>
    simp at hi; subst hi
    refine ⟨exCells y none 0, fun j u hu => ?_, IsEx.mk' hy (by rw [ay]; exact Nat.le_refl _) (Nat.zero_le _) (leaf_at ay)⟩
    simp only [Nat.one_mul, Nat.zero_add]
    refine (r.cell (6 + j)).trans ?_
    rw [List.getElem?_toArray, List.getElem?_append_right (by simp [exCells])]
    simpa [exCells] using hu
abbrev cellsE (x y : Ex) : Array Value := (exCells x none 0 ++ exCells y none 0).toArray
abbrev varsX : Array Value := #[.string xA, .int .i64 1, .slice none 0 0, .int .i64 0, .int .i64 0, .string xB, .int .i64 1, .slice none 0 0, .int .i64 0, .int .i64 0]
abbrev eqX (s g : Nat) (e : Ex) : List Value := [.slice (some ⟨s, 0, none⟩) 1 1, .int .i64 e.op, .string e.name, .int .i64 e.n, .slice (some ⟨g, 0, none⟩) e.args.length 2, .int .i64 e.line, .int .i64 e.col, .int .i64 0, .int .i64 0]
theorem ndX_at {W : World} {g1 g2 gv ga gb gq : Nat} (r1 : Row W g1 (cellsE (vX xB) (iX 1)) 45) (r2 : Row W g2 (cellsE (iX 0) (vX xA)) 45) (rv : Row W gv varsX 49) (ra : Row W ga #[.string xA] 9) (rb : Row W gb #[.string xB] 9)
    (rq : Row W gq (eqX ga g1 sumX ++ eqX gb g2 wasX).toArray 51) : NdAt W W.heap.size ndX ⟨none, 0, some ⟨gv, 0, none⟩, 2, none, 0, some ⟨gq, 0, none⟩, 2⟩ := by
  have hw1 : Wf 1 := wf_of (n := 1) (by omega)
  have x1 := two_args (vX_ok xB (by decide)) (iX_ok 1 hw1) rfl rfl r1
  have x2 := two_args (iX_ok 0 wf0) (vX_ok xA (by decide)) rfl rfl r2
  have m2 : (2 : Nat) ≤ maxLen := by unfold maxLen; decide
  have m1 : (1 : Nat) ≤ maxLen := by unfold maxLen; decide
  have vok : ∀ nm : ByteArray, nm.size ≤ 30 → isVr W W.heap.size (vrX nm) [.string nm, .int .i64 1, .slice none 0 0, .int .i64 0, .int .i64 0] := fun nm hs => ⟨none, 0, rfl, ⟨by simp [maxLen]; omega, hw1, wf0, wf0⟩, Nat.le_refl _, Nat.zero_le _, Sl.nil⟩
  have sV : Vrs W W.heap.size (some ⟨gv, 0, none⟩) [vrX xA, vrX xB] := sl_two rv rv.lt rfl (vok xA (by decide)) (vok xB (by decide))
  have sA : Sl W W.heap.size 1 isStr (some ⟨ga, 0, none⟩) [xA] := sl_one (cs := [.string xA]) ra ra.lt ⟨rfl, by simp [ByteArray.size, maxLen]⟩
  have sB : Sl W W.heap.size 1 isStr (some ⟨gb, 0, none⟩) [xB] := sl_one (cs := [.string xB]) rb rb.lt ⟨rfl, by simp [ByteArray.size, maxLen]⟩
  have ok1 : ExOk sumX := ⟨wf_of (n := 7) (by omega), by simp [Ex.name, ByteArray.size, maxLen], wf0, wf0, wf0⟩
  have ok2 : ExOk wasX := ⟨wf_of (n := 22) (by omega), by simp [Ex.name, ByteArray.size, maxLen], wf0, wf0, wf0⟩
  have sQ : Eqs W W.heap.size (some ⟨gq, 0, none⟩) ndX.eqs := sl_two rq rq.lt rfl ⟨some ⟨ga, 0, none⟩, 1, some ⟨g1, 0, none⟩, 2, rfl, ⟨ok1, wf0, wf0⟩, Nat.le_refl _, m1, sA, Nat.le_refl _, m2, x1⟩ ⟨some ⟨gb, 0, none⟩, 1, some ⟨g2, 0, none⟩, 2, rfl, ⟨ok2, wf0, wf0⟩, Nat.le_refl _, m1, sB, Nat.le_refl _, m2, x2⟩
  exact ⟨by simp [ByteArray.size, maxLen], wf0, wf0, Nat.le_refl _, Nat.zero_le _, Sl.nil, Nat.le_refl _, m2, sV, Nat.le_refl _, Nat.zero_le _, Sl.nil, Nat.le_refl _, m2, sQ⟩
theorem leaf_list {e : Ex} (h : e.args = []) : exList e = [e] := by rw [exList_eq, h]; rfl
theorem two_list {e x y : Ex} (h : e.args = [x, y]) (hx : x.args = []) (hy : y.args = []) : exList e = [e, x, y] := by
  rw [exList_eq, h]
  show e :: (([x, y] : List Ex).map exList).flatten = _
  rw [List.map_cons, List.map_cons, List.map_nil, leaf_list hx, leaf_list hy]
  rfl
theorem small_X {e x y : Ex} (h : e.args = [x, y]) (hx : x.args = []) (hy : y.args = []) (h1 : e.name.size ≤ 30) (h2 : x.name.size ≤ 30) (h3 : y.name.size ≤ 30) : Small e := ⟨by unfold exSize; rw [two_list h hx hy]; simp, fun z hz => by
  rw [two_list h hx hy] at hz
  simp at hz
  rcases hz with rfl | rfl | rfl
  · exact h1
  · exact h2
  · exact h3⟩
theorem ndX_sm : NdSm ndX := by
  refine ⟨by decide, by simp, by simp, by simp, by simp, fun v hv => ?_, fun q hq => ?_⟩
  · simp [vrs] at hv
    rcases hv with rfl | rfl
    · exact ⟨by decide, by simp, fun c hc => by simp at hc⟩
    · exact ⟨by decide, by simp, fun c hc => by simp at hc⟩
  · simp at hq
    rcases hq with rfl | rfl
    · exact ⟨by simp, fun x hx => by simp at hx; subst hx; decide, small_X rfl rfl rfl (by decide) (by decide) (by decide)⟩
    · exact ⟨by simp, fun x hx => by simp at hx; subst hx; decide, small_X rfl rfl rfl (by decide) (by decide) (by decide)⟩
theorem leaf_wants {e : Ex} (h : e.args = []) : wantsL e = ownW e := by
  rw [wantsL, Ex.para_eq, h]
  unfold keepP
  simp
theorem sum_wants : wantsL sumX = [xB] := by
  rw [show wantsL sumX = ownW sumX ++ (keepP 7 (([vX xB, iX 1] : List Ex).map wantsL)).flatten from Ex.para_eq _ _]
  rw [List.map_cons, List.map_cons, List.map_nil, leaf_wants rfl, leaf_wants rfl]
  rfl
theorem was_wants : wantsL wasX = [] := by
  rw [show wantsL wasX = ownW wasX ++ (keepP 22 (([iX 0, vX xA] : List Ex).map wantsL)).flatten from Ex.para_eq _ _]
  rw [List.map_cons, List.map_cons, List.map_nil, leaf_wants rfl, leaf_wants rfl]
  rfl
theorem bare_clock (nm : ByteArray) : clockOf ndX nm = [] := by
  rcases var_cases ndX nm with ⟨k, x, h1, h2, _⟩ | h1
  · rw [clock_at h1 h2]
    have := List.mem_of_getElem? h2
    simp [vrs] at this
    rcases this with rfl | rfl <;> rfl
  · exact clock_no h1
theorem hangs_a : hangsF ndX xA = [xB] := by
  have hd : DefAt ndX xA 0 0 := ⟨_, rfl, rfl, fun j hj => absurd hj (by omega), fun j hj => absurd hj (by omega)⟩
  unfold hangsF
  rw [hangsL_def hd rfl, sum_wants]
  rw [bare_clock]
  simp [insAll, ins, insR]
theorem hangs_b : hangsF ndX xB = [] := by
  have hba : ¬ xB = xA := by decide
  have hd : DefAt ndX xB 1 0 := ⟨_, rfl, rfl, fun j hj q' hq => by
    obtain rfl : j = 0 := by omega
    simp at hq
    subst hq
    simp [hba], fun j hj => absurd hj (by omega)⟩
  unfold hangsF
  rw [hangsL_def hd rfl, was_wants]
  rw [bare_clock]
  rfl
theorem sum_all : insAll [] (wantsL sumX) = [xB] := by rw [sum_wants]; simp [insAll, ins, insR]
theorem rowAtE (W : World) (g : Nat) (hg : W.heap.size = g) (cs : Array Value) (t : TypeId) : Row (W.alloc (.cells cs t)) g cs t := hg ▸ Row.new W cs t
theorem oneS_at (W : World) : Sl (W.alloc (.cells #[.string xB] 9)) (W.alloc (.cells #[.string xB] 9)).heap.size 1 isStr (some ⟨W.heap.size, 0, none⟩) [xB] := sl_one (cs := [.string xB]) (Row.new W _ _) (by simp) ⟨rfl, by simp [ByteArray.size, maxLen]⟩
set_option maxRecDepth 100000 in
set_option maxHeartbeats 1000000 in
theorem awake20_any (w : World) : Calls Tryz.prog 6 #[] w fun r w' => r = .returned (.bool true) ∧ Below w.heap.size w w' := by
  have m1 : (1 : Nat) ≤ maxLen := by unfold maxLen; decide
  have m2 : (2 : Nat) ≤ maxLen := by unfold maxLen; decide
  go_enter Tryz.func6, Tryz.ntmps6
  go_wp2_with fail
  refine (v20_any xB w).mono ?_
  rintro r w1 ⟨rfl, hb1⟩
  go_upto_region 2 with (fail)
  generalize hWa : World.alloc _ _ = Wa
  have ba : Below w1.heap.size w1 Wa := by rw [← hWa]; exact bE
  have r1 : Row Wa w1.heap.size (cellsE (vX xB) (iX 1)) 45 := by rw [← hWa]; exact (rowAtE _ _ rfl _ _).alloc _
  have rs : Row Wa (w1.heap.size + 1) (exA sumX (some ⟨w1.heap.size, 0, none⟩) 2) 45 := by rw [← hWa]; exact rowAtE _ _ (by simp) _ _
  have hBa := hb1.trans (ba.mono hb1.size)
  have hsa := hBa.size
  clear hWa ba
  go_wp2_with fail
  refine (v20_any xA Wa).mono ?_
  rintro r w2 ⟨rfl, hb2⟩
  have r1 := r1.below hb2 r1.lt
  have rs := rs.below hb2 rs.lt
  have hB2 := hBa.trans (hb2.mono hsa)
  have hs2 := hB2.size
  clear hb2 hBa hsa
  go_upto_region 3 with (fail)
  generalize hWb : World.alloc _ _ = Wb
  have bb : Below w2.heap.size w2 Wb := by rw [← hWb]; exact bE
  have r2 : Row Wb w2.heap.size (cellsE (iX 0) (vX xA)) 45 := by rw [← hWb]; exact (rowAtE _ _ rfl _ _).alloc _
  have rw2 : Row Wb (w2.heap.size + 1) (exA wasX (some ⟨w2.heap.size, 0, none⟩) 2) 45 := by rw [← hWb]; exact rowAtE _ _ (by simp) _ _
  have r1 := r1.below bb r1.lt
  have rs := rs.below bb rs.lt
  have hBb := hB2.trans (bb.mono hs2)
  have hsb := hBb.size
  have o1 : w1.heap.size + 1 < Wb.heap.size := rs.lt
  have o2 : w2.heap.size + 1 < Wb.heap.size := rw2.lt
  clear hWb bb hB2 hs2
  go_upto_region 4 with (fail)
  generalize hWc : World.alloc _ _ = Wc
  have bc : Below Wb.heap.size Wb Wc := by rw [← hWc]; exact bE
  have rv : Row Wc Wb.heap.size varsX 49 := by rw [← hWc]; exact (rowAtE _ _ rfl _ _).alloc _
  have rn : Row Wc (Wb.heap.size + 1) #[.string ⟨#[109, 97, 105, 110]⟩, .slice none 0 0, .slice (some ⟨Wb.heap.size, 0, none⟩) 2 2, .slice none 0 0, .slice none 0 0, .int .i64 0, .int .i64 0] 36 := by rw [← hWc]; exact rowAtE _ _ (by simp) _ _
  have r1 := r1.below bc r1.lt
  have rs := rs.below bc rs.lt
  have r2 := r2.below bc r2.lt
  have rw2 := rw2.below bc rw2.lt
  have hBc := hBb.trans (bc.mono hsb)
  have hsc := hBc.size
  clear hWc bc
  obtain ⟨x0, x1, x2, x3, x4, x5⟩ := rs.ex6
  obtain ⟨y0, y1, y2, y3, y4, y5⟩ := rw2.ex6
  have n4 := rn.cell 4
  have nf := rn.frozen 4
  have hln := rn.lt
  have hl1 := rs.lt
  have hl2 := rw2.lt
  have hl2' : w2.heap.size + 1 < Wc.heap.size + 1 := by omega
  have hl2'' : w2.heap.size < Wc.heap.size := by omega
  have hn1 : Wb.heap.size + 1 < Wc.heap.size + 1 := by omega
  have hn2 : Wb.heap.size + 1 < Wc.heap.size + 1 + 1 := by omega
  have hn3 : Wb.heap.size < Wc.heap.size + 1 := by omega
  have hn4 : Wb.heap.size < Wc.heap.size := by omega
  simp only [List.getElem?_toArray, List.getElem?_cons_zero, List.getElem?_cons_succ] at n4
  go_upto_region 5 with (fail)
  clear x0 x1 x2 x3 x4 x5 y0 y1 y2 y3 y4 y5 n4 nf
  generalize hWd : World.alloc _ _ = Wd
  have hBd : Below w.heap.size w Wd := by rw [← hWd]; exact (((hBc.setCell (p := ⟨Wb.heap.size + 1, 4, none⟩) (by show w.heap.size ≤ Wb.heap.size + 1; omega) _).alloc (by simp [World.setCell]; omega) _).alloc (by simp [World.setCell]; omega) _).alloc (by simp [World.setCell]; omega) _
  have rn : Row Wd (Wb.heap.size + 1) (ndArr ndX ⟨none, 0, some ⟨Wb.heap.size, 0, none⟩, 2, none, 0, some ⟨Wc.heap.size + 2, 0, none⟩, 2⟩) 36 := by rw [← hWd]; exact (((rn.set 4 _).alloc _).alloc _).alloc _
  have ra : Row Wd Wc.heap.size #[.string xA] 9 := by rw [← hWd]; exact ((rowAtE _ Wc.heap.size (by simp [World.setCell]) _ _).alloc _).alloc _
  have rb : Row Wd (Wc.heap.size + 1) #[.string xB] 9 := by rw [← hWd]; exact (rowAtE _ (Wc.heap.size + 1) (by simp [World.setCell]) _ _).alloc _
  have rq : Row Wd (Wc.heap.size + 2) (eqX Wc.heap.size w1.heap.size sumX ++ eqX (Wc.heap.size + 1) w2.heap.size wasX).toArray 51 := by rw [← hWd]; exact rowAtE _ (Wc.heap.size + 2) (by simp [World.setCell]) _ _
  have r1 : Row Wd w1.heap.size (cellsE (vX xB) (iX 1)) 45 := by rw [← hWd]; exact (((r1.far (p := ⟨Wb.heap.size + 1, 4, none⟩) (by show w1.heap.size ≠ Wb.heap.size + 1; omega) _).alloc _).alloc _).alloc _
  have r2 : Row Wd w2.heap.size (cellsE (iX 0) (vX xA)) 45 := by rw [← hWd]; exact (((r2.far (p := ⟨Wb.heap.size + 1, 4, none⟩) (by show w2.heap.size ≠ Wb.heap.size + 1; omega) _).alloc _).alloc _).alloc _
  have rv : Row Wd Wb.heap.size varsX 49 := by rw [← hWd]; exact (((rv.far (p := ⟨Wb.heap.size + 1, 4, none⟩) (by show Wb.heap.size ≠ Wb.heap.size + 1; omega) _).alloc _).alloc _).alloc _
  have rs : Row Wd (w1.heap.size + 1) (exA sumX (some ⟨w1.heap.size, 0, none⟩) 2) 45 := by rw [← hWd]; exact (((rs.far (p := ⟨Wb.heap.size + 1, 4, none⟩) (by show w1.heap.size + 1 ≠ Wb.heap.size + 1; omega) _).alloc _).alloc _).alloc _
  have HN : Hid (∀ W, Below Wd.heap.size Wd W → NdAt W W.heap.size ndX ⟨none, 0, some ⟨Wb.heap.size, 0, none⟩, 2, none, 0, some ⟨Wc.heap.size + 2, 0, none⟩, 2⟩) := fun W hW => ((ndX_at r1 r2 rv ra rb rq).below hW).more hW.size
  have HX : Hid (∀ W, Below Wd.heap.size Wd W → IsExs W W.heap.size (some ⟨w1.heap.size, 0, none⟩) sumX.args) := fun W hW => exs_keep (two_args (vX_ok xB (by decide)) (iX_ok 1 (wf_of (n := 1) (by omega))) rfl rfl r1) (keeps_of hW) hW.size
  have hsd := hBd.size
  have HT : Hid (∀ (W : World) (A c), 1 ≤ c → c ≤ maxLen → Sl (W.alloc (.cells #[.string xB] 9)) (W.alloc (.cells #[.string xB] 9)).heap.size 1 isStr A [xB] → Calls Tryz.prog 11 #[.slice A 1 c, .slice (some ⟨W.heap.size, 0, none⟩) 1 1] (W.alloc (.cells #[.string xB] 9)) fun r w' => r = .returned (.bool true) ∧ ∃ n, w' = (W.alloc (.cells #[.string xB] 9)).drewN n) := fun W A c h1 h2 hs => texts_self [xB] 1 A (some ⟨W.heap.size, 0, none⟩) c 1 _ rfl h1 h2 hs (Nat.le_refl _) m1 (oneS_at W)
  have ok1 : ExOk sumX := ⟨wf_of (n := 7) (by omega), by simp [Ex.name, ByteArray.size, maxLen], wf0, wf0, wf0⟩
  clear hWd r1 r2 rv ra rb rq hl1 hl2 hl2' hl2'' hn1 hn2 hn3 hn4 hln hBc hsc hsb hBb rw2
  obtain ⟨c0, c1, cc2, c3, c4, c5, c6⟩ := rn.nd
  have H1 := Lib.hid (hangs_any ndX ⟨none, 0, some ⟨Wb.heap.size, 0, none⟩, 2, none, 0, some ⟨Wc.heap.size + 2, 0, none⟩, 2⟩ xA Wd ndX_sm (HN.out Wd (Below.refl _ _)))
  rw [hangs_a] at H1
  go_wp2_with fail
  refine H1.out.mono ?_
  rintro r w3 ⟨⟨v3, rfl, hv3⟩, hb3⟩
  obtain ⟨A3, k3, rfl, g1, g2, g3⟩ := hv3
  have hb4 : Below Wd.heap.size Wd (w3.alloc (.cells #[.string xB] 9)) := hb3.alloc hb3.size _
  have H2 := Lib.hid (HT.out w3 A3 k3 g1 g2 ((g3.below ((Below.refl _ _).alloc (Nat.le_refl _) _)).more (by simp)))
  clear c0 c1 cc2 c3 c4 c5 c6 H1 g3
  go_wp2_with fail
  refine H2.out.mono ?_
  rintro r w5 ⟨rfl, nn, rfl⟩
  have hb5 : Below Wd.heap.size Wd ((w3.alloc (.cells #[.string xB] 9)).drewN nn) := below_drewN' hb4 nn
  generalize hW5 : (w3.alloc (.cells #[.string xB] 9)).drewN nn = w5 at *
  clear hW5 H2 hb3 hb4
  have rn5 := rn.below hb5 rn.lt
  obtain ⟨c0, c1, cc2, c3, c4, c5, c6⟩ := rn5.nd
  have H3 := Lib.hid (hangs_any ndX ⟨none, 0, some ⟨Wb.heap.size, 0, none⟩, 2, none, 0, some ⟨Wc.heap.size + 2, 0, none⟩, 2⟩ xB w5 ndX_sm (HN.out w5 hb5))
  rw [hangs_b] at H3
  go_wp2_with fail
  refine H3.out.mono ?_
  rintro r w6 ⟨⟨v6, rfl, hv6⟩, hb6⟩
  obtain ⟨A6, k6, rfl, _, _, _⟩ := hv6
  have hb06 := hb5.trans (hb6.mono hb5.size)
  have rs6 := rs.below hb06 rs.lt
  clear c0 c1 cc2 c3 c4 c5 c6 H3
  obtain ⟨x0, x1, x2, x3, x4, x5⟩ := rs6.ex6
  have H4 := Lib.hid (cwants_any sumX (some ⟨w1.heap.size, 0, none⟩) 2 w6 ok1 (Nat.le_refl _) m2 (HX.out w6 hb06) (by unfold exSize; rw [two_list (e := sumX) rfl rfl rfl]; simp))
  rw [sum_all] at H4
  go_wp2_with fail
  refine H4.out.mono ?_
  rintro r w7 ⟨⟨v7, rfl, hv7⟩, hb7⟩
  obtain ⟨A7, k7, rfl, g1, g2, g3⟩ := hv7
  have hb07 := hb06.trans (hb7.mono hb06.size)
  have H5 := Lib.hid (HT.out w7 A7 k7 g1 g2 ((g3.below ((Below.refl _ _).alloc (Nat.le_refl _) _)).more (by simp)))
  clear x0 x1 x2 x3 x4 x5 H4 g3
  go_wp2_with fail
  refine H5.out.mono ?_
  rintro r w8 ⟨rfl, nn, rfl⟩
  have hb08 : Below Wd.heap.size Wd ((w7.alloc (.cells #[.string xB] 9)).drewN nn) := below_drewN' (hb07.alloc hb07.size _) nn
  go_wp2_with fail
  go_ret
  exact ⟨by first | rfl | simp, hBd.trans (hb08.mono hsd)⟩
end Go.Proofs.YtabceednmgijoaaGreat
