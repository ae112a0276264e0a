/-
  Whether all names in an expression are somebody's: the contract of types' knows.
-/
import Derived.Test.YtolabbnchmmckaaKnR
import Derived.Test.YtolabbnchmmckaaNmsB
import Derived.Test.YtolabbnchmmckaaScR
import Derived.LoopIn
namespace Go.Proofs.Ytolabbnchmmckaa
open Go.RowKit Go.Shelf
attribute [local go_sem] Oper.semAt_some
def CallOk (s : List Nd) (x : Ex) : Prop := ∃ m, nodeAt s x.name = some m ∧ m.ins.length = x.args.length
theorem knows_iff {s : List Nd} {n : Nd} {e : Ex} : KnowsP s n e ↔ (∀ x ∈ exList e, x.op = 4 → CallOk s x) ∧ ∀ nm ∈ nmsOf (exList e), nm ∈ nms (vrs n) := by
  constructor
  · refine fun h => ⟨fun x hx => (h x hx).2, fun nm hnm => ?_⟩
    obtain ⟨x, hx, hb, rfl⟩ := (nms_mem _ nm).1 hnm
    exact (h x hx).1 hb
  · exact fun h x hx => ⟨fun hb => h.2 _ ((nms_mem _ _).2 ⟨x, hx, hb, rfl⟩), h.1 x hx⟩
set_option maxRecDepth 100000 in
set_option maxHeartbeats 4000000 in
theorem knows_any (s : List Nd) (A : Option Addr) (cap : Nat) (n : Nd) (a : NdA) (e : Ex) (A2 : Option Addr) (k2 : Nat) (w : World) (h1 : s.length ≤ cap) (h2 : cap ≤ maxLen) (hl : (vrs n).length ≤ 10000) (ok : ExOk e) (hk2 : e.args.length ≤ k2) (hm2 : k2 ≤ maxLen) (hsz : exSize e ≤ 1000)
    (hs : Nds w w.heap.size A s) (hn : NdAt w w.heap.size n a) (hx : IsExs w w.heap.size A2 e.args) :
    Calls Try.prog 87 #[srcV s A cap, ndV n a, exV e A2 k2] w fun r w' => r = .returned (.bool (cB (KnowsP s n e))) ∧ Below w.heap.size w w' := by
  refine (callsIn_wide (n := 9)).1 ?_
  have HS : Hid (∀ W, Below w.heap.size w W → Nds W W.heap.size A s) := fun W hW => nds_keep hs (keeps_of hW) hW.size
  have HN : Hid (∀ W, Below w.heap.size w W → NdAt W W.heap.size n a) := fun W hW => hn.keep (keeps_of hW) hW.size
  have HXX : Hid (∀ W, Below w.heap.size w W → IsExs W W.heap.size A2 e.args) := fun W hW => (hx.below hW).more hW.size
  have HL := Lib.hid hl
  have rs0 := (((Row.new w #[.slice A s.length cap] 45).alloc (.cells (ndArr n a) 40)).alloc (.cells (exA e A2 k2) 26)).alloc (.cells #[.bool false] 4)
  have rn0 := ((rowNew2 w (.cells #[.slice A s.length cap] 45) (ndArr n a) 40).alloc (.cells (exA e A2 k2) 26)).alloc (.cells #[.bool false] 4)
  have re0 := (rowNew3 w (.cells #[.slice A s.length cap] 45) (.cells (ndArr n a) 40) (exA e A2 k2) 26).alloc (.cells #[.bool false] 4)
  have rf0 := rowNewD w (.cells #[.slice A s.length cap] 45) (.cells (ndArr n a) 40) (.cells (exA e A2 k2) 26) #[.bool false] 4
  refine callsIn_of_wp_marks Try.func87 rfl trivial ?_ rfl
  simp only [Try.ntmps87, List.size_toArray, List.length_cons, List.length_nil, Nat.reduceAdd, Nat.reduceSub, Array.replicate_succ, Array.replicate_zero, List.push_toArray, List.append_toArray, List.nil_append, List.cons_append]
  gi_wp2_with (refine ⟨trivial, ?_⟩; gi_at_call 94; refine (all_in _ _ trivial rfl _ _ _ _).mono ?_; rintro r w' ⟨rfl, rfl⟩)
  have rs1 := rs0.alloc (.cells (exA e A2 k2) 26)
  have rn1 := rn0.alloc (.cells (exA e A2 k2) 26)
  have re1 := re0.alloc (.cells (exA e A2 k2) 26)
  have rf1 := rf0.alloc (.cells (exA e A2 k2) 26)
  have bA : Row (((((w.alloc (.cells #[.slice A s.length cap] 45)).alloc (.cells (ndArr n a) 40)).alloc (.cells (exA e A2 k2) 26)).alloc (.cells #[.bool false] 4)).alloc (.cells (exA e A2 k2) 26)) (w.heap.size + 4) (exA e A2 k2) 26 := by
    have h := Row.new ((((w.alloc (.cells #[.slice A s.length cap] 45)).alloc (.cells (ndArr n a) 40)).alloc (.cells (exA e A2 k2) 26)).alloc (.cells #[.bool false] 4)) (exA e A2 k2) 26
    rwa [World.size_alloc, World.size_alloc, World.size_alloc, World.size_alloc] at h
  have hB0 : Below w.heap.size w (((((w.alloc (.cells #[.slice A s.length cap] 45)).alloc (.cells (ndArr n a) 40)).alloc (.cells (exA e A2 k2) 26)).alloc (.cells #[.bool false] 4)).alloc (.cells (exA e A2 k2) 26)) := (by repeat (first | (with_reducible assumption) | (with_reducible exact Below.refl _ _) | (with_reducible refine Below.drew ?_) | (with_reducible refine below_drewN' ?_ _) | (with_reducible refine Below.alloc ?_ (by first | assumption | omega | (simp; omega) | simp | (simp [World.setCell]; omega) | simp [World.setCell]) _) | (with_reducible refine Below.setCell ?_ (by first | assumption | omega | (simp; omega) | simp | (simp [World.setCell]; omega) | simp [World.setCell]) _)))
  have hsz0 : (((((w.alloc (.cells #[.slice A s.length cap] 45)).alloc (.cells (ndArr n a) 40)).alloc (.cells (exA e A2 k2) 26)).alloc (.cells #[.bool false] 4)).alloc (.cells (exA e A2 k2) 26)).heap.size = w.heap.size + 5 := by simp
  obtain ⟨W0, hW0⟩ : ∃ W0, (((((w.alloc (.cells #[.slice A s.length cap] 45)).alloc (.cells (ndArr n a) 40)).alloc (.cells (exA e A2 k2) 26)).alloc (.cells #[.bool false] 4)).alloc (.cells (exA e A2 k2) 26)) = W0 := ⟨_, rfl⟩
  rw [hW0] at rs1 rn1 re1 rf1 bA hB0 hsz0 ⊢
  clear hW0 rs0 rn0 re0 rf0
  refine wpIn_rangeFunc_ownH rfl (by decide) (gf := 125) (lb := #[.pointer (some ⟨w.heap.size + 1 + 1 + 1 + 1, 0, none⟩)]) rfl trivial (enters_of Try.func125 (by kernel_rfl) rfl)
    (all_stops _ rfl _ trivial trivial rfl (w.heap.size + 4) w.heap.size (fun _ => False) e A2 k2 W0 (fun _ h => h.elim) ok hk2 hm2 (by omega) (by omega) (fun j u hu => by rw [bA.cell]; simpa [exCells] using hu) (exs_keep hx (keeps_of hB0) (Nat.le_refl _)))
    (fun h k => h.trans k) (fun W l o o' _ h ho _ => keepC_putObj W l o o' h ho) (Below.refl _ _) (fun _ => rfl)
    (fun pre W => ((Row W w.heap.size #[.slice A s.length cap] 45 ∧ Row W (w.heap.size + 1) (ndArr n a) 40 ∧ Row W (w.heap.size + 2) (exA e A2 k2) 26 ∧ Row W (w.heap.size + 3) #[.bool false] 4) ∧ Hid (∀ x ∈ pre, x.ex.op = 4 → CallOk s x.ex)) ∧ Below w.heap.size w W)
    (fun c pre W => (Row W (w.heap.size + 3) #[.bool false] 4 ∧ Hid (c = .ret ∧ ∃ x ∈ pre, x.ex.op = 4 ∧ ¬ CallOk s x.ex)) ∧ Below w.heap.size w W)
    (OwnFrom.and (OwnFrom.and (OwnFrom.and (fun s X Y row hs hg hr => hs.own hg (fun r e => (hr r e).2)) (OwnFrom.and (fun s X Y row hs hg hr => hs.own hg (fun r e => (hr r e).2)) (OwnFrom.and (fun s X Y row hs hg hr => hs.own hg (fun r e => (hr r e).2)) (fun s X Y row hs hg hr => hs.own hg (fun r e => (hr r e).2))))) (ownFrom_pure _ _)) (ownFrom_below (Nat.le_refl _) (by omega)))
    (fun c => OwnFrom.and (OwnFrom.and (fun s X Y row hs hg hr => hs.own hg (fun r e => (hr r e).2)) (ownFrom_pure _ _)) (ownFrom_below (Nat.le_refl _) (by omega)))
    ⟨⟨⟨rs1, rn1, re1, rf1⟩, fun x h => absurd h (by simp)⟩, hB0⟩
    (fun x a' W => ∃ Bx, w.heap.size + 3 < Bx ∧ Row W Bx (exA x.ex x.A x.cap) 26 ∧ a' = { tmps := #[srcV s A cap, ndV n a, exV e A2 k2, .pointer (some ⟨w.heap.size, 0, none⟩), .pointer (some ⟨w.heap.size + 1, 0, none⟩), .pointer (some ⟨w.heap.size + 1 + 1, 0, none⟩), .pointer (some ⟨w.heap.size + 1 + 1 + 1, 0, none⟩), .pointer (some ⟨Bx, 0, none⟩), undef, undef, undef, undef, undef, undef, exV e A2 k2, .func (.func 125) #[] #[.pointer (some ⟨w.heap.size + 1 + 1 + 1 + 1, 0, none⟩)], x.v, undef, undef, undef, undef, undef, undef, undef, undef, undef, undef, undef, undef, undef, undef, undef, undef, undef, undef, undef, undef, undef, undef, undef, undef, undef, undef, undef, undef, undef, undef, undef, undef, undef, undef, undef, undef, undef], defers := [] })
    (fun x a' _ X Y row hs hg hr => by obtain ⟨Bx, h1, h2, h3⟩ := hs; exact ⟨Bx, h1, h2.own hg (fun r e => (hr r e).2), h3⟩)
    ?assign ?body ?done ?stop
  case assign =>
    rintro l pre x W K ⟨⟨⟨r1, r2, r3, r4⟩, HP⟩, hB1⟩ hK
    gi_wp2
    exact hK _ _ ((KeepsOthers.alloc _ _).from _) (KeepC.alloc _ _ _) ⟨⟨⟨r1.alloc _, r2.alloc _, r3.alloc _, r4.alloc _⟩, HP⟩, hB1.alloc hB1.size _⟩ ⟨W.heap.size, r4.lt, Row.new W _ _, rfl⟩
  case body =>
    rintro l pre x a' W hl _ ⟨⟨⟨r1, r2, r3, r4⟩, HP⟩, hB1⟩ ⟨Bx, hBx, bX, rfl⟩ hlt
    have z0 := r1.src
    obtain ⟨x0, x1, x2, x3, x4, x5⟩ := bX.ex6
    by_cases h4 : x.ex.op = 4
    rotate_left 1
    · have o4 : (x.ex.op == 4) = false := eq_no h4
      have HP' : Hid (∀ y ∈ pre ++ [x], y.ex.op = 4 → CallOk s y.ex) := fun y hy => (List.mem_append.1 hy).elim (HP.out y) (fun h => by simp at h; rw [h]; exact fun g => absurd g h4)
      clear h4
      gi_wp2
      exact ⟨(KeepsOthers.refl _).from _, KeepC.refl _ _, ⟨⟨⟨r1, r2, r3, r4⟩, HP'⟩, hB1⟩⟩
    have o4 : (x.ex.op == 4) = true := eq_yes h4
    have HO4 := Lib.hid h4
    have HR := Lib.hid (find_any s s.length A cap x.ex.name W rfl h1 h2 (HS.out W hB1))
    clear h4
    by_cases hin : x.ex.name ∈ s.map Nd.name
    rotate_left 1
    · have HB := Lib.hid (cB_false hin)
      have HBAD : Hid (¬ CallOk s x.ex) := fun g => by
        obtain ⟨m, hm, _⟩ := g
        exact hin (node_in hm)
      clear hin
      gi_wp2_with (refine ⟨trivial, ?_⟩; gi_at_call 36; refine (CallsIn.inRound l (callsIn_wide.2 HR.out)).mono ?_; rintro r W2 ⟨⟨m, am, rfl, hm1, hm0⟩, hb2⟩; rw [HB.out]; have s4 := r4.below hb2 r4.lt; have bX2 := bX.below hb2 bX.lt; have fo := s4.frozen 0; have v0 : W2.cell? ⟨w.heap.size + 3, 0, none⟩ = some (.bool false) := (s4.cell 0).trans rfl; have hq4 := s4.lt; have hq4' : w.heap.size + 1 + 1 + 1 < W2.heap.size := hq4; have hB2 := hB1.trans (hb2.mono hB1.size); have hsB2 := hB2.size; obtain ⟨y0, y1, y2, y3, y4, y5⟩ := bX2.ex6)
      refine ⟨(((keeps_below hb2).trans (KeepsOthers.setCell _ _ _)).trans (KeepsOthers.alloc _ _)).from _, ⟨?_, ⟨rfl, x, by simp, HO4.out, HBAD.out⟩⟩, (hB2.setCell (p := ⟨w.heap.size + 3, 0, none⟩) (by simp) _).alloc (by simp [World.setCell]; omega) _⟩
      have t4 : Row (W2.setCell ⟨w.heap.size + 3, 0, none⟩ (.bool false)) (w.heap.size + 3) #[.bool false] 4 := by simpa using s4.set 0 (.bool false)
      exact t4.alloc _
    have HB := Lib.hid (cB_true hin)
    have HIN := Lib.hid hin
    clear hin
    by_cases hlen : ∃ m, nodeAt s x.ex.name = some m ∧ m.ins.length = x.ex.args.length
    · have HLEN := Lib.hid hlen
      have HP' : Hid (∀ y ∈ pre ++ [x], y.ex.op = 4 → CallOk s y.ex) := fun y hy => (List.mem_append.1 hy).elim (HP.out y) (fun h => by simp at h; rw [h]; exact fun _ => hlen)
      clear hlen
      gi_wp2_with (refine ⟨trivial, ?_⟩; gi_at_call 36; refine (CallsIn.inRound l (callsIn_wide.2 HR.out)).mono ?_; rintro r W2 ⟨⟨m, am, rfl, hm1, hm0⟩, hb2⟩; rw [HB.out]; have e5 : ((m.ins.length : Int) != (x.ex.args.length : Int)) = false := neq_no (by obtain ⟨m', h5, h6⟩ := HLEN.out; have h7 := (hm1.out HIN.out).1; rw [h5] at h7; injection h7 with h7; rw [← h7]; omega); have s1 := r1.below hb2 r1.lt; have s2 := r2.below hb2 r2.lt; have s3 := r3.below hb2 r3.lt; have s4 := r4.below hb2 r4.lt; have bX2 := bX.below hb2 bX.lt; have hq5 := bX2.lt; have hB2 := hB1.trans (hb2.mono hB1.size); have hsB2 := hB2.size; obtain ⟨y0, y1, y2, y3, y4, y5⟩ := bX2.ex6)
      exact ⟨((keeps_below hb2).trans (KeepsOthers.alloc _ _)).from _, (KeepC.below hb2).trans (KeepC.alloc _ _ _), ⟨⟨⟨s1.alloc _, s2.alloc _, s3.alloc _, s4.alloc _⟩, HP'⟩, hB2.alloc hsB2 _⟩⟩
    · have HLEN := Lib.hid hlen
      clear hlen
      gi_wp2_with (refine ⟨trivial, ?_⟩; gi_at_call 36; refine (CallsIn.inRound l (callsIn_wide.2 HR.out)).mono ?_; rintro r W2 ⟨⟨m, am, rfl, hm1, hm0⟩, hb2⟩; rw [HB.out]; have e5 : ((m.ins.length : Int) != (x.ex.args.length : Int)) = true := neq_yes (by intro g; exact HLEN.out ⟨m, (hm1.out HIN.out).1, by omega⟩); have s4 := r4.below hb2 r4.lt; have bX2 := bX.below hb2 bX.lt; have fo := s4.frozen 0; have v0 : W2.cell? ⟨w.heap.size + 3, 0, none⟩ = some (.bool false) := (s4.cell 0).trans rfl; have hq5 := bX2.lt; have hq4 := s4.lt; have hq4' : w.heap.size + 1 + 1 + 1 < W2.heap.size := hq4; have hB2 := hB1.trans (hb2.mono hB1.size); have hsB2 := hB2.size; obtain ⟨y0, y1, y2, y3, y4, y5⟩ := bX2.ex6)
      refine ⟨(((keeps_below hb2).trans (KeepsOthers.setCell _ _ _)).trans (KeepsOthers.alloc _ _)).from _, ⟨?_, ⟨rfl, x, by simp, HO4.out, HLEN.out⟩⟩, (hB2.setCell (p := ⟨w.heap.size + 3, 0, none⟩) (by simp) _).alloc (by simp [World.setCell]; omega) _⟩
      have t4 : Row (W2.setCell ⟨w.heap.size + 3, 0, none⟩ (.bool false)) (w.heap.size + 3) #[.bool false] 4 := by simpa using s4.set 0 (.bool false)
      exact t4.alloc _
  case done =>
    rintro D ys W hD hys ⟨⟨⟨r1, r2, r3, r4⟩, HP⟩, hB1⟩ hK
    have HCA : Hid (∀ x ∈ exList e, x.op = 4 → CallOk s x) := fun y hy => by
      rw [← hys] at hy
      obtain ⟨x, hx, rfl⟩ := List.mem_map.1 hy
      exact HP.out x hx
    obtain ⟨x0, x1, x2, x3, x4, x5⟩ := r3.ex6
    have HNW := Lib.hid (names_tree e A2 k2 W ok hk2 hm2 (HXX.out W hB1) hsz)
    obtain ⟨L, HLL⟩ : ∃ L, Hid (nmsOf (exList e) = L) := ⟨_, rfl⟩
    rw [HLL.out] at HNW
    have HKN : Hid (KnowsP s n e ↔ ∀ nm ∈ L, nm ∈ nms (vrs n)) := by
      show _ ↔ _
      rw [knows_iff, HLL.out]
      exact ⟨fun g => g.2, fun g => ⟨HCA.out, g⟩⟩
    clear HCA HP
    gi_wp2_with fail
    refine ⟨trivial, ?_⟩
    gi_at_call 60
    refine (callsIn_wide.2 HNW.out).mono ?_
    rintro r W2 ⟨⟨v, rfl, hv⟩, hb2⟩
    obtain ⟨AN, cN, rfl, lN, mN, sN⟩ := hv.sl
    have HSN := Lib.hid sN
    have mN' : cN ≤ 9223372036854775807 := by unfold maxLen at mN; omega
    clear sN hv
    gi_wp2_with fail
    have s2 := r2.below hb2 r2.lt
    have s4 := r4.below hb2 r4.lt
    have hB2 := hB1.trans (hb2.mono hB1.size)
    have hs2 := hB2.size
    have hK2 := (keeps_below hb2).same D _ hK rfl
    clear x0 x1 x2 x3 x4 x5 r1 r2 r3 r4
    gi_loopw [41] (fun i wr => ∃ j : Nat, j ≤ L.length ∧ i = .int .i64 j ∧ Hid (∀ i, i < j → ∀ nm, L[i]? = some nm → nm ∈ nms (vrs n)) ∧ Below W2.heap.size W2 wr) (fun i _ => L.length - (intOf i).toNat)
    case atStart => exact ⟨0, Nat.zero_le _, rfl, fun j h => absurd h (by omega), Below.refl _ _⟩
    case round =>
      obtain ⟨j, hj, rfl, HJ, hbr⟩ := hrel
      have hszr := hbr.size
      have t2 := s2.below hbr s2.lt
      have t4 := s4.below hbr s4.lt
      have hB3 := hB2.trans (hbr.mono hs2)
      have hs3 := hB3.size
      have hK3 := (keeps_below hbr).same D _ hK2 rfl
      have hq4 := t4.lt
      have hq4' : w.heap.size + 1 + 1 + 1 < wr.heap.size := hq4
      have fo := t4.frozen 0
      have v0 : wr.cell? ⟨w.heap.size + 3, 0, none⟩ = some (.bool false) := (t4.cell 0).trans rfl
      by_cases hlt : j < L.length
      rotate_left 1
      · obtain rfl : j = L.length := by omega
        have HF : Hid (cB (KnowsP s n e) = true) := cB_true (HKN.out.2 fun nm hnm => by
          obtain ⟨i, hi⟩ := List.getElem?_of_mem hnm
          exact HJ.out i (List.getElem?_eq_some_iff.1 hi).1 nm hi)
        gi_wp2_with fail
        have t5 : Row (wr.setCell ⟨w.heap.size + 3, 0, none⟩ (.bool true)) (w.heap.size + 3) #[.bool true] 4 := by simpa using t4.set 0 (.bool true)
        have hK4 : (wr.setCell ⟨w.heap.size + 3, 0, none⟩ (.bool true)).heap[D]? = some (.deferred (some [])) := (KeepsOthers.setCell wr _ _).same D _ hK3 rfl
        have hB5 : Below w.heap.size w (wr.setCell ⟨w.heap.size + 3, 0, none⟩ (.bool true)) := hB3.setCell (p := ⟨w.heap.size + 3, 0, none⟩) (by simp) _
        refine ⟨by simp, .inl ⟨_, _, rfl, run_takeDeferred hK4, ?_⟩⟩
        have hc5 := cell_kept (t5.cell 0) (grownBy_putObj' _ D (.deferred none)) (fun r e => by cases e; exact ⟨_, hK4, rfl⟩)
        refine ⟨.bool true, ?_, by rw [HF.out], hB5.trans (belowK_b (w := w) (Nat.le_refl _) _ D _ _ (by omega) hK4 rfl rfl)⟩
        simp [results, Try.f87, go_sem, hc5]
      obtain ⟨b, off, nm, hA, hb, hnk, hnsz, f0⟩ := (strs_keep HSN.out (keeps_of hbr) (Nat.le_refl _)).str hlt
      subst hA
      obtain ⟨d0, d1, d2, d3, d4, d5, d6⟩ := t2.nd
      have HV := Lib.hid (svar1_any n a nm wr (HN.out wr hB3) HL.out)
      by_cases hin : nm ∈ nms (vrs n)
      · have HB := Lib.hid (cB_true hin)
        have HJ' := Lib.hid (step_uptoI (P := fun _ x => x ∈ nms (vrs n)) HJ.out hnk hin)
        clear hin hnk
        gi_wp2_with (refine ⟨trivial, ?_⟩; gi_at_call 38; refine (callsIn_wide.2 HV.out).mono ?_; rintro r W4 ⟨⟨x, A', cap', rfl, HY, HNo⟩, hb4⟩; rw [HB.out]; have hs4 := hb4.size)
        go_roundw
        case rel => exact ⟨j + 1, by omega, by go_num, HJ', (hbr.trans (hb4.mono hszr)).alloc (by omega) _⟩
        case measure => first | (simp [intOf]; omega) | simp [intOf]
      · have HB := Lib.hid (cB_false hin)
        have HF : Hid (cB (KnowsP s n e) = false) := cB_false fun g => hin (HKN.out.1 g nm (List.mem_of_getElem? hnk))
        clear hin hnk
        gi_wp2_with (refine ⟨trivial, ?_⟩; gi_at_call 38; refine (callsIn_wide.2 HV.out).mono ?_; rintro r W4 ⟨⟨x, A', cap', rfl, HY, HNo⟩, hb4⟩; rw [HB.out]; have t44 := t4.below hb4 t4.lt; have fo4 := t44.frozen 0; have v04 : W4.cell? ⟨w.heap.size + 3, 0, none⟩ = some (.bool false) := (t44.cell 0).trans rfl; have hq5 := t44.lt; have hq5' : w.heap.size + 1 + 1 + 1 < W4.heap.size := hq5; have hB4 := hB3.trans (hb4.mono hs3); have hs4 := hB4.size)
        have hK44 := (keeps_below hb4).same D _ hK3 rfl
        have t5 : Row ((W4.setCell ⟨w.heap.size + 3, 0, none⟩ (.bool false)).alloc (.cells (vrArr x A' cap') 64)) (w.heap.size + 3) #[.bool false] 4 := (show Row (W4.setCell ⟨w.heap.size + 3, 0, none⟩ (.bool false)) (w.heap.size + 3) #[.bool false] 4 by simpa using t44.set 0 (.bool false)).alloc _
        have hK4 : ((W4.setCell ⟨w.heap.size + 3, 0, none⟩ (.bool false)).alloc (.cells (vrArr x A' cap') 64)).heap[D]? = some (.deferred (some [])) := ((KeepsOthers.setCell W4 _ _).trans (KeepsOthers.alloc _ _)).same D _ hK44 rfl
        have hB5 : Below w.heap.size w ((W4.setCell ⟨w.heap.size + 3, 0, none⟩ (.bool false)).alloc (.cells (vrArr x A' cap') 64)) := (hB4.setCell (p := ⟨w.heap.size + 3, 0, none⟩) (by simp) _).alloc (by simp [World.setCell]; omega) _
        refine ⟨by simp, .inl ⟨_, _, rfl, run_takeDeferred hK4, ?_⟩⟩
        have hc5 := cell_kept (t5.cell 0) (grownBy_putObj' _ D (.deferred none)) (fun r e => by cases e; exact ⟨_, hK4, rfl⟩)
        refine ⟨.bool false, ?_, by rw [HF.out], hB5.trans (belowK_b (w := w) (Nat.le_refl _) _ D _ _ (by omega) hK4 rfl rfl)⟩
        simp [results, Try.f87, go_sem, hc5]
  case stop =>
    rintro D c pre W hD hpre ⟨⟨r4, HP⟩, hB1⟩ hK
    obtain ⟨rfl, x, hxp, hx4, hxc⟩ := HP.out
    have HF : Hid (cB (KnowsP s n e) = false) := cB_false fun g => hxc ((g x.ex (hpre.subset (List.mem_map_of_mem hxp))).2 hx4)
    clear HP hxp hx4 hxc
    gi_wp2
    refine ⟨by simp, .inl ⟨_, _, rfl, run_takeDeferred hK, ?_⟩⟩
    have hc5 := cell_kept (r4.cell 0) (grownBy_putObj' _ D (.deferred none)) (fun r e => by cases e; exact ⟨_, hK, rfl⟩)
    refine ⟨.bool false, ?_, by rw [HF.out], hB1.trans (belowK_b (w := w) (Nat.le_refl _) W D _ _ (by omega) hK rfl rfl)⟩
    simp [results, Try.f87, go_sem, hc5]
end Go.Proofs.Ytolabbnchmmckaa
