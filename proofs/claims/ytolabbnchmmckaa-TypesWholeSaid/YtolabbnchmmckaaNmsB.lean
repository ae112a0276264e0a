/-
  The names of variables in an expression: the contract of tree.Names.
-/
import Derived.Test.YtolabbnchmmckaaTreeAll
import Derived.Test.YtolabbnchmmckaaTreeRight
import Derived.Test.YtolabbnchmmckaaNmsA
namespace Go.Proofs.Ytolabbnchmmckaa
open Go.RowKit Go.Shelf

attribute [local go_sem] Oper.semAt_some
theorem keepT_putObj {X : Nat → TypeId → Prop} (W : World) (l : Nat) (o o' : Obj) (h : W.heap[l]? = some o) (ho : o.isCells = false) : KeepT X W (W.putObj l o') := by
  refine ⟨(grownBy_putObj' W l o').size, fun b cs t f _ hb => ((grownBy_putObj' W l o').block b (Array.getElem?_eq_some_iff.1 hb).1 (fun e => ?_)).trans hb⟩
  injection e with e
  subst e
  rw [hb] at h
  injection h with h
  subst h
  cases ho
theorem StrsO.own {B : Nat} {W W' : World} {l : List ByteArray} {v : Value} {row : Option Nat} (h : StrsO B W l v) (hg : W.grownBy W' row) (hr : ∀ r, row = some r → ∃ o : Obj, W.heap[r]? = some o ∧ o.isCells = false) : StrsO B W' l v := by
  obtain ⟨css, h1, h2⟩ := h
  refine ⟨css, ⟨h1.1, ?_⟩, h2⟩
  rcases h1.2 with h0 | ⟨g, cap, cur, e1, e2, e3, e4⟩
  · exact .inl h0
  · exact .inr ⟨g, cap, cur, e1, e2, Row.own (cs := cur) e3 hg hr, e4⟩
/-- the names so far, in a variable of their own -/
def NmJ (N : Nat) (l : List Ex) (W : World) : Prop := ∃ v, Row W (N + 1) #[v] 46 ∧ StrsO (N + 3) W (nmsOf l) v
def nmX (N b : Nat) (t : TypeId) : Prop := N ≤ b ∧ (b = N + 1 ∨ t = 9)
theorem keepT_set {N : Nat} {W : World} {p : Addr} (hp : p.block = N + 1) (u : Value) : KeepT (nmX N) W (W.setCell p u) := by
  refine ⟨by simp [World.setCell], fun b cs t f hX hb => (Below.heap_setCell W p u b (fun e => hX ⟨?_, .inl ?_⟩)).trans hb⟩
  · rw [e, hp]; omega
  · rw [e, hp]
theorem keepT_own {N n : Nat} {W W' : World} {v : Value} {xs : List Value} (ho : W.ownsRow (N + 3) 9 1 v n xs) (hg : W.grownBy W' v.ownBlock) : KeepT (nmX N) W W' := by
  refine ⟨hg.size, fun b cs t f hX hb => (hg.block b (Array.getElem?_eq_some_iff.1 hb).1 (fun e => ?_)).trans hb⟩
  rcases ho.2 with ⟨rfl, _⟩ | ⟨g, cap, cur, rfl, e2, e3, _⟩
  · cases e
  · injection e with e
    have e' : b = g := e
    subst e'
    rw [e3] at hb
    injection hb with hb
    injection hb with _ hb _
    exact hX ⟨by omega, .inr hb.symm⟩
theorem Row.own2 {N n b : Nat} {W W' : World} {v : Value} {xs : List Value} {cs : Array Value} {t : TypeId} (h : Row W b cs t) (ho : W.ownsRow (N + 3) 9 1 v n xs) (hg : W.grownBy W' v.ownBlock) (hb : b < N + 3) : Row W' b cs t := by
  refine (hg.block b h.lt fun e => ?_).trans h
  have := (ho.lt b e.symm).1
  omega
theorem own_set {W : World} {base n size : Nat} {e : TypeId} {v : Value} {xs : List Value} (h : W.ownsRow base e size v n xs) {p : Addr} (hp : p.block < base) (u : Value) : (W.setCell p u).ownsRow base e size v n xs := by
  refine ⟨h.1, ?_⟩
  rcases h.2 with h0 | ⟨g, c, cur, h1, h2, h3, h4⟩
  · exact .inl h0
  · exact .inr ⟨g, c, cur, h1, h2, (Below.heap_setCell W p u g (by omega)).trans h3, h4⟩
theorem ko_own {B n : Nat} {W W' : World} {v : Value} {xs : List Value} (ho : W.ownsRow B 9 1 v n xs) (hg : W.grownBy W' v.ownBlock) : KeepsOthers W W' := by
  refine ⟨hg.size, fun k o hk hc => (hg.block k (Array.getElem?_eq_some_iff.1 hk).1 (fun e => ?_)).trans hk⟩
  rcases ho.2 with ⟨rfl, _⟩ | ⟨g, cap, cur, rfl, e2, e3, _⟩
  · cases e
  · injection e with e
    have e' : k = g := e
    subst e'
    rw [e3] at hk
    injection hk with hk
    subst hk
    cases hc
set_option maxRecDepth 100000 in
set_option maxHeartbeats 8000000 in
theorem names_tree (e : Ex) (A : Option Addr) (cap : Nat) (w : World) (hok : ExOk e) (hcap : e.args.length ≤ cap) (hmax : cap ≤ maxLen) (hx : IsExs w w.heap.size A e.args) (hs : exSize e ≤ 1000) :
    Calls Try.prog 60 #[exV e A cap] w fun r w' => (∃ v, r = .returned v ∧ StrsO w.heap.size w' (nmsOf (exList e)) v) ∧ Below w.heap.size w w' := by
  refine (callsIn_wide (n := 9)).1 ?_
  obtain ⟨i0, hi0, hz0, hz1, hz2⟩ := info_parts info_str
  refine callsIn_of_wp_marks Try.func60 rfl trivial ?_ rfl
  simp only [Try.ntmps60, List.size_toArray, List.length_cons, List.length_nil, Nat.reduceAdd, Nat.reduceSub, Array.replicate_succ, Array.replicate_zero, List.push_toArray, List.append_toArray, List.nil_append, List.cons_append]
  gi_wp2_with (refine ⟨trivial, ?_⟩; gi_at_call 94; refine (all_in _ _ trivial rfl _ _ _ _).mono ?_; rintro r w' ⟨rfl, rfl⟩)
  have bE : Row (((w.alloc (.cells #[.int .i64 e.op, .string e.name, .int .i64 e.n, .slice A e.args.length cap, .int .i64 e.line, .int .i64 e.col] 26)).alloc (.cells #[.slice none 0 0] 46)).alloc (.cells #[.int .i64 e.op, .string e.name, .int .i64 e.n, .slice A e.args.length cap, .int .i64 e.line, .int .i64 e.col] 26)) w.heap.size #[.int .i64 e.op, .string e.name, .int .i64 e.n, .slice A e.args.length cap, .int .i64 e.line, .int .i64 e.col] 26 := ((Row.new w #[.int .i64 e.op, .string e.name, .int .i64 e.n, .slice A e.args.length cap, .int .i64 e.line, .int .i64 e.col] 26).alloc _).alloc _
  have bR : Row (((w.alloc (.cells #[.int .i64 e.op, .string e.name, .int .i64 e.n, .slice A e.args.length cap, .int .i64 e.line, .int .i64 e.col] 26)).alloc (.cells #[.slice none 0 0] 46)).alloc (.cells #[.int .i64 e.op, .string e.name, .int .i64 e.n, .slice A e.args.length cap, .int .i64 e.line, .int .i64 e.col] 26)) (w.heap.size + 1) #[.slice none 0 0] 46 := (rowNew2 w (.cells #[.int .i64 e.op, .string e.name, .int .i64 e.n, .slice A e.args.length cap, .int .i64 e.line, .int .i64 e.col] 26) #[.slice none 0 0] 46).alloc _
  have bA : Row (((w.alloc (.cells #[.int .i64 e.op, .string e.name, .int .i64 e.n, .slice A e.args.length cap, .int .i64 e.line, .int .i64 e.col] 26)).alloc (.cells #[.slice none 0 0] 46)).alloc (.cells #[.int .i64 e.op, .string e.name, .int .i64 e.n, .slice A e.args.length cap, .int .i64 e.line, .int .i64 e.col] 26)) (w.heap.size + 2) #[.int .i64 e.op, .string e.name, .int .i64 e.n, .slice A e.args.length cap, .int .i64 e.line, .int .i64 e.col] 26 := rowNew3 w (.cells #[.int .i64 e.op, .string e.name, .int .i64 e.n, .slice A e.args.length cap, .int .i64 e.line, .int .i64 e.col] 26) (.cells #[.slice none 0 0] 46) #[.int .i64 e.op, .string e.name, .int .i64 e.n, .slice A e.args.length cap, .int .i64 e.line, .int .i64 e.col] 26
  have hB0 : Below w.heap.size w (((w.alloc (.cells #[.int .i64 e.op, .string e.name, .int .i64 e.n, .slice A e.args.length cap, .int .i64 e.line, .int .i64 e.col] 26)).alloc (.cells #[.slice none 0 0] 46)).alloc (.cells #[.int .i64 e.op, .string e.name, .int .i64 e.n, .slice A e.args.length cap, .int .i64 e.line, .int .i64 e.col] 26)) := (((Below.refl _ w).alloc (Nat.le_refl _) _).alloc (by simp) _).alloc (by simp; omega) _
  have hsz : (((w.alloc (.cells #[.int .i64 e.op, .string e.name, .int .i64 e.n, .slice A e.args.length cap, .int .i64 e.line, .int .i64 e.col] 26)).alloc (.cells #[.slice none 0 0] 46)).alloc (.cells #[.int .i64 e.op, .string e.name, .int .i64 e.n, .slice A e.args.length cap, .int .i64 e.line, .int .i64 e.col] 26)).heap.size = w.heap.size + 3 := by simp
  obtain ⟨W0, hW0⟩ : ∃ W0, (((w.alloc (.cells #[.int .i64 e.op, .string e.name, .int .i64 e.n, .slice A e.args.length cap, .int .i64 e.line, .int .i64 e.col] 26)).alloc (.cells #[.slice none 0 0] 46)).alloc (.cells #[.int .i64 e.op, .string e.name, .int .i64 e.n, .slice A e.args.length cap, .int .i64 e.line, .int .i64 e.col] 26)) = W0 := ⟨_, rfl⟩
  rw [hW0] at bE bR bA hB0 hsz ⊢
  clear hW0
  refine wpIn_rangeFunc_ownH rfl (by decide) (gf := 125) (lb := #[.pointer (some ⟨w.heap.size + 2, 0, none⟩)]) rfl trivial (enters_of Try.func125 (by kernel_rfl) rfl)
    (all_stopsT _ rfl _ trivial trivial rfl (w.heap.size + 2) w.heap.size (nmX w.heap.size) e A cap W0 (fun b t h => ⟨h.1, h.2.elim (fun h => .inl (by omega)) (fun h => .inr (by rw [h]; decide))⟩) hok hcap hmax (by omega) (by omega) (fun j u hu => by rw [bA.cell]; simpa [exCells] using hu) (hx.below hB0))
    (fun h k => h.trans k) (fun W l o o' _ h ho _ => keepT_putObj W l o o' h ho) (Below.refl _ _) (fun _ => rfl)
    (fun pre W => (Row W w.heap.size #[.int .i64 e.op, .string e.name, .int .i64 e.n, .slice A e.args.length cap, .int .i64 e.line, .int .i64 e.col] 26 ∧ NmJ w.heap.size (pre.map ExN.ex) W) ∧ Below w.heap.size w W)
    (fun c pre W => False)
    (OwnFrom.and (OwnFrom.and (fun s X Y row hs hg hr => hs.own hg (fun r e => (hr r e).2)) (fun s X Y row hs hg hr => by obtain ⟨v, h1, h2⟩ := hs; exact ⟨v, h1.own hg (fun r e => (hr r e).2), h2.own hg (fun r e => (hr r e).2)⟩)) (ownFrom_below (Nat.le_refl _) (by omega)))
    (fun c => fun s X Y row hs hg hr => hs)
    ⟨⟨bE, ⟨_, bR, StrsO.nil _ _⟩⟩, hB0⟩
    (fun x a' W => ∃ Bx, w.heap.size + 1 < Bx ∧ Row W Bx #[.int .i64 x.ex.op, .string x.ex.name, .int .i64 x.ex.n, .slice x.A x.ex.args.length x.cap, .int .i64 x.ex.line, .int .i64 x.ex.col] 26 ∧ a' = { tmps := #[exV e A cap, .pointer (some ⟨w.heap.size, 0, none⟩), .slice none 0 0, .pointer (some ⟨w.heap.size + 1, 0, none⟩), .pointer (some ⟨Bx, 0, none⟩), exV e A cap, .func (.func 125) #[] #[.pointer (some ⟨w.heap.size + 2, 0, none⟩)], x.v, undef, undef, undef, undef, undef, undef, undef, undef, undef, undef, undef, undef, undef, undef, undef, undef], defers := [] })
    (fun x a' _ X Y row hs hg hr => by obtain ⟨Bx, h1, h2, h3⟩ := hs; exact ⟨Bx, h1, h2.own hg (fun r e => (hr r e).2), h3⟩)
    ?assign ?body ?done ?stop
  case assign =>
    rintro l pre x W K ⟨⟨bE1, v1, bR1, hS1⟩, hB1⟩ hK
    gi_wp2
    exact hK _ _ ((KeepsOthers.alloc _ _).from _) (KeepT.alloc _ _ _) ⟨⟨bE1.alloc _, v1, bR1.alloc _, hS1.below ((Below.refl _ _).alloc (Nat.le_refl _) _)⟩, hB1.alloc hB1.size _⟩ ⟨W.heap.size, bR1.lt, Row.new W _ _, rfl⟩
  case body =>
    rintro l pre x a' W hl hlw ⟨⟨bE1, v1, bR1, hS1⟩, hB1⟩ ⟨Bx, hBx, bX, rfl⟩ hlt
    obtain ⟨A2, c2, rfl, hl2, hm2, hs2⟩ := hS1.sl
    have c0 := bX.cell 0
    have c1 := bX.cell 1
    have fR := bR1.frozen 0
    have cR := bR1.cell 0
    simp only [List.getElem?_toArray, List.getElem?_cons_zero, List.getElem?_cons_succ] at c0 c1 cR
    have hlR := bR1.lt
    have HSN : Hid (nmsOf ((pre ++ [x]).map ExN.ex) = addNm (nmsOf (pre.map ExN.ex)) x.ex) := by show _ = _; rw [List.map_append]; exact nms_snoc _ _
    have hnl := nms_len (pre.map ExN.ex)
    have hpl : (pre.map ExN.ex).length = pre.length := List.length_map _
    have hn0 : (nmsOf (pre.map ExN.ex)).length ≤ 1000 := by omega
    have HS1 := Lib.hid hS1
    have HI := Lib.hid (contains_str (nmsOf (pre.map ExN.ex)) x.ex.name A2 c2 W.heap.size W hl2 hm2 hs2)
    have hnx := x.ok.name
    clear hs2 hS1 hnl hpl
    by_cases hnb : namesB x.ex.op = true
    · by_cases hin : x.ex.name ∈ nmsOf (pre.map ExN.ex)
      · have HT2 := Lib.hid (HSN.out.trans (addNm_no fun _ => hin))
        have HB := Lib.hid (cB_true hin)
        have HNB := Lib.hid hnb
        clear hin hnb
        generalize hG : nmsOf (pre.map ExN.ex) = out at *
        have HGG := Lib.hid hG
        clear hG
        gi_wp2_with (refine ⟨trivial, ?_⟩; first | (gi_at_call 99; refine (CallsIn.inRound l (callsIn_wide.2 (names_any x.ex.op _))).mono ?_; rintro r W2 ⟨rfl, rfl⟩; rw [HNB.out]) | (gi_at_call 100; refine (CallsIn.inRound l (callsIn_wide.2 HI.out)).mono ?_; rintro r W2 ⟨rfl, rfl⟩; rw [HB.out]))
        exact ⟨(keeps_below (Below.refl _ _)).from _, KeepT.refl _ _, ⟨⟨bE1, _, bR1, by rw [HT2.out]; exact HS1.out⟩, hB1⟩⟩
      · have HT2 := Lib.hid (HSN.out.trans (addNm_yes hnb hin))
        have HB := Lib.hid (cB_false hin)
        have HNB := Lib.hid hnb
        obtain ⟨css2, ho2, ha2⟩ := HS1.out
        have HA2 := Lib.hid ha2
        have r3 := Row.new W #[.string x.ex.name] 9
        have ho3 := ho2.alloc (.cells #[.string x.ex.name] 9)
        have HC3 : Hid (∀ j u, [Value.string x.ex.name][j]? = some u → (W.alloc (.cells #[.string x.ex.name] 9)).cell? ((⟨W.heap.size, 0, none⟩ : Addr).add j) = some u) := fun j u hu => cell_one W _ _ j u hu
        have h1c : Hid (∀ u ∈ [Value.string x.ex.name], u.oneCell' = true) := fun u hu => by simp at hu; subst hu; rfl
        have hB3 := hB1.alloc hB1.size (.cells #[.string x.ex.name] 9)
        have bE3 := bE1.alloc (.cells #[.string x.ex.name] 9)
        have bR3 := bR1.alloc (.cells #[.string x.ex.name] 9)
        have hsW : w.heap.size + 3 ≤ W.heap.size := by obtain ⟨rl, hrl⟩ := hlw; have h1 := (Array.getElem?_eq_some_iff.1 hrl).1; have h2 : W0.heap.size ≤ l := hl; omega
        clear hin hnb ho2 ha2 r3 HS1
        generalize hG : nmsOf (pre.map ExN.ex) = out at *
        have HGG := Lib.hid hG
        clear hG
        gi_wp2_with (first | (refine ⟨trivial, ?_⟩; first | (gi_at_call 99; refine (CallsIn.inRound l (callsIn_wide.2 (names_any x.ex.op _))).mono ?_; rintro r W2 ⟨rfl, rfl⟩; rw [HNB.out]) | (gi_at_call 100; refine (CallsIn.inRound l (callsIn_wide.2 HI.out)).mono ?_; rintro r W2 ⟨rfl, rfl⟩; rw [HB.out])) | (refine wpListIn_append_own _ rfl (.tmp 18) (.tmp 21) 46 rfl (w.heap.size + 3) 9 i0 _ 1 16 Try.underlying46 hi0 hz0 hz1 hz2 rfl (by decide) _ _ _ rfl ho3 ⟨W.heap.size, 0, none⟩ 1 1 [.string x.ex.name] rfl rfl HC3.out h1c.out (by unfold maxLen; omega) (by omega) (by simp; omega) ?_; intro v4 W4 ho4 hg4 _; have bE4 : Row W4 w.heap.size #[.int .i64 e.op, .string e.name, .int .i64 e.n, .slice A e.args.length cap, .int .i64 e.line, .int .i64 e.col] 26 := bE3.own2 ho3 hg4 (by omega); have bR4 : Row W4 (w.heap.size + 1) _ 46 := bR3.own2 ho3 hg4 (by omega); have fR4 := bR4.frozen 0; have cR4 := bR4.cell 0; simp only [List.getElem?_toArray, List.getElem?_cons_zero] at cR4; have hlR4 := bR4.lt; obtain ⟨A4, c4, hv4, _⟩ := own_rd ho4; subst hv4))
        exact ⟨(((KeepsOthers.alloc _ _).trans (ko_own ho3 hg4)).trans (KeepsOthers.setCell _ _ _)).from _, ((KeepT.alloc _ _ _).trans (keepT_own ho3 hg4)).trans (keepT_set rfl _), ⟨⟨bE4.far (by simp) _, _, bR4.set 0 _, by
          rw [HT2.out]
          refine ⟨css2 ++ [[.string x.ex.name]], own_set ?_ (by simp) _, HA2.out.append (Are.one ⟨rfl, hnx⟩)⟩
          rw [List.flatten_append, List.length_append]
          exact ho4⟩, (below_own hB3 (own_base ho3 (by omega)) hg4 (by simp; omega)).setCell (by simp) _⟩⟩
    · have HT2 := Lib.hid (HSN.out.trans (addNm_no fun g => absurd g hnb))
      have HNB : Hid (namesB x.ex.op = false) := by show _ = _; simpa using hnb
      clear hnb HI
      generalize hG : nmsOf (pre.map ExN.ex) = out at *
      have HGG := Lib.hid hG
      clear hG
      gi_wp2_with (first | (refine ⟨trivial, ?_⟩; (gi_at_call 99; refine (CallsIn.inRound l (callsIn_wide.2 (names_any x.ex.op _))).mono ?_; rintro r W2 ⟨rfl, rfl⟩; rw [HNB.out])) | refine ⟨trivial, ?_⟩)
      exact ⟨(keeps_below (Below.refl _ _)).from _, KeepT.refl _ _, ⟨⟨bE1, _, bR1, by rw [HT2.out]; exact HS1.out⟩, hB1⟩⟩
  case done =>
    rintro D ys W hD hys ⟨⟨bE1, v1, bR1, hS1⟩, hB1⟩ hK
    have cR := bR1.cell 0
    simp only [List.getElem?_toArray, List.getElem?_cons_zero] at cR
    rw [hys] at hS1
    have HS1 := Lib.hid hS1
    clear hS1
    gi_wp2
    refine ⟨by simp, .inl ⟨_, _, rfl, run_takeDeferred hK, ?_⟩⟩
    refine ⟨v1, by simp [results, Try.f60, go_sem], ⟨v1, rfl, (HS1.out.own (grownBy_putObj' W D (.deferred none)) (fun r e => by cases e; exact ⟨_, hK, rfl⟩)).base (by omega)⟩, hB1.trans (belowK_b (w := w) (Nat.le_refl _) W D _ _ (by omega) hK rfl rfl)⟩
  case stop =>
    rintro D c pre W hD hpre hF hK
    exact hF.elim
end Go.Proofs.Ytolabbnchmmckaa
