/-
  order: what is there; whether an act is ready. order: acts cloned; one of them struck out. order.Ordered
-/
import Derived.Test.YtbjaejgechadpaaOrdA
import Derived.Test.YtbjaejgechadpaaPlainA
import Derived.Test.YtbjaejgechadpaaNormN
import Derived.Deep.RegionLaw
import Derived.Lib.SliceRun
namespace Go.Proofs.Ytbjaejgechadpaa.Fo
open Vf
/-- a row of truths says which wires are there -/
def HaveSt (f : Fm) (H : List Int) (ds : List Bool) : Prop := ds.length = f.wires.length ∧ ∀ m : Nat, m < f.wires.length → (ds.getD m false = true ↔ (m : Int) ∈ H)
section
variable {f : Fm} {H H' : List Int} {ds : List Bool}
theorem HaveSt.congr (h : HaveSt f H ds) (e : ∀ n, n ∈ H ↔ n ∈ H') : HaveSt f H' ds := ⟨h.1, fun m hm => (h.2 m hm).trans (e _)⟩
theorem have_start (f : Fm) : HaveSt f [] (List.replicate f.wires.length false) := ⟨by simp, fun m hm => by simp [List.getD_eq_getElem?_getD, hm]⟩
theorem HaveSt.set (h : HaveSt f H ds) {n : Int} (hn : isW f n) : HaveSt f (n :: H) (ds.set n.toNat true) := by
  refine ⟨by simp [h.1], fun m hm => ?_⟩
  rw [bGet_set hn.1 (by rw [h.1]; exact hn.2)]
  by_cases e : n = m
  · simp [e]
  · rw [if_neg e, h.2 m hm]
    have e' : ¬ (m : Int) = n := fun g => e g.symm
    simp [e']
theorem HaveSt.get (h : HaveSt f H ds) {n : Int} (hn : isW f n) : bGet ds n = true ↔ n ∈ H := by
  obtain ⟨m, rfl⟩ := Int.eq_ofNat_of_zero_le hn.1
  have hm : m < f.wires.length := by have := hn.2; omega
  exact h.2 m hm
theorem ready_iff (h : HaveSt f H ds) {x : Ac} (hw : ∀ n ∈ wantsAll f x, isW f n) : (∀ n ∈ wantsAll f x, bGet ds n = true) ↔ readyOk f H x := by
  constructor
  · intro g
    refine ⟨fun n hn => ?_, fun q hq => ?_⟩
    · have hm : n ∈ wantsAll f x := List.mem_append_left _ hn
      exact (h.get (hw n hm)).1 (g n hm)
    · have hm : q.wire ∈ wantsAll f x := List.mem_append_right _ (List.mem_map.2 ⟨q, hq, rfl⟩)
      exact (h.get (hw _ hm)).1 (g _ hm)
  · intro g n hn
    refine (h.get (hw n hn)).2 ?_
    rcases List.mem_append.1 hn with hn | hn
    · exact g.1 n hn
    · obtain ⟨q, hq, rfl⟩ := List.mem_map.1 hn
      exact g.2 q hq
end
end Go.Proofs.Ytbjaejgechadpaa.Fo
namespace Go.Proofs.Ytbjaejgechadpaa
open Go.RowKit Vf Fo
attribute [local go_sem ↓] Go.wp_at_zero Go.wp_at_succ
/-- an act with what holds of it in a right form -/
structure AcOk (f : Fm) (x : Ac) : Prop where
  uses : 0 ≤ uses x.op
  dst : isW f x.dst
  wants : ∀ n ∈ wantsAll f x, isW f n
  clock : (clockOf f x.dst).length ≤ 1600
theorem ac_ok {f : Fm} (hf : formOk f) {x : Ac} (hx : x ∈ f.acts) : AcOk f x := by
  obtain ⟨h1, h2, h3, h4⟩ := act_facts hf.1 (hf.2.2.2.2.1.2.1 x hx).1 (hf.2.2.2.2.2.1 x hx)
  refine ⟨h1, h2, fun n hn => ?_, clock_len hf.1 h2⟩
  rcases List.mem_append.1 hn with hn | hn
  · exact h3 n hn
  · obtain ⟨g, hg, rfl⟩ := List.mem_map.1 hn
    exact h4 g hg
set_option maxRecDepth 100000 in
set_option maxHeartbeats 4000000 in
theorem oready_any {w : World} {B : Nat} {f : Fm} {vw va vc vk vi vo : Value} (h : FmAt w B f vw va vc vk vi vo) (hB : B ≤ w.heap.size) (x : Ac) (wx : AcIn x) (ho : AcOk f x)
    (D : Nat) (ds : List Bool) (rD : Row w D (bls ds).toArray 4) (hdl : ds.length = f.wires.length) :
    Calls Try.prog 65 #[fmV vw va vc vk vi vo, acV x, .slice (some ⟨D, 0, none⟩) f.wires.length f.wires.length] w fun e w' => e = .returned (.bool (cB (∀ n ∈ wantsAll f x, bGet ds n = true))) ∧ Below w.heap.size w w' := by
  obtain ⟨op, dst, a, b, c, k⟩ := x
  have hrl := rD.lt
  have HR := Lib.hid (fun W (hW : Below w.heap.size w W) => rD.below hW hrl)
  have HDL := Lib.hid hdl
  have HWA := Lib.hid ho.wants
  have b1 : Below w.heap.size w ((w.alloc (.cells #[vw, va, vc, vk, vi, vo] 48)).alloc (.cells #[.int .i64 op, .int .i64 dst, .int .i64 a, .int .i64 b, .int .i64 c, .int .i64 k] 91)) := bE
  have HWN := Lib.hid (owants_any (h.below (b1.mono hB)) (Nat.le_trans hB b1.size) ⟨op, dst, a, b, c, k⟩ wx ho.uses ho.dst ho.clock)
  have rF : Row ((w.alloc (.cells #[vw, va, vc, vk, vi, vo] 48)).alloc (.cells #[.int .i64 op, .int .i64 dst, .int .i64 a, .int .i64 b, .int .i64 c, .int .i64 k] 91)) w.heap.size #[vw, va, vc, vk, vi, vo] 48 := (Row.new w _ _).alloc _
  have rX : Row ((w.alloc (.cells #[vw, va, vc, vk, vi, vo] 48)).alloc (.cells #[.int .i64 op, .int .i64 dst, .int .i64 a, .int .i64 b, .int .i64 c, .int .i64 k] 91)) (w.heap.size + 1) #[.int .i64 op, .int .i64 dst, .int .i64 a, .int .i64 b, .int .i64 c, .int .i64 k] 91 := rowNew2 w _ _ _
  clear h wx ho rD hdl
  go_enter Try.func65, Try.ntmps65
  go_upto_region 1 with (fail)
  generalize (w.alloc (.cells #[vw, va, vc, vk, vi, vo] 48)).alloc (.cells #[.int .i64 op, .int .i64 dst, .int .i64 a, .int .i64 b, .int .i64 c, .int .i64 k] 91) = w1 at *
  obtain ⟨f0, f1, f2, f3, f4, f5⟩ := rF.six'
  obtain ⟨c0, c1, c2, c3, c4, c5⟩ := rX.six'
  have hs1 := b1.size
  go_wp2_with fail
  (with_reducible refine HWN.out.mono ?_)
  rintro e w2 ⟨v2, rfl, hs2, hb2⟩
  have hb12 := b1.trans (hb2.mono hs1)
  obtain ⟨A2, cap2, rfl, lv2, mv2, sv2⟩ := hs2
  have mv2' : cap2 ≤ 9223372036854775807 := by unfold maxLen at mv2; omega
  have HSV := Lib.hid sv2
  generalize hwl2 : wantsAll f ⟨op, dst, a, b, c, k⟩ = wl at *
  have HWL := Lib.hid hwl2
  clear c0 c1 c2 c3 c4 c5 f0 f1 f2 f3 f4 f5 hb2 b1 sv2 hwl2 HWN rF rX hs1
  go_wp2_with fail
  go_loopw [13] (fun i wr => ∃ j : Nat, j ≤ wl.length ∧ i = .int .i64 j ∧ Hid (∀ i, i < j → ∀ n, wl[i]? = some n → bGet ds n = true) ∧ w2 = wr) (fun i _ => wl.length - (intOf i).toNat)
  case atStart => exact ⟨0, Nat.zero_le _, rfl, fun j h => absurd h (by omega), rfl⟩
  case round =>
    obtain ⟨j, hj, rfl, HP, rfl⟩ := hrel
    by_cases hlt : j < wl.length
    · obtain ⟨b3, off3, n, rfl, hb3, hn, wn, e0⟩ := HSV.out.int hlt
      have hWn := HWA.out n (List.mem_of_getElem? hn)
      have HNn := Lib.hid hn
      obtain ⟨m, rfl⟩ := Int.eq_ofNat_of_zero_le hWn.1
      have hml : m < f.wires.length := by have := hWn.2; omega
      have hml' : (m : Int) < f.wires.length := by omega
      have y0 := ds_cell (HR.out _ hb12) (n := m) (by rw [HDL.out]; exact hml)
      generalize hV : bGet ds (m : Int) = V at y0
      have HV' := Lib.hid hV
      clear hn hWn hV
      cases V
      · have HF : Hid (cB (∀ n ∈ wantsAll f ⟨op, dst, a, b, c, k⟩, bGet ds n = true) = false) := cB_false (fun g => by rw [HWL.out] at g; have := g _ (List.mem_of_getElem? HNn.out); rw [HV'.out] at this; cases this)
        go_wp2_with fail
        go_ret
        exact ⟨ret_bool HF.out.symm, hb12⟩
      · have HP' := Lib.hid (upto_succ HP.out (fun n' hn' => by rw [HNn.out] at hn'; injection hn' with hn'; rw [← hn']; exact HV'.out))
        go_wp2_with fail
        go_roundw
        case rel => exact ⟨j + 1, by omega, by go_num, HP', trivial⟩
        case measure => first | (simp [intOf]; omega) | simp [intOf]
    obtain rfl : j = wl.length := by omega
    have HF : Hid (cB (∀ n ∈ wantsAll f ⟨op, dst, a, b, c, k⟩, bGet ds n = true) = true) := cB_true (by rw [HWL.out]; exact all_upto HP.out)
    go_wp2_with fail
    go_ret
    exact ⟨ret_bool HF.out.symm, hb12⟩
def ThereIs (f : Fm) (w : World) (e : Ending) (w' : World) : Prop := ∃ D ds, e = .returned (.slice (some ⟨D, 0, none⟩) f.wires.length f.wires.length) ∧ w.heap.size ≤ D ∧ Row w' D (bls ds).toArray 4 ∧ HaveSt f f.ins ds ∧ Below w.heap.size w w'
set_option maxRecDepth 100000 in
set_option maxHeartbeats 4000000 in
theorem there_any {w : World} {B : Nat} {f : Fm} {vw va vc vk vi vo : Value} (h : FmAt w B f vw va vc vk vi vo) (hB : B ≤ w.heap.size) (hwl : f.wires.length ≤ 1600) (hins : ∀ n ∈ f.ins, isW f n) :
    Calls Try.prog 63 #[fmV vw va vc vk vi vo] w (ThereIs f w) := by
  obtain ⟨Aw, cw, rfl, lw, mw, sw⟩ := h.wires
  obtain ⟨Ai, ci, rfl, li, mi, si⟩ := h.ins
  have mw' : cw ≤ 9223372036854775807 := by unfold maxLen at mw; omega
  have mi' : ci ≤ 9223372036854775807 := by unfold maxLen at mi; omega
  have mk := make_bools f.wires.length (by omega) (by omega)
  have HSI := Lib.hid (fun W (hW : Below w.heap.size w W) => si.below (hW.mono hB))
  have HI := Lib.hid hins
  clear h sw si hins
  go_enter Try.func63, Try.ntmps63
  go_upto_region 2 with (fail)
  have b1 : Below w.heap.size w ((w.alloc (.cells #[.slice Aw f.wires.length cw, va, vc, vk, .slice Ai f.ins.length ci, vo] 48)).alloc (.cells (Array.replicate f.wires.length (.bool false)) 4)) := bE
  have rF1 : Row ((w.alloc (.cells #[.slice Aw f.wires.length cw, va, vc, vk, .slice Ai f.ins.length ci, vo] 48)).alloc (.cells (Array.replicate f.wires.length (.bool false)) 4)) w.heap.size #[.slice Aw f.wires.length cw, va, vc, vk, .slice Ai f.ins.length ci, vo] 48 := (Row.new w _ _).alloc _
  have rD1 : Row ((w.alloc (.cells #[.slice Aw f.wires.length cw, va, vc, vk, .slice Ai f.ins.length ci, vo] 48)).alloc (.cells (Array.replicate f.wires.length (.bool false)) 4)) (w.heap.size + 1) (bls (List.replicate f.wires.length false)).toArray 4 := by
    have := rowNew2 w (.cells #[.slice Aw f.wires.length cw, va, vc, vk, .slice Ai f.ins.length ci, vo] 48) (Array.replicate f.wires.length (.bool false)) 4
    simpa [bls] using this
  generalize (w.alloc (.cells #[.slice Aw f.wires.length cw, va, vc, vk, .slice Ai f.ins.length ci, vo] 48)).alloc (.cells (Array.replicate f.wires.length (.bool false)) 4) = w1 at *
  generalize hD : w.heap.size + 1 = D at *
  generalize hG : w.heap.size = G at *
  have hs1 := b1.size
  have hGD : G ≠ D := by omega
  have hGD' : G ≤ D := by omega
  have hDlt := rD1.lt
  have HFI : Hid (∀ W, Upd (fun k => k = D) w1 W → Below G w W) := fun W hW => (b1.trans ((hW.below (B := D) (fun k hk => by omega) (by omega)).mono (by omega)))
  have HRD := Lib.hid rD1
  obtain ⟨f0, f1, f2, f3, f4, f5⟩ := rF1.six'
  clear rF1 rD1 b1 hs1 mk hD
  go_wp2_with fail
  go_loopw [13] (fun i wr => ∃ (k : Nat) (ds : List Bool), k ≤ f.ins.length ∧ i = .int .i64 k ∧ Hid (HaveSt f (f.ins.take k) ds) ∧ Row wr D (bls ds).toArray 4 ∧ Upd (fun k => k = D) w1 wr) (fun i _ => f.ins.length - (intOf i).toNat)
  case atStart => exact ⟨0, List.replicate f.wires.length false, Nat.zero_le _, rfl, (by rw [List.take_zero]; exact have_start f), HRD.out, Upd.refl _ _⟩
  case round =>
    clear f0 f1 f2 f3 f4 f5
    obtain ⟨k, ds, hk, rfl, HS, rD, uD⟩ := hrel
    have HDL := Lib.hid HS.out.1
    by_cases hlt : k < f.ins.length
    · obtain ⟨b, off, n, rfl, hbb, hx, wx, d0⟩ := (HSI.out _ (HFI.out _ uD)).int hlt
      have hw := HI.out n (List.mem_of_getElem? hx)
      have HX := Lib.hid hx
      have HW := Lib.hid hw
      obtain ⟨m, rfl⟩ := Int.eq_ofNat_of_zero_le hw.1
      have hm : m < f.wires.length := by have := hw.2; omega
      have hm' : (m : Int) < f.wires.length := by omega
      have fD := rD.frozen m
      have cD := ds_cell rD (n := m) (by rw [HDL.out]; exact hm)
      have rD6 := Lib.hid (ds_set (m := m) rD true)
      have uD6 := Lib.hid (Upd.setCell (X := fun k => k = D) (p := ⟨D, m, none⟩) uD rfl (.bool true))
      have HS' : Hid (HaveSt f (f.ins.take (k + 1)) (ds.set m true)) := (HS.out.set HW.out).congr (fun q => by
        rw [take_snoc' HX.out]; simp [or_comm])
      generalize bGet ds (m : Int) = V at cD
      clear hx hw rD
      go_wp2_with fail
      go_roundw
      case rel => exact ⟨k + 1, ds.set m true, by omega, by go_num, HS'.out, rD6.out, uD6.out⟩
      case measure => simp [intOf]; omega
    obtain rfl : k = f.ins.length := by omega
    have HH : Hid (HaveSt f f.ins ds) := by have := HS.out; rwa [List.take_length] at this
    go_wp2_with fail
    go_ret
    exact ⟨D, ds, rfl, by omega, rD, HH.out, by rw [hG]; exact HFI.out _ uD⟩
end Go.Proofs.Ytbjaejgechadpaa
namespace Go.Proofs.Ytbjaejgechadpaa
open Go.RowKit Vf Fo
attribute [local go_sem ↓] Go.wp_at_zero Go.wp_at_succ
def acC (x : Ac) : List Value := [.int .i64 x.op, .int .i64 x.dst, .int .i64 x.a, .int .i64 x.b, .int .i64 x.c, .int .i64 x.k]
theorem acC_of (x : Ac) (cs : List Value) (h : isAc x cs) : cs = acC x := h.1
theorem acC_len (x : Ac) : (acC x).length = 6 := rfl
theorem acC_one (x : Ac) : ∀ u ∈ acC x, u.oneCell' = true := by
  intro u hu
  simp only [acC, List.mem_cons, List.not_mem_nil, or_false] at hu
  rcases hu with rfl | rfl | rfl | rfl | rfl | rfl <;> rfl
theorem info_ac : (Try.prog.info? 91).map (fun i => (i.zero, i.size, i.bytes)) = some (some (.agg #[.int .i64 0, .int .i64 0, .int .i64 0, .int .i64 0, .int .i64 0, .int .i64 0]), 6, 48) := by kernel_rfl
set_option maxRecDepth 100000 in
set_option maxHeartbeats 1000000 in
theorem clone_ac (l : List Ac) (v : Value) (w : World) (h : SlV w w.heap.size 6 isAc v l) (hl : l.length ≤ 100000) :
    Calls Try.prog 64 #[v] w (CloneIs 91 6 acC l w) := by
  obtain ⟨A, cap, rfl, h1, h2, h3⟩ := h
  have hq := fun (w : World) (a : Option Addr) (n c : Nat) => Lib.run_eql_slice_nil (P := Try.prog) w 45 91 a n c 0 0 Try.underlying45
  rcases A with _ | ad
  · have h0 := h3.none
    subst h0
    go_enter Try.func64, Try.ntmps64
    go_wp2_with fail
    go_ret
    exact ⟨_, rfl, ⟨by simp, .inl ⟨rfl, rfl⟩⟩, Below.refl _ _⟩
  · have hN := (h3.below ((Below.refl _ _).alloc (Nat.le_refl _) (.cells #[] 91))).flatA acC_of acC_len
    have HL := Lib.hid (flat_len (size := 6) (l := l) acC_len)
    have HO := Lib.hid (flat_one acC_one l)
    obtain ⟨i0, hi0, hz0, hz1, hz2⟩ := info_parts info_ac
    go_enter Try.func64, Try.ntmps64
    go_wp2_with (at_builtin; refine wpList_append_own _ rfl _ _ 45 rfl w.heap.size 91 i0 (.agg #[.int .i64 0, .int .i64 0, .int .i64 0, .int .i64 0, .int .i64 0, .int .i64 0]) 6 48 Try.underlying45 hi0 hz0 hz1 hz2 rfl (by decide) _ _ _ rfl (own_empty w 91 6) ad l.length cap (l.map acC).flatten rfl ?c0 ?c1 ?c2 ?c3 ?c4 ?c5 ?_)
    case c0 => exact HL.out
    case c1 => exact hN
    case c2 => exact HO.out
    case c3 => unfold maxLen; omega
    case c4 => omega
    case c5 => simp
    intro v' w1 hown hgrow _
    have bb := below_own ((Below.refl w.heap.size w).alloc (Nat.le_refl _) (.cells #[] 91)) (own_empty w 91 6) hgrow (by simp)
    (try simp only [Nat.zero_add, List.nil_append] at hown)
    go_wp2_with fail
    go_ret
    exact ⟨_, rfl, hown, bb⟩
/-! ### rows set in part -/
theorem row_setCells {g : Nat} {t : TypeId} : ∀ (vs : List Value) (o : Nat) (w : World) (cur : List Value), o + vs.length ≤ cur.length → Row w g cur.toArray t → Row (w.setCells g o vs) g (cur.take o ++ vs ++ cur.drop (o + vs.length)).toArray t
  | [], o, _, cur, _, h => by simpa [World.setCells] using h
  | v :: r, o, w, cur, hl, h => by
    simp only [List.length_cons] at hl
    have h1 := h.set o v
    rw [List.setIfInBounds_toArray] at h1
    have h2 := row_setCells r (o + 1) _ (cur.set o v) (by simp; omega) h1
    have e : cur.take o ++ (v :: r) ++ cur.drop (o + (v :: r).length) = (cur.set o v).take (o + 1) ++ r ++ (cur.set o v).drop (o + 1 + r.length) := by
      have ho : o < cur.length := by omega
      rw [List.take_set, List.drop_set_of_lt (by omega), List.take_add_one, List.getElem?_eq_getElem ho, Option.toList_some, List.set_append_right _ _ (by simp; omega)]
      simp [Nat.min_eq_left (show o ≤ cur.length by omega), show o + (r.length + 1) = o + 1 + r.length by omega]
    rw [e]
    exact h2
theorem upd_setCells {g : Nat} {a : World} : ∀ (vs : List Value) (o : Nat) (w : World), Upd (fun k => k = g) a w → Upd (fun k => k = g) a (w.setCells g o vs)
  | [], _, _, h => h
  | v :: r, o, _, h => upd_setCells r (o + 1) _ (Upd.setCell h (p := ⟨g, o, none⟩) rfl v)
def acF (l : List Ac) : List Value := (l.map acC).flatten
theorem acF_len (l : List Ac) : (acF l).length = l.length * 6 := by
  unfold acF
  rw [flatten_len (k := 6) (by intro cs h; obtain ⟨x, _, rfl⟩ := List.mem_map.1 h; rfl), List.length_map]
theorem acF_append (l m : List Ac) : acF (l ++ m) = acF l ++ acF m := by simp [acF]
theorem acF_one (l : List Ac) : ∀ u ∈ acF l, u.oneCell' = true := flat_one acC_one l
theorem zero_ac (w : World) : (zeroValue 91).run Try.prog w = .ok (.agg #[.int .i64 0, .int .i64 0, .int .i64 0, .int .i64 0, .int .i64 0, .int .i64 0]) w := by kernel_rfl
def zs6 : List Value := List.replicate 6 (.int .i64 0)
theorem run_clear_ac (w : World) (g o c : Nat) (ty : TypeId) (hc : ∀ j, j < 6 → (w.cell? ⟨g, o + j, none⟩).isSome = true) (hf : ∀ j, j < 6 → w.frozen? ⟨g, o + j, none⟩ = false) :
    (Builtin.clear_ #[45] ty #[.slice (some ⟨g, o, none⟩) 1 c]).run Try.prog w = .ok (.tuple #[]) (w.setCells g o zs6) := by
  have hzc : (Builtin.zeroCells (Value.agg #[.int .i64 0, .int .i64 0, .int .i64 0, .int .i64 0, .int .i64 0, .int .i64 0]).cells 1).toList = zs6 := by kernel_rfl
  have hst := run_storeCells_cells (P := Try.prog) g o zs6 0 w (by simpa [zs6] using hc) (by simpa [zs6] using hf) (by intro v hv'; rw [List.eq_of_mem_replicate hv']; rfl)
  simp only [Nat.add_zero] at hst
  simp [Builtin.clear_, run_underlying Try.underlying45, hzc, hst]
set_option maxRecDepth 1000000 in
set_option maxHeartbeats 4000000 in
theorem delete_ac {w : World} {base g cap : Nat} {l1 l2 : List Ac} {x : Ac} (h : w.ownsRow base 91 6 (.slice (some ⟨g, 0, none⟩) (l1.length + 1 + l2.length) cap) (l1.length + 1 + l2.length) (acF (l1 ++ x :: l2))) :
    Calls Try.prog 66 #[.slice (some ⟨g, 0, none⟩) (l1.length + 1 + l2.length) cap, .int .i64 l1.length, .int .i64 (l1.length + 1 : Nat)] w fun e w' => e = .returned (.slice (some ⟨g, 0, none⟩) (l1.length + l2.length) cap) ∧ w'.ownsRow base 91 6 (.slice (some ⟨g, 0, none⟩) (l1.length + l2.length) cap) (l1.length + l2.length) (acF (l1 ++ l2)) ∧ Upd (fun k => k = g) w w' := by
  obtain ⟨i0, hi0, hz0, hz1, hz2⟩ := info_parts info_ac
  rcases h with ⟨hlen, ⟨h0, _⟩ | ⟨g', cap', cur, hv, hb, hg, hcap, hm, hcs, ht⟩⟩
  · cases h0
  injection hv with hv1 _ hv3
  injection hv1 with hv1
  injection hv1 with hv1
  subst hv1; subst hv3
  obtain ⟨cur⟩ := cur
  have hr : Row w g cur.toArray 91 := hg
  have hcl : cur.length = cap * 6 := hcs
  have htk : cur.take ((l1.length + 1 + l2.length) * 6) = acF l1 ++ (acC x ++ acF l2) := by
    have : cur.take ((l1.length + 1 + l2.length) * 6) = acF (l1 ++ x :: l2) := ht
    rw [this, acF_append]
    rfl
  generalize hn : l1.length = i at *
  generalize hk : l2.length = k at *
  have hd : ∀ j u, (acF l2)[j]? = some u → cur[(i + 1) * 6 + j]? = some u := by
    intro j u hj
    have hjl := (List.getElem?_eq_some_iff.1 hj).1
    rw [acF_len, hk] at hjl
    have : (cur.take ((i + 1 + k) * 6))[(i + 1) * 6 + j]? = some u := by
      rw [htk, List.getElem?_append_right (by rw [acF_len, hn]; omega), List.getElem?_append_right (by rw [acF_len, hn, acC_len]; omega), acF_len, hn, acC_len, show (i + 1) * 6 + j - i * 6 - 6 = j by omega]
      exact hj
    rwa [List.getElem?_take_of_lt (by omega)] at this
  obtain ⟨A, hA, hnews⟩ : ∃ A : Addr, (if cap = i + 1 then some (⟨g, 0, none⟩ : Addr) else some ⟨g, (i + 1) * 6, none⟩) = some A ∧ Hid (∀ j u, (acF l2)[j]? = some u → w.drew.cell? (A.add j) = some u) := by
    by_cases c : cap = i + 1
    · refine ⟨⟨g, 0, none⟩, by simp [c], fun j u hu => ?_⟩
      have : l2 = [] := List.eq_nil_of_length_eq_zero (by omega)
      subst this
      simp [acF] at hu
    · refine ⟨⟨g, (i + 1) * 6, none⟩, by simp [c], fun j u hu => ?_⟩
      rw [Addr.add_lit]
      have := hr.cell ((i + 1) * 6 + j)
      show w.cell? _ = _
      rw [this]
      simpa using hd j u hu
  have s1 : Hid ((acF l2).length = k * 6) := by show _ = _; rw [acF_len, hk]
  have s2 : Hid (∀ u ∈ acF l2, u.oneCell' = true) := acF_one l2
  have s3 : Hid (∀ j, j < (acF l2).length → (w.drew.cell? ⟨g, 0 + i * 6 + j, none⟩).isSome = true ∧ w.drew.frozen? ⟨g, 0 + i * 6 + j, none⟩ = false) := by
    intro j hj
    rw [acF_len, hk] at hj
    refine ⟨?_, hr.frozen _⟩
    have := hr.cell (0 + i * 6 + j)
    show (w.cell? _).isSome = true
    rw [this]
    simp
    omega
  have hic : i ≤ cap := by omega
  obtain ⟨W1, hW1⟩ : ∃ W1, W1 = w.drew.setCells g (0 + i * 6) (acF l2) := ⟨_, rfl⟩
  have hW : Hid (W1 = w.drew.setCells g (0 + i * 6) (acF l2)) := hW1
  obtain ⟨M, hM⟩ : ∃ M, M = cur.take (i * 6) ++ acF l2 ++ cur.drop (i * 6 + (acF l2).length) := ⟨_, rfl⟩
  have r1 : Row W1 g M.toArray 91 := by
    rw [hW1, Nat.zero_add, hM]
    exact row_setCells _ _ _ _ (by rw [acF_len, hk, hcl]; omega) hr
  have hl1 : M.length = cap * 6 := by
    rw [hM]
    simp only [List.length_append, List.length_take, List.length_drop, acF_len, hk, hcl]; omega
  have u1 : Upd (fun k => k = g) w W1 := by rw [hW1]; exact upd_setCells _ _ _ (Upd.refl _ _).drew
  obtain ⟨W2, hW2⟩ : ∃ W2, W2 = W1.setCells g ((i + k) * 6) zs6 := ⟨_, rfl⟩
  have u2 : Upd (fun k => k = g) w W2 := by rw [hW2]; exact upd_setCells _ _ _ u1
  have r2 : Row W2 g (M.take ((i + k) * 6) ++ zs6 ++ M.drop ((i + k) * 6 + zs6.length)).toArray 91 := by
    rw [hW2]
    exact row_setCells zs6 ((i + k) * 6) _ _ (by rw [hl1]; simp [zs6]; omega) r1
  have HO : Hid (W2.ownsRow base 91 6 (.slice (some ⟨g, 0, none⟩) (i + k) cap) (i + k) (acF (l1 ++ l2))) := by
    refine ⟨by rw [acF_len, List.length_append, hn, hk], .inr ⟨g, cap, _, rfl, hb, r2, by omega, hm, ?_, ?_⟩⟩
    · simp only [List.size_toArray, List.length_append, List.length_take, List.length_drop, hl1, zs6, List.length_replicate]; omega
    · rw [List.toList_toArray]
      have e1 : cur.take (i * 6) = acF l1 := by
        have := congrArg (List.take (i * 6)) htk
        rw [List.take_take, Nat.min_eq_left (by omega), List.take_append_of_le_length (by rw [acF_len, hn]; exact Nat.le_refl _)] at this
        rw [this]
        exact List.take_of_length_le (by rw [acF_len, hn]; exact Nat.le_refl _)
      have l3 : ((i + k) * 6) = (cur.take (i * 6) ++ acF l2).length := by simp only [List.length_append, List.length_take, acF_len, hk, hcl]; omega
      rw [List.append_assoc, List.take_append_of_le_length (by rw [List.length_take, hl1]; omega), List.take_take, Nat.min_self, hM, l3, List.take_left, e1, acF_append]
  have hcl1 : ∀ ty, (Builtin.clear_ #[45] ty #[.slice (some ⟨g, (i + k) * 6, none⟩) (i + 1 + k - (i + k)) (cap - (i + k))]).run Try.prog W1 = .ok (.tuple #[]) W2 := by
    intro ty
    rw [show i + 1 + k - (i + k) = 1 by omega, hW2]
    refine run_clear_ac W1 g _ _ ty (fun j hj => ?_) (fun j _ => r1.frozen _)
    rw [r1.cell]
    simp only [List.getElem?_toArray, Option.isSome_iff_exists]
    exact ⟨_, List.getElem?_eq_getElem (by rw [hl1]; omega)⟩
  have HU := Lib.hid u2
  clear hW2 u2
  have mm : cap ≤ 9223372036854775807 := by unfold maxLen at hm; omega
  have hp0 : (0 : Int) ≤ (i : Int) + 1 := by omega
  have hp1 : (i : Int) + 1 ≤ (i : Int) + 1 + (k : Int) := by omega
  clear hW1 r1 hl1 u1 r2
  go_enter Try.func66, Try.ntmps66
  go_wp2_with fail
  go_region_law (refine step_append_room rfl (.tmp 22) (.tmp 25) 45 rfl 91 i0 6 Try.underlying45 hi0 hz1 g 0 i cap (by simp [Act.eval, Act.put]) A k (cap - (i + 1)) (acF l2) (by simp [Act.eval, Act.put]) s1.out hnews.out s2.out (by omega) s3.out ?_; rw [← hW.out])
  go_wp2_with fail
  go_ret
  exact ⟨rfl, HO.out, HU.out⟩
end Go.Proofs.Ytbjaejgechadpaa
namespace Go.Proofs.Ytbjaejgechadpaa
open Go.RowKit Vf Fo
attribute [local go_sem ↓] Go.wp_at_zero Go.wp_at_succ
theorem getI_drop {α : Type} {l : List α} {k : Nat} {x : α} (h : l[k]? = some x) : l.drop k = x :: l.drop (k + 1) := by
  obtain ⟨hk, rfl⟩ := List.getElem?_eq_some_iff.1 h
  exact List.drop_eq_getElem_cons hk
set_option maxRecDepth 100000 in
set_option maxHeartbeats 4000000 in
theorem ordered_any (f : Fm) (vw va vc vk vi vo : Value) (w : World) (h : FmAt w w.heap.size f vw va vc vk vi vo) (hcl : f.cells.length ≤ 1600) :
    Calls Try.prog 27 #[fmV vw va vc vk vi vo] w fun e w' => e = .returned (.bool (cB (orderedOk f))) ∧ Below w.heap.size w w' := by
  have b1 : Below w.heap.size w (w.alloc (.cells #[vw, va, vc, vk, vi, vo] 48)) := bE
  have rF := Row.new w #[vw, va, vc, vk, vi, vo] 48
  have HR := Lib.hid (nright_any f vw va vc vk vi vo _ (h.next b1) hcl)
  have HFM := Lib.hid (fun W (hW : Below w.heap.size w W) => h.below hW)
  obtain ⟨Aa, ca, rfl, la, ma, sa⟩ := h.acts
  have ma' : ca ≤ 9223372036854775807 := by unfold maxLen at ma; omega
  have HSA := Lib.hid (fun W (hW : Below w.heap.size w W) => sa.below hW)
  clear h hcl sa
  go_enter Try.func27, Try.ntmps27
  go_upto_region 1 with (fail)
  generalize w.alloc (.cells #[vw, .slice Aa f.acts.length ca, vc, vk, vi, vo] 48) = w1 at *
  have hs1 := b1.size
  have hGl := rF.lt
  obtain ⟨f0, f1, f2, f3, f4, f5⟩ := rF.six'
  by_cases hf : formOk f
  rotate_left 1
  · have HF : Hid (cB (orderedOk f) = false) := cB_false (fun g => hf g.1)
    rw [cB_false hf] at HR
    clear hf
    go_wp2_with fail
    (with_reducible refine HR.out.mono ?_)
    rintro e w2 ⟨rfl, hb2⟩
    go_wp2_with fail
    go_ret
    exact ⟨ret_bool HF.out.symm, b1.trans (hb2.mono hs1)⟩
  have HOK := Lib.hid hf
  rw [cB_true hf] at HR
  clear hf
  go_wp2_with fail
  (with_reducible refine HR.out.mono ?_)
  rintro e w2 ⟨rfl, hb2⟩
  have b2 := b1.trans (hb2.mono hs1)
  have rF2 := rF.below hb2 hGl
  have hs2 := b2.size
  have hG2 := rF2.lt
  clear f0 f1 f2 f3 f4 f5 rF HR hb2
  obtain ⟨f0, f1, f2, f3, f4, f5⟩ := rF2.six'
  have HT := Lib.hid (there_any (HFM.out _ b2) hs2 HOK.out.1.2.2 (fun n hn => (HOK.out.2.1.1 n hn).1))
  go_wp2_with fail
  (with_reducible refine HT.out.mono ?_)
  rintro e w3 ⟨D, ds0, rfl, hD, rD, hH, hb3⟩
  have HH := Lib.hid hH
  have HRD := Lib.hid rD
  have b3 := b2.trans (hb3.mono hs2)
  have rF3 := rF2.below hb3 hG2
  have hGD : w.heap.size ≠ D := by omega
  have hDlt := rD.lt
  have hs3 := b3.size
  have HW : Hid (∀ W, Upd (fun k => k = D) w3 W → Below w.heap.size w W ∧ Row W w.heap.size #[vw, .slice Aa f.acts.length ca, vc, vk, vi, vo] 48) := fun W hW =>
    ⟨b3.trans ((hW.below (B := w.heap.size) (fun k hk => by omega) (by omega))), hW.row rF3 hGD⟩
  clear f0 f1 f2 f3 f4 f5 HT hb3 hH rD b1 b2 rF2 hs1
  obtain ⟨f0, f1, f2, f3, f4, f5⟩ := rF3.six'
  clear rF3
  go_wp2_with fail
  go_loopw [14] (fun i wr => ∃ (k : Nat) (H : List Int) (ds : List Bool), k ≤ f.acts.length ∧ i = .int .i64 k ∧ Hid (HaveSt f H ds) ∧ Hid (ordFrom f f.ins f.acts ↔ ordFrom f H (f.acts.drop k)) ∧ Row wr D (bls ds).toArray 4 ∧ Upd (fun k => k = D) w3 wr) (fun i _ => f.acts.length - (intOf i).toNat)
  case atStart => exact ⟨0, f.ins, ds0, Nat.zero_le _, rfl, HH.out, (by rw [List.drop_zero]; exact Iff.rfl), HRD.out, Upd.refl _ _⟩
  case round =>
    clear f0 f1 f2 f3 f4 f5 HH HRD
    obtain ⟨k, H, ds, hk, rfl, HS, HI, rD, uD⟩ := hrel
    obtain ⟨bw, rFr⟩ := HW.out _ uD
    have HDL := Lib.hid HS.out.1
    by_cases hlt : k < f.acts.length
    rotate_left 1
    · obtain rfl : k = f.acts.length := by omega
      have HF : Hid (cB (orderedOk f) = true) := cB_true ⟨HOK.out, HI.out.2 (by rw [List.drop_length]; trivial)⟩
      clear rFr
      go_wp2_with fail
      go_ret
      exact ⟨ret_bool HF.out.symm, bw⟩
    obtain ⟨b, off, ⟨xo, xd, xa, xb, xc, xk⟩, hAa, hbb, hx, wx, d0, d1, d2', d3, d4, d5⟩ := (HSA.out _ bw).ac hlt
    subst hAa
    have HX := Lib.hid hx
    have HAC := Lib.hid (ac_ok HOK.out (List.mem_of_getElem? hx))
    have hdst := HAC.out.dst
    obtain ⟨m, rfl⟩ := Int.eq_ofNat_of_zero_le (show 0 ≤ xd from hdst.1)
    have hm : m < f.wires.length := by have := hdst.2; dsimp only at this; omega
    have hm' : (m : Int) < f.wires.length := by omega
    dsimp only at d0 d1 d2' d3 d4 d5
    have r9 := Row.new wr #[.int .i64 xo, .int .i64 (m : Int), .int .i64 xa, .int .i64 xb, .int .i64 xc, .int .i64 xk] 91
    have u4 : Upd (fun k => k = D) w3 (wr.alloc (.cells #[.int .i64 xo, .int .i64 (m : Int), .int .i64 xa, .int .i64 xb, .int .i64 xc, .int .i64 xk] 91)) := uD.alloc _
    have rD4 := rD.alloc (.cells #[.int .i64 xo, .int .i64 (m : Int), .int .i64 xa, .int .i64 xb, .int .i64 xc, .int .i64 xk] 91)
    have hDr := rD.lt
    clear hx hdst rD rFr bw
    go_upto_region 7 with (fail)
    generalize hg9 : wr.heap.size = g9 at *
    generalize wr.alloc (.cells #[.int .i64 xo, .int .i64 (m : Int), .int .i64 xa, .int .i64 xb, .int .i64 xc, .int .i64 xk] 91) = w4 at *
    clear d0 d1 d2' d3 d4 d5
    obtain ⟨b4, rF4⟩ := HW.out _ u4
    have hs4 := b4.size
    have HR := Lib.hid (oready_any (HFM.out _ b4) hs4 ⟨xo, (m : Int), xa, xb, xc, xk⟩ wx HAC.out D ds rD4 HDL.out)
    have HQ := Lib.hid (ready_iff HS.out HAC.out.wants)
    obtain ⟨c0, c1, c2, c3, c4, c5⟩ := r9.six'
    obtain ⟨f0, f1, f2, f3, f4, f5⟩ := rF4.six'
    have hDl4 := rD4.lt
    have hg9l := r9.lt
    have hgD : g9 ≠ D := by omega
    clear wx hg9 hDr
    by_cases hr : ∀ n ∈ wantsAll f ⟨xo, (m : Int), xa, xb, xc, xk⟩, bGet ds n = true
    rotate_left 1
    · have HF : Hid (cB (orderedOk f) = false) := cB_false (fun g => by
        have h1 := HI.out.1 g.2
        rw [getI_drop HX.out] at h1
        exact hr (HQ.out.2 h1.1))
      rw [cB_false hr] at HR
      clear hr
      go_wp2_with fail
      (with_reducible refine HR.out.mono ?_)
      rintro e w5 ⟨rfl, hb5⟩
      have u5 := u4.trans (Upd.of_below hb5)
      clear c0 c1 c2 c3 c4 c5 f0 f1 f2 f3 f4 f5
      go_wp2_with fail
      go_ret
      exact ⟨ret_bool HF.out.symm, (HW.out _ u5).1⟩
    have HI' : Hid (ordFrom f f.ins f.acts ↔ ordFrom f ((m : Int) :: H) (f.acts.drop (k + 1))) := by
      refine HI.out.trans ?_
      rw [getI_drop HX.out]
      exact ⟨fun g => g.2, fun g => ⟨HQ.out.1 hr, g⟩⟩
    have HS' : Hid (HaveSt f ((m : Int) :: H) (ds.set m true)) := HS.out.set HAC.out.dst
    rw [cB_true hr] at HR
    clear hr
    go_wp2_with fail
    (with_reducible refine HR.out.mono ?_)
    rintro e w5 ⟨rfl, hb5⟩
    have u5 := u4.trans (Upd.of_below hb5)
    have rD5 := rD4.below hb5 hDl4
    clear c0 c1 c2 c3 c4 c5 f0 f1 f2 f3 f4 f5
    obtain ⟨c0, c1, c2, c3, c4, c5⟩ := (r9.below hb5 hg9l).six'
    obtain ⟨f0, f1, f2, f3, f4, f5⟩ := (HW.out _ u5).2.six'
    have fD := rD5.frozen m
    have cD := ds_cell rD5 (n := m) (by rw [HDL.out]; exact hm)
    have rD6 := Lib.hid (ds_set (m := m) rD5 true)
    have uD6 := Lib.hid (Upd.setCell (X := fun k => k = D) (p := ⟨D, m, none⟩) u5 rfl (.bool true))
    generalize bGet ds (m : Int) = V at cD
    clear rD5 rD4 rF4 r9 b4
    go_wp2_with fail
    go_roundw
    case rel => exact ⟨k + 1, (m : Int) :: H, ds.set m true, by omega, by go_num, HS'.out, HI'.out, rD6.out, uD6.out⟩
    case measure => simp [intOf]; omega
end Go.Proofs.Ytbjaejgechadpaa
