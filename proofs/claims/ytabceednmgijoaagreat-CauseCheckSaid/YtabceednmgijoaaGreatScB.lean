/-
  slices.Concat of lists of variables; scope.all. A node's variables: the contracts of scope.all, Var and of tompionref15.Vars, Var, Node.
-/
import Derived.Test.YtabceednmgijoaaGreatExMem
import Derived.Test.YtabceednmgijoaaGreatMem
import Derived.Test.YtabceednmgijoaaGreatTreeList
import Derived.Test.YtabceednmgijoaaGreatToken
import Derived.Outline
import Derived.Test.YtabceednmgijoaaGreatRefRight
import Derived.Deep.DeepCutAuto
namespace Go.Proofs.YtabceednmgijoaaGreat
open Go.RowKit
theorem info_var : (Tryz.prog.info? 49).map (fun i => (i.zero, i.size, i.bytes)) = some (some (.agg #[.string ⟨#[]⟩, .int .i64 0, .slice none 0 0, .int .i64 0, .int .i64 0]), 5, 64) := by kernel_rfl
theorem isVr_one {w : World} {B : Nat} {x : Vr} {cs : List Value} (h : isVr w B x cs) : cs.length = 5 ∧ ∀ u ∈ cs, u.oneCell' = true := by
  obtain ⟨A, cap, rfl, _⟩ := h
  refine ⟨rfl, fun u hu => ?_⟩
  simp only [List.mem_cons, List.not_mem_nil, or_false] at hu
  rcases hu with rfl | rfl | rfl | rfl | rfl <;> rfl
set_option maxRecDepth 100000 in
set_option maxHeartbeats 1000000 in
theorem grow_var (n : Nat) (w : World) (hn : n ≤ 100000) :
    Calls Tryz.prog 86 #[.slice none 0 0, .int .i64 n] w fun e w' => (∃ v, e = .returned v ∧ w'.ownsRow w.heap.size 49 5 v 0 []) ∧ Below w.heap.size w w' := by
  obtain ⟨i0, hi0, hz0, hz1, hz2⟩ := info_parts info_var
  rcases Nat.eq_zero_or_pos n with h0 | h0
  · subst h0
    go_enter Tryz.func86, Tryz.ntmps86
    go_wp2_with fail
    go_ret
    exact ⟨⟨_, rfl, by simp, .inl ⟨rfl, rfl⟩⟩, Below.refl _ _⟩
  · have hp : decide ((0 : Int) < (n : Int)) = true := by simpa using h0
    have hg := grownCap_ge w n 0 49
    have hm := grownCap_le_maxLen w n 0 49 (by unfold maxLen; omega)
    have hr := Lib.run_append_nil_zeros (P := Tryz.prog) w 33 3 33 49 i0 _ .i64 .i64 Tryz.underlying33 Tryz.underlying3 hi0 hz0 n h0 (by omega) (by omega) (by rw [hz2]; omega)
    have HR := Lib.hid hr
    clear hr
    generalize grownCap w n 0 49 = gc at *
    have hm' : gc ≤ 9223372036854775807 := by unfold maxLen at hm; omega
    have HS : Hid ((Builtin.zeroCells (Value.agg #[.string ⟨#[]⟩, .int .i64 0, .slice none 0 0, .int .i64 0, .int .i64 0]).cells n ++ Builtin.zeroCells (Value.agg #[.string ⟨#[]⟩, .int .i64 0, .slice none 0 0, .int .i64 0, .int .i64 0]).cells (gc - n)).size = gc * 5) := by
      show _ = _
      simp [Builtin.zeroCells, Value.cells]
      omega
    generalize Builtin.zeroCells (Value.agg #[.string ⟨#[]⟩, .int .i64 0, .slice none 0 0, .int .i64 0, .int .i64 0]).cells n ++ Builtin.zeroCells (Value.agg #[.string ⟨#[]⟩, .int .i64 0, .slice none 0 0, .int .i64 0, .int .i64 0]).cells (gc - n) = Z at *
    go_enter Tryz.func86, Tryz.ntmps86
    go_wp2_with (at_builtin; refine Lib.wpList_append_run w rfl _ _ 33 3 rfl _ _ rfl rfl _ _ HR.out ?_)
    go_ret
    exact ⟨⟨_, rfl, by simp, .inr ⟨w.heap.size, gc, Z, rfl, Nat.le_refl _, heap_alloc_new w.drew _, Nat.zero_le _, hm, HS.out, by simp⟩⟩, (Below.refl _ _).drew.alloc (Nat.le_refl _) _⟩
/-- a slice of variables, with where it lies -/
structure Vsl where
  A : Option Addr
  cap : Nat
  l : List Vr
noncomputable def catTo (ss : List Vsl) (k : Nat) : List Vr := ((ss.take k).map (·.l)).flatten
theorem catTo_succ {ss : List Vsl} {k : Nat} {s : Vsl} (h : ss[k]? = some s) : catTo ss (k + 1) = catTo ss k ++ s.l := by
  unfold catTo; rw [take_succ_map _ h]; simp
theorem catTo_le (ss : List Vsl) (k : Nat) : (catTo ss k).length ≤ (catTo ss ss.length).length := by
  unfold catTo
  conv => rhs; rw [List.take_length, ← List.take_append_drop k ss]
  rw [List.map_append, List.flatten_append, List.length_append]; omega
set_option maxRecDepth 100000 in
set_option maxHeartbeats 2000000 in
theorem concat_var (ss : List Vsl) (b B cap : Nat) (w : World) (hl : ss.length ≤ cap) (hcap : cap ≤ 10) (hlen : (catTo ss ss.length).length ≤ 10000) (hb : b < w.heap.size) (hB : B ≤ w.heap.size)
    (hrow : ∀ (k : Nat) (s : Vsl), ss[k]? = some s → w.cell? ⟨b, k, none⟩ = some (.slice s.A s.l.length s.cap)) (hss : ∀ (k : Nat) (s : Vsl), ss[k]? = some s → Vrs w B s.A s.l) :
    Calls Tryz.prog 73 #[.slice (some ⟨b, 0, none⟩) ss.length cap] w fun e w' => ∃ v css, e = .returned v ∧ w'.ownsRow w.heap.size 49 5 v (catTo ss ss.length).length css.flatten ∧ Are (isVr w' B) (catTo ss ss.length) css ∧ Below w.heap.size w w' := by
  obtain ⟨i0, hi0, hz0, hz1, hz2⟩ := info_parts info_var
  have HR := Lib.hid hrow
  have HS := Lib.hid hss
  have HC := Lib.hid (catTo_le ss)
  have HL := Lib.hid hlen
  have hsl : ss.length ≤ 10 := by omega
  clear hrow hss hlen
  go_enter Tryz.func73, Tryz.ntmps73
  go_wp2_with fail
  go_loop [3, 11] (fun t i => ∃ k : Nat, k ≤ ss.length ∧ i = .int .i64 k ∧ t = .int .i64 ((catTo ss k).length : Int)) (fun _ i => ss.length - (intOf i).toNat)
  case atStart => exact ⟨0, Nat.zero_le _, rfl, rfl⟩
  case round =>
    obtain ⟨k, hk, rfl, rfl⟩ := hrel
    have h1 := HC.out k
    have h2 := HL.out
    have h3 : (catTo ss k).length ≤ 10000 := by omega
    clear h1 h2
    by_cases hlt : k < ss.length
    · have hg := List.getElem?_eq_getElem hlt
      have c0 := HR.out k _ hg
      have HT := Lib.hid (catTo_succ hg)
      have h4 : (catTo ss k).length + ss[k].l.length ≤ 10000 := by
        have h1 := HC.out (k + 1)
        have h2 := HL.out
        rw [HT.out, List.length_append] at h1
        omega
      clear hg
      generalize ss[k] = s at *
      have HT2 : Hid ((catTo ss (k + 1)).length = (catTo ss k).length + s.l.length) := by show _ = _; rw [HT.out, List.length_append]
      clear HT
      generalize (catTo ss k).length = n at *
      have hnn : decide ((n : Int) + (s.l.length : Int) < 0) = false := by simp; omega
      go_wp2_with fail
      go_round
      case rel => exact ⟨k + 1, by omega, by go_num, by rw [HT2.out]; go_num⟩
      case measure => simp [intOf]; omega
    · obtain rfl : k = ss.length := by omega
      go_wp2_with fail
      refine (grow_var _ _ (by omega)).mono ?_
      rintro e w1 ⟨⟨v1, rfl, ho1⟩, hb1⟩
      have hw1 := hb1.size
      go_wp2_with fail
      go_loopw [6, 27] (fun v i wr => ∃ (k : Nat) (css : List (List Value)), k ≤ ss.length ∧ i = .int .i64 k ∧ wr.ownsRow w.heap.size 49 5 v (catTo ss k).length css.flatten ∧ Hid (Are (isVr wr B) (catTo ss k) css) ∧ Below w.heap.size w wr) (fun _ i _ => ss.length - (intOf i).toNat)
      case atStart => exact ⟨0, [], Nat.zero_le _, rfl, ho1, Are.nil, hb1⟩
      case round =>
        obtain ⟨k, css, hk, rfl, hown, HA, hbr⟩ := hrel
        have hszr := hbr.size
        by_cases hlt : k < ss.length
        · have hg := List.getElem?_eq_getElem hlt
          have c0 : wr.cell? ⟨b, k, none⟩ = _ := (hbr.cell (p := ⟨b, k, none⟩) hb).trans (HR.out k _ hg)
          have hs := vrs_keep (HS.out k _ hg) (keeps_of (hbr.mono hB)) (Nat.le_refl _)
          have HSS := Lib.hid hs
          have HT := Lib.hid (catTo_succ hg)
          have h4 : (catTo ss k).length + ss[k].l.length ≤ 10000 := by
            have h1 := HC.out (k + 1)
            have h2 := HL.out
            rw [HT.out, List.length_append] at h1
            omega
          clear hg hs
          generalize ss[k] = s at *
          go_wp2_with (at_builtin; refine wpList_append_sl rfl _ _ 33 rfl w.heap.size 49 i0 _ 5 64 Tryz.underlying33 hi0 hz0 hz1 hz2 rfl (by decide) _ _ _ rfl hown s.A s.l s.cap rfl HSS.out (fun _ _ h => isVr_one h) ?c3 ?c4 hszr ?_)
          case c3 => unfold maxLen; omega
          case c4 => omega
          intro v' w3 css' hown' hare' hb3 _
          have hown4 : w3.ownsRow w.heap.size 49 5 v' (catTo ss (k + 1)).length (css ++ css').flatten := by
            rw [HT.out, List.length_append, List.flatten_append]; exact hown'
          have hb4 := hbr.trans hb3
          have HA4 : Hid (Are (isVr w3 B) (catTo ss (k + 1)) (css ++ css')) := by
            show Are _ _ _
            rw [HT.out]
            exact (HA.out.append hare').mono (fun x _ cs h => isVr_keep (keeps_of (hb3.mono hB)) (Nat.le_refl _) h)
          clear hown' hare' hown HA
          go_wp2_with fail
          go_roundw
          case rel => exact ⟨k + 1, _, by omega, by go_num, hown4, HA4, hb4⟩
          case measure => simp [intOf]; omega
        · obtain rfl : k = ss.length := by omega
          go_wp2_with fail
          go_ret
          exact ⟨_, css, rfl, hown, HA.out, hbr⟩
end Go.Proofs.YtabceednmgijoaaGreat
namespace Go.Proofs.YtabceednmgijoaaGreat
open Go.RowKit
/-! ### plain: where a name is -/
def idxZ (o : Option Nat) : Int := match o with
  | some k => (k : Int)
  | none => -1
def idxOf (l : List ByteArray) (nm : ByteArray) : Int := idxZ (l.findIdx? (fun x => decide (x = nm)))
theorem idx_at {l : List ByteArray} {nm : ByteArray} {k : Nat} (h : ∀ j, j < k → ∀ x, l[j]? = some x → x ≠ nm) (hk : l[k]? = some nm) : idxOf l nm = k := by
  have : l.findIdx? (fun x => decide (x = nm)) = some k := by
    rw [List.findIdx?_eq_some_iff_getElem]
    obtain ⟨hl, he⟩ := List.getElem?_eq_some_iff.1 hk
    refine ⟨hl, by simp [he], fun j hj => ?_⟩
    have := h j hj _ (List.getElem?_eq_getElem (by omega))
    simpa using this
  rw [idxOf, this]; rfl
theorem idx_none {l : List ByteArray} {nm : ByteArray} (h : ∀ j, j < l.length → ∀ x, l[j]? = some x → x ≠ nm) : idxOf l nm = -1 := by
  have : l.findIdx? (fun x => decide (x = nm)) = none := by
    rw [List.findIdx?_eq_none_iff]
    intro x hx
    obtain ⟨j, hj⟩ := List.getElem?_of_mem hx
    have := h j (List.getElem?_eq_some_iff.1 hj).1 x hj
    simpa using this
  rw [idxOf, this]; rfl
theorem idx_cases (l : List ByteArray) (nm : ByteArray) : (∃ k : Nat, idxOf l nm = k ∧ l[k]? = some nm ∧ ∀ j, j < k → ∀ x, l[j]? = some x → x ≠ nm) ∨ (idxOf l nm = -1 ∧ nm ∉ l) := by
  cases h : l.findIdx? (fun x => decide (x = nm)) with
  | none =>
    refine .inr ⟨by rw [idxOf, h]; rfl, fun hm => ?_⟩
    rw [List.findIdx?_eq_none_iff] at h
    have := h nm hm
    simp at this
  | some k =>
    refine .inl ⟨k, by rw [idxOf, h]; rfl, ?_⟩
    obtain ⟨hl, he, hj⟩ := List.findIdx?_eq_some_iff_getElem.1 h
    refine ⟨by rw [List.getElem?_eq_getElem hl]; congr 1; simpa using he, fun j hj' x hx => ?_⟩
    obtain ⟨hl', rfl⟩ := List.getElem?_eq_some_iff.1 hx
    have := hj j hj'
    simpa using this
theorem idx_mem {l : List ByteArray} {nm : ByteArray} : 0 ≤ idxOf l nm ↔ nm ∈ l := by
  rcases idx_cases l nm with ⟨k, h1, h2, _⟩ | ⟨h1, h2⟩
  · rw [h1]; exact ⟨fun _ => List.mem_of_getElem? h2, fun _ => by omega⟩
  · rw [h1]; exact ⟨fun h => absurd h (by decide), fun h => absurd h h2⟩
/-- a node's variable of a name: which, and where -/
def varIdx (n : Nd) (nm : ByteArray) : Int := idxOf ((vrs n).map (·.name)) nm
def nodeIdx (s : List Nd) (nm : ByteArray) : Int := idxOf (s.map (·.name)) nm
structure VrSm (x : Vr) : Prop where
  name : x.name.size ≤ 30
  clock : x.clock.length ≤ 6
  names : ∀ c ∈ x.clock, c.name.size ≤ 30
structure EqnSm (q : Eqn) : Prop where
  left : q.left.length ≤ 12
  names : ∀ x ∈ q.left, x.size ≤ 30
  right : Small q.right
structure NdSm (n : Nd) : Prop where
  name : n.name.size ≤ 30
  ins : n.ins.length ≤ 50
  outs : n.outs.length ≤ 50
  vars : n.vars.length ≤ 50
  eqs : n.eqs.length ≤ 60
  all : ∀ v ∈ vrs n, VrSm v
  eq : ∀ q ∈ n.eqs, EqnSm q
theorem NdSm.len {n : Nd} (h : NdSm n) : (vrs n).length ≤ 150 := by
  have := h.ins; have := h.outs; have := h.vars
  simp only [vrs, List.length_append]; omega
/-! ### rows of cells -/
section
variable {W : World} {b : Nat}
abbrev ndArr (n : Nd) (a : NdA) : Array Value := #[.string n.name, .slice a.ai n.ins.length a.ci, .slice a.ao n.outs.length a.co, .slice a.av n.vars.length a.cv, .slice a.aq n.eqs.length a.cq, .int .i64 n.line, .int .i64 n.col]
theorem Row.nd {n : Nd} {a : NdA} {t : TypeId} (h : Row W b (ndArr n a) t) : W.cell? ⟨b, 0, none⟩ = some (.string n.name) ∧ W.cell? ⟨b, 1, none⟩ = some (.slice a.ai n.ins.length a.ci) ∧ W.cell? ⟨b, 2, none⟩ = some (.slice a.ao n.outs.length a.co) ∧
    W.cell? ⟨b, 3, none⟩ = some (.slice a.av n.vars.length a.cv) ∧ W.cell? ⟨b, 4, none⟩ = some (.slice a.aq n.eqs.length a.cq) ∧ W.cell? ⟨b, 5, none⟩ = some (.int .i64 n.line) ∧ W.cell? ⟨b, 6, none⟩ = some (.int .i64 n.col) :=
  ⟨(h.cell 0).trans rfl, (h.cell 1).trans rfl, (h.cell 2).trans rfl, (h.cell 3).trans rfl, (h.cell 4).trans rfl, (h.cell 5).trans rfl, (h.cell 6).trans rfl⟩
abbrev vrArr (x : Vr) (A : Option Addr) (cap : Nat) : Array Value := #[.string x.name, .int .i64 x.ty, .slice A x.clock.length cap, .int .i64 x.line, .int .i64 x.col]
abbrev vrV (x : Vr) (A : Option Addr) (cap : Nat) : Value := .agg #[.string x.name, .int .i64 x.ty, .slice A x.clock.length cap, .int .i64 x.line, .int .i64 x.col]
theorem Row.vr {x : Vr} {A : Option Addr} {cap : Nat} {t : TypeId} (h : Row W b (vrArr x A cap) t) : W.cell? ⟨b, 0, none⟩ = some (.string x.name) ∧ W.cell? ⟨b, 1, none⟩ = some (.int .i64 x.ty) ∧ W.cell? ⟨b, 2, none⟩ = some (.slice A x.clock.length cap) ∧
    W.cell? ⟨b, 3, none⟩ = some (.int .i64 x.line) ∧ W.cell? ⟨b, 4, none⟩ = some (.int .i64 x.col) :=
  ⟨(h.cell 0).trans rfl, (h.cell 1).trans rfl, (h.cell 2).trans rfl, (h.cell 3).trans rfl, (h.cell 4).trans rfl⟩
theorem Row.five {x0 x1 x2 x3 x4 : Value} {t : TypeId} (h : Row W b #[x0, x1, x2, x3, x4] t) : (W.cell? ⟨b, 0, none⟩ = some x0 ∧ W.cell? ⟨b, 1, none⟩ = some x1 ∧ W.cell? ⟨b, 2, none⟩ = some x2 ∧ W.cell? ⟨b, 3, none⟩ = some x3 ∧ W.cell? ⟨b, 4, none⟩ = some x4) ∧
    (W.frozen? ⟨b, 0, none⟩ = false ∧ W.frozen? ⟨b, 1, none⟩ = false ∧ W.frozen? ⟨b, 2, none⟩ = false ∧ W.frozen? ⟨b, 3, none⟩ = false ∧ W.frozen? ⟨b, 4, none⟩ = false) :=
  ⟨⟨(h.cell 0).trans rfl, (h.cell 1).trans rfl, (h.cell 2).trans rfl, (h.cell 3).trans rfl, (h.cell 4).trans rfl⟩, h.frozen 0, h.frozen 1, h.frozen 2, h.frozen 3, h.frozen 4⟩
end
/-- a row of variables of the call's own -/
def VrsOwn (B : Nat) (w w' : World) (l : List Vr) (v : Value) : Prop := ∃ css, w'.ownsRow w.heap.size 49 5 v l.length css.flatten ∧ Are (isVr w' B) l css
theorem VrsOwn.sl {B : Nat} {w w' : World} {l : List Vr} {v : Value} (h : VrsOwn B w w' l v) : ∃ A cap, v = .slice A l.length cap ∧ l.length ≤ cap ∧ cap ≤ maxLen ∧ Sl w' w'.heap.size 5 (isVr w' B) A l := by
  obtain ⟨css, h1, h2⟩ := h
  obtain ⟨⟨A, cap, e1, e2, e3, e4⟩, _⟩ := own_sl h1 h2 (h2.all (fun _ _ _ h => (isVr_one h).1)) (by decide)
  exact ⟨A, cap, e1, e2, e3, e4⟩
set_option maxRecDepth 100000 in
set_option maxHeartbeats 1000000 in
theorem all_any (B : Nat) (n : Nd) (a : NdA) (w : World) (hB : B ≤ w.heap.size) (h : NdAt w B n a) (hl : (vrs n).length ≤ 10000) :
    Calls Tryz.prog 66 #[ndV n a] w fun e w' => (∃ v, e = .returned v ∧ VrsOwn B w w' (vrs n) v) ∧ Below w.heap.size w w' := by
  have hcat : catTo [⟨a.ai, a.ci, n.ins⟩, ⟨a.ao, a.co, n.outs⟩, ⟨a.av, a.cv, n.vars⟩] 3 = vrs n := by simp [catTo, vrs]
  have HC := Lib.hid hcat
  have H := Lib.hid h
  clear h hcat
  go_enter Tryz.func66, Tryz.ntmps66
  go_wp2_with fail
  have hb1 : Below w.heap.size w ((w.alloc (.cells (ndArr n a) 36)).alloc (.cells #[.slice a.ai n.ins.length a.ci, .slice a.ao n.outs.length a.co, .slice a.av n.vars.length a.cv] 33)) := ((Below.refl _ _).alloc (Nat.le_refl _) _).alloc (by simp) _
  refine (concat_var [⟨a.ai, a.ci, n.ins⟩, ⟨a.ao, a.co, n.outs⟩, ⟨a.av, a.cv, n.vars⟩] (w.heap.size + 1) B 3 _ (Nat.le_refl _) (by decide) (by rw [show [(⟨a.ai, a.ci, n.ins⟩ : Vsl), ⟨a.ao, a.co, n.outs⟩, ⟨a.av, a.cv, n.vars⟩].length = 3 from rfl, HC.out]; exact hl) (by simp) (by simp; omega) ?_ ?_).mono ?_
  · intro k s hs
    match k, hs with
    | 0, hs => simp at hs; subst hs; simp
    | 1, hs => simp at hs; subst hs; simp
    | 2, hs => simp at hs; subst hs; simp
  · intro k s hs
    match k, hs with
    | 0, hs => simp at hs; subst hs; exact vrs_keep H.out.si (keeps_of (hb1.mono hB)) (Nat.le_refl _)
    | 1, hs => simp at hs; subst hs; exact vrs_keep H.out.so (keeps_of (hb1.mono hB)) (Nat.le_refl _)
    | 2, hs => simp at hs; subst hs; exact vrs_keep H.out.sv (keeps_of (hb1.mono hB)) (Nat.le_refl _)
  rintro e w2 ⟨v, css, rfl, ho, ha, hb2⟩
  rw [show [(⟨a.ai, a.ci, n.ins⟩ : Vsl), ⟨a.ao, a.co, n.outs⟩, ⟨a.av, a.cv, n.vars⟩].length = 3 from rfl, HC.out] at ho ha
  go_wp2_with fail
  go_ret
  exact ⟨⟨v, rfl, css, own_base ho (by simp; omega), ha⟩, hb1.trans (hb2.mono (by simp; omega))⟩
set_option maxRecDepth 100000 in
set_option maxHeartbeats 2000000 in
theorem rvars_any (B : Nat) (n : Nd) (a : NdA) (w : World) (hB : B ≤ w.heap.size) (h : NdAt w B n a) (hl : (vrs n).length ≤ 10000) :
    Calls Tryz.prog 57 #[ndV n a] w fun e w' => (∃ v, e = .returned v ∧ VrsOwn B w w' (vrs n) v) ∧ Below w.heap.size w w' := by
  obtain ⟨i0, hi0, hz0, hz1, hz2⟩ := info_parts info_var
  have hl' : n.ins.length + n.outs.length + n.vars.length ≤ 10000 := by simpa [vrs, Nat.add_assoc] using hl
  clear hl
  have r1 := Row.new w (ndArr n a) 36
  have b1 : Below w.heap.size w (w.alloc (.cells (ndArr n a) 36)) := (Below.refl _ _).alloc (Nat.le_refl _) _
  have HS1 := Lib.hid (vrs_keep h.si (keeps_of (b1.mono hB)) (Nat.le_refl _))
  have H := Lib.hid h
  clear h
  have ho0 : (w.alloc (.cells (ndArr n a) 36)).ownsRow (w.heap.size + 1) 49 5 (.slice none 0 0) 0 [] := ⟨rfl, .inl ⟨rfl, rfl⟩⟩
  have bb : Below (w.heap.size + 1) (w.alloc (.cells (ndArr n a) 36)) (w.alloc (.cells (ndArr n a) 36)) := Below.refl _ _
  have hs1 : w.heap.size + 1 ≤ (w.alloc (.cells (ndArr n a) 36)).heap.size := by simp
  go_enter Tryz.func57, Tryz.ntmps57
  go_upto_region 2 with (fail)
  generalize w.alloc (.cells (ndArr n a) 36) = W1 at *
  obtain ⟨c0, c1, c2, c3, c4, c5, c6⟩ := r1.nd
  go_wp2_with (at_builtin; (refine wpList_append_sl rfl (.tmp 4) (.tmp 6) 33 rfl (w.heap.size + 1) 49 i0 _ 5 64 Tryz.underlying33 hi0 hz0 hz1 hz2 rfl (by decide) _ _ _ rfl ho0 a.ai n.ins a.ci rfl HS1.out (fun _ _ h => isVr_one h) ?c3 ?c4 hs1 ?_))
  case c3 => unfold maxLen; omega
  case c4 => omega
  intro v2 W2 css2 ho2 ha2 hb2 _
  clear c0 c1 c2 c3 c4 c5 c6 HS1 ho0
  have r2 := r1.below hb2 (by omega)
  have b2 := b1.trans (hb2.mono (by omega))
  have HS2 := Lib.hid (vrs_keep H.out.so (keeps_of (b2.mono hB)) (Nat.le_refl _))
  have HA2 := Lib.hid ha2
  have hs2 : w.heap.size + 1 ≤ W2.heap.size := by have := hb2.size; omega
  obtain ⟨c0, c1, c2, c3, c4, c5, c6⟩ := r2.nd
  clear r1 b1 ha2
  go_wp2_with (at_builtin; (refine wpList_append_sl rfl (.tmp 8) (.tmp 10) 33 rfl (w.heap.size + 1) 49 i0 _ 5 64 Tryz.underlying33 hi0 hz0 hz1 hz2 rfl (by decide) _ _ _ rfl ho2 a.ao n.outs a.co rfl HS2.out (fun _ _ h => isVr_one h) ?c3 ?c4 hs2 ?_))
  case c3 => unfold maxLen; omega
  case c4 => omega
  intro v3 W3 css3 ho3 ha3 hb3 _
  clear c0 c1 c2 c3 c4 c5 c6 HS2 ho2
  have r3 := r2.below hb3 (by omega)
  have b3 := b2.trans (hb3.mono (by omega))
  have HS3 := Lib.hid (vrs_keep H.out.sv (keeps_of (b3.mono hB)) (Nat.le_refl _))
  have HA3 := Lib.hid ha3
  have hs3 : w.heap.size + 1 ≤ W3.heap.size := by have := hb3.size; omega
  obtain ⟨c0, c1, c2, c3, c4, c5, c6⟩ := r3.nd
  clear r2 b2 ha3
  go_wp2_with (at_builtin; refine wpList_append_sl rfl (.tmp 12) (.tmp 14) 33 rfl (w.heap.size + 1) 49 i0 _ 5 64 Tryz.underlying33 hi0 hz0 hz1 hz2 rfl (by decide) _ _ _ rfl ho3 a.av n.vars a.cv rfl HS3.out (fun _ _ h => isVr_one h) ?c3 ?c4 hs3 ?_)
  case c3 => unfold maxLen; omega
  case c4 => omega
  intro v4 W4 css4 ho4 ha4 hb4 _
  have HA4 := Lib.hid ha4
  clear c0 c1 c2 c3 c4 c5 c6 HS3 ho3 ha4
  go_wp2_with fail
  go_ret
  refine ⟨⟨v4, rfl, css2 ++ css3 ++ css4, ?_, ?_⟩, b3.trans (hb4.mono (by omega))⟩
  · rw [List.flatten_append, List.flatten_append, show (vrs n).length = n.ins.length + n.outs.length + n.vars.length by simp [vrs, Nat.add_assoc]]
    have := own_base (base' := w.heap.size) ho4 (Nat.le_succ _)
    rw [← List.append_assoc] at this
    exact this
  · unfold vrs
    have t1 := hb2.trans (hb3.trans hb4)
    exact (((HA2.out.mono (fun x _ cs h => isVr_keep (keeps_of ((hb2.trans (hb3.trans hb4)).mono (by omega))) (Nat.le_refl _) h)).append (HA3.out.mono (fun x _ cs h => isVr_keep (keeps_of ((hb3.trans hb4).mono (by omega))) (Nat.le_refl _) h))).append (HA4.out.mono (fun x _ cs h => isVr_keep (keeps_of (hb4.mono (by omega))) (Nat.le_refl _) h)))
end Go.Proofs.YtabceednmgijoaaGreat
