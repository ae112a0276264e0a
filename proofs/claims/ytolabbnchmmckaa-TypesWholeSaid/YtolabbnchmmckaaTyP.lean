/-
  The types of expressions, and what is wrong with them, plain.
-/
import Derived.Test.YtolabbnchmmckaaWhP
import Derived.Test.YtolabbnchmmckaaTySg
namespace Go.Proofs.Ytolabbnchmmckaa
/-! ### faults -/
def Fz (f : Ft) : Prop := f.err = 0 → f = ft0
theorem fz0 : Fz ft0 := fun _ => rfl
theorem fz_ft2 {a b : Ft} (hb : Fz b) : Fz (ft2 a b) := fun h => by
  by_cases g : a.err = 0
  · rw [ft2_0 g] at h ⊢; exact hb h
  · rw [ft2_1 g] at h; exact absurd h g
theorem ft2_assoc (a b c : Ft) : ft2 (ft2 a b) c = ft2 a (ft2 b c) := by
  by_cases h : a.err = 0
  · rw [ft2_0 h, ft2_0 h]
  · rw [ft2_1 h, ft2_1 h, ft2_1 h]
theorem ft2_zero {a : Ft} (h : Fz a) : ft2 a ft0 = a := by
  by_cases g : a.err = 0
  · rw [ft2_0 g, h g]
  · exact ft2_1 g
theorem fz_fstl {l : List Ft} : Fz (fstl l) := fun h => fstl_zero h
theorem fstl_snoc {l : List Ft} {x : Ft} (hx : Fz x) : fstl (l ++ [x]) = ft2 (fstl l) x := by
  rw [fstl_append]
  by_cases h : (fstl l).err = 0
  · rw [if_pos h, ft2_0 h]
    by_cases g : x.err = 0
    · rw [hx g]; rfl
    · exact fstl_cons1 g
  · rw [if_neg h, ft2_1 h]
/-- the fault behind so many of a row -/
def accF (f : Ft) (l : List Ft) (k : Nat) : Ft := ft2 f (fstl (l.take k))
theorem acc_0 {f : Ft} {l : List Ft} (hf : Fz f) : accF f l 0 = f := by unfold accF; rw [List.take_zero]; exact ft2_zero hf
theorem acc_succ {f x : Ft} {l : List Ft} {k : Nat} (hx : l[k]? = some x) (hz : Fz x) : accF f l (k + 1) = ft2 (accF f l k) x := by
  unfold accF
  rw [List.take_add_one, hx, Option.toList_some, fstl_snoc hz, ft2_assoc]
theorem acc_all {f : Ft} {l : List Ft} : accF f l l.length = ft2 f (fstl l) := by unfold accF; rw [List.take_length]
theorem fz_acc {f : Ft} {l : List Ft} {k : Nat} : Fz (accF f l k) := fz_ft2 fz_fstl
/-- a fault, unless something is so -/
def needF (b : Bool) (l c : Int) : Ft := if b = true then ft0 else ⟨28, l, c⟩
theorem need_fz (b : Bool) (l c : Int) : Fz (needF b l c) := fun h => by
  cases b
  · exact absurd h (by show ¬ (28 : Int) = 0; decide)
  · rfl
theorem need_yes (l c : Int) : needF true l c = ft0 := rfl
theorem need_no (l c : Int) : needF false l c = ⟨28, l, c⟩ := rfl
theorem need_err {b : Bool} {l c : Int} (h : (needF b l c).err = 0) : b = true := by
  cases b
  · exact absurd h (by show ¬ (28 : Int) = 0; decide)
  · rfl

/-! ### types -/
def tyOf (n : Nd) (nm : ByteArray) : Int := if 0 ≤ varIdx n nm then (((vrs n)[(varIdx n nm).toNat]?).map Vr.ty).getD 0 else 0
theorem ty_at {n : Nd} {nm : ByteArray} {k : Nat} {x : Vr} (h : varIdx n nm = k) (hx : (vrs n)[k]? = some x) : tyOf n nm = x.ty := by
  unfold tyOf
  rw [h, if_pos (by omega)]
  simp [hx]
theorem ty_no {n : Nd} {nm : ByteArray} (h : nm ∉ nms (vrs n)) : tyOf n nm = 0 := by unfold tyOf; rw [if_neg (fun g => h (var_mem.1 g))]
def outTy (m : Nd) : Int := (m.outs.head?.map Vr.ty).getD 0
def argL (e : Ex) (i : Nat) : Int := ((e.args[i]?).map Ex.line).getD 0
def argC (e : Ex) (i : Nat) : Int := ((e.args[i]?).map Ex.col).getD 0
theorem arg_at {e x : Ex} {i : Nat} (h : e.args[i]? = some x) : argL e i = x.line ∧ argC e i = x.col := by unfold argL argC; rw [h]; exact ⟨rfl, rfl⟩
def callFs (m : Nd) (e : Ex) (l : List Int) : List Ft := m.ins.mapIdx fun i v => needF (l.getD i 0 == v.ty) (argL e i) (argC e i)
def sameArgs (op : Int) (e : Ex) (l : List Int) : List Ft := e.args.mapIdx fun i x => needF (signIn op == 0 || l.getD i 0 == signIn op) x.line x.col
/-- what is wrong with the types of an op's parts -/
def opF (s : List Nd) (n : Nd) (e : Ex) (l : List Int) : Ft :=
  if e.op = 4 then (match nodeAt s e.name with
    | none => ft0
    | some m => fstl (callFs m e l))
  else if signB e.op = true then ft2 (fstl (sameArgs e.op e l)) (needF (signIn e.op != 0 || l.getD 0 0 == l.getD (l.length - 1) 0) e.line e.col)
  else if e.op = 24 ∨ e.op = 25 then needF (tyOf n e.name == 2) e.line e.col
  else if e.op = 26 then ft2 (needF (tyOf n e.name == 2) e.line e.col) (needF (l.getD 0 0 == l.getD 1 0) e.line e.col)
  else if e.op = 22 ∨ e.op = 23 then needF (l.getD 0 0 == l.getD 1 0) e.line e.col
  else if e.op = 27 then ft2 (needF (l.getD 0 0 == 2) (argL e 0) (argC e 0)) (needF (l.getD 1 0 == l.getD 2 0) e.line e.col)
  else ft0
/-- of which type comes what an op makes -/
def opTy (s : List Nd) (n : Nd) (e : Ex) (l : List Int) : Int :=
  if e.op = 1 ∨ e.op = 2 then e.op
  else if e.op = 3 then tyOf n e.name
  else if e.op = 4 then (match nodeAt s e.name with
    | none => 0
    | some m => outTy m)
  else if signB e.op = true then signOut e.op
  else if e.op = 27 then l.getD 1 0
  else l.getD 0 0
def tyStep (s : List Nd) (n : Nd) (e : Ex) (rs : List (Ft × Int)) : Ft × Int :=
  (ft2 (fstl (rs.map Prod.fst)) (opF s n e (rs.map Prod.snd)), opTy s n e (rs.map Prod.snd))
noncomputable def tyR (s : List Nd) (n : Nd) : Ex → Ft × Int := Ex.para (tyStep s n)
theorem tyR_eq (s : List Nd) (n : Nd) (e : Ex) : tyR s n e = tyStep s n e (e.args.map (tyR s n)) := Ex.para_eq _ e
noncomputable def tyF (s : List Nd) (n : Nd) (e : Ex) : Ft := (tyR s n e).1
noncomputable def tyK (s : List Nd) (n : Nd) (e : Ex) : Int := (tyR s n e).2
noncomputable def argFs (s : List Nd) (n : Nd) (e : Ex) : List Ft := e.args.map (tyF s n)
noncomputable def argKs (s : List Nd) (n : Nd) (e : Ex) : List Int := e.args.map (tyK s n)
theorem tyF_eq (s : List Nd) (n : Nd) (e : Ex) : tyF s n e = ft2 (fstl (argFs s n e)) (opF s n e (argKs s n e)) := by
  unfold tyF
  rw [tyR_eq]
  unfold tyStep argFs argKs
  rw [List.map_map, List.map_map]
  rfl
theorem tyK_eq (s : List Nd) (n : Nd) (e : Ex) : tyK s n e = opTy s n e (argKs s n e) := by
  unfold tyK
  rw [tyR_eq]
  show opTy s n e ((e.args.map (tyR s n)).map Prod.snd) = _
  rw [List.map_map]
  rfl
theorem opF_fz {s : List Nd} {n : Nd} {e : Ex} {l : List Int} : Fz (opF s n e l) := by
  unfold opF
  split
  · split
    · exact fz0
    · exact fz_fstl
  · split
    · exact fz_ft2 (need_fz _ _ _)
    · split
      · exact need_fz _ _ _
      · split
        · exact fz_ft2 (need_fz _ _ _)
        · split
          · exact need_fz _ _ _
          · split
            · exact fz_ft2 (need_fz _ _ _)
            · exact fz0
theorem tyF_fz {s : List Nd} {n : Nd} {e : Ex} : Fz (tyF s n e) := by rw [tyF_eq]; exact fz_ft2 opF_fz

/-! ### what is known of the names of an expression -/
structure TyX (s : List Nd) (n : Nd) (x : Ex) : Prop where
  plain : plainB x = true
  name : namesB x.op = true → x.name ∈ nms (vrs n)
  call : x.op = 4 → ∃ m, nodeAt s x.name = some m ∧ m.ins.length = x.args.length ∧ 1 ≤ m.outs.length
def TyKn (s : List Nd) (n : Nd) (e : Ex) : Prop := ∀ x ∈ exList e, TyX s n x
theorem TyKn.sub {s : List Nd} {n : Nd} {e x : Ex} (h : TyKn s n e) (hx : x ∈ e.args) : TyKn s n x := fun y hy => h y (exList_sub hx hy)
theorem TyKn.own {s : List Nd} {n : Nd} {e : Ex} (h : TyKn s n e) : TyX s n e := h e (exList_self e)
theorem parts_of {e : Ex} (h : plainB e = true) : (1 ≤ e.op ∧ e.op ≤ 27) ∧ (e.op ≤ 3 → e.args.length = 0) ∧ (e.op = 4 → 1 ≤ e.args.length ∧ e.args.length ≤ 8) ∧ (e.op = 5 ∨ e.op = 6 ∨ e.op = 21 ∨ e.op = 24 ∨ e.op = 25 → e.args.length = 1) ∧
    ((7 ≤ e.op ∧ e.op ≤ 20) ∨ e.op = 22 ∨ e.op = 23 ∨ e.op = 26 → e.args.length = 2) ∧ (e.op = 27 → e.args.length = 3) := by
  have k2 : partsZ e.op ≠ -2 := fun g => by
    unfold plainB plainK at h
    rw [if_pos g] at h
    cases h
  have k1 : partsZ e.op = -1 → 1 ≤ e.args.length ∧ e.args.length ≤ 8 := fun h0 => Classical.byContradiction fun hne => by
    unfold plainB at h
    rw [plainK_no1 ⟨h0, by omega⟩] at h
    cases h
  have key : 0 ≤ partsZ e.op → (e.args.length : Int) = partsZ e.op := fun h0 => Classical.byContradiction fun hne => by
    unfold plainB at h
    rw [plainK_no2 ⟨h0, hne⟩] at h
    cases h
  clear h
  unfold partsZ at k2 k1 key
  refine ⟨?_, ?_, ?_, ?_, ?_, ?_⟩
  · constructor
    · refine Classical.byContradiction fun g => k2 ?_
      rw [if_neg (by omega), if_neg (by omega), if_neg (by omega), if_neg (by omega), if_neg (by omega)]
    · refine Classical.byContradiction fun g => k2 ?_
      rw [if_neg (by omega), if_neg (by omega), if_neg (by omega), if_neg (by omega), if_neg (by omega)]
  · intro g
    by_cases g1 : e.op = 1 ∨ e.op = 2 ∨ e.op = 3
    · rw [if_pos g1] at key
      have := key (by omega)
      omega
    · exact absurd (by rw [if_neg g1, if_neg (by omega), if_neg (by omega), if_neg (by omega), if_neg (by omega)]) k2
  · intro g
    exact k1 (by rw [if_neg (by omega), if_pos g])
  · intro g
    rw [if_neg (by omega), if_neg (by omega), if_pos (by omega)] at key
    have := key (by omega)
    omega
  · intro g
    rw [if_neg (by omega), if_neg (by omega), if_neg (by omega), if_pos (by omega)] at key
    have := key (by omega)
    omega
  · intro g
    rw [if_neg (by omega), if_neg (by omega), if_neg (by omega), if_neg (by omega), if_pos g] at key
    have := key (by omega)
    omega
theorem node_outs {s : List Nd} (h : SrcRt s) {nm : ByteArray} {m : Nd} (hm : nodeAt s nm = some m) : 1 ≤ m.outs.length := by
  have : m ∈ s := List.mem_of_find?_eq_some hm
  have h2 := (h.1 m this).2.2.2.2.2.1.2.1
  omega
theorem tykn_of {s : List Nd} (h : (scopeF s).err = 0) {n : Nd} (hn : n ∈ s) {q : Eqn} (hq : q ∈ n.eqs) : TyKn s n q.right := by
  have hk := scope_kn h n hn
  have hr := (hk.rt.1 q hq).2.2.2
  simp only [exRight, Bool.and_eq_true, List.all_eq_true] at hr
  refine fun x hx => ⟨hr.1 x hx, hk.exprs q hq x hx, fun h4 => ?_⟩
  obtain ⟨i, hi⟩ := List.getElem?_of_mem hq
  obtain ⟨j, hj⟩ := List.getElem?_of_mem hx
  obtain ⟨m, hm, hl⟩ := call_ok (expr_ok (eqn_ok (scope_nodes h n hn).2 i q hi).2 j x hj) h4
  exact ⟨m, hm, hl, node_outs (scope_rt h) hm⟩

/-! ### what is wrong with a source's types -/
def clkTs (n : Nd) (v : Vr) : List Ft := v.clock.map fun c => needF (tyOf n c.name == 2) v.line v.col
def clkTF (n : Nd) (v : Vr) : Ft := fstl (clkTs n v)
/-- the types of what comes of an equation's right -/
noncomputable def comeOf (s : List Nd) (n : Nd) (q : Eqn) : List Int :=
  if q.right.op = 4 then (match nodeAt s q.right.name with
    | none => []
    | some m => m.outs.map Vr.ty)
  else [tyK s n q.right]
noncomputable def leftTs (s : List Nd) (n : Nd) (q : Eqn) : List Ft := q.left.mapIdx fun i nm => needF (tyOf n nm == (comeOf s n q).getD i 0) q.line q.col
noncomputable def eqnTF (s : List Nd) (n : Nd) (q : Eqn) : Ft := ft2 (tyF s n q.right) (fstl (leftTs s n q))
noncomputable def nodeTF (s : List Nd) (n : Nd) : Ft := ft2 (fstl (n.vars.map (clkTF n))) (fstl (n.eqs.map (eqnTF s n)))
noncomputable def typesF (s : List Nd) : Ft := ft2 (scopeF s) (fstL (fun _ n => nodeTF s n) s)
theorem fstL_map {α : Type} (F : α → Ft) (l : List α) : fstL (fun _ x => F x) l = fstl (l.map F) := by unfold fstL; rw [mapIdx_const]
theorem clkTF_fz {n : Nd} {v : Vr} : Fz (clkTF n v) := fz_fstl
theorem eqnTF_fz {s : List Nd} {n : Nd} {q : Eqn} : Fz (eqnTF s n q) := fz_ft2 fz_fstl
theorem nodeTF_fz {s : List Nd} {n : Nd} : Fz (nodeTF s n) := fz_ft2 fz_fstl
/-- as many come as there are names on the left -/
theorem come_len {s : List Nd} (h : (scopeF s).err = 0) {n : Nd} (hn : n ∈ s) {q : Eqn} (hq : q ∈ n.eqs) : (comeOf s n q).length = q.left.length ∧ 1 ≤ q.left.length := by
  have hk := scope_kn h n hn
  have hl := (hk.rt.1 q hq).2.1
  obtain ⟨i, hi⟩ := List.getElem?_of_mem hq
  obtain ⟨h1, h2⟩ := eqn_ok (scope_nodes h n hn).2 i q hi
  have h3 := expr_ok h2 0 q.right (by rw [exList_eq]; rfl)
  rw [if_pos rfl] at h3
  have h1' : 1 ≤ q.left.length := by omega
  refine ⟨?_, h1'⟩
  unfold comeOf
  by_cases h4 : q.right.op = 4
  · rw [if_pos h4]
    unfold oneF at h3
    rw [if_neg (by rw [h4]; decide), if_pos h4] at h3
    cases hm : nodeAt s q.right.name with
    | none => rw [hm] at h3; exact absurd h3 (by show ¬ (24 : Int) = 0; decide)
    | some m =>
      rw [hm] at h3
      dsimp only at h3 ⊢
      rw [List.length_map]
      by_cases hh : m.ins.length ≠ q.right.args.length ∨ (m.outs.length : Int) ≠ (q.left.length : Int)
      · rw [if_pos hh] at h3; exact absurd h3 (by show ¬ (25 : Int) = 0; decide)
      · omega
  · rw [if_neg h4]
    have h5 := (ft2_ok h1).2
    unfold countF at h5
    by_cases hc : 1 < q.left.length ∧ q.right.op ≠ 4
    · rw [if_pos hc] at h5; exact absurd h5 (by show ¬ (25 : Int) = 0; decide)
    · have : ¬ 1 < q.left.length := fun g => hc ⟨g, h4⟩
      show 1 = q.left.length
      omega
end Go.Proofs.Ytolabbnchmmckaa
