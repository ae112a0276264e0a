/-
  In a source with nothing wrong the parts are of the types that go in: plain.
-/
import Derived.Test.YtolabbnchmmckaaTyO
namespace Go.Proofs.Ytolabbnchmmckaa
open Go.RowKit
theorem types_scope {s : List Nd} (h : (typesF s).err = 0) : (scopeF s).err = 0 ∧ ∀ n ∈ s, (nodeTF s n).err = 0 := by
  obtain ⟨h1, h2⟩ := ft2_ok h
  refine ⟨h1, fun n hn => ?_⟩
  obtain ⟨i, hi⟩ := List.getElem?_of_mem hn
  exact fstL_ok h2 i n hi
theorem fstl_each {l : List Ft} (h : (fstl l).err = 0) {f : Ft} (hf : f ∈ l) : f.err = 0 := fstl_ok h f hf
theorem node_eqns {s : List Nd} {n : Nd} (h : (nodeTF s n).err = 0) : ∀ q ∈ n.eqs, (eqnTF s n q).err = 0 := fun _ hq =>
  fstl_each (ft2_ok h).2 (List.mem_map_of_mem hq)
theorem ty_all {s : List Nd} {n : Nd} (e : Ex) : (tyF s n e).err = 0 → ∀ x ∈ exList e, (tyF s n x).err = 0 := by
  induction e using Ex.ind with
  | h e ih =>
  intro h x hx
  rw [exList_eq] at hx
  rcases List.mem_cons.1 hx with rfl | hx
  · exact h
  · obtain ⟨l, hl, hx⟩ := List.mem_flatten.1 hx
    obtain ⟨y, hy, rfl⟩ := List.mem_map.1 hl
    rw [tyF_eq] at h
    exact ih y hy (fstl_each (ft2_ok h).1 (List.mem_map_of_mem hy)) x hx
theorem maxL_mem {l : List Nat} {x : Nat} (h : x ∈ l) : x ≤ maxL l := by
  induction l with
  | nil => cases h
  | cons y l ih =>
    rcases List.mem_cons.1 h with rfl | h
    · exact Nat.le_max_left _ _
    · exact Nat.le_trans (ih h) (Nat.le_max_right _ _)
theorem list_in (e : Ex) : ∀ x ∈ exList e, (∀ y ∈ exList x, y ∈ exList e) ∧ exHeight x ≤ exHeight e := by
  induction e using Ex.ind with
  | h e ih =>
  intro x hx
  rw [exList_eq] at hx
  rcases List.mem_cons.1 hx with rfl | hx
  · exact ⟨fun y hy => hy, Nat.le_refl _⟩
  · obtain ⟨l, hl, hx⟩ := List.mem_flatten.1 hx
    obtain ⟨y, hy, rfl⟩ := List.mem_map.1 hl
    obtain ⟨h1, h2⟩ := ih y hy x hx
    refine ⟨fun z hz => exList_sub hy (h1 z hz), ?_⟩
    have h3 : exHeight y ≤ exHeight e := by
      rw [exHeight_eq e]
      have := maxL_mem (List.mem_map_of_mem (f := exHeight) hy)
      omega
    omega
theorem list_arg {e x y : Ex} (hx : x ∈ exList e) (hy : y ∈ x.args) : y ∈ exList e := (list_in e x hx).1 y (exList_sub hy (exList_self y))
theorem right_sub {e x : Ex} (h : exRight e = true) (hx : x ∈ exList e) : exRight x = true := by
  obtain ⟨h1, h2⟩ := list_in e x hx
  simp only [exRight, Bool.and_eq_true, List.all_eq_true, decide_eq_true_eq] at h ⊢
  exact ⟨fun y hy => h.1 y (h1 y hy), by omega⟩
theorem size_sub (e : Ex) : ∀ x ∈ exList e, exSize x ≤ exSize e := by
  induction e using Ex.ind with
  | h e ih =>
  intro x hx
  rw [exList_eq] at hx
  rcases List.mem_cons.1 hx with rfl | hx
  · exact Nat.le_refl _
  · obtain ⟨l, hl, hx⟩ := List.mem_flatten.1 hx
    obtain ⟨y, hy, rfl⟩ := List.mem_map.1 hl
    have h1 := ih y hy x hx
    have h2 := exSize_arg hy
    omega
/-- what types.Of answers of what is within an equation of a right source -/
theorem of_good (s : List Nd) (A : Option Addr) (cap : Nat) (n : Nd) (a : NdA) (q : Eqn) (x : Ex) (A2 : Option Addr) (c2 k : Nat) (w : World) (hz : (typesF s).err = 0) (hq : q ∈ n.eqs) (hx : x ∈ exList q.right) (sm : SrcSm s) (h1 : s.length ≤ cap) (h2 : cap ≤ maxLen) (hk : s[k]? = some n) (hs : Nds w w.heap.size A s) (hn : NdAt w w.heap.size n a)
    (ok : ExOk x) (hl2 : x.args.length ≤ c2) (hm2 : c2 ≤ maxLen) (hxa : IsExs w w.heap.size A2 x.args) :
    Calls Try.prog 47 #[srcV s A cap, ndV n a, exV x A2 c2] w fun r w' => r = .returned (.tuple #[.int .i64 (tyK s n x), .agg #[.int .i64 0, .int .i64 0, .int .i64 0]]) ∧ Below w.heap.size w w' := by
  have hnm := List.mem_of_getElem? hk
  have hsz : exSize x ≤ 1000 := by
    have := size_sub q.right x hx
    have := ((sm.all n hnm).eq q hq).right.size
    omega
  refine (of_top s A cap n a x A2 c2 k w sm h1 h2 hk hs hn ok hl2 hm2 hsz hxa).mono ?_
  rintro r w' ⟨⟨kk, f, rfl, HK⟩, hb⟩
  obtain ⟨hsc, hnd⟩ := types_scope hz
  have htf := ty_all q.right (ft2_ok (node_eqns (hnd n hnm) q hq)).1 x hx
  have hkn := ty_knows (tykn_of hsc hnm hq)
  have hok : OfOk s n x := ⟨hsc, right_sub ((scope_kn hsc n hnm).rt.1 q hq).2.2.2 hx, fun y hy => hkn y ((list_in q.right x hx).1 y hy)⟩
  obtain ⟨hf, hk1, _⟩ := HK.out.2 hok
  have hf0 : f = ft0 := by rw [hf]; exact tyF_fz htf
  subst hf0
  exact ⟨by rw [hk1 rfl], hb⟩
/-- an op that is reckoned: what goes in, what comes -/
theorem sign_ok {s : List Nd} {n : Nd} {x : Ex} (h : (tyF s n x).err = 0) (ho : 5 ≤ x.op ∧ x.op ≤ 20) : tyK s n x = signOut x.op ∧ ∀ y ∈ x.args, signIn x.op = 0 ∨ tyK s n y = signIn x.op := by
  refine ⟨by rw [tyK_eq, (op_sign ho).2], fun y hy => ?_⟩
  rw [tyF_eq, (op_sign ho).1] at h
  have h1 := (ft2_ok (ft2_ok h).2).1
  obtain ⟨i, hi⟩ := List.getElem?_of_mem hy
  have h2 : (sameArgs x.op x (argKs s n x))[i]? = some (needF (signIn x.op == 0 || tyK s n y == signIn x.op) y.line y.col) := by
    unfold sameArgs
    rw [List.getElem?_mapIdx, hi]
    have : (argKs s n x)[i]? = some (tyK s n y) := by unfold argKs; rw [List.getElem?_map, hi]; rfl
    simp [List.getD, this]
  have h3 := need_err (fstl_each h1 (List.mem_of_getElem? h2))
  rcases Bool.or_eq_true _ _ ▸ h3 with h4 | h4
  · exact .inl (beq_iff_eq.1 h4)
  · exact .inr (beq_iff_eq.1 h4)
theorem rsign_any (op : Int) (w : World) :
    Calls Try.prog 51 #[.int .i64 op] w fun e w' => (∃ (si so : Int) (sb : Bool), e = .returned (.tuple #[.int .i64 si, .int .i64 so, .bool sb]) ∧ Hid (sb = true → (5 ≤ op ∧ op ≤ 20) ∧ si = signIn op ∧ so = signOut op)) ∧ Below w.heap.size w w' := by
  by_cases h : 5 ≤ op ∧ op ≤ 20
  · exact (rsign_yes op w h).mono fun r w' hr => ⟨⟨_, _, _, hr.1, fun _ => ⟨h, rfl, rfl⟩⟩, hr.2⟩
  · exact (rsign_no op w (by omega)).mono fun r w' hr => ⟨⟨_, _, _, hr.1, fun g => Bool.noConfusion g⟩, hr.2⟩
/-- the first name on the left is of the type of what comes -/
theorem left_ty {s : List Nd} (hz : (typesF s).err = 0) {n : Nd} (hn : n ∈ s) {q : Eqn} (hq : q ∈ n.eqs) {nm : ByteArray} (h0 : q.left[0]? = some nm) : tyOf n nm = tyK s n q.right := by
  obtain ⟨hsc, hnd⟩ := types_scope hz
  have h1 := (ft2_ok (node_eqns (hnd n hn) q hq)).2
  obtain ⟨hl, hl1⟩ := come_len hsc hn hq
  have hc : ∃ c, (comeOf s n q)[0]? = some c := ⟨_, List.getElem?_eq_getElem (by omega)⟩
  obtain ⟨c, hc⟩ := hc
  have h2 : (leftTs s n q)[0]? = some (needF (tyOf n nm == c) q.line q.col) := by
    unfold leftTs
    rw [List.getElem?_mapIdx, h0]
    simp [List.getD, hc]
  have h3 := beq_iff_eq.1 (need_err (fstl_each h1 (List.mem_of_getElem? h2)))
  rw [h3]
  unfold comeOf at hc
  by_cases h4 : q.right.op = 4
  · rw [if_pos h4] at hc
    obtain ⟨m, hm, _⟩ := (tykn_of hsc hn hq).own.call h4
    rw [hm] at hc
    rw [tyK_eq, (op_4 h4 hm).2]
    unfold outTy
    rw [List.head?_eq_getElem?]
    rw [List.getElem?_map] at hc
    rw [hc]; rfl
  · rw [if_neg h4] at hc
    simpa using hc.symm
end Go.Proofs.Ytolabbnchmmckaa
