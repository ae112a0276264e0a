/-
  Maps from names to 1, told to the entry, and maps from names to whatever value.
-/
import Derived.Test.YtabceednmgijoaaGreatMet
import Derived.Maps.OwnSet
import Derived.Maps.OwnIn
import Derived.Test.YtabceednmgijoaaGreatHgP
namespace Go.Proofs.YtabceednmgijoaaGreat
open Go.RowKit
theorem owns_exact {H : Type} {w : World} {P : Program} {k : TypeId} {R : Value → Option (DataW H × List MemPlace)} {b n : Nat} {D : DataW H} (h : w.ownsMap P k R b n D) : w.ownsMap P k R b (Maps.size D) D := by
  obtain ⟨es, clock, h0, h1, h2, rfl⟩ := h
  refine ⟨es, clock, h0, h1, ?_, rfl⟩
  simp [Maps.size, length_sorted]
abbrev keyN (nm : ByteArray) : Lit := .string nm.data.toList
theorem keyN_ne {a b : ByteArray} (h : a ≠ b) : keyN a ≠ keyN b := fun g => h (str_key g)
theorem keyN_of {nm : ByteArray} (hs : nm.size ≤ maxLen) : keyOf Tryz.prog 9 (.string nm) = some (keyN nm) := _root_.Go.WideMaps.keyOf_string_mk Tryz.underlying9 hs
/-- block b is a map that has 1 for the names of a list, each once, and nothing else -/
def MetS (w : World) (b : Nat) (l : List ByteArray) : Prop :=
  l.Nodup ∧ ∃ D : DataW Unit, w.ownsMap Tryz.prog 9 (plainElem Tryz.prog 3) b l.length D ∧ Maps.size D = l.length ∧ ∀ nm : ByteArray, Maps.has D (keyN nm) = cB (nm ∈ l) ∧ (nm ∈ l → D.atKey (keyN nm) (.lit (.int .i64 0)) = .lit (.int .i64 1))
section
variable {w w' : World} {b : Nat} {l : List ByteArray}
theorem MetS.lt (h : MetS w b l) : b < w.heap.size := by
  obtain ⟨_, D, h1, _⟩ := h
  exact h1.lt
theorem MetS.keep (h : MetS w b l) (hk : w'.heap[b]? = w.heap[b]?) : MetS w' b l := by
  obtain ⟨h0, D, ⟨es, clock, h1, h2⟩, h3⟩ := h
  exact ⟨h0, D, ⟨es, clock, hk.trans h1, h2⟩, h3⟩
theorem MetS.below {B : Nat} (h : MetS w b l) (hb : Below B w w') (hB : b < B) : MetS w' b l := h.keep (hb.block b hB)
theorem MetS.alloc (h : MetS w b l) (o : Obj) : MetS (w.alloc o) b l := h.below ((Below.refl _ _).alloc (Nat.le_refl _) _) h.lt
theorem MetS.drew (h : MetS w b l) : MetS w.drew b l := h
theorem MetS.drewN (h : MetS w b l) (n : Nat) : MetS (w.drewN n) b l := h
theorem MetS.grown {row : Option Nat} (h : MetS w b l) (hg : w.grownBy w' row) (hr : some b ≠ row) : MetS w' b l := h.keep (hg.block b h.lt hr)
theorem MetS.set (h : MetS w b l) {p : Addr} (hp : b ≠ p.block) (u : Value) : MetS (w.setCell p u) b l := h.keep (Below.heap_setCell w p u b hp)
theorem MetS.isMap (h : MetS w b l) : ∃ es clock, w.heap[b]? = some (.map es clock) := by
  obtain ⟨_, D, ⟨es, clock, h1, _⟩, _⟩ := h
  exact ⟨es, clock, h1⟩
theorem mets_made (w : World) : MetS (w.alloc (.map #[] 0)) w.heap.size [] :=
  ⟨List.nodup_nil, .map [], World.ownsMap_made w _ _ _, rfl, fun nm => ⟨(cB_false (by simp)).symm, fun h => absurd h (by simp)⟩⟩
set_option maxRecDepth 100000 in
theorem MetS.look (h : MetS w b l) {nm : ByteArray} (hs : nm.size ≤ maxLen) : (nm ∈ l → (Instr.lookup 58 (.map (some b)) (.string nm) false).run Tryz.prog w = .ok (.int .i64 1) w) ∧ (nm ∉ l → (Instr.lookup 58 (.map (some b)) (.string nm) false).run Tryz.prog w = .ok (.int .i64 0) w) := by
  obtain ⟨h0, D, h1, h2, h3⟩ := h
  obtain ⟨c, hr, ha, _⟩ := h1.lookup_int (Maps.string_keyed Tryz.underlying9) Tryz.underlying58 Tryz.underlying3 (zero_int w) (keyN_of hs)
  constructor
  · intro g
    rw [(h3 nm).2 g] at ha
    have h6 := (Lit.int.inj (DataW.lit.inj ha)).2
    rw [← h6] at hr
    exact hr
  · intro g
    rw [Maps.atKey_of_not_has ((h3 nm).1.trans (cB_false g))] at ha
    have h6 := (Lit.int.inj (DataW.lit.inj ha)).2
    rw [← h6] at hr
    exact hr
open Classical in
/-- a name put to those met -/
noncomputable def putN (l : List ByteArray) (nm : ByteArray) : List ByteArray := if nm ∈ l then l else l ++ [nm]
theorem putN_mem {nm x : ByteArray} : x ∈ putN l nm ↔ x ∈ l ∨ x = nm := by
  unfold putN
  split
  · rename_i h
    exact ⟨.inl, fun g => g.elim id (fun e => e ▸ h)⟩
  · simp
theorem putN_nodup {nm : ByteArray} (h : l.Nodup) : (putN l nm).Nodup := by
  unfold putN
  split
  · exact h
  · rename_i g
    rw [List.nodup_append]
    exact ⟨h, by simp, fun y hy z hz e => by simp at hz; subst hz; subst e; exact g hy⟩
theorem putN_len {nm : ByteArray} : (putN l nm).length ≤ l.length + 1 := by
  unfold putN
  split
  · omega
  · simp
theorem mets_tidy {D : DataW Unit} {n : Nat} (h : w.ownsMap Tryz.prog 9 (plainElem Tryz.prog 3) b n D) : Maps.Tidy D := h.tidy (Maps.string_keyed Tryz.underlying9)
theorem mets_after {nm : ByteArray} {D : DataW Unit} {n : Nat} (h0 : l.Nodup) (ht : Maps.Tidy D) (h2 : Maps.size D = l.length) (h3 : ∀ nm : ByteArray, Maps.has D (keyN nm) = cB (nm ∈ l) ∧ (nm ∈ l → D.atKey (keyN nm) (.lit (.int .i64 0)) = .lit (.int .i64 1)))
    (ho : w'.ownsMap Tryz.prog 9 (plainElem Tryz.prog 3) b n (D.put (keyN nm) (.lit (.int .i64 1)))) : MetS w' b (putN l nm) := by
  have hsz : Maps.size (D.put (keyN nm) (.lit (.int .i64 1))) = (putN l nm).length := by
    rw [Maps.size_put ht, (h3 nm).1, h2]
    unfold putN
    by_cases g : nm ∈ l
    · rw [cB_true g]; simp [g]
    · rw [cB_false g]; simp [g]
  refine ⟨putN_nodup h0, _, hsz ▸ owns_exact ho, hsz, fun x => ?_⟩
  by_cases e : x = nm
  · subst e
    exact ⟨(Maps.has_put_same ht.isMap (by trivial) _).trans (cB_true (putN_mem.2 (.inr rfl))).symm, fun _ => Maps.atKey_put_same ht.isMap (by trivial) _ _⟩
  · have hne := keyN_ne e
    rw [Maps.has_put_other hne, Maps.atKey_put_other hne]
    exact ⟨(h3 x).1.trans (cB_congr (by rw [putN_mem]; simp [e])), fun g => (h3 x).2 ((putN_mem.1 g).resolve_right e)⟩
theorem MetS.put (h : MetS w b l) {nm : ByteArray} (hs : nm.size ≤ maxLen) (hn : l.length < 1000000) : ∃ w', (Instr.mapUpdate 58 (.map (some b)) (.string nm) (.int .i64 1)).run Tryz.prog w = .ok () w' ∧ MetS w' b (putN l nm) ∧ w.grownBy w' (some b) := by
  obtain ⟨h0, D, h1, h2, h3⟩ := h
  have ht := mets_tidy h1
  obtain ⟨w', hr, ho, hg⟩ := h1.update (Maps.string_keyed Tryz.underlying9) Tryz.underlying58 (by unfold maxLen; omega) (keyN_of hs) (plainElem_int (a := 1) Tryz.underlying3 (by decide))
  exact ⟨w', hr, mets_after h0 ht h2 h3 ho, hg⟩
/-- a name taken from those met -/
noncomputable def dropN (l : List ByteArray) (nm : ByteArray) : List ByteArray := l.filter fun x => cB (x ≠ nm)
theorem dropN_mem {nm x : ByteArray} : x ∈ dropN l nm ↔ x ∈ l ∧ x ≠ nm := by
  unfold dropN
  rw [List.mem_filter, cB_iff]
theorem dropN_not {nm : ByteArray} (h : nm ∉ l) : dropN l nm = l := by
  unfold dropN
  exact List.filter_eq_self.2 fun x hx => cB_true fun e => h (e ▸ hx)
theorem dropN_len {nm : ByteArray} (h : l.Nodup) (hm : nm ∈ l) : (dropN l nm).length + 1 = l.length := by
  induction l with
  | nil => cases hm
  | cons x l ih =>
    rw [List.nodup_cons] at h
    by_cases e : x = nm
    · subst e
      have h1 : dropN (x :: l) x = dropN l x := by unfold dropN; rw [List.filter_cons_of_neg (by rw [cB_iff]; simp)]
      rw [h1, dropN_not h.1]; rfl
    · have h1 : dropN (x :: l) nm = x :: dropN l nm := by unfold dropN; rw [List.filter_cons_of_pos (by rw [cB_iff]; exact e)]
      have h2 := ih h.2 ((List.mem_cons.1 hm).resolve_left (fun g => e g.symm))
      rw [h1]; simp only [List.length_cons]; omega
theorem MetS.drop (h : MetS w b l) {nm : ByteArray} (hs : nm.size ≤ maxLen) (ty : TypeId) : ∃ w', (Builtin.delete_ #[58, 9] ty #[.map (some b), .string nm]).run Tryz.prog w = .ok (.tuple #[]) w' ∧ MetS w' b (dropN l nm) ∧ w.grownBy w' (some b) := by
  obtain ⟨h0, D, h1, h2, h3⟩ := h
  have ht := mets_tidy h1
  obtain ⟨w', hr, ho, hg⟩ := h1.drop (Maps.string_keyed Tryz.underlying9) Tryz.underlying58 (keyN_of hs) ty
  have hsz : Maps.size (D.del (keyN nm)) = (dropN l nm).length := by
    have e := Maps.size_del (k := keyN nm) ht
    rw [(h3 nm).1, h2] at e
    by_cases g : nm ∈ l
    · rw [cB_true g] at e
      have := dropN_len h0 g
      simp at e; omega
    · rw [cB_false g] at e
      rw [dropN_not g]
      simpa using e
  refine ⟨w', hr, ⟨h0.filter _, _, hsz ▸ owns_exact ho, hsz, fun x => ?_⟩, hg.grown⟩
  by_cases e : x = nm
  · subst e
    exact ⟨Maps.has_del_same.trans (cB_false (fun g => (dropN_mem.1 g).2 rfl)).symm, fun g => absurd rfl (dropN_mem.1 g).2⟩
  · have hne := keyN_ne e
    rw [Maps.has_del_other hne, Maps.atKey_del_other hne]
    exact ⟨(h3 x).1.trans (cB_congr (by rw [dropN_mem]; simp [e])), fun g => (h3 x).2 (dropN_mem.1 g).1⟩
theorem MetS.len (h : MetS w b l) (ty : TypeId) : (Builtin.len_ #[58] ty #[.map (some b)]).run Tryz.prog w = .ok (.int .i64 l.length) w := by
  obtain ⟨h0, D, h1, h2, h3⟩ := h
  have := h1.len Tryz.underlying58 ty
  rwa [h2] at this
/-- its keys -/
theorem MetS.keys (h : MetS w b l) : ∃ D : DataW Unit, w.ownsMap Tryz.prog 9 (plainElem Tryz.prog 3) b l.length D ∧ Maps.size D = l.length ∧ (l.map fun a => a.data.toList).Perm (strKeys D) := by
  obtain ⟨h0, D, h1, h2, h3⟩ := h
  refine ⟨D, h1, h2, ?_⟩
  obtain ⟨es, rfl, hp⟩ := mets_tidy h1
  obtain ⟨es', hD', hko⟩ := h1.keysOf
  obtain rfl : es = es' := by simpa using hD'
  refine perm_strKeys hp (fun p hp => by obtain ⟨v, hv⟩ := hko p hp; obtain ⟨x, _, hx, _⟩ := Maps.keyOf_str Tryz.underlying9 hv; exact ⟨x, hx⟩) ?_ (fun x => ?_)
  · rw [List.nodup_iff_pairwise_ne, List.pairwise_map]
    exact (List.nodup_iff_pairwise_ne.1 h0).imp fun {a c} g e => g (nmb_inj e)
  · have := (h3 ⟨⟨x⟩⟩).1
    rw [show keyN ⟨⟨x⟩⟩ = .string x from rfl] at this
    rw [this, cB_iff, List.mem_map]
    constructor
    · rintro ⟨a, ha, rfl⟩; exact ha
    · intro g; exact ⟨_, g, rfl⟩
end
theorem wpList_mets {w : World} {ops : Array Oper} {rest : List Oper} {o : Oper} {a : Act} {Q : Exit → Act → World → Prop} (hg : o.guard = none) (m x v : Operand) (hop : o.op = Op.mapUpdate 58 m x v)
    (b : Nat) (l : List ByteArray) (hm : a.eval m = .map (some b)) (h : MetS w b l) (hn : l.length < 1000000) (nm : ByteArray) (hx : a.eval x = .string nm) (hs : nm.size ≤ maxLen) (hv : a.eval v = .int .i64 1)
    (hK : ∀ w', MetS w' b (putN l nm) → w.grownBy w' (some b) → wpList Tryz.prog ops Q rest (a.put o.dst undef) w') : wpList Tryz.prog ops Q (o :: rest) a w := by
  refine wpList_plain hg fun K' hK' => ?_
  obtain ⟨w', hrun, r1, r2⟩ := h.put hs hn
  unfold Oper.wp
  simp [execOp, hop, hm, hx, hv, hrun, Result.andThen]
  exact hK' _ _ (hK w' r1 r2)
theorem wpList_metdrop {w : World} {ops : Array Oper} {rest : List Oper} {o : Oper} {a : Act} {Q : Exit → Act → World → Prop} (hg : o.guard = none) (m x : Operand) (hop : o.op = Op.call { callee := Callee.builtin Builtin.delete, args := #[m, x], argTypes := #[58, 9] })
    (b : Nat) (l : List ByteArray) (hm : a.eval m = .map (some b)) (h : MetS w b l) (nm : ByteArray) (hx : a.eval x = .string nm) (hs : nm.size ≤ maxLen)
    (hK : ∀ w', MetS w' b (dropN l nm) → w.grownBy w' (some b) → wpList Tryz.prog ops Q rest (a.put o.dst (.tuple #[])) w') : wpList Tryz.prog ops Q (o :: rest) a w := by
  refine wpList_plain hg fun K' hK' => ?_
  obtain ⟨w', hrun, r1, r2⟩ := h.drop hs o.type
  unfold Oper.wp
  simp [execOp, hop, resolve, invoke, builtin, hm, hx, hrun, Result.andThen]
  exact hK' _ _ (hK w' r1 r2)
theorem wpList_metlen {w : World} {ops : Array Oper} {rest : List Oper} {o : Oper} {a : Act} {Q : Exit → Act → World → Prop} (hg : o.guard = none) (m : Operand) (hop : o.op = Op.call { callee := Callee.builtin Builtin.len, args := #[m], argTypes := #[58] })
    (b : Nat) (l : List ByteArray) (hm : a.eval m = .map (some b)) (h : MetS w b l)
    (hK : wpList Tryz.prog ops Q rest (a.put o.dst (.int .i64 l.length)) w) : wpList Tryz.prog ops Q (o :: rest) a w := by
  refine wpList_plain hg fun K' hK' => ?_
  unfold Oper.wp
  simp [execOp, hop, resolve, invoke, builtin, hm, h.len o.type, Result.andThen]
  exact hK' _ _ hK
/-- block b is a map that has for each name a value -/
def MapV (w : World) (b n : Nat) (f : ByteArray → Value) : Prop :=
  ∃ D : DataW Value, w.ownsMap Tryz.prog 9 (fun v => some (.held v, [])) b n D ∧ Maps.IsMap D ∧ ∀ nm : ByteArray, D.atKey (keyN nm) (.held (.slice none 0 0)) = .held (f nm)
section
variable {w w' : World} {b n : Nat} {f : ByteArray → Value}
theorem MapV.lt (h : MapV w b n f) : b < w.heap.size := by
  obtain ⟨D, h1, _⟩ := h
  exact h1.lt
theorem MapV.keep (h : MapV w b n f) (hk : w'.heap[b]? = w.heap[b]?) : MapV w' b n f := by
  obtain ⟨D, ⟨es, clock, h1, h2⟩, h3⟩ := h
  exact ⟨D, ⟨es, clock, hk.trans h1, h2⟩, h3⟩
theorem MapV.below {B : Nat} (h : MapV w b n f) (hb : Below B w w') (hB : b < B) : MapV w' b n f := h.keep (hb.block b hB)
theorem MapV.alloc (h : MapV w b n f) (o : Obj) : MapV (w.alloc o) b n f := h.below ((Below.refl _ _).alloc (Nat.le_refl _) _) h.lt
theorem MapV.drew (h : MapV w b n f) : MapV w.drew b n f := h
theorem MapV.drewN (h : MapV w b n f) (k : Nat) : MapV (w.drewN k) b n f := h
theorem MapV.grown {row : Option Nat} (h : MapV w b n f) (hg : w.grownBy w' row) (hr : some b ≠ row) : MapV w' b n f := h.keep (hg.block b h.lt hr)
theorem MapV.set (h : MapV w b n f) {p : Addr} (hp : b ≠ p.block) (u : Value) : MapV (w.setCell p u) b n f := h.keep (Below.heap_setCell w p u b hp)
theorem mapv_made (w : World) : MapV (w.alloc (.map #[] 0)) w.heap.size 0 (fun _ => .slice none 0 0) :=
  ⟨.map [], World.ownsMap_made w _ _ _, ⟨[], rfl⟩, fun _ => rfl⟩
theorem zero_texts (w : World) : (zeroValue 38).run Tryz.prog w = .ok (.slice none 0 0) w := by kernel_rfl
set_option maxRecDepth 100000 in
theorem MapV.look (h : MapV w b n f) {nm : ByteArray} (hs : nm.size ≤ maxLen) : (Instr.lookup 68 (.map (some b)) (.string nm) false).run Tryz.prog w = .ok (f nm) w := by
  obtain ⟨D, h1, h2, h3⟩ := h
  obtain ⟨v, ps, hr, ha⟩ := h1.lookup (Maps.string_keyed Tryz.underlying9) Tryz.underlying68 (zero_texts w) (zd := .held (.slice none 0 0)) (zp := []) rfl (keyN_of hs)
  rw [h3 nm] at ha
  injection ha with ha
  injection ha with ha _
  injection ha with ha
  rw [← ha]
  exact hr
open Classical in
theorem MapV.put (h : MapV w b n f) {nm : ByteArray} (hs : nm.size ≤ maxLen) (hn : n < 1000000) (v : Value) : ∃ w', (Instr.mapUpdate 68 (.map (some b)) (.string nm) v).run Tryz.prog w = .ok () w' ∧ MapV w' b (n + 1) (fun x => if x = nm then v else f x) ∧ w.grownBy w' (some b) := by
  obtain ⟨D, h1, h2, h3⟩ := h
  obtain ⟨w', hr, ho, hg⟩ := h1.update (Maps.string_keyed Tryz.underlying9) Tryz.underlying68 (by unfold maxLen; omega) (keyN_of hs) (val := v) rfl
  refine ⟨w', hr, ⟨_, ho, h2.put _ _, fun x => ?_⟩, hg⟩
  by_cases e : x = nm
  · subst e
    show _ = DataW.held (if _ then _ else _)
    rw [Maps.atKey_put_same h2 (by trivial), if_pos rfl]
  · show _ = DataW.held (if _ then _ else _)
    rw [Maps.atKey_put_other (keyN_ne e), h3, if_neg e]
end
end Go.Proofs.YtabceednmgijoaaGreat
