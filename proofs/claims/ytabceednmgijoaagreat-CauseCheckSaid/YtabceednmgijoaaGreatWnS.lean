/-
  A slice of names of the call's own, wherever in its row it begins (what is left behind s[1:]), and append of names onto it; slices.Clone.
-/
import Derived.Test.YtabceednmgijoaaGreatHgP
import Derived.Test.YtabceednmgijoaaGreatScQ
import Derived.Test.YtabceednmgijoaaGreatWin
namespace Go.Proofs.YtabceednmgijoaaGreat
open Go.RowKit
attribute [local go_sem ↓] Go.wp_at_zero Go.wp_at_succ
theorem info_str : (Tryz.prog.info? 9).map (fun i => (i.zero, i.size, i.bytes)) = some (some (.string ⟨#[]⟩), 1, 16) := by kernel_rfl
theorem isStr_one {x : ByteArray} {cs : List Value} (h : isStr x cs) : cs.length = 1 ∧ ∀ u ∈ cs, u.oneCell' = true := by
  rw [h.1]
  exact ⟨rfl, fun u hu => by simp at hu; subst hu; rfl⟩
theorem flat_strs (l : List ByteArray) : (l.map fun x => [Value.string x]).flatten = l.map Value.string := by
  induction l with
  | nil => rfl
  | cons x l ih => rw [List.map_cons, List.flatten_cons, ih]; rfl
theorem strs_css {l : List ByteArray} {css : List (List Value)} (h : Are isStr l css) : css.flatten = l.map Value.string := by
  rw [← flat_strs]
  congr 1
  refine List.ext_getElem? fun i => ?_
  rw [List.getElem?_map]
  cases hi : l[i]? with
  | none =>
    rw [Option.map_none]
    exact List.getElem?_eq_none (by rw [h.1]; exact List.getElem?_eq_none_iff.1 hi)
  | some x =>
    have hl : i < css.length := by rw [h.1]; exact (List.getElem?_eq_some_iff.1 hi).1
    rw [Option.map_some, List.getElem?_eq_getElem hl]
    have := h.2 i x _ hi (List.getElem?_eq_getElem hl)
    rw [this.1]
theorem own_strs {w : World} {base n : Nat} {v : Value} {l : List ByteArray} (h : w.ownsRow base 9 1 v n (l.map Value.string)) (hs : ∀ x ∈ l, x.size ≤ maxLen) : SlV w w.heap.size 1 isStr v l := by
  rw [← flat_strs] at h
  refine (own_sl (rel := isStr) h ⟨by simp, fun i x cs hx hc => ?_⟩ (fun cs hc => ?_) (by decide)).1
  · rw [List.getElem?_map, Option.map_eq_some_iff] at hc
    obtain ⟨y, hy, rfl⟩ := hc
    rw [hx] at hy
    injection hy with hy
    subst hy
    exact ⟨rfl, hs x (List.mem_of_getElem? hx)⟩
  · obtain ⟨y, _, rfl⟩ := List.mem_map.1 hc
    rfl
theorem strs_size {w : World} {B : Nat} {A : Option Addr} {l : List ByteArray} (h : Sl w B 1 isStr A l) : ∀ x ∈ l, x.size ≤ maxLen := h.all fun _ _ g => g.2
theorem strsV_size {w : World} {B : Nat} {v : Value} {l : List ByteArray} (h : SlV w B 1 isStr v l) : ∀ x ∈ l, x.size ≤ maxLen := by
  obtain ⟨A, c, _, _, _, h⟩ := h
  exact strs_size h
/-- one name more -/
theorem wpList_append_str {w : World} {ops : Array Oper} {rest : List Oper} {o : Oper} {a : Act} {Q : Exit → Act → World → Prop} (hgd : o.guard = none) (s x : Operand)
    (ho : o.op = .call { callee := .builtin .append, args := #[s, x], argTypes := #[38, 38] })
    (base : Nat) (l : List ByteArray) (n : Nat) (v : Value) (hs : a.eval s = v) (hown : w.ownsRow base 9 1 v n (l.map Value.string)) (hn : n = l.length)
    (b : Nat) (nm : ByteArray) (hx : a.eval x = .slice (some ⟨b, 0, none⟩) 1 1) (hc : w.cell? ⟨b, 0, none⟩ = some (.string nm)) (hl : l.length < 1000000) (hbase : base ≤ w.heap.size)
    (h : ∀ v' w', w'.ownsRow base 9 1 v' (l ++ [nm]).length ((l ++ [nm]).map Value.string) → w.grownBy w' v.ownBlock → wpList Tryz.prog ops Q rest (a.put o.dst v') w') : wpList Tryz.prog ops Q (o :: rest) a w := by
  subst hn
  obtain ⟨i0, hi0, hz⟩ := Option.map_eq_some_iff.1 info_str
  injection hz with hz0 hz
  injection hz with hz1 hz2
  refine wpList_append_any w hgd s x 38 ho base 9 i0 (.string ⟨#[]⟩) 1 16 Tryz.underlying38 hi0 hz0 hz1 hz2 rfl (by decide) v l.length _ hs hown ⟨b, 0, none⟩ 1 1 [.string nm] hx rfl (fun j u hu => ?_) (by intro u hu; simp at hu; subst hu; rfl) (by unfold maxLen; omega) (by omega) hbase fun v' w' h1 h2 _ => h v' w' ?_ h2
  · have hj : j < 1 := (List.getElem?_eq_some_iff.1 hu).1
    obtain rfl : j = 0 := by omega
    simp at hu
    subst hu
    simpa [Addr.add] using hc
  · simpa using h1
/-! ### windows -/
theorem heap_setCells (g : Nat) (e : TypeId) : ∀ (vs : List Value) (o : Nat) (w : World) (cur : Array Value), w.heap[g]? = some (.cells cur e (0, 0)) → o + vs.length ≤ cur.size →
    ∃ cur', (w.setCells g o vs).heap[g]? = some (.cells cur' e (0, 0)) ∧ cur'.size = cur.size ∧ cur'.toList = cur.toList.take o ++ vs ++ cur.toList.drop (o + vs.length)
  | [], o, w, cur, h, hl => ⟨cur, h, rfl, by simp⟩
  | v :: vs, o, w, cur, h, hl => by
    simp only [List.length_cons] at hl
    have h1 : (w.setCell ⟨g, o, none⟩ v).heap[g]? = some (.cells (cur.setIfInBounds o v) e (0, 0)) := by
      simp [World.setCell, Array.getElem?_modify, h]
    obtain ⟨cur', h2, h3, h4⟩ := heap_setCells g e vs (o + 1) _ _ h1 (by simp; omega)
    refine ⟨cur', h2, by rw [h3]; simp, ?_⟩
    rw [h4, Array.toList_setIfInBounds, List.drop_set, if_pos (by omega)]
    have e1 : (cur.toList.set o v).take (o + 1) = cur.toList.take o ++ [v] := by
      rw [List.take_add_one, List.getElem?_set_self (by simp; omega), List.take_set, List.set_eq_of_length_le (by simp; omega)]
      rfl
    rw [e1]
    simp [Nat.add_comm, Nat.add_left_comm]
theorem grown_setCells (g : Nat) : ∀ (vs : List Value) (o : Nat) (w : World), w.grownBy (w.setCells g o vs) (some g)
  | [], _, w => ⟨rfl, rfl, rfl, Nat.le_refl _, fun _ _ _ => rfl⟩
  | v :: vs, o, w => by
    have h := grown_setCells g vs (o + 1) (w.setCell ⟨g, o, none⟩ v)
    have hs : (w.setCell ⟨g, o, none⟩ v).heap.size = w.heap.size := by simp [World.setCell]
    exact ⟨h.os, h.tape, h.output, by rw [← hs]; exact h.size, fun k hk hne => (h.block k (by rw [hs]; exact hk) hne).trans (Below.heap_setCell w _ _ k (by intro he; apply hne; simp [he]))⟩
section
variable {w w' : World} {base : Nat} {e : TypeId} {g off n cap : Nat} {xs : List Value}
/-- append of cells onto a window: in place, or in a new row -/
theorem run_append_wins {P : Program} (t ty : TypeId) (i : TypeInfo) (z : Value) (bytes : Nat) (ht : P.underlying t = some (.slice e)) (hi : P.info? e = some i) (hz : i.zero = some z)
    (hsize : i.size = 1) (hby : i.bytes = bytes) (hzs : z.cells.size = 1) (h : Win w base e g off n cap xs)
    (ad : Addr) (m c : Nat) (news : List Value) (hl : news.length = m) (hnews : ∀ j u, news[j]? = some u → w.cell? (ad.add j) = some u) (h1 : ∀ u ∈ news, u.oneCell' = true) (h63 : n + m ≤ maxLen) (hbytes : (n + m) * bytes ≤ 140737488355328) (hbase : base ≤ w.heap.size) :
    ∃ g' off' cap' w', (Builtin.append_ #[t, t] ty #[.slice (some ⟨g, off, none⟩) n cap, .slice (some ad) m c]).run P w = .ok (.slice (some ⟨g', off', none⟩) (n + m) cap') w' ∧
      Win w' base e g' off' (n + m) cap' (xs ++ news) ∧ w.grownBy w' (some g) := by
  by_cases hr : n + m ≤ cap
  · have hf := fun j => h.frozen j
    have hc := fun j hj => h.cell (n + j) (by omega : n + j < cap)
    have hrun := run_append_room_cells (P := P) w t ty e i ht hi g off n cap ad m c news (by simp [hsize, hl]) hnews h1 hr
      (fun j hj => by
        obtain ⟨u, hu⟩ := hc j (by omega)
        rw [← Nat.add_assoc] at hu
        simp [hsize, hu]) (fun j _ => hf _)
    refine ⟨g, off, cap, _, hrun, ?_, grown_setCells g news _ w⟩
    obtain ⟨k1, k2, k3, k4, cur, hh, k5, k6⟩ := h
    obtain ⟨cur', q1, q2, q3⟩ := heap_setCells g e news (off + n * i.size) w cur hh (by rw [hsize]; omega)
    refine ⟨by simp [k1, hl], k2, hr, k4, cur', q1, by rw [q2]; exact k5, ?_⟩
    rw [q3, hsize, Nat.mul_one, List.append_assoc, List.drop_append_of_le_length (by simp; omega), List.drop_take, show off + n - off = n by omega, k6, ← List.append_assoc]
    rw [List.take_append_of_le_length (by simp [k1, hl])]
    exact List.take_of_length_le (by simp [k1, hl])
  · obtain ⟨v', w', hrun, hown, hg⟩ := run_append_arg_grows (P := P) w t ty e i z 1 bytes ht hi hz hsize hby hzs (by omega) ⟨g, off, none⟩ n cap xs (by rw [h.1]; omega) (fun j u hu => by rw [Addr.add_lit]; exact h.cells j u hu) ad m c news (by simp [hl]) hnews (by omega) h63 hbytes
    obtain ⟨g', cap', rfl⟩ : ∃ g' cap', v' = .slice (some ⟨g', 0, none⟩) (n + m) cap' := by
      rcases hown.2 with ⟨_, h0⟩ | ⟨g', cap', _, h, _⟩
      · omega
      · exact ⟨g', cap', h⟩
    exact ⟨g', 0, cap', w', hrun, win_of_own (own_base hown hbase), ⟨hg.os, hg.tape, hg.output, hg.size, fun k hk _ => hg.block k hk (by simp)⟩⟩
end
/-- names in a row of the call's own, wherever they begin -/
def WinS (w : World) (base : Nat) (v : Value) (l : List ByteArray) : Prop :=
  (v = .slice none 0 0 ∧ l = []) ∨ ∃ g off cap, v = .slice (some ⟨g, off, none⟩) l.length cap ∧ Win w base 9 g off l.length cap (l.map Value.string)
section
variable {w w' : World} {base : Nat} {v : Value} {l : List ByteArray}
theorem WinS.of_own {n : Nat} (h : w.ownsRow base 9 1 v n (l.map Value.string)) : WinS w base v l := by
  have hn : l.length = n := by have := h.1; simpa using this
  subst hn
  rcases h.2 with ⟨rfl, h0⟩ | ⟨g, cap, cur, rfl, _⟩
  · exact .inl ⟨rfl, List.eq_nil_of_length_eq_zero h0⟩
  · exact .inr ⟨g, 0, cap, rfl, win_of_own h⟩
theorem WinS.own (h : WinS w base v l) : ∀ k, v.ownBlock = some k → base ≤ k ∧ k < w.heap.size := fun k hk => by
  rcases h with ⟨rfl, _⟩ | ⟨g, off, cap, rfl, h⟩
  · cases hk
  · simp only [Value.ownBlock, Option.some.injEq] at hk
    subst hk
    exact ⟨h.2.1, h.lt⟩
theorem WinS.grown {row : Option Nat} (h : WinS w base v l) (hg : w.grownBy w' row) (hne : ∀ k, v.ownBlock = some k → row ≠ some k) : WinS w' base v l := by
  rcases h with h | ⟨g, off, cap, rfl, h⟩
  · exact .inl h
  · exact .inr ⟨g, off, cap, rfl, h.block (hg.block g h.lt (fun e => hne g rfl e.symm))⟩
theorem WinS.below (h : WinS w base v l) (hb : Below w.heap.size w w') : WinS w' base v l := by
  rcases h with h | ⟨g, off, cap, rfl, h⟩
  · exact .inl h
  · exact .inr ⟨g, off, cap, rfl, h.below hb h.lt⟩
theorem WinS.ne_map {b : Nat} (h : WinS w base v l) {o : Obj} (ho : w.heap[b]? = some o) (hc : ∀ cs t f, o ≠ .cells cs t f) : ∀ k, v.ownBlock = some k → some b ≠ some k := fun k hk e => by
  rcases h with ⟨rfl, _⟩ | ⟨g, off, cap, rfl, _, _, _, _, cur, hh, _⟩
  · cases hk
  · simp only [Value.ownBlock, Option.some.injEq] at hk e
    subst hk
    subst e
    rw [hh] at ho
    injection ho with ho
    exact hc _ _ _ ho.symm
theorem WinS.head {x : ByteArray} (h : WinS w base v (x :: l)) : ∃ g off cap, v = .slice (some ⟨g, off, none⟩) (l.length + 1) cap ∧ l.length + 1 ≤ cap ∧ cap ≤ maxLen ∧ w.cell? ⟨g, off, none⟩ = some (.string x) ∧
    ((cap ≠ 1 ∧ WinS w base (.slice (some ⟨g, off + 1, none⟩) l.length (cap - 1)) l) ∨ (cap = 1 ∧ l = [] ∧ WinS w base (.slice (some ⟨g, off, none⟩) 0 0) [])) := by
  rcases h with ⟨_, h⟩ | ⟨g, off, cap, rfl, h⟩
  · cases h
  · refine ⟨g, off, cap, rfl, h.2.2.1, h.2.2.2.1, by simpa using h.cells 0 (.string x) rfl, ?_⟩
    by_cases hc : cap = 1
    · have := h.2.2.1
      simp only [List.length_cons] at this
      obtain rfl : l = [] := List.eq_nil_of_length_eq_zero (by omega)
      obtain ⟨k1, k2, k3, k4, cur, hh, k5, k6⟩ := h
      exact .inr ⟨hc, rfl, .inr ⟨g, off, 0, rfl, rfl, k2, Nat.le_refl _, Nat.zero_le _, cur, hh, by omega, by simp⟩⟩
    · exact .inl ⟨hc, .inr ⟨g, off + 1, cap - 1, rfl, h.tail⟩⟩
theorem run_append_slice_nil {P : Program} (t ty e : TypeId) (i : TypeInfo) (ht : P.underlying t = some (.slice e)) (hi : P.info? e = some i) (ad : Addr) (n cap c : Nat) (hn : n ≤ cap) :
    (Builtin.append_ #[t, t] ty #[.slice (some ad) n cap, .slice none 0 c]).run P w = .ok (.slice (some ad) n cap) w := by
  simp [Builtin.append_, run_underlying ht, sizeOf, typeInfo, hi, Builtin.lenOf, Builtin.firstCells, hn, storeCells]
/-- names of a slice that reads, behind them -/
theorem wpList_append_wins {B : Nat} {ops : Array Oper} {rest : List Oper} {o : Oper} {a : Act} {Q : Exit → Act → World → Prop} (hgd : o.guard = none) (s x : Operand)
    (ho : o.op = .call { callee := .builtin .append, args := #[s, x], argTypes := #[38, 38] })
    (base : Nat) (l l2 : List ByteArray) (v : Value) (hs : a.eval s = v) (h : WinS w base v l) (A : Option Addr) (c : Nat) (hx : a.eval x = .slice A l2.length c) (hsl : Sl w B 1 isStr A l2)
    (hl : l.length + l2.length < 1000000) (hbase : base ≤ w.heap.size)
    (hK : ∀ v' w', WinS w' base v' (l ++ l2) → w.grownBy w' v.ownBlock → wpList Tryz.prog ops Q rest (a.put o.dst v') w') : wpList Tryz.prog ops Q (o :: rest) a w := by
  obtain ⟨i0, hi0, hz⟩ := Option.map_eq_some_iff.1 info_str
  injection hz with hz0 hz
  injection hz with hz1 hz2
  rcases h with ⟨rfl, rfl⟩ | ⟨g, off, cap, rfl, h⟩
  · refine wpList_append_sl hgd s x 38 ho base 9 i0 (.string ⟨#[]⟩) 1 16 Tryz.underlying38 hi0 hz0 hz1 hz2 rfl (by decide) _ 0 [] hs (World.ownsRow_nil _ _ _ _) A l2 c hx hsl (fun _ _ h => isStr_one h) (by unfold maxLen; omega) (by omega) hbase ?_
    intro v' w' css h1 h2 _ h4
    refine hK v' w' ?_ h4
    rw [List.nil_append, strs_css h2] at h1
    exact WinS.of_own h1
  · obtain ⟨css, hare, hc⟩ := hsl.css (fun x cs h => (isStr_one h).1)
    rw [strs_css hare] at hc
    refine wpList_plain hgd fun K' hK' => ?_
    unfold Oper.wp
    cases A with
    | none =>
      have hl0 : l2 = [] := by
        rcases Nat.eq_zero_or_pos l2.length with h0 | h0
        · exact List.eq_nil_of_length_eq_zero h0
        · obtain ⟨_, _, h, _⟩ := hsl h0
          cases h
      subst hl0
      have hrun := run_append_slice_nil (P := Tryz.prog) (w := w) 38 o.type 9 i0 Tryz.underlying38 hi0 ⟨g, off, none⟩ l.length cap c h.2.2.1
      simp only [List.length_nil] at hx
      simp [execOp, ho, resolve, invoke, builtin, hs, hx, hrun, Result.andThen]
      refine hK' _ _ (hK _ w ?_ ⟨rfl, rfl, rfl, Nat.le_refl _, fun _ _ _ => rfl⟩)
      rw [List.append_nil]
      exact .inr ⟨g, off, cap, rfl, h⟩
    | some ad =>
      obtain ⟨g', off', cap', w', hrun, hw, hg⟩ := run_append_wins (P := Tryz.prog) 38 o.type i0 (.string ⟨#[]⟩) 16 Tryz.underlying38 hi0 hz0 hz1 hz2 rfl h ad l2.length c (l2.map Value.string) (by simp) (hc ad rfl) (by
        intro u hu
        obtain ⟨y, _, rfl⟩ := List.mem_map.1 hu
        rfl) (by unfold maxLen; omega) (by omega) hbase
      simp [execOp, ho, resolve, invoke, builtin, hs, hx, hrun, Result.andThen]
      refine hK' _ _ (hK _ w' (.inr ⟨g', off', cap', ?_, ?_⟩) hg)
      · simp
      · simpa using hw
end
set_option maxRecDepth 100000 in
set_option maxHeartbeats 1000000 in
theorem clone_strs (l : List ByteArray) (A : Option Addr) (cap : Nat) (w : World) (h0 : l.length ≤ 1000) (h : Sl w w.heap.size 1 isStr A l) :
    Calls Tryz.prog 64 #[.slice A l.length cap] w fun e w' => (∃ v, e = .returned v ∧ WinS w' w.heap.size v l) ∧ Below w.heap.size w w' := by
  obtain ⟨i0, hi0, hz⟩ := Option.map_eq_some_iff.1 info_str
  injection hz with hz0 hz
  injection hz with hz1 hz2
  cases A with
  | none =>
    have hl : l = [] := by
      rcases Nat.eq_zero_or_pos l.length with h1 | h1
      · exact List.eq_nil_of_length_eq_zero h1
      · obtain ⟨_, _, h, _⟩ := h h1
        cases h
    subst hl
    clear h
    have en := Lib.run_eql_slice_nil (P := Tryz.prog)
    go_enter Tryz.func64, Tryz.ntmps64
    go_wp2_with fail
    go_ret
    exact ⟨⟨_, rfl, .inl ⟨rfl, rfl⟩⟩, Below.refl _ _⟩
  | some ad =>
    have en := Lib.run_eql_slice_nil (P := Tryz.prog)
    have HS := Lib.hid (h.keep (keeps_of ((Below.refl _ w).alloc (Nat.le_refl _) (.cells #[] 9))) (Nat.le_refl _) (fun _ _ _ h => h))
    have ho := own_empty w 9 1
    clear h
    go_enter Tryz.func64, Tryz.ntmps64
    go_wp2_with (at_builtin; refine wpList_append_sl rfl _ _ 38 rfl w.heap.size 9 i0 _ 1 16 Tryz.underlying38 hi0 hz0 hz1 hz2 rfl (by decide) _ _ _ rfl ho (some ad) l cap rfl HS.out (fun _ _ h => isStr_one h) ?c3 ?c4 ?c5 ?_)
    case c3 => unfold maxLen; omega
    case c4 => omega
    case c5 => simp
    intro v' w3 css' hown' hare' hb3 _
    have HO := Lib.hid hown'
    have HA := Lib.hid hare'
    clear hown' hare'
    go_wp2_with fail
    go_ret
    refine ⟨⟨_, rfl, WinS.of_own (n := 0 + l.length) ?_⟩, ((Below.refl _ _).alloc (Nat.le_refl _) _).trans hb3⟩
    have := HO.out
    rw [strs_css HA.out] at this
    simpa using this
end Go.Proofs.YtabceednmgijoaaGreat
