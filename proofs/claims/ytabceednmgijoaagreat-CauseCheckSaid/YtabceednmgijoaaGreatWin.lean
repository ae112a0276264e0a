/-
  A window of a row of the call's own (what is left of a slice behind s[1:]), and append of one cell onto it.
-/
import Derived.Test.YtabceednmgijoaaGreatMem
import Derived.ArgAppend
import Derived.Deep.RegionLaw
namespace Go.Proofs.YtabceednmgijoaaGreat
open Go.RowKit

def Win (w : World) (base : Nat) (e : TypeId) (g off n cap : Nat) (xs : List Value) : Prop :=
  xs.length = n ∧ base ≤ g ∧ n ≤ cap ∧ cap ≤ maxLen ∧ ∃ cur, w.heap[g]? = some (.cells cur e (0, 0)) ∧ off + cap ≤ cur.size ∧ (cur.toList.drop off).take n = xs

theorem take_set_drop {α : Type} {l : List α} {off n : Nat} {x : α} (h : off + n < l.length) : ((l.set (off + n) x).drop off).take (n + 1) = (l.drop off).take n ++ [x] := by
  have e : (l.set (off + n) x).drop off = (l.drop off).set n x := by
    rw [List.drop_set, if_neg (by omega), Nat.add_sub_cancel_left]
  rw [List.take_add_one, e, List.getElem?_set_self (by simp; omega), List.take_set, List.set_eq_of_length_le (by simp; omega)]
  rfl
section
variable {w w' : World} {base : Nat} {e : TypeId} {g off n cap : Nat} {xs : List Value}
theorem Win.lt (h : Win w base e g off n cap xs) : g < w.heap.size := by
  obtain ⟨_, _, _, _, cur, hh, _⟩ := h
  rcases Nat.lt_or_ge g w.heap.size with hlt | hge
  · exact hlt
  · rw [Array.getElem?_eq_none hge] at hh; cases hh
theorem Win.drewN (h : Win w base e g off n cap xs) (k : Nat) : Win (w.drewN k) base e g off n cap xs := h
theorem Win.drew (h : Win w base e g off n cap xs) : Win w.drew base e g off n cap xs := h
theorem Win.block (h : Win w base e g off n cap xs) (hb : w'.heap[g]? = w.heap[g]?) : Win w' base e g off n cap xs := by
  obtain ⟨h1, h2, h3, h4, cur, hh, h5⟩ := h
  exact ⟨h1, h2, h3, h4, cur, hb.trans hh, h5⟩
theorem Win.alloc (h : Win w base e g off n cap xs) (o : Obj) : Win (w.alloc o) base e g off n cap xs := h.block (Below.heap_alloc w o g h.lt)
theorem Win.below {B : Nat} (h : Win w base e g off n cap xs) (hb : Below B w w') (hg : g < B) : Win w' base e g off n cap xs := h.block (hb.block g hg)
theorem Win.cell (h : Win w base e g off n cap xs) (j : Nat) (hj : j < cap) : ∃ u, w.cell? ⟨g, off + j, none⟩ = some u := by
  obtain ⟨h1, h2, h3, h4, cur, hh, h5, h6⟩ := h
  refine ⟨cur[off + j]'(by omega), ?_⟩
  rw [cell_of_row w g (off + j) cur e (0, 0) hh]
  exact Array.getElem?_eq_getElem (by omega)
theorem Win.frozen (h : Win w base e g off n cap xs) (j : Nat) : w.frozen? ⟨g, j, none⟩ = false := by
  obtain ⟨h1, h2, h3, h4, cur, hh, h5, h6⟩ := h
  simp [World.frozen?, hh]
theorem Win.cells (h : Win w base e g off n cap xs) : ∀ j u, xs[j]? = some u → w.cell? ⟨g, off + j, none⟩ = some u := by
  obtain ⟨h1, h2, h3, h4, cur, hh, h5, h6⟩ := h
  intro j u hu
  have hj : j < n := by rw [← h1]; exact (List.getElem?_eq_some_iff.1 hu).1
  rw [cell_of_row w g (off + j) cur e (0, 0) hh]
  rw [← h6, List.getElem?_take_of_lt hj, List.getElem?_drop] at hu
  simpa using hu
theorem Win.rd (h : Win w base e g off n cap xs) : Rd w w.heap.size 1 (some ⟨g, off, none⟩) n xs :=
  ⟨by rw [h.1]; omega, fun _ => ⟨_, rfl, h.lt, fun j u hu => by rw [Addr.add_lit]; exact h.cells j u hu⟩⟩
theorem win_of_own {n : Nat} (h : w.ownsRow base e 1 (.slice (some ⟨g, 0, none⟩) n cap) n xs) : Win w base e g 0 n cap xs := by
  obtain ⟨hl, h⟩ := h
  rcases h with ⟨h, _⟩ | ⟨g', cap', cur, h, hb, hh, hnc, hcm, hcs, ht⟩
  · cases h
  · simp only [Value.slice.injEq, Option.some.injEq, Addr.mk.injEq, and_true, true_and] at h
    obtain ⟨rfl, rfl⟩ := h
    exact ⟨by omega, hb, hnc, hcm, cur, hh, by omega, by simpa using ht⟩
theorem Win.tail {x : Value} (h : Win w base e g off (n + 1) cap (x :: xs)) : Win w base e g (off + 1) n (cap - 1) xs := by
  obtain ⟨h1, h2, h3, h4, cur, hh, h5, h6⟩ := h
  refine ⟨by simpa using h1, h2, by omega, by omega, cur, hh, by omega, ?_⟩
  have hlt : off < cur.toList.length := by simp; omega
  rw [List.drop_eq_getElem_cons hlt, List.take_succ_cons] at h6
  exact (List.cons.inj h6).2

/-- append of one cell onto a window: in place, or in a new row -/
theorem run_append_win {P : Program} (t ty : TypeId) (i : TypeInfo) (z : Value) (bytes : Nat) (ht : P.underlying t = some (.slice e)) (hi : P.info? e = some i) (hz : i.zero = some z)
    (hsize : i.size = 1) (hby : i.bytes = bytes) (hzs : z.cells.size = 1) (h : Win w base e g off n cap xs)
    (ad : Addr) (c : Nat) (x : Value) (hx : w.cell? ad = some x) (h1 : x.oneCell' = true) (h63 : n + 1 ≤ maxLen) (hbytes : (n + 1) * bytes ≤ 140737488355328) (hbase : base ≤ w.heap.size) :
    ∃ g' off' cap' w', (Builtin.append_ #[t, t] ty #[.slice (some ⟨g, off, none⟩) n cap, .slice (some ad) 1 c]).run P w = .ok (.slice (some ⟨g', off', none⟩) (n + 1) cap') w' ∧
      Win w' base e g' off' (n + 1) cap' (xs ++ [x]) ∧ w.grownBy w' (some g) := by
  have hnews : ∀ j u, [x][j]? = some u → w.cell? (ad.add j) = some u := by
    intro j u hu
    match j, hu with
    | 0, hu => simp at hu; subst hu; simpa [Addr.add] using hx
  by_cases hr : n + 1 ≤ cap
  · have hf := fun j => h.frozen j
    have hc := h.cell n (by omega)
    have hrun := run_append_room_cells (P := P) w t ty e i ht hi g off n cap ad 1 c [x] (by simp [hsize]) hnews (by simpa using h1) hr
      (fun j hj => by
        have : j = 0 := by simpa using hj
        subst this
        obtain ⟨u, hu⟩ := hc
        simp [hsize, hu]) (fun j _ => hf _)
    refine ⟨g, off, cap, _, hrun, ?_, ?_⟩
    · obtain ⟨k1, k2, k3, k4, cur, hh, k5, k6⟩ := h
      refine ⟨by simp [k1], k2, hr, k4, cur.setIfInBounds (off + n) x, ?_, by simpa using k5, ?_⟩
      · simp [hsize, World.setCells, World.setCell, Array.getElem?_modify, hh]
      · rw [Array.toList_setIfInBounds, take_set_drop (by simp; omega), k6]
    · simp only [hsize, World.setCells, Nat.mul_one]
      exact ⟨rfl, rfl, rfl, by simp [World.setCell], fun k hk hne => Below.heap_setCell w _ _ k (by intro he; apply hne; simp [he])⟩
  · obtain ⟨v', w', hrun, hown, hg⟩ := run_append_arg_grows (P := P) w t ty e i z 1 bytes ht hi hz hsize hby hzs (by omega) ⟨g, off, none⟩ n cap xs (by rw [h.1]; omega) (fun j u hu => by rw [Addr.add_lit]; exact h.cells j u hu) ad 1 c [x] (by simp) hnews (by omega) h63 hbytes
    obtain ⟨g', cap', rfl⟩ : ∃ g' cap', v' = .slice (some ⟨g', 0, none⟩) (n + 1) cap' := by
      rcases hown.2 with ⟨_, h0⟩ | ⟨g', cap', _, h, _⟩
      · omega
      · exact ⟨g', cap', h⟩
    exact ⟨g', 0, cap', w', hrun, win_of_own (own_base hown hbase), ⟨hg.os, hg.tape, hg.output, hg.size, fun k hk _ => hg.block k hk (by simp)⟩⟩

theorem step_append_win {P : Program} {ops : Array Oper} {o : Oper} {a : Act} {K : Act → World → Prop} {Q : Exit → Act → World → Prop} {E : Prop} (hgd : o.guard = none) (s x : Operand) (t : TypeId)
    (ho : o.op = .call { callee := .builtin .append, args := #[s, x], argTypes := #[t, t] })
    (i : TypeInfo) (z : Value) (bytes : Nat) (ht : P.underlying t = some (.slice e)) (hi : P.info? e = some i) (hz : i.zero = some z)
    (hsize : i.size = 1) (hby : i.bytes = bytes) (hzs : z.cells.size = 1) (hs : a.eval s = .slice (some ⟨g, off, none⟩) n cap)
    (ad : Addr) (c : Nat) (u : Value) (hx : a.eval x = .slice (some ad) 1 c) (h : Win w base e g off n cap xs) (hu : w.cell? ad = some u) (h1 : u.oneCell' = true) (h63 : n + 1 ≤ maxLen) (hbytes : (n + 1) * bytes ≤ 140737488355328) (hbase : base ≤ w.heap.size)
    (hK : ∀ g' off' cap' w', Win w' base e g' off' (n + 1) cap' (xs ++ [u]) → w.grownBy w' (some g) → K (a.put o.dst (.slice (some ⟨g', off', none⟩) (n + 1) cap')) w') :
    if Region.wanted o (yielded ops a.tmps) = true then Oper.wp P o a w K Q else E := by
  have hw : Region.wanted o (yielded ops a.tmps) = true := by simp [Region.wanted, hgd]
  rw [if_pos hw]
  obtain ⟨g', off', cap', w', hrun, h2, h3⟩ := run_append_win (P := P) t o.type i z bytes ht hi hz hsize hby hzs h ad c u hu h1 h63 hbytes hbase
  unfold Oper.wp execOp
  simp only [ho, resolve, invoke, builtin, Sem.run_bind, Sem.run_pure, Result.andThen_ok, List.map_toArray, List.map_cons, List.map_nil, hs, hx, hrun]
  exact hK _ _ _ _ h2 h3
end
end Go.Proofs.YtabceednmgijoaaGreat
