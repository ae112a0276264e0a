/-
  Few parts: the contract of tompionlaw12.Few.
-/
import Derived.Test.YtabceednmgijoaaGreatTreeList
import Derived.Test.YtabceednmgijoaaGreatRefRight
namespace Go.Proofs.YtabceednmgijoaaGreat
open Go.RowKit Nm

/-! ### few parts -/
theorem room_list {l : List Ex} (ih : ∀ x ∈ l, ∀ a d, 0 ≤ roomZ x a d → roomZ x a d = a - exSize x ∧ ∀ y ∈ exList x, y.name.size ≤ 30) :
    ∀ a d, 0 ≤ roomL (l.map roomZ) a d → roomL (l.map roomZ) a d = a - sumL (l.map exSize) ∧ ∀ x ∈ l, ∀ y ∈ exList x, y.name.size ≤ 30 := by
  induction l with
  | nil => intro a d _; exact ⟨by simp [roomL, sumL], fun x hx => absurd hx List.not_mem_nil⟩
  | cons x l ihl =>
    intro a d h
    simp only [List.map_cons, roomL] at h ⊢
    by_cases ha : a < 0
    · rw [if_pos ha] at h; omega
    · rw [if_neg ha] at h ⊢
      have h2 := ihl (fun y hy => ih y (by simp [hy])) _ _ h
      have hx0 : 0 ≤ roomZ x a d := by rw [h2.1] at h; omega
      have h1 := ih x (by simp) a d hx0
      refine ⟨by rw [h2.1, h1.1]; simp only [sumL]; omega, fun y hy => ?_⟩
      rcases List.mem_cons.1 hy with rfl | hy
      · exact h1.2
      · exact h2.2 y hy
theorem room_small (e : Ex) : ∀ a d, 0 ≤ roomZ e a d → roomZ e a d = a - exSize e ∧ ∀ y ∈ exList e, y.name.size ≤ 30 := by
  induction e using Ex.ind with
  | h e ih =>
    intro a d h
    rw [roomZ_eq] at h ⊢
    by_cases hc : d = 0 ∨ 30 < e.name.size
    · rw [if_pos hc] at h; omega
    · rw [if_neg hc] at h ⊢
      have := room_list ih _ _ h
      refine ⟨by rw [this.1, exSize_eq]; omega, fun y hy => ?_⟩
      rw [exList_eq] at hy
      rcases List.mem_cons.1 hy with rfl | hy
      · omega
      · obtain ⟨l, hl, hy⟩ := List.mem_flatten.1 hy
        obtain ⟨x, hx, rfl⟩ := List.mem_map.1 hl
        exact this.2 x hx y hy
noncomputable def fewB (e : Ex) : Bool := decide (0 ≤ roomZ e 200 50)
theorem few_small {e : Ex} (h : fewB e = true) : Small e ∧ exSize e ≤ 200 := by
  have h0 : 0 ≤ roomZ e 200 50 := by simpa [fewB] using h
  have := room_small e 200 50 h0
  exact ⟨⟨by omega, this.2⟩, by omega⟩
/-- an expression by value, and what it leads to -/
def ExAt (w : World) (e : Ex) (v : Value) : Prop := ∃ A cap, v = exV e A cap ∧ ExOk e ∧ e.args.length ≤ cap ∧ cap ≤ maxLen ∧ IsExs w w.heap.size A e.args
theorem ExAt.below {w w' : World} {e : Ex} {v : Value} (h : ExAt w e v) (hb : Below w.heap.size w w') : ExAt w' e v := by
  obtain ⟨A, cap, h1, h2, h3, h4, h5⟩ := h
  exact ⟨A, cap, h1, h2, h3, h4, (h5.below hb).more hb.size⟩
theorem ExAt.alloc {w : World} {e : Ex} {v : Value} (h : ExAt w e v) (o : Obj) : ExAt (w.alloc o) e v := h.below ((Below.refl _ _).alloc (Nat.le_refl _) _)
end Go.Proofs.YtabceednmgijoaaGreat
