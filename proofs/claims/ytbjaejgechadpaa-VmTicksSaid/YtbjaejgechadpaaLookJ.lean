/-
  clear, of a row that holds zeros: it stays as it was.
-/
import Derived.Test.YtbjaejgechadpaaLookH
import Derived.Test.YtbjaejgechadpaaLookI
import Derived.Lib.SliceRun
namespace Go.Proofs.Ytbjaejgechadpaa
open Go.RowKit Vf
theorem row_zeros {K n : Nat} {z : Value} {t : TypeId} : ∀ (m o : Nat) (w : World), o + m ≤ n → Row w K (List.replicate n z).toArray t → Row (w.setCells K o (List.replicate m z)) K (List.replicate n z).toArray t ∧ Upd (· = K) w (w.setCells K o (List.replicate m z))
  | 0, o, w, _, h => ⟨h, Upd.refl _ _⟩
  | m + 1, o, w, hle, h => by
    have h1 : Row (w.setCell ⟨K, o, none⟩ z) K (List.replicate n z).toArray t := by
      have := h.set o z
      rwa [show (List.replicate n z).toArray.setIfInBounds o z = (List.replicate n z).toArray by simp] at this
    obtain ⟨a, b⟩ := row_zeros m (o + 1) _ (by omega) h1
    rw [List.replicate_succ, World.setCells]
    exact ⟨a, ((Upd.refl (· = K) w).setCell (p := ⟨K, o, none⟩) rfl z).trans b⟩
theorem clear_row {w : World} {K n : Nat} {z : Value} {t s e : TypeId} (hs : Try.prog.underlying s = some (.slice e)) (hv : ∀ w, (zeroValue e).run Try.prog w = .ok z w) (hz : z.cells = #[z]) (h1 : z.oneCell' = true) (h : Row w K (List.replicate n z).toArray t) :
    ∃ w', (∀ ty, (Builtin.clear_ #[s] ty #[.slice (some ⟨K, 0, none⟩) n n]).run Try.prog w = .ok (.tuple #[]) w') ∧ Row w' K (List.replicate n z).toArray t ∧ Upd (· = K) w w' := by
  by_cases hn : n = 0
  · subst hn
    exact ⟨w, fun ty => by simp [Builtin.clear_, run_underlying hs], h, Upd.refl _ _⟩
  · refine ⟨_, fun ty => Lib.run_clear_slice w s e ty z hs hv hz h1 K 0 n n (by omega) (fun j hj => ?_) (fun j hj => h.frozen _), row_zeros n 0 w (by omega) h⟩
    rw [h.cell]; simp [hj]
end Go.Proofs.Ytbjaejgechadpaa
