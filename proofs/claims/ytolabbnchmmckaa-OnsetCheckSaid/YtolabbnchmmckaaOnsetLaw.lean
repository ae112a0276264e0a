/-
  Few parts; one tick before; the chapter's examples of onset.
-/
import Derived.Test.YtolabbnchmmckaaOnsetRef
import Derived.Test.YtolabbnchmmckaaFew
import Derived.Deep.RegionHeld3
import Derived.Laws.StructEq
namespace Go.Proofs.Ytolabbnchmmckaa
open Go.RowKit Nm

/-- what was -/
def preE (e : Ex) : Ex := .mk 21 ⟨#[]⟩ 0 [e] 4 4
theorem wf_small {n : Int} (h : -1000 ≤ n ∧ n ≤ 1000) : Wf n := by
  simp [Wf, Lit.wf, IntKind.min, IntKind.max, IntKind.signed, IntKind.bits]; omega
theorem preE_ok (e : Ex) : ExOk (preE e) := ⟨wf_small (by simp [preE, Ex.op]), Nat.zero_le _, wf_small (by simp [preE, Ex.n]), wf_small (by simp [preE, Ex.line]), wf_small (by simp [preE, Ex.col])⟩
/-- a new row of expressions -/
theorem rowEx {w : World} {g B : Nat} {l : List Ex} {css : List (List Value)} {cs : Array Value} {t : TypeId} (h : Row w g cs t) (hc : cs.toList = css.flatten) (hx : ExsAre w B l css) (hB : B ≤ w.heap.size) : IsExs w w.heap.size (some ⟨g, 0, none⟩) l := fun hn => by
  refine ⟨g, 0, rfl, h.lt, fun i x hi => ?_⟩
  have hil : i < css.length := by rw [hx.1]; exact (List.getElem?_eq_some_iff.1 hi).1
  refine ⟨css[i], fun j u hu => ?_, ((hx.2 i x _ hi (List.getElem?_eq_getElem hil)).more hB)⟩
  have hj : j < 6 := by rw [← hx.six css[i] (List.getElem_mem hil)]; exact (List.getElem?_eq_some_iff.1 hu).1
  have h2 : css.flatten[i * 6 + j]? = some u := by rw [flatten_get hx.six (List.getElem?_eq_getElem hil) hj]; exact hu
  rw [Nat.zero_add, h.cell, ← Array.getElem?_toList, hc]
  exact h2
theorem pre_any (e : Ex) (A : Option Addr) (cap : Nat) (w : World) (hok : ExOk e) (hcap : e.args.length ≤ cap) (hmax : cap ≤ maxLen) (hx : IsExs w w.heap.size A e.args) :
    Calls Try.prog 20 #[exV e A cap] w fun r w' => ∃ v, r = .returned v ∧ ExAt w' (preE e) v ∧ Below w.heap.size w w' := by
  go_enter Try.func20, Try.ntmps20
  go_wp2_with fail
  have hW := Row.new ((w.alloc (.cells #[.int .i64 e.op, .string e.name, .int .i64 e.n, .slice A e.args.length cap, .int .i64 e.line, .int .i64 e.col] 26)).alloc (.cells #[.int .i64 21, .string ⟨#[]⟩, .int .i64 0, .slice (some ⟨w.heap.size + 1 + 1, 0, none⟩) 1 1, .int .i64 4, .int .i64 4] 26)) #[.int .i64 e.op, .string e.name, .int .i64 e.n, .slice A e.args.length cap, .int .i64 e.line, .int .i64 e.col] 26
  rw [World.size_alloc, World.size_alloc] at hW
  have hB : Below w.heap.size w (((w.alloc (.cells #[.int .i64 e.op, .string e.name, .int .i64 e.n, .slice A e.args.length cap, .int .i64 e.line, .int .i64 e.col] 26)).alloc (.cells #[.int .i64 21, .string ⟨#[]⟩, .int .i64 0, .slice (some ⟨w.heap.size + 1 + 1, 0, none⟩) 1 1, .int .i64 4, .int .i64 4] 26)).alloc (.cells #[.int .i64 e.op, .string e.name, .int .i64 e.n, .slice A e.args.length cap, .int .i64 e.line, .int .i64 e.col] 26)) := (((Below.refl _ _).alloc (Nat.le_refl _) _).alloc (by simp) _).alloc (by simp; omega) _
  refine bodyPost_ret (v := exV (preE e) (some ⟨w.heap.size + 1 + 1, 0, none⟩) 1) (by simp [results, Try.results20, go_sem, preE, Ex.op, Ex.name, Ex.n, Ex.args, Ex.line, Ex.col]) rfl ⟨_, rfl, ⟨_, _, rfl, preE_ok e, Nat.le_refl _, by unfold maxLen; simp, ?_⟩, hB⟩
  exact rowEx (css := [exCells e A cap]) hW rfl (ExsAre.one ((IsEx.mk' hok hcap hmax hx).below hB)) hB.size
/-! ### the chapter's examples -/
def xE : Ex := .mk 3 ⟨#[120]⟩ 0 [] 0 0
def zE : Ex := .mk 1 ⟨#[]⟩ 0 [] 0 0
def arE (a b : Ex) : Ex := .mk 23 ⟨#[]⟩ 0 [a, b] 0 0
theorem xE_ok : ExOk xE := ⟨wf_small (by simp [xE, Ex.op]), by simp [xE, Ex.name, ByteArray.size, maxLen], wf_small (by simp [xE, Ex.n]), wf_small (by simp [xE, Ex.line]), wf_small (by simp [xE, Ex.col])⟩
theorem zE_ok : ExOk zE := ⟨wf_small (by simp [zE, Ex.op]), Nat.zero_le _, wf_small (by simp [zE, Ex.n]), wf_small (by simp [zE, Ex.line]), wf_small (by simp [zE, Ex.col])⟩
theorem arE_ok (a b : Ex) : ExOk (arE a b) := ⟨wf_small (by simp [arE, Ex.op]), Nat.zero_le _, wf_small (by simp [arE, Ex.n]), wf_small (by simp [arE, Ex.line]), wf_small (by simp [arE, Ex.col])⟩
theorem lateX : lateR xE = (false, flOk) := by rw [lateR_eq]; rfl
theorem lateZ : lateR zE = (false, flOk) := by rw [lateR_eq]; rfl
theorem latePX : lateR (preE xE) = (true, flOk) := by rw [lateR_eq, show (preE xE).args = [xE] from rfl, List.map_cons, List.map_nil, lateX]; rfl
theorem lateAr : lateR (arE zE (preE xE)) = (false, flOk) := by rw [lateR_eq, show (arE zE (preE xE)).args = [zE, preE xE] from rfl, List.map_cons, List.map_cons, List.map_nil, lateZ, latePX]; rfl
theorem latePPX : lateR (preE (preE xE)) = (false, ⟨31, 4, 4⟩) := by rw [lateR_eq, show (preE (preE xE)).args = [preE xE] from rfl, List.map_cons, List.map_nil, latePX]; rfl
theorem listX : exList xE = [xE] := by rw [exList_eq]; rfl
theorem listZ : exList zE = [zE] := by rw [exList_eq]; rfl
theorem listP (e : Ex) : exList (preE e) = preE e :: exList e := by rw [exList_eq]; simp [preE, Ex.args]
theorem listAr (a b : Ex) : exList (arE a b) = arE a b :: (exList a ++ exList b) := by rw [exList_eq]; simp [arE, Ex.args]
theorem highX : exHeight xE = 1 := by rw [exHeight_eq]; rfl
theorem highZ : exHeight zE = 1 := by rw [exHeight_eq]; rfl
theorem highP (e : Ex) : exHeight (preE e) = exHeight e + 1 := by rw [exHeight_eq]; simp [preE, Ex.args, maxL]
theorem highAr (a b : Ex) : exHeight (arE a b) = max (exHeight a) (exHeight b) + 1 := by rw [exHeight_eq]; simp [arE, Ex.args, maxL]
theorem plainX : plainB xE = true := by decide +kernel
theorem plainZ : plainB zE = true := by decide +kernel
theorem plainP (e : Ex) : plainB (preE e) = true := by simp [plainB, plainK, preE, Ex.op, Ex.args, Ex.name, Ex.n, partsZ, namesB, ByteArray.toList_eq]
theorem plainAr (a b : Ex) : plainB (arE a b) = true := by simp [plainB, plainK, arE, Ex.op, Ex.args, Ex.name, Ex.n, partsZ, namesB, ByteArray.toList_eq]
theorem rightPX : exRight (preE xE) = true := by simp [exRight, listP, listX, highP, highX, plainP, plainX]
theorem rightPPX : exRight (preE (preE xE)) = true := by simp [exRight, listP, listX, highP, highX, plainP, plainX]
theorem rightAr : exRight (arE zE (preE xE)) = true := by simp [exRight, listP, listX, listZ, listAr, highAr, highP, highX, highZ, plainP, plainX, plainZ, plainAr]
theorem topPX : lateTop (preE xE) = (true, flOk) := by unfold lateTop; rw [if_pos rightPX, latePX]
theorem topAr : lateTop (arE zE (preE xE)) = (false, flOk) := by unfold lateTop; rw [if_pos rightAr, lateAr]
theorem topPPX : lateTop (preE (preE xE)) = (false, ⟨31, 4, 4⟩) := by unfold lateTop; rw [if_pos rightPPX, latePPX]
end Go.Proofs.Ytolabbnchmmckaa
