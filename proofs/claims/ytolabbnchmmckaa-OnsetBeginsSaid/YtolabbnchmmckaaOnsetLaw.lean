/-
  Few parts; one tick before; the chapter's examples of onset.
-/
import Derived.Test.YtolabbnchmmckaaOnsetRef
import Derived.Deep.RegionHeld3
import Derived.Laws.StructEq
namespace Go.Proofs.Ytolabbnchmmckaa
open Go.RowKit Nm

/-! ### few parts -/
theorem room_list {l : List Ex} (ih : ∀ x ∈ l, ∀ a d, 0 ≤ roomZ x a d → roomZ x a d = a - exSize x ∧ ∀ y ∈ exList x, y.name.size ≤ 30) :
    ∀ a d, 0 ≤ roomL (l.map roomZ) a d → roomL (l.map roomZ) a d = a - sumL (l.map exSize) ∧ ∀ x ∈ l, ∀ y ∈ exList x, y.name.size ≤ 30 := by
  induction l with
  | nil => intro a d _; exact ⟨by simp [roomL, sumL], fun x hx => absurd hx List.not_mem_nil⟩
  | cons x l ihl =>
    intro a d h
    simp only [List.map_cons, roomL] at h ⊢
    by_cases ha : a < 0
    · rw [if_pos ha] at h; omega
    · rw [if_neg ha] at h ⊢
      have h2 := ihl (fun y hy => ih y (by simp [hy])) _ _ h
      have hx0 : 0 ≤ roomZ x a d := by rw [h2.1] at h; omega
      have h1 := ih x (by simp) a d hx0
      refine ⟨by rw [h2.1, h1.1]; simp only [sumL]; omega, fun y hy => ?_⟩
      rcases List.mem_cons.1 hy with rfl | hy
      · exact h1.2
      · exact h2.2 y hy
theorem room_small (e : Ex) : ∀ a d, 0 ≤ roomZ e a d → roomZ e a d = a - exSize e ∧ ∀ y ∈ exList e, y.name.size ≤ 30 := by
  induction e using Ex.ind with
  | h e ih =>
    intro a d h
    rw [roomZ_eq] at h ⊢
    by_cases hc : d = 0 ∨ 30 < e.name.size
    · rw [if_pos hc] at h; omega
    · rw [if_neg hc] at h ⊢
      have := room_list ih _ _ h
      refine ⟨by rw [this.1, exSize_eq]; omega, fun y hy => ?_⟩
      rw [exList_eq] at hy
      rcases List.mem_cons.1 hy with rfl | hy
      · omega
      · obtain ⟨l, hl, hy⟩ := List.mem_flatten.1 hy
        obtain ⟨x, hx, rfl⟩ := List.mem_map.1 hl
        exact this.2 x hx y hy
noncomputable def fewB (e : Ex) : Bool := decide (0 ≤ roomZ e 200 50)
theorem few_small {e : Ex} (h : fewB e = true) : Small e ∧ exSize e ≤ 200 := by
  have h0 : 0 ≤ roomZ e 200 50 := by simpa [fewB] using h
  have := room_small e 200 50 h0
  exact ⟨⟨by omega, this.2⟩, by omega⟩
/-- an expression by value, and what it leads to -/
def ExAt (w : World) (e : Ex) (v : Value) : Prop := ∃ A cap, v = exV e A cap ∧ ExOk e ∧ e.args.length ≤ cap ∧ cap ≤ maxLen ∧ IsExs w w.heap.size A e.args
theorem ExAt.below {w w' : World} {e : Ex} {v : Value} (h : ExAt w e v) (hb : Below w.heap.size w w') : ExAt w' e v := by
  obtain ⟨A, cap, h1, h2, h3, h4, h5⟩ := h
  exact ⟨A, cap, h1, h2, h3, h4, (h5.below hb).more hb.size⟩
theorem ExAt.alloc {w : World} {e : Ex} {v : Value} (h : ExAt w e v) (o : Obj) : ExAt (w.alloc o) e v := h.below ((Below.refl _ _).alloc (Nat.le_refl _) _)
theorem few_any (e : Ex) (A : Option Addr) (cap : Nat) (w : World) (hok : ExOk e) (hcap : e.args.length ≤ cap) (hmax : cap ≤ maxLen) (hx : IsExs w w.heap.size A e.args) :
    Calls Try.prog 15 #[exV e A cap] w fun r w' => r = .returned (.bool (fewB e)) ∧ Below w.heap.size w w' := by
  have hB0 : Below w.heap.size w (w.alloc (.cells #[.int .i64 e.op, .string e.name, .int .i64 e.n, .slice A e.args.length cap, .int .i64 e.line, .int .i64 e.col] 26)) := (Below.refl _ _).alloc (Nat.le_refl _) _
  go_enter Try.func15, Try.ntmps15
  go_wp2_with fail
  refine (room_any e A cap 200 50 _ hok hcap hmax ((hx.below hB0).more (by simp)) (by omega) (by omega) (by omega) (by omega)).mono ?_
  rintro r w1 ⟨rfl, hb1⟩
  go_wp2_with fail
  go_ret
  exact ⟨rfl, hB0.trans (hb1.mono (by simp))⟩
/-- what was -/
def preE (e : Ex) : Ex := .mk 21 ⟨#[]⟩ 0 [e] 4 4
theorem wf_small {n : Int} (h : -1000 ≤ n ∧ n ≤ 1000) : Wf n := by
  simp [Wf, Lit.wf, IntKind.min, IntKind.max, IntKind.signed, IntKind.bits]; omega
theorem preE_ok (e : Ex) : ExOk (preE e) := ⟨wf_small (by simp [preE, Ex.op]), Nat.zero_le _, wf_small (by simp [preE, Ex.n]), wf_small (by simp [preE, Ex.line]), wf_small (by simp [preE, Ex.col])⟩
/-- a new row of expressions -/
theorem rowEx {w : World} {g B : Nat} {l : List Ex} {css : List (List Value)} {cs : Array Value} {t : TypeId} (h : Row w g cs t) (hc : cs.toList = css.flatten) (hx : ExsAre w B l css) (hB : B ≤ w.heap.size) : IsExs w w.heap.size (some ⟨g, 0, none⟩) l := fun hn => by
  refine ⟨g, 0, rfl, h.lt, fun i x hi => ?_⟩
  have hil : i < css.length := by rw [hx.1]; exact (List.getElem?_eq_some_iff.1 hi).1
  refine ⟨css[i], fun j u hu => ?_, ((hx.2 i x _ hi (List.getElem?_eq_getElem hil)).more hB)⟩
  have hj : j < 6 := by rw [← hx.six css[i] (List.getElem_mem hil)]; exact (List.getElem?_eq_some_iff.1 hu).1
  have h2 : css.flatten[i * 6 + j]? = some u := by rw [flatten_get hx.six (List.getElem?_eq_getElem hil) hj]; exact hu
  rw [Nat.zero_add, h.cell, ← Array.getElem?_toList, hc]
  exact h2
theorem pre_any (e : Ex) (A : Option Addr) (cap : Nat) (w : World) (hok : ExOk e) (hcap : e.args.length ≤ cap) (hmax : cap ≤ maxLen) (hx : IsExs w w.heap.size A e.args) :
    Calls Try.prog 20 #[exV e A cap] w fun r w' => ∃ v, r = .returned v ∧ ExAt w' (preE e) v ∧ Below w.heap.size w w' := by
  go_enter Try.func20, Try.ntmps20
  go_wp2_with fail
  have hW := Row.new ((w.alloc (.cells #[.int .i64 e.op, .string e.name, .int .i64 e.n, .slice A e.args.length cap, .int .i64 e.line, .int .i64 e.col] 26)).alloc (.cells #[.int .i64 21, .string ⟨#[]⟩, .int .i64 0, .slice (some ⟨w.heap.size + 1 + 1, 0, none⟩) 1 1, .int .i64 4, .int .i64 4] 26)) #[.int .i64 e.op, .string e.name, .int .i64 e.n, .slice A e.args.length cap, .int .i64 e.line, .int .i64 e.col] 26
  rw [World.size_alloc, World.size_alloc] at hW
  have hB : Below w.heap.size w (((w.alloc (.cells #[.int .i64 e.op, .string e.name, .int .i64 e.n, .slice A e.args.length cap, .int .i64 e.line, .int .i64 e.col] 26)).alloc (.cells #[.int .i64 21, .string ⟨#[]⟩, .int .i64 0, .slice (some ⟨w.heap.size + 1 + 1, 0, none⟩) 1 1, .int .i64 4, .int .i64 4] 26)).alloc (.cells #[.int .i64 e.op, .string e.name, .int .i64 e.n, .slice A e.args.length cap, .int .i64 e.line, .int .i64 e.col] 26)) := (((Below.refl _ _).alloc (Nat.le_refl _) _).alloc (by simp) _).alloc (by simp; omega) _
  refine bodyPost_ret (v := exV (preE e) (some ⟨w.heap.size + 1 + 1, 0, none⟩) 1) (by simp [results, Try.results20, go_sem, preE, Ex.op, Ex.name, Ex.n, Ex.args, Ex.line, Ex.col]) rfl ⟨_, rfl, ⟨_, _, rfl, preE_ok e, Nat.le_refl _, by unfold maxLen; simp, ?_⟩, hB⟩
  exact rowEx (css := [exCells e A cap]) hW rfl (ExsAre.one ((IsEx.mk' hok hcap hmax hx).below hB)) hB.size
/-! ### the chapter's examples -/
def xE : Ex := .mk 3 ⟨#[120]⟩ 0 [] 0 0
def zE : Ex := .mk 1 ⟨#[]⟩ 0 [] 0 0
def arE (a b : Ex) : Ex := .mk 23 ⟨#[]⟩ 0 [a, b] 0 0
theorem xE_ok : ExOk xE := ⟨wf_small (by simp [xE, Ex.op]), by simp [xE, Ex.name, ByteArray.size, maxLen], wf_small (by simp [xE, Ex.n]), wf_small (by simp [xE, Ex.line]), wf_small (by simp [xE, Ex.col])⟩
theorem zE_ok : ExOk zE := ⟨wf_small (by simp [zE, Ex.op]), Nat.zero_le _, wf_small (by simp [zE, Ex.n]), wf_small (by simp [zE, Ex.line]), wf_small (by simp [zE, Ex.col])⟩
theorem arE_ok (a b : Ex) : ExOk (arE a b) := ⟨wf_small (by simp [arE, Ex.op]), Nat.zero_le _, wf_small (by simp [arE, Ex.n]), wf_small (by simp [arE, Ex.line]), wf_small (by simp [arE, Ex.col])⟩
theorem lateX : lateR xE = (false, flOk) := by rw [lateR_eq]; rfl
theorem lateZ : lateR zE = (false, flOk) := by rw [lateR_eq]; rfl
theorem latePX : lateR (preE xE) = (true, flOk) := by rw [lateR_eq, show (preE xE).args = [xE] from rfl, List.map_cons, List.map_nil, lateX]; rfl
theorem lateAr : lateR (arE zE (preE xE)) = (false, flOk) := by rw [lateR_eq, show (arE zE (preE xE)).args = [zE, preE xE] from rfl, List.map_cons, List.map_cons, List.map_nil, lateZ, latePX]; rfl
theorem latePPX : lateR (preE (preE xE)) = (false, ⟨31, 4, 4⟩) := by rw [lateR_eq, show (preE (preE xE)).args = [preE xE] from rfl, List.map_cons, List.map_nil, latePX]; rfl
theorem listX : exList xE = [xE] := by rw [exList_eq]; rfl
theorem listZ : exList zE = [zE] := by rw [exList_eq]; rfl
theorem listP (e : Ex) : exList (preE e) = preE e :: exList e := by rw [exList_eq]; simp [preE, Ex.args]
theorem listAr (a b : Ex) : exList (arE a b) = arE a b :: (exList a ++ exList b) := by rw [exList_eq]; simp [arE, Ex.args]
theorem highX : exHeight xE = 1 := by rw [exHeight_eq]; rfl
theorem highZ : exHeight zE = 1 := by rw [exHeight_eq]; rfl
theorem highP (e : Ex) : exHeight (preE e) = exHeight e + 1 := by rw [exHeight_eq]; simp [preE, Ex.args, maxL]
theorem highAr (a b : Ex) : exHeight (arE a b) = max (exHeight a) (exHeight b) + 1 := by rw [exHeight_eq]; simp [arE, Ex.args, maxL]
theorem plainX : plainB xE = true := by decide +kernel
theorem plainZ : plainB zE = true := by decide +kernel
theorem plainP (e : Ex) : plainB (preE e) = true := by simp [plainB, plainK, preE, Ex.op, Ex.args, Ex.name, Ex.n, partsZ, namesB, ByteArray.toList_eq]
theorem plainAr (a b : Ex) : plainB (arE a b) = true := by simp [plainB, plainK, arE, Ex.op, Ex.args, Ex.name, Ex.n, partsZ, namesB, ByteArray.toList_eq]
theorem rightPX : exRight (preE xE) = true := by simp [exRight, listP, listX, highP, highX, plainP, plainX]
theorem rightPPX : exRight (preE (preE xE)) = true := by simp [exRight, listP, listX, highP, highX, plainP, plainX]
theorem rightAr : exRight (arE zE (preE xE)) = true := by simp [exRight, listP, listX, listZ, listAr, highAr, highP, highX, highZ, plainP, plainX, plainZ, plainAr]
theorem topPX : lateTop (preE xE) = (true, flOk) := by unfold lateTop; rw [if_pos rightPX, latePX]
theorem topAr : lateTop (arE zE (preE xE)) = (false, flOk) := by unfold lateTop; rw [if_pos rightAr, lateAr]
theorem topPPX : lateTop (preE (preE xE)) = (false, ⟨31, 4, 4⟩) := by unfold lateTop; rw [if_pos rightPPX, latePPX]
end Go.Proofs.Ytolabbnchmmckaa
