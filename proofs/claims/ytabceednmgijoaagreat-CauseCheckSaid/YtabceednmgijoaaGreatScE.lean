/-
  A source's node of a name, the names of nodes, where a name is defined: the contracts of package scope and of tompionref15.
-/
import Derived.Test.YtabceednmgijoaaGreatRfS
import Derived.Deep.RegionHeld3
namespace Go.Proofs.YtabceednmgijoaaGreat
open Go.RowKit
attribute [local go_sem ↓] Go.wp_at_zero Go.wp_at_succ
abbrev ftC (f : Ft) : Array Value := #[.int .i64 f.err, .int .i64 f.line, .int .i64 f.col]
abbrev ftC0 : Array Value := #[.int .i64 0, .int .i64 0, .int .i64 0]
theorem fault_any (e l c : Int) (w : World) :
    Calls Tryz.prog 43 #[.int .i64 e, .agg #[.int .i64 l, .int .i64 c]] w fun r w' => r = .returned (ftV ⟨e, l, c⟩) ∧ Below w.heap.size w w' := by
  go_enter Tryz.func43, Tryz.ntmps43
  go_wp2_with fail
  exact bodyPost_ret (v := ftV ⟨e, l, c⟩) (by simp [results, Tryz.results43, go_sem]) rfl ⟨rfl, bE⟩
theorem rwrong_at (e l c : Int) (w : World) :
    Calls Tryz.prog 53 #[.int .i64 e, .agg #[.int .i64 l, .int .i64 c]] w fun r w' => r = .returned (ftV ⟨e, l, c⟩) ∧ Below w.heap.size w w' := by
  go_enter Tryz.func53, Tryz.ntmps53
  go_wp2_with fail
  exact bodyPost_ret (v := ftV ⟨e, l, c⟩) (by simp [results, Tryz.results53, go_sem]) rfl ⟨rfl, bE⟩
section
variable {B b : Nat} {a w : World}
theorem below_set3 (h : Below B a w) (hb : B ≤ b) (y0 y1 y2 : Value) : Below B a (((w.setCell ⟨b, 0, none⟩ y0).setCell ⟨b, 1, none⟩ y1).setCell ⟨b, 2, none⟩ y2) :=
  ((h.setCell (p := ⟨b, 0, none⟩) hb y0).setCell (p := ⟨b, 1, none⟩) hb y1).setCell (p := ⟨b, 2, none⟩) hb y2
theorem below_set5 (h : Below B a w) (hb : B ≤ b) (y0 y1 y2 y3 y4 : Value) : Below B a (((((w.setCell ⟨b, 0, none⟩ y0).setCell ⟨b, 1, none⟩ y1).setCell ⟨b, 2, none⟩ y2).setCell ⟨b, 3, none⟩ y3).setCell ⟨b, 4, none⟩ y4) :=
  ((below_set3 h hb y0 y1 y2).setCell (p := ⟨b, 3, none⟩) hb y3).setCell (p := ⟨b, 4, none⟩) hb y4
theorem below_set7 (h : Below B a w) (hb : B ≤ b) (y0 y1 y2 y3 y4 y5 y6 : Value) : Below B a (((((((w.setCell ⟨b, 0, none⟩ y0).setCell ⟨b, 1, none⟩ y1).setCell ⟨b, 2, none⟩ y2).setCell ⟨b, 3, none⟩ y3).setCell ⟨b, 4, none⟩ y4).setCell ⟨b, 5, none⟩ y5).setCell ⟨b, 6, none⟩ y6) :=
  ((below_set5 h hb y0 y1 y2 y3 y4).setCell (p := ⟨b, 5, none⟩) hb y5).setCell (p := ⟨b, 6, none⟩) hb y6
end
section
variable {W : World} {b g : Nat} {cs : Array Value} {t : TypeId}
theorem Row.far3 (h : Row W b cs t) (hne : b ≠ g) (y0 y1 y2 : Value) : Row (((W.setCell ⟨g, 0, none⟩ y0).setCell ⟨g, 1, none⟩ y1).setCell ⟨g, 2, none⟩ y2) b cs t :=
  ((h.far (p := ⟨g, 0, none⟩) hne y0).far (p := ⟨g, 1, none⟩) hne y1).far (p := ⟨g, 2, none⟩) hne y2
theorem Row.far5 (h : Row W b cs t) (hne : b ≠ g) (y0 y1 y2 y3 y4 : Value) : Row (((((W.setCell ⟨g, 0, none⟩ y0).setCell ⟨g, 1, none⟩ y1).setCell ⟨g, 2, none⟩ y2).setCell ⟨g, 3, none⟩ y3).setCell ⟨g, 4, none⟩ y4) b cs t :=
  ((h.far3 hne y0 y1 y2).far (p := ⟨g, 3, none⟩) hne y3).far (p := ⟨g, 4, none⟩) hne y4
theorem Row.far7 (h : Row W b cs t) (hne : b ≠ g) (y0 y1 y2 y3 y4 y5 y6 : Value) : Row (((((((W.setCell ⟨g, 0, none⟩ y0).setCell ⟨g, 1, none⟩ y1).setCell ⟨g, 2, none⟩ y2).setCell ⟨g, 3, none⟩ y3).setCell ⟨g, 4, none⟩ y4).setCell ⟨g, 5, none⟩ y5).setCell ⟨g, 6, none⟩ y6) b cs t :=
  ((h.far5 hne y0 y1 y2 y3 y4).far (p := ⟨g, 5, none⟩) hne y5).far (p := ⟨g, 6, none⟩) hne y6
end
abbrev exA (e : Ex) (A : Option Addr) (cap : Nat) : Array Value := #[.int .i64 e.op, .string e.name, .int .i64 e.n, .slice A e.args.length cap, .int .i64 e.line, .int .i64 e.col]
theorem Row.ex6 {W : World} {b : Nat} {e : Ex} {A : Option Addr} {cap : Nat} {t : TypeId} (h : Row W b (exA e A cap) t) : W.cell? ⟨b, 0, none⟩ = some (.int .i64 e.op) ∧ W.cell? ⟨b, 1, none⟩ = some (.string e.name) ∧ W.cell? ⟨b, 2, none⟩ = some (.int .i64 e.n) ∧
    W.cell? ⟨b, 3, none⟩ = some (.slice A e.args.length cap) ∧ W.cell? ⟨b, 4, none⟩ = some (.int .i64 e.line) ∧ W.cell? ⟨b, 5, none⟩ = some (.int .i64 e.col) :=
  ⟨(h.cell 0).trans rfl, (h.cell 1).trans rfl, (h.cell 2).trans rfl, (h.cell 3).trans rfl, (h.cell 4).trans rfl, (h.cell 5).trans rfl⟩
theorem rowNewD (W : World) (o o' o'' : Obj) (cs : Array Value) (t : TypeId) : Row ((((W.alloc o).alloc o').alloc o'').alloc (.cells cs t)) (W.heap.size + 3) cs t := by
  have := Row.new (((W.alloc o).alloc o').alloc o'') cs t
  rwa [World.size_alloc, World.size_alloc, World.size_alloc] at this
theorem names_yes {op : Int} (h : namesB op = true) : (op == 3) = true ∨ ((op == 3) = false ∧ decide (24 ≤ op) = true ∧ decide (op ≤ 26) = true) := by
  have h : op = 3 ∨ op = 24 ∨ op = 25 ∨ op = 26 := by simpa [namesB] using h
  rcases h with h | h
  · exact .inl (eq_yes h)
  · exact .inr ⟨eq_no (by omega), dec_yes (by omega), dec_yes (by omega)⟩
theorem names_no {op : Int} (h : namesB op = false) : (op == 3) = false ∧ (decide (24 ≤ op) = false ∨ (decide (24 ≤ op) = true ∧ decide (op ≤ 26) = false)) := by
  have h : ¬ (op = 3 ∨ op = 24 ∨ op = 25 ∨ op = 26) := by simpa [namesB] using h
  refine ⟨eq_no (by omega), ?_⟩
  by_cases h24 : 24 ≤ op
  · exact .inr ⟨dec_yes h24, dec_no (by omega)⟩
  · exact .inl (dec_no h24)
theorem names_4 {op : Int} (h : op = 4) : namesB op = false := by subst h; rfl
/-- a Bool that says a proposition -/
def TstP (P : Bool) (p : Prop) : Prop := (P = true → p) ∧ (p → P = true)
theorem TstP.yes {p : Prop} (h : p) : TstP true p := ⟨fun _ => h, fun _ => rfl⟩
theorem TstP.no {p : Prop} (h : ¬ p) : TstP false p := ⟨fun g => Bool.noConfusion g, fun g => absurd g h⟩
abbrev nd0 : Nd := ⟨⟨#[]⟩, [], [], [], [], 0, 0⟩
abbrev nda0 : NdA := ⟨none, 0, none, 0, none, 0, none, 0⟩
abbrev ndZ : Array Value := #[.string ⟨#[]⟩, .slice none 0 0, .slice none 0 0, .slice none 0 0, .slice none 0 0, .int .i64 0, .int .i64 0]
theorem nodeAt_at {s : List Nd} {nm : ByteArray} {k : Nat} {n : Nd} (h : ∀ j, j < k → ∀ x, s[j]? = some x → x.name ≠ nm) (hk : s[k]? = some n) (he : n.name = nm) : nodeAt s nm = some n := by
  obtain ⟨hl, hm⟩ := List.getElem?_eq_some_iff.1 hk
  unfold nodeAt
  rw [List.find?_eq_some_iff_getElem]
  refine ⟨by simpa using he, k, hl, hm, fun j hj => ?_⟩
  have := h j hj _ (List.getElem?_eq_getElem (by omega))
  simpa using this
theorem nodeAt_mem {s : List Nd} {nm : ByteArray} {n : Nd} (h : nodeAt s nm = some n) : n ∈ s ∧ n.name = nm := by
  unfold nodeAt at h
  exact ⟨List.mem_of_find?_eq_some h, by simpa using List.find?_some h⟩
theorem nodeAt_none {s : List Nd} {nm : ByteArray} : nodeAt s nm = none ↔ nm ∉ s.map Nd.name := by
  unfold nodeAt
  rw [List.find?_eq_none]
  constructor
  · intro h hm
    obtain ⟨n, hn, he⟩ := List.mem_map.1 hm
    have := h n hn
    simp at this
    exact this he
  · intro h n hn he
    have : n.name = nm := by simpa using he
    exact h (by rw [← this]; exact List.mem_map_of_mem hn)
/-- what scope.Find gives -/
def FindRes (s : List Nd) (nm : ByteArray) (w : World) (e : Ending) (w' : World) : Prop :=
  (∃ (n : Nd) (a : NdA), e = .returned (.tuple #[ndV n a, .bool (cB (nm ∈ s.map Nd.name))]) ∧ Hid (nm ∈ s.map Nd.name → nodeAt s nm = some n ∧ NdAt w' w.heap.size n a) ∧ Hid (nm ∉ s.map Nd.name → n = nd0 ∧ a = nda0)) ∧ Below w.heap.size w w'
set_option maxRecDepth 100000 in
set_option maxHeartbeats 1000000 in
theorem find_any (s : List Nd) (m : Nat) (A : Option Addr) (cap : Nat) (nm : ByteArray) (w : World) (hm : s.length = m) (h1 : m ≤ cap) (h2 : cap ≤ maxLen) (h : Nds w w.heap.size A s) :
    Calls Tryz.prog 50 #[.agg #[.slice A m cap], .string nm] w (FindRes s nm w) := by
  subst hm
  have rf1 := rowNew2 w (.cells #[.slice A s.length cap] 24) ndZ 36
  have rs1 := (Row.new w #[.slice A s.length cap] 24).alloc (.cells ndZ 36)
  have b1 : Below w.heap.size w ((w.alloc (.cells #[.slice A s.length cap] 24)).alloc (.cells ndZ 36)) := bE
  have HS := Lib.hid (nds_keep h (keeps_of b1) (Nat.le_refl _))
  have h2' : cap ≤ 9223372036854775807 := by unfold maxLen at h2; omega
  clear h
  go_enter Tryz.func50, Tryz.ntmps50
  go_upto_region 1 with (fail)
  generalize (w.alloc (.cells #[.slice A s.length cap] 24)).alloc (.cells ndZ 36) = W1 at *
  have hs1 := b1.size
  have l1 := rf1.lt
  have c0 := rs1.src
  go_wp2_with fail
  clear c0 rs1
  go_loopw [11] (fun i wr => ∃ k : Nat, k ≤ s.length ∧ i = .int .i64 k ∧ Hid (∀ j, j < k → ∀ x, s[j]? = some x → x.name ≠ nm) ∧ Below W1.heap.size W1 wr) (fun i _ => s.length - (intOf i).toNat)
  case atStart => exact ⟨0, Nat.zero_le _, rfl, fun j h => absurd h (by omega), Below.refl _ _⟩
  case round =>
    obtain ⟨k, hk, rfl, HN, hbr⟩ := hrel
    have hszr := hbr.size
    have rr := rf1.below hbr l1
    have lr := rr.lt
    have hB := b1.trans (hbr.mono hs1)
    obtain ⟨⟨z0, z1, z2, z3, z4, z5, z6⟩, f0, f1, f2, f3, f4, f5, f6⟩ := rr.seven
    by_cases hlt : k < s.length
    · obtain ⟨b, off, n, a, rfl, hb, hn, hat, d0, d1, d2, d3, d4, d5, d6⟩ := (nds_keep HS.out (keeps_of (hbr.mono hs1)) (Nat.le_refl _)).nd hlt
      have HX := Lib.hid hn
      have HAT := Lib.hid hat
      clear hn hat
      by_cases e : n.name = nm
      · have e1 := beq_yes e
        have HM : Hid (nm ∈ s.map Nd.name) := by show _ ∈ _; rw [← e]; exact List.mem_map_of_mem (List.mem_of_getElem? HX.out)
        have HF := Lib.hid (nodeAt_at HN.out HX.out e)
        clear e
        go_wp2_with fail
        have bb := (below_set7 (Below.refl w.heap.size wr) (Nat.le_succ w.heap.size) (.string n.name) (.slice a.ai n.ins.length a.ci) (.slice a.ao n.outs.length a.co) (.slice a.av n.vars.length a.cv) (.slice a.aq n.eqs.length a.cq) (.int .i64 n.line) (.int .i64 n.col)).alloc (by simp [World.setCell]; omega) (.cells (ndArr n a) 36)
        have HQ : Hid (Ending.returned (.tuple #[ndV n a, .bool true]) = .returned (.tuple #[ndV n a, .bool (cB (nm ∈ s.map Nd.name))])) := by show _ = _; rw [cB_true HM.out]
        exact bodyPost_ret (v := .tuple #[ndV n a, .bool true]) (res2 rfl Tryz.underlying36 rfl (by kernel_rfl) rfl rfl ((rr.set7 _ _ _ _ _ _ _).alloc _)) rfl ⟨⟨n, a, HQ.out, fun _ => ⟨HF.out, HAT.out.below bb⟩, fun g => absurd HM.out g⟩, hB.trans bb⟩
      · have e1 := beq_no e
        have HN' := Lib.hid (step_upto (P := fun x : Nd => x.name ≠ nm) HN.out HX.out e)
        clear e
        go_wp2_with fail
        go_roundw
        case rel => exact ⟨k + 1, by omega, by go_num, HN', hbr.alloc hszr _⟩
        case measure => first | (simp [intOf]; omega) | simp [intOf]
    · obtain rfl : k = s.length := by omega
      have HM : Hid (nm ∉ s.map Nd.name) := fun g => by
        obtain ⟨n, hn, he⟩ := List.mem_map.1 g
        obtain ⟨j, hj⟩ := List.getElem?_of_mem hn
        exact HN.out j (List.getElem?_eq_some_iff.1 hj).1 n hj he
      go_wp2_with fail
      have HQ : Hid (Ending.returned (.tuple #[ndV nd0 nda0, .bool false]) = .returned (.tuple #[ndV nd0 nda0, .bool (cB (nm ∈ s.map Nd.name))])) := by show _ = _; rw [cB_false HM.out]
      exact bodyPost_ret (v := .tuple #[ndV nd0 nda0, .bool false]) (res2 rfl Tryz.underlying36 rfl (by kernel_rfl) rfl rfl (rr.set7 _ _ _ _ _ _ _)) rfl ⟨⟨nd0, nda0, HQ.out, fun g => absurd g HM.out, fun _ => ⟨rfl, rfl⟩⟩, below_set7 hB (Nat.le_succ _) _ _ _ _ _ _ _⟩
end Go.Proofs.YtabceednmgijoaaGreat
