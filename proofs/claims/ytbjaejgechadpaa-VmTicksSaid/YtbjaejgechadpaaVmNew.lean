/-
  Machines in memory; the contracts of vm.New and of a machine's is.
-/
import Derived.Test.YtbjaejgechadpaaVmA
import Derived.Deep.RegionHeld3
namespace Go.Proofs.Ytbjaejgechadpaa
open Go.RowKit Vf
attribute [local go_sem ↓] Go.wp_at_zero Go.wp_at_succ
/-- a machine that lies in memory -/
structure MachAt (w : World) (M : Nat) (p : Pg) (vi vo vc vd : Value) : Prop where
  row : Row w M #[vi, vo, .int .i64 p.regs, vc, vd, .bool true] 77
  pg : PgAt w w.heap.size p vi vo vc vd
theorem MachAt.below {w w' : World} {M : Nat} {p : Pg} {vi vo vc vd : Value} (h : MachAt w M p vi vo vc vd) (hb : Below w.heap.size w w') : MachAt w' M p vi vo vc vd := ⟨h.row.below hb h.row.lt, h.pg.next hb⟩
theorem is_any {w : World} {M : Nat} {p : Pg} {vi vo vc vd : Value} (h : MachAt w M p vi vo vc vd) :
    Calls Try.prog 57 #[.pointer (some ⟨M, 0, none⟩)] w fun e w' => e = .returned (.bool true) ∧ w = w' := by
  have q5 : w.cell? ⟨M, 5, none⟩ = some (.bool true) := h.row.cell 5
  clear h
  go_enter Try.func57, Try.ntmps57
  go_wp2_with fail
  go_ret
  exact ⟨rfl, rfl⟩
theorem is_nil (w : World) :
    Calls Try.prog 57 #[.pointer none] w fun e w' => e = .returned (.bool false) ∧ w = w' := by
  go_enter Try.func57, Try.ntmps57
  go_wp2_with fail
  go_ret
  exact ⟨rfl, rfl⟩
def NewIs (p : Pg) (w : World) (e : Ending) (w' : World) : Prop :=
  Below w.heap.size w w' ∧ ((rightOk p ∧ ∃ M vi vo vc vd, e = .returned (.tuple #[.pointer (some ⟨M, 0, none⟩), .int .i64 0]) ∧ MachAt w' M p vi vo vc vd) ∨ (¬ rightOk p ∧ e = .returned (.tuple #[.pointer none, .int .i64 40])))
theorem right_code {p : Pg} (h : rightOk p) : 0 < p.code.length := by
  have h1 := h.1.2.2.2.1.2.1
  have h2 := h.2.2 0 (by omega)
  rcases hc : p.code with _ | ⟨x, l⟩
  · rw [hc] at h2; simp [outCount] at h2
  · simp
theorem own_setFar {w : World} {base : Nat} {e : TypeId} {size : Nat} {v : Value} {n : Nat} {xs : List Value} (h : w.ownsRow base e size v n xs) {p : Addr} (hp : p.block < base) (u : Value) : (w.setCell p u).ownsRow base e size v n xs :=
  own_far h (fun k hk => by have := (h.lt k hk).1; omega) u
theorem own_slv {α : Type} {w : World} {base : Nat} {e : TypeId} {size : Nat} {v : Value} {n : Nat} {rel : α → List Value → Prop} {f : α → List Value} {l : List α} (h : w.ownsRow base e size v n (l.map f).flatten) (hf : ∀ x ∈ l, rel x (f x)) (hl : ∀ x, (f x).length = size) (hs : 0 < size) : SlV w w.heap.size size rel v l :=
  (own_sl h (Are.map hf) (fun cs hcs => by obtain ⟨y, _, rfl⟩ := List.mem_map.1 hcs; exact hl y) hs).1
theorem own_cut {w : World} {base : Nat} {e : TypeId} {size : Nat} {g n c : Nat} {xs : List Value} (h : w.ownsRow base e size (.slice (some ⟨g, 0, none⟩) n c) n xs) : n ≤ c ∧ c ≤ maxLen := by
  rcases h.2 with ⟨h0, _⟩ | ⟨g', cap, cur, h1, h2, h3, h4, h5, _⟩
  · cases h0
  · injection h1 with _ _ e3; omega
/-- a slice's capacity may be cut -/
theorem SlV.cut {α : Type} {w : World} {B size n c : Nat} {rel : α → List Value → Prop} {A : Option Addr} {l : List α} (h : SlV w B size rel (.slice A n c) l) : SlV w B size rel (.slice A n n) l := by
  obtain ⟨A', c', h1, h2, h3, h4⟩ := h
  injection h1 with e1 e2 e3
  subst e1; subst e2
  exact ⟨_, _, rfl, Nat.le_refl _, by omega, h4⟩
set_option maxRecDepth 100000 in
set_option maxHeartbeats 4000000 in
theorem new_any (p : Pg) (vi vo vc vd : Value) (w : World) (h : PgAt w w.heap.size p vi vo vc vd) :
    Calls Try.prog 18 #[pgV p vi vo vc vd] w (NewIs p w) := by
  have HP := Lib.hid h
  have b0 : Below w.heap.size w (w.alloc (.cells #[vi, vo, .int .i64 p.regs, vc, vd] 26)) := (Below.refl _ _).alloc (Nat.le_refl _) _
  have bP := Row.new w #[vi, vo, .int .i64 p.regs, vc, vd] 26
  have HC := Lib.hid (vright_any p vi vo vc vd _ (h.next b0))
  have hreg := h.regs
  obtain ⟨⟨Ai, ci, rfl, li, mi, si⟩, ⟨Ao, co, rfl, lo, mo, so⟩, _, ⟨Ac, cc, rfl, lc, mc, sc⟩, ⟨Ad, cd, rfl, ld, md, sd⟩⟩ := h
  have alI := si.all (P := Wf) (fun x cs h => h.2)
  have alO := so.all (P := Wf) (fun x cs h => h.2)
  have alC := sc.all (P := fun c => Wf c.1 ∧ Wf c.2) (fun x cs h => h.2)
  have alD := sd.all (P := In5Ok) (fun x cs h => h.2)
  have AI := Lib.hid alI
  have AO := Lib.hid alO
  have AC := Lib.hid alC
  have AD := Lib.hid alD
  clear si so sc sd alI alO alC alD
  go_enter Try.func18, Try.ntmps18
  go_wp2_with fail
  refine HC.out.mono ?_
  rintro e w1 ⟨rfl, hb1⟩
  have b1 := b0.trans (hb1.mono b0.size)
  have bP1 := bP.below hb1 bP.lt
  clear hb1 b0 bP HC
  generalize hV : cB (rightOk p) = V at *
  have HV := Lib.hid hV
  clear hV
  have q0 := bP1.cell 0
  have q1 := bP1.cell 1
  have q2 := bP1.cell 2
  have q3 := bP1.cell 3
  have q4 := bP1.cell 4
  simp only [List.getElem?_toArray, List.getElem?_cons_zero, List.getElem?_cons_succ] at q0 q1 q2 q3 q4
  cases V
  · go_wp2_with fail
    go_ret2
    exact ⟨b1, .inr ⟨cB_not.1 HV.out, rfl⟩⟩
  have HR := Lib.hid (cB_iff.1 HV.out)
  have hl1 := HR.out.1.2.2.1.2.2
  have hl2 := HR.out.1.2.2.2.1.2.2
  have hl3 := HR.out.1.2.2.2.2.2.2.1
  have hl4 := HR.out.1.2.2.2.2.2.2.2
  have hd0 := right_code HR.out
  clear HV
  have bM := Row.new w1 #[.slice Ai p.ins.length ci, .slice Ao p.outs.length co, .int .i64 p.regs, .slice Ac p.cells.length cc, .slice Ad p.code.length cd, .bool true] 77
  have bP2 := bP1.alloc (.cells #[.slice Ai p.ins.length ci, .slice Ao p.outs.length co, .int .i64 p.regs, .slice Ac p.cells.length cc, .slice Ad p.code.length cd, .bool true] 77)
  have b2 := b1.alloc b1.size (.cells #[.slice Ai p.ins.length ci, .slice Ao p.outs.length co, .int .i64 p.regs, .slice Ac p.cells.length cc, .slice Ad p.code.length cd, .bool true] 77)
  have hM : w.heap.size < w1.heap.size := bP1.lt
  go_upto_region 4 with (fail)
  generalize w1.alloc (.cells #[.slice Ai p.ins.length ci, .slice Ao p.outs.length co, .int .i64 p.regs, .slice Ac p.cells.length cc, .slice Ad p.code.length cd, .bool true] 77) = w2 at *
  generalize w1.heap.size = M at *
  clear bP1 b1 q0 q1 q2 q3 q4
  have q4 : w2.cell? ⟨w.heap.size, 4, none⟩ = some (.slice Ad p.code.length cd) := bP2.cell 4
  have hP2 := HP.out.next b2.drew
  have hMs := bM.lt
  have hMP : M ≠ w.heap.size := by omega
  have hPM : w.heap.size ≠ M := by omega
  go_region_held3 (fun w' => w'.cell? ⟨w.heap.size, 4, none⟩ = some (.slice Ad p.code.length cd))
    (first | exact (bP3.cell 4) | go_keep)
    (first | (go_at_call 54; refine (clone_instr p.code _ _ hP2.code (by omega)).mono ?_; rintro e w3 ⟨v3, rfl, hown3, hb3⟩; have hex := own_some hown3 hd0; obtain ⟨g3, c3, rfl⟩ := hex; have hc3 := own_cut hown3; have bP3 := bP2.drew.below hb3 bP2.lt; have bM3 := bM.drew.below hb3 bM.lt; have b3 := b2.drew.trans (hb3.mono b2.size); have m4 : w3.cell? ⟨M, 4, none⟩ = some (.slice Ad p.code.length cd) := bM3.cell 4; have f4 := bM3.frozen 4; have hc3' : (p.code.length : Int) ≤ (c3 : Int) := by omega))
  have hM3 : M < w2.drew.heap.size := hMs
  have hown4 := own_setFar hown3 (p := ⟨M, 4, none⟩) hM3 (.slice (some ⟨g3, 0, none⟩) p.code.length p.code.length)
  have bM4 := bM3.set 4 (.slice (some ⟨g3, 0, none⟩) p.code.length p.code.length)
  have bP4 := bP3.far (p := ⟨M, 4, none⟩) hPM (.slice (some ⟨g3, 0, none⟩) p.code.length p.code.length)
  have b4 := b3.setCell (p := ⟨M, 4, none⟩) (Nat.le_of_lt hM) (.slice (some ⟨g3, 0, none⟩) p.code.length p.code.length)
  have sl4 := (own_slv (rel := isIn5) hown4 (fun x hx => ⟨rfl, AD.out x hx⟩) in5C_len (by decide)).cut
  generalize w3.setCell ⟨M, 4, none⟩ (.slice (some ⟨g3, 0, none⟩) p.code.length p.code.length) = w4 at *
  have HO4 := Lib.hid hown4
  have HM3 := Lib.hid hM3
  clear hown3 hown4 bM3 bP3 b3 b2 bM bP2 hP2 q4 m4 f4 hc3 hc3' hM3 hMs hb3 sl4
  have bM4' : Row w4 M #[.slice Ai p.ins.length ci, .slice Ao p.outs.length co, .int .i64 p.regs, .slice Ac p.cells.length cc, .slice (some ⟨g3, 0, none⟩) p.code.length p.code.length, .bool true] 77 := by simpa using bM4
  clear bM4
  have hMs := bM4'.lt
  have hP4 := HP.out.next b4.drew
  have q0 : w4.cell? ⟨w.heap.size, 0, none⟩ = some (.slice Ai p.ins.length ci) := bP4.cell 0
  have q1 : w4.cell? ⟨w.heap.size, 1, none⟩ = some (.slice Ao p.outs.length co) := bP4.cell 1
  have q3 : w4.cell? ⟨w.heap.size, 3, none⟩ = some (.slice Ac p.cells.length cc) := bP4.cell 3
  have tok : True := trivial
  go_wp2_with fail
  go_region_held3 (fun w' => w'.cell? ⟨w.heap.size, 0, none⟩ = some (.slice Ai p.ins.length ci) ∧ w'.cell? ⟨w.heap.size, 1, none⟩ = some (.slice Ao p.outs.length co) ∧ w'.cell? ⟨w.heap.size, 3, none⟩ = some (.slice Ac p.cells.length cc))
    (first | exact ⟨bP7.cell 0, bP7.cell 1, bP7.cell 3⟩ | exact ⟨bP6.cell 0, bP6.cell 1, bP6.cell 3⟩ | exact ⟨bP5.cell 0, bP5.cell 1, bP5.cell 3⟩ | go_keep)
    (first | (go_at_call 55; refine (clone_cell p.cells _ _ hP4.cells (by omega)).mono ?_; rintro e w5 ⟨v5, rfl, hown5, hb5⟩; obtain ⟨A5, c5, hv5, _, _, _⟩ := own_rd hown5; subst hv5; have bP5 := bP4.drew.below hb5 bP4.lt; have bM5 := bM4'.drew.below hb5 bM4'.lt; have b5 := b4.drew.trans (hb5.mono b4.size); have hP5 := HP.out.next b5) | (go_at_call 56; have _t := tok; clear tok; refine (clone_int p.ins _ _ hP5.ins (by omega)).mono ?_; rintro e w6 ⟨v6, rfl, hown6, hb6⟩; obtain ⟨A6, c6, hv6, _, _, _⟩ := own_rd hown6; subst hv6; have bP6 := bP5.below hb6 bP5.lt; have bM6 := bM5.below hb6 bM5.lt; have b6 := b5.trans (hb6.mono b5.size); have hP6 := HP.out.next b6) | (go_at_call 56; refine (clone_int p.outs _ _ hP6.outs (by omega)).mono ?_; rintro e w7 ⟨v7, rfl, hown7, hb7⟩; obtain ⟨A7, c7, hv7, _, _, _⟩ := own_rd hown7; subst hv7; have bP7 := bP6.below hb7 bP6.lt; have bM7 := bM6.below hb7 bM6.lt; have b7 := b6.trans (hb7.mono b6.size); have m0 : w7.cell? ⟨M, 0, none⟩ = some (.slice Ai p.ins.length ci) := bM7.cell 0; have m1 : w7.cell? ⟨M, 1, none⟩ = some (.slice Ao p.outs.length co) := bM7.cell 1; have m3 : w7.cell? ⟨M, 3, none⟩ = some (.slice Ac p.cells.length cc) := bM7.cell 3; have f0 := bM7.frozen 0; have f1 := bM7.frozen 1; have f3 := bM7.frozen 3))
  have hM5 : M < w4.drew.heap.size := hMs
  have hM6 : M < w5.heap.size := Nat.lt_of_lt_of_le hM5 hb5.size
  have hM7 : M < w6.heap.size := Nat.lt_of_lt_of_le hM6 hb6.size
  have o4 := own_setFar (own_setFar (own_setFar (own_below (own_below (own_below HO4.out.drew hb5) hb6) hb7) (p := ⟨M, 3, none⟩) HM3.out (.slice A5 p.cells.length c5)) (p := ⟨M, 0, none⟩) HM3.out (.slice A6 p.ins.length c6)) (p := ⟨M, 1, none⟩) HM3.out (.slice A7 p.outs.length c7)
  have o5 := own_setFar (own_setFar (own_setFar (own_below (own_below hown5 hb6) hb7) (p := ⟨M, 3, none⟩) hM5 (.slice A5 p.cells.length c5)) (p := ⟨M, 0, none⟩) hM5 (.slice A6 p.ins.length c6)) (p := ⟨M, 1, none⟩) hM5 (.slice A7 p.outs.length c7)
  have o6 := own_setFar (own_setFar (own_setFar (own_below hown6 hb7) (p := ⟨M, 3, none⟩) hM6 (.slice A5 p.cells.length c5)) (p := ⟨M, 0, none⟩) hM6 (.slice A6 p.ins.length c6)) (p := ⟨M, 1, none⟩) hM6 (.slice A7 p.outs.length c7)
  have o7 := own_setFar (own_setFar (own_setFar hown7 (p := ⟨M, 3, none⟩) hM7 (.slice A5 p.cells.length c5)) (p := ⟨M, 0, none⟩) hM7 (.slice A6 p.ins.length c6)) (p := ⟨M, 1, none⟩) hM7 (.slice A7 p.outs.length c7)
  have b8 := ((b7.setCell (p := ⟨M, 3, none⟩) (Nat.le_of_lt hM) (.slice A5 p.cells.length c5)).setCell (p := ⟨M, 0, none⟩) (Nat.le_of_lt hM) (.slice A6 p.ins.length c6)).setCell (p := ⟨M, 1, none⟩) (Nat.le_of_lt hM) (.slice A7 p.outs.length c7)
  have bM8 := ((bM7.set 3 (.slice A5 p.cells.length c5)).set 0 (.slice A6 p.ins.length c6)).set 1 (.slice A7 p.outs.length c7)
  have HA := Lib.hid (show MachAt _ M p (.slice A6 p.ins.length c6) (.slice A7 p.outs.length c7) (.slice A5 p.cells.length c5) (.slice (some ⟨g3, 0, none⟩) p.code.length p.code.length) from
    ⟨by simpa using bM8, own_slv (rel := isInt) o6 (fun x hx => ⟨rfl, AI.out x hx⟩) intC_len (by decide), own_slv (rel := isInt) o7 (fun x hx => ⟨rfl, AO.out x hx⟩) intC_len (by decide), hreg, own_slv (rel := isCell) o5 (fun x hx => ⟨rfl, AC.out x hx⟩) cellC_len (by decide), (own_slv (rel := isIn5) o4 (fun x hx => ⟨rfl, AD.out x hx⟩) in5C_len (by decide)).cut⟩)
  generalize ((w7.setCell ⟨M, 3, none⟩ (.slice A5 p.cells.length c5)).setCell ⟨M, 0, none⟩ (.slice A6 p.ins.length c6)).setCell ⟨M, 1, none⟩ (.slice A7 p.outs.length c7) = w8 at *
  clear o4 o5 o6 o7 bM8 hown5 hown6 hown7 hb5 hb6 hb7 bM7 bM6 bM5 bP7 bP6 bP5 b7 b6 b5 m0 m1 m3 f0 f1 f3 hP4 hP5 hP6 q0 q1 q3
  go_wp2_with fail
  go_ret2
  exact ⟨b8, .inl ⟨HR.out, M, _, _, _, _, rfl, HA.out⟩⟩
end Go.Proofs.Ytbjaejgechadpaa
