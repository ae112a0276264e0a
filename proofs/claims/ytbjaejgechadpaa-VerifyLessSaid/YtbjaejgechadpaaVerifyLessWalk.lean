/-
  The walk of the law VerifyLess.
-/
import Derived.Test.YtbjaejgechadpaaVLaw
import Derived.Test.YtbjaejgechadpaaVerLess
import Derived.Test.YtbjaejgechadpaaOpenP
import Derived.Test.YtbjaejgechadpaaApp
import Derived.IntWalk
namespace Go.Proofs.Ytbjaejgechadpaa.verifyLess
open Go.RowKit Vf
attribute [local go_sem ↓] Go.wp_at_zero Go.wp_at_succ
def in5C (x : In5) : List Value := [.int .i64 x.op, .int .i64 x.a, .int .i64 x.b, .int .i64 x.c, .int .i64 x.k]
theorem in5C_of (x : In5) (cs : List Value) (h : isIn5 x cs) : cs = in5C x := h.1
theorem in5C_len (x : In5) : (in5C x).length = 5 := rfl
/-- among so many behind the i-th one takes x's register -/
def tk (p : Pg) (i : Nat) (x : In5) (k : Nat) : Prop := ∃ j y, i < j ∧ j < i + 1 + k ∧ p.code[j]? = some y ∧ takes3 x y
theorem tk_zero {p : Pg} {i : Nat} {x : In5} : ¬ tk p i x 0 := fun ⟨j, y, h1, h2, _⟩ => by omega
theorem tk_succ {p : Pg} {i k : Nat} {x y : In5} (hy : p.code[i + 1 + k]? = some y) : tk p i x (k + 1) ↔ tk p i x k ∨ takes3 x y := by
  constructor
  · rintro ⟨j, z, h1, h2, h3, h4⟩
    by_cases e : j = i + 1 + k
    · subst e
      rw [hy] at h3
      injection h3 with h3
      exact .inr (h3 ▸ h4)
    · exact .inl ⟨j, z, h1, by omega, h3, h4⟩
  · rintro (⟨j, z, h1, h2, h3, h4⟩ | h)
    · exact ⟨j, z, h1, by omega, h3, h4⟩
    · exact ⟨i + 1 + k, y, by omega, by omega, hy, h⟩
theorem own_far {w : World} {base : Nat} {e : TypeId} {size : Nat} {v : Value} {n : Nat} {xs : List Value} (h : w.ownsRow base e size v n xs) {p : Addr} (hp : p.block < base) (u : Value) : (w.setCell p u).ownsRow base e size v n xs := by
  refine ⟨h.1, ?_⟩
  rcases h.2 with h0 | ⟨g, c, cur, h1, h2, h3, h4⟩
  · exact .inl h0
  · exact .inr ⟨g, c, cur, h1, h2, (Below.heap_setCell w p u g (by omega)).trans h3, h4⟩
theorem in5C_one (l : List In5) : ∀ u ∈ (l.map in5C).flatten, u.oneCell' = true := by
  intro u hu
  obtain ⟨cs, hcs, hu⟩ := List.mem_flatten.1 hu
  obtain ⟨x, _, rfl⟩ := List.mem_map.1 hcs
  simp only [in5C, List.mem_cons, List.not_mem_nil, or_false] at hu
  rcases hu with rfl | rfl | rfl | rfl | rfl <;> rfl
theorem info_instr : (Try.prog.info? 30).map (fun i => (i.zero, i.size, i.bytes)) = some (some (.agg #[.int .i64 0, .int .i64 0, .int .i64 0, .int .i64 0, .int .i64 0]), 5, 40) := by kernel_rfl
theorem below_size {B : Nat} {a w : World} (h : Below B a w) : a.heap.size ≤ w.heap.size := h.size
set_option maxRecDepth 100000 in
set_option maxHeartbeats 4000000 in
theorem walk0 (p : Pg) (vi vo vc vd : Value) (at_ : Nat) (ha : at_ ≤ 255) (w : World) (h : PgAt w w.heap.size p vi vo vc vd) :
    Calls Try.prog 4 #[pgV p vi vo vc vd, .int .u8 at_] w fun e w' => e = .returned (.bool true) ∧ Below w.heap.size w w' := by
  have b0 : Below w.heap.size w (w.alloc (.cells #[vi, vo, .int .i64 p.regs, vc, vd] 26)) := (Below.refl _ _).alloc (Nat.le_refl _) _
  have bP := Row.new w #[vi, vo, .int .i64 p.regs, vc, vd] 26
  have h0 := h.next b0
  have HP := Lib.hid h
  obtain ⟨⟨Ai, ci, rfl, li, mi, si⟩, ⟨Ao, co, rfl, lo, mo, so⟩, hreg, ⟨Ac, cc, rfl, lc, mc, sc⟩, ⟨Ad, cd, rfl, ld, md, sd⟩⟩ := h
  have md' : cd ≤ 9223372036854775807 := by unfold maxLen at md; omega
  clear si so sc
  go_enter Try.func4, Try.ntmps4
  go_wp2_with fail
  refine (awake28_any _).mono ?_
  rintro e w1 ⟨rfl, hb1⟩
  have b1 := b0.trans (hb1.mono b0.size)
  have bP1 := bP.below hb1 bP.lt
  have h1 := h0.next hb1
  clear hb1 h0 bP b0
  have q0 := bP1.cell 0
  have q1 := bP1.cell 1
  have q2 := bP1.cell 2
  have q3 := bP1.cell 3
  have q4 := bP1.cell 4
  simp only [List.getElem?_toArray, List.getElem?_cons_zero, List.getElem?_cons_succ] at q0 q1 q2 q3 q4
  go_wp2_with fail
  refine (few_any p _ _ _ _ _ h1).mono ?_
  rintro e w2 ⟨rfl, hb2⟩
  have b2 := b1.trans (hb2.mono b1.size)
  have bP2 := bP1.below hb2 bP1.lt
  have h2 := h1.next hb2
  clear hb2 h1 bP1 b1 q0 q1 q2 q3 q4
  generalize hV : cB (fewOk p) = V at *
  have HV := Lib.hid hV
  clear hV
  have q0 := bP2.cell 0
  have q1 := bP2.cell 1
  have q2 := bP2.cell 2
  have q3 := bP2.cell 3
  have q4 := bP2.cell 4
  simp only [List.getElem?_toArray, List.getElem?_cons_zero, List.getElem?_cons_succ] at q0 q1 q2 q3 q4
  cases V
  · go_wp2_with fail
    go_ret
    exact ⟨rfl, b2⟩
  have hfew := (cB_iff.1 HV.out).2.2.2
  clear HV
  by_cases hz : p.code.length = 0
  · have hz' : ((p.code.length : Int) == 0) = true := by rw [beq_iff_eq]; omega
    have HZ := Lib.hid hz
    clear hz
    go_wp2_with fail
    go_ret
    exact ⟨rfl, b2⟩
  have hz' : ((p.code.length : Int) == 0) = false := by rw [beq_eq_false_iff_ne]; omega
  have hz1 : 1 ≤ p.code.length := by omega
  clear hz
  go_wp2_with fail
  refine (vright_any p _ _ _ _ _ h2).mono ?_
  rintro e w3 ⟨rfl, hb3⟩
  have b3 := b2.trans (hb3.mono b2.size)
  have bP3 := bP2.below hb3 bP2.lt
  have h3 := h2.next hb3
  clear hb3 h2 bP2 b2 q0 q1 q2 q3 q4
  generalize hV : cB (rightOk p) = V at *
  have HV := Lib.hid hV
  clear hV
  cases V
  · go_wp2_with fail
    go_ret
    exact ⟨rfl, b3⟩
  have HR := Lib.hid (cB_iff.1 HV.out)
  clear HV
  have q0 := bP3.cell 0
  have q1 := bP3.cell 1
  have q2 := bP3.cell 2
  have q3 := bP3.cell 3
  have q4 := bP3.cell 4
  simp only [List.getElem?_toArray, List.getElem?_cons_zero, List.getElem?_cons_succ] at q0 q1 q2 q3 q4
  have hi1 : at_ % p.code.length < p.code.length := Nat.mod_lt _ hz1
  obtain ⟨b, off, x, rfl, hb, hxk, hok, c0, c1, c2, c3, c4⟩ := (sd.below b3).in5 hi1
  generalize hI : at_ % p.code.length = i at *
  have HI := Lib.hid hI
  clear hI
  go_upto_region 6 with (fail)
  rw [show (at_ : Int) % (p.code.length : Int) = (i : Int) by rw [← HI.out]; rfl]
  have hil : (i : Int) < p.code.length := by omega
  have HK := Lib.hid hxk
  have bX := Row.new w3 #[.int .i64 x.op, .int .i64 x.a, .int .i64 x.b, .int .i64 x.c, .int .i64 x.k] 30
  have b4 := b3.alloc (Nat.le_trans (Nat.le_of_lt bP3.lt) (Nat.le_refl _)) (.cells #[.int .i64 x.op, .int .i64 x.a, .int .i64 x.b, .int .i64 x.c, .int .i64 x.k] 30)
  have bP4 := bP3.alloc (.cells #[.int .i64 x.op, .int .i64 x.a, .int .i64 x.b, .int .i64 x.c, .int .i64 x.k] 30)
  go_upto_region 7 with (fail)
  generalize w3.alloc (.cells #[.int .i64 x.op, .int .i64 x.a, .int .i64 x.b, .int .i64 x.c, .int .i64 x.k] 30) = w4 at *
  have hgx : w.heap.size < w3.heap.size := bP3.lt
  generalize w3.heap.size = gx at *
  clear c0 c1 c2 c3 c4 h3 bP3 b3 hxk q0 q1 q2 q3 q4
  have q0 := bP4.cell 0
  have q1 := bP4.cell 1
  have q2 := bP4.cell 2
  have q3 := bP4.cell 3
  have q4 := bP4.cell 4
  simp only [List.getElem?_toArray, List.getElem?_cons_zero, List.getElem?_cons_succ] at q0 q1 q2 q3 q4
  by_cases hlast : i + 1 < p.code.length
  rotate_left 1
  · have hle : p.code.length - (i + 1) = 0 := by omega
    rcases (by omega : i + 1 < cd ∨ cd = i + 1) with hcd | rfl
    all_goals
      go_wp2_with fail
      go_loop [7, 44] (fun t c => t = .bool false ∧ c = .int .i64 0) (fun _ _ => 0)
      case atStart => exact ⟨rfl, rfl⟩
      case round =>
        obtain ⟨rfl, rfl⟩ := hrel
        have x0 := bX.cell 0
        simp only [List.getElem?_toArray, List.getElem?_cons_zero] at x0
        go_wp2_with fail
        all_goals
          go_ret
          exact ⟨rfl, b4⟩
  have hcd : i + 1 < cd := by omega
  have hx0 := bX.lt
  go_wp2_with fail
  go_loopw [7, 44] (fun t c wr => ∃ k : Nat, k ≤ p.code.length - (i + 1) ∧ c = .int .i64 k ∧ t = .bool (cB (tk p i x k)) ∧ Below (gx + 1) w4 wr) (fun _ c _ => p.code.length - (i + 1) - (intOf c).toNat)
  case atStart => exact ⟨0, Nat.zero_le _, rfl, by rw [cB_false tk_zero], Below.refl _ _⟩
  case round =>
    obtain ⟨k, hk, rfl, rfl, hbr⟩ := hrel
    have bPr := bP4.below hbr (by omega)
    have bXr := bX.below hbr (by omega)
    have br := b4.trans (hbr.mono (by omega))
    clear q0 q1 q2 q3 q4
    have q0 := bPr.cell 0
    have q1 := bPr.cell 1
    have q2 := bPr.cell 2
    have q3 := bPr.cell 3
    have q4 := bPr.cell 4
    have x0 := bXr.cell 0
    have x1 := bXr.cell 1
    simp only [List.getElem?_toArray, List.getElem?_cons_zero, List.getElem?_cons_succ] at q0 q1 q2 q3 q4 x0 x1
    have hgr := hbr.size
    by_cases hlt : k < p.code.length - (i + 1)
    · obtain ⟨b', off', y, hAe, hb', hyk, hoky, d0, d1, d2, d3, d4⟩ := ((sd.below br).drop (i + 1)).in5 (k := k) (by rw [List.length_drop]; exact hlt)
      injection hAe with hAe
      injection hAe with e1 e2
      subst e1; subst e2
      rw [List.getElem?_drop] at hyk
      have HS := Lib.hid (tk_succ (x := x) hyk)
      clear hyk
      have bYr := Row.new wr #[.int .i64 y.op, .int .i64 y.a, .int .i64 y.b, .int .i64 y.c, .int .i64 y.k] 30
      have bX5 := bXr.alloc (.cells #[.int .i64 y.op, .int .i64 y.a, .int .i64 y.b, .int .i64 y.c, .int .i64 y.k] 30)
      have HB := Lib.hid (hbr.alloc (by omega) (.cells #[.int .i64 y.op, .int .i64 y.a, .int .i64 y.b, .int .i64 y.c, .int .i64 y.k] 30))
      go_upto_region 11 with (fail)
      generalize wr.alloc (.cells #[.int .i64 y.op, .int .i64 y.a, .int .i64 y.b, .int .i64 y.c, .int .i64 y.k] 30) = w5 at *
      generalize wr.heap.size = gy at *
      clear x0 x1 d0 d1 d2 d3 d4 q0 q1 q2 q3 q4
      have y0 := bYr.cell 0
      have y1 := bYr.cell 1
      have y2 := bYr.cell 2
      have x1 := bX5.cell 1
      simp only [List.getElem?_toArray, List.getElem?_cons_zero, List.getElem?_cons_succ] at y0 y1 y2 x1
      generalize hT : cB (tk p i x k) = T at *
      have HT := Lib.hid hT
      clear hT
      cases T
      · have HS' := Lib.hid (show tk p i x (k + 1) ↔ takes3 x y by rw [HS.out]; exact ⟨fun g => g.resolve_left (cB_not.1 HT.out), .inr⟩)
        go_wp2_with fail
        all_goals
          go_roundw
          case rel => exact ⟨k + 1, by omega, by go_num, congrArg Value.bool (by rw [Bool.eq_iff_iff, cB_iff, HS'.out]; unfold takes3; simp at *; try omega), HB.out⟩
          case measure => simp [intOf]; omega
      · have HS' := Lib.hid (cB_true (HS.out.2 (.inl (cB_iff.1 HT.out))))
        go_wp2_with fail
        go_roundw
        case rel => exact ⟨k + 1, by omega, by go_num, congrArg Value.bool HS'.out.symm, HB.out⟩
        case measure => simp [intOf]; omega
    · obtain rfl : k = p.code.length - (i + 1) := by omega
      generalize hT : cB (tk p i x (p.code.length - (i + 1))) = T at *
      have HT := Lib.hid hT
      clear hT
      by_cases ho : 29 ≤ x.op
      · go_wp2_with fail
        go_ret
        exact ⟨rfl, br⟩
      cases T
      · go_wp2_with fail
        go_ret
        exact ⟨rfl, br⟩
      have HF : Hid (¬ rightOk (less p i)) := by
        obtain ⟨j, y, h1, h2, h3, h4⟩ := cB_iff.1 HT.out
        exact less_wrong HR.out h1 HK.out h3 (by omega) h4
      have bL := Row.new wr #[.slice Ai p.ins.length ci, .slice Ao p.outs.length co, .int .i64 p.regs, .slice Ac p.cells.length cc, .slice (some ⟨b, off, none⟩) p.code.length cd] 26
      have bP5 := bPr.alloc (.cells #[.slice Ai p.ins.length ci, .slice Ao p.outs.length co, .int .i64 p.regs, .slice Ac p.cells.length cc, .slice (some ⟨b, off, none⟩) p.code.length cd] 26)
      have b5 := br.alloc br.size (.cells #[.slice Ai p.ins.length ci, .slice Ao p.outs.length co, .int .i64 p.regs, .slice Ac p.cells.length cc, .slice (some ⟨b, off, none⟩) p.code.length cd] 26)
      have hgl : w.heap.size < wr.heap.size := by omega
      have hsz5 : (wr.alloc (.cells #[.slice Ai p.ins.length ci, .slice Ao p.outs.length co, .int .i64 p.regs, .slice Ac p.cells.length cc, .slice (some ⟨b, off, none⟩) p.code.length cd] 26)).heap.size = wr.heap.size + 1 := World.size_alloc _ _
      go_upto_region 16 with (fail)
      generalize wr.alloc (.cells #[.slice Ai p.ins.length ci, .slice Ao p.outs.length co, .int .i64 p.regs, .slice Ac p.cells.length cc, .slice (some ⟨b, off, none⟩) p.code.length cd] 26) = w5 at *
      generalize wr.heap.size = gl at *
      have H5 := Lib.hid hsz5
      have hsz5' : gl < w5.heap.size := by omega
      clear hsz5 hbr bPr bXr br x0 x1 q0 q1 q2 q3 q4
      have q4 := bP5.cell 4
      simp only [List.getElem?_toArray, List.getElem?_cons_zero, List.getElem?_cons_succ] at q4
      obtain ⟨i0, hi0, hz0, hz2, hz3⟩ := info_parts info_instr
      have e1 : IntKind.i64.wrap ((i : Int) + 1) = (i : Int) + 1 := IntWalk.i64_in _ (by omega)
      have hi0' : (0 : Int) ≤ (i : Int) := by omega
      have hi1' : (i : Int) ≤ (cd : Int) := by omega
      have hi2' : (i : Int) + 1 ≤ (p.code.length : Int) := by omega
      have hi3' : (0 : Int) ≤ (i : Int) + 1 := by omega
      have hi4' : (p.code.length : Int) ≤ (cd : Int) := by omega
      have hi5' : ((i : Int) + 1).toNat = i + 1 := by omega
      have hown0 : (w5.alloc (.cells #[] 30)).drew.ownsRow w5.heap.size 30 5 (.slice (some ⟨w5.heap.size, 0, none⟩) 0 0) 0 [] := (own_empty w5 30 5).drew
      have bb0 : Below w5.heap.size w5 (w5.alloc (.cells #[] 30)).drew := ((Below.refl _ _).alloc (Nat.le_refl _) _).drew
      have s0 := (sd.below (b5.trans (bb0.mono b5.size))).take i
      have hl1 : (p.code.take i).length = i := by simp; omega
      have hl2 : (p.code.drop (i + 1)).length = p.code.length - (i + 1) := by simp
      have tok1 : True := trivial
      have hcn : ¬ (cd = i + 1) := by omega
      have hne : gl ≠ w.heap.size := by omega
      go_region_held3 (fun w' => w'.cell? ⟨w.heap.size, 4, none⟩ = some (.slice (some ⟨b, off, none⟩) p.code.length cd))
        (first | exact (bP7.cell 4) | exact (bP6.cell 4) | go_keep)
        (first | (have _t := tok1; clear tok1; (refine step_append_any _ (by rfl) (.tmp 99) (.tmp 103) 24 (by rfl) w5.heap.size 30 i0 _ 5 40 Try.underlying24 hi0 hz0 hz2 hz3 (by rfl) (by decide) (.slice (some ⟨w5.heap.size, 0, none⟩) 0 0) 0 [] (by rfl) hown0 ⟨b, off, none⟩ i cd ((p.code.take i).map in5C).flatten (by rfl) (by rw [flat_len in5C_len, hl1]) (s0.flat in5C_of in5C_len) (in5C_one _) (by unfold maxLen; omega) (by omega) (by simp) ?_); intro v6 w6 hown6 hg6 _hat6; have bb6 := below_own bb0 hown0 hg6 (by simp); have bP6 := bP5.below bb6 bP5.lt; have bL6 := bL.below bb6 bL.lt; have s6 := (sd.below (b5.trans (bb6.mono b5.size))).drop (i + 1)) | ((refine step_append_lies _ (by rfl) (.tmp 104) (.tmp 109) 24 (by rfl) w5.heap.size 30 i0 _ 5 40 Try.underlying24 hi0 hz0 hz2 hz3 (by rfl) (by decide) v6 (0 + i) _ (by rfl) hown6 ⟨b, off + (i + 1) * 5, none⟩ (p.code.length - (i + 1)) (cd - (i + 1)) ((p.code.drop (i + 1)).map in5C).flatten (by rfl) (by rw [flat_len in5C_len, hl2]) (s6.flat in5C_of in5C_len) (in5C_one _) (by omega) (by unfold maxLen; omega) (by omega) bb6.size w6.heap.size rfl ?_); intro g7 c7 w7 hown7 hg7 _hat7 _hlt7; have bb7 := below_own bb6 hown6 hg7 bb6.size; have bP7 := bP5.below bb7 bP5.lt; have bL7 := bL.below bb7 bL.lt; have hf7 := bL7.frozen 4; have hc7 : w7.cell? ⟨gl, 4, none⟩ = some (.slice (some ⟨b, off, none⟩) p.code.length cd) := bL7.cell 4))
      simp only [Nat.zero_add, List.nil_append] at hown7
      rw [← List.flatten_append, ← List.map_append] at hown7
      have hlen : (less p i).code.length = i + (p.code.length - (i + 1)) := by simp [less]; omega
      have hall := sd.all (P := In5Ok) (fun x cs h => h.2)
      have hown8 := own_far hown7 (p := ⟨gl, 4, none⟩) hsz5' (.slice (some ⟨g7, 0, none⟩) (i + (p.code.length - (i + 1))) c7)
      have b8 := (b5.trans (bb7.mono b5.size)).setCell (p := ⟨gl, 4, none⟩) (Nat.le_of_lt hgl) (.slice (some ⟨g7, 0, none⟩) (i + (p.code.length - (i + 1))) c7)
      have bL8 := bL7.set 4 (.slice (some ⟨g7, 0, none⟩) (i + (p.code.length - (i + 1))) c7)
      have sl8 := (own_sl (rel := isIn5) (l := (less p i).code) hown8 (Are.map (fun y hy => ⟨rfl, hall y (by
        rcases List.mem_append.1 hy with g | g
        · exact List.mem_of_mem_take g
        · exact List.mem_of_mem_drop g)⟩)) (fun cs hcs => by obtain ⟨y, _, rfl⟩ := List.mem_map.1 hcs; rfl) (by decide)).1
      have hP8 := HP.out.next b8
      generalize w7.setCell ⟨gl, 4, none⟩ (.slice (some ⟨g7, 0, none⟩) (i + (p.code.length - (i + 1))) c7) = w8 at *
      have l0 : w8.cell? ⟨gl, 0, none⟩ = some (.slice Ai p.ins.length ci) := bL8.cell 0
      have l1 : w8.cell? ⟨gl, 1, none⟩ = some (.slice Ao p.outs.length co) := bL8.cell 1
      have l2 : w8.cell? ⟨gl, 2, none⟩ = some (.int .i64 p.regs) := bL8.cell 2
      have l3 : w8.cell? ⟨gl, 3, none⟩ = some (.slice Ac p.cells.length cc) := bL8.cell 3
      have l4 : w8.cell? ⟨gl, 4, none⟩ = some (.slice (some ⟨g7, 0, none⟩) (i + (p.code.length - (i + 1))) c7) := bL8.cell 4
      have HV := Lib.hid (vright_any (less p i) _ _ _ _ w8 ⟨hP8.ins, hP8.outs, hP8.regs, hP8.cells, sl8⟩)
      rw [cB_false HF.out] at HV
      clear hown7 hown8 hown6 hown0 bL8 bL7 bL6 hP8 sl8 bb7 bb6 bb0 s6 s0 hg6 hg7 hf7 hc7 e1 hlen
      go_wp2_with fail
      refine HV.out.mono ?_
      rintro e w9 ⟨rfl, hb9⟩
      have HB9 := Lib.hid (b8.trans (hb9.mono b8.size))
      clear hb9
      go_wp2_with fail
      go_ret
      exact ⟨rfl, HB9.out⟩
theorem walk (p : Pg) (v : Value) (at_ : Int) (w : World) (h : PgIs w p v) (ha : (Lit.int .u8 at_).wf = true) : Calls Try.prog 4 #[v, .int .u8 at_] w fun e w' => e = .returned (.bool true) ∧ Below w.heap.size w w' := by
  obtain ⟨vi, vo, vc, vd, rfl, hp⟩ := h
  have hb : 0 ≤ at_ ∧ at_ ≤ 255 := by simpa [Lit.wf, IntKind.min, IntKind.max, IntKind.signed, IntKind.bits] using ha
  obtain ⟨n, rfl⟩ := Int.eq_ofNat_of_zero_le hb.1
  exact walk0 p vi vo vc vd n (by omega) w hp
end Go.Proofs.Ytbjaejgechadpaa.verifyLess
