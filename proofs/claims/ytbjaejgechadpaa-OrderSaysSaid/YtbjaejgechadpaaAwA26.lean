/-
  The example of layer 26.
-/
import Derived.Test.YtbjaejgechadpaaAwF
import Derived.Test.YtbjaejgechadpaaOrdE
namespace Go.Proofs.Ytbjaejgechadpaa
open Go.RowKit Vf Fo
attribute [local go_sem ↓] Go.wp_at_zero Go.wp_at_succ
/-- where the example lies -/
structure FaAt (W : World) (b : Nat) : Prop where
  r0 : Row W b #[.int .i64 1, .slice none 0 0, .int .i64 1, .slice none 0 0, .int .i64 1, .slice none 0 0] 89
  r1 : Row W (b + 1) #[.int .i64 0] 3
  r2 : Row W (b + 1 + 1) #[.int .i64 1] 3
  r4 : Row W (b + 1 + 1 + 1 + 1) #[.int .i64 5, .int .i64 1, .int .i64 2, .int .i64 0, .int .i64 0, .int .i64 0, .int .i64 5, .int .i64 2, .int .i64 0, .int .i64 0, .int .i64 0, .int .i64 0] 91
theorem FaAt.fm {W : World} {b : Nat} (h : FaAt W b) : FmAt W (b + 5) fA (.slice (some ⟨b, 0, none⟩) 3 3) (.slice (some ⟨b + 1 + 1 + 1 + 1, 0, none⟩) 2 2) (.slice none 0 0) (.slice none 0 0) (.slice (some ⟨b + 1, 0, none⟩) 1 1) (.slice (some ⟨b + 1 + 1, 0, none⟩) 1 1) :=
  ⟨row_flat (C := wr0) (l := fA.wires) h.r0 (fun _ => rfl) (fun x hx => by simp [fA] at hx; subst hx; exact isWr0 rfl (wf_little (by decide))) (by omega) (by simp [maxLen, fA]),
   row_flat (C := acC) (l := fA.acts) h.r4 (fun _ => rfl) (fun x hx => by
     simp [fA] at hx
     rcases hx with rfl | rfl
     · exact ⟨rfl, acIn_small (by decide)⟩
     · exact ⟨rfl, acIn_small (by decide)⟩) (by omega) (by simp [maxLen, fA]),
   SlV.nil, SlV.nil, ones_row h.r1 (wf_little (by decide)) (by omega), ones_row h.r2 (wf_little (by decide)) (by omega)⟩
theorem FaAt.below {W W' : World} {b : Nat} (h : FaAt W b) (hb : Below W.heap.size W W') : FaAt W' b := ⟨h.r0.below hb h.r0.lt, h.r1.below hb h.r1.lt, h.r2.below hb h.r2.lt, h.r4.below hb h.r4.lt⟩
theorem fA_perm {l : List Ac} (h : l = [a2, a1]) : formOk (withActs fA l) := by
  rw [h]
  exact formOk_perm fA_ok (List.Perm.swap a2 a1 [])
theorem fA_ordered {l : List Ac} (h : l = [a2, a1]) : orderedOk (withActs fA l) := ⟨fA_perm h, by rw [h]; exact fA_ord.ordFrom⟩
set_option maxRecDepth 100000 in
set_option maxHeartbeats 8000000 in
theorem awake26_any (w : World) : Calls Try.prog 24 #[] w fun e w' => e = .returned (.bool true) ∧ Below w.heap.size w w' := by
  go_enter Try.func24, Try.ntmps24
  go_upto_region 3 with (fail)
  generalize hW : World.alloc (World.alloc (World.alloc (World.alloc (World.alloc w _) _) _) _) _ = w1
  have b1 : Below w.heap.size w w1 := by rw [← hW]; exact bE
  have rF : Row w1 (w.heap.size + 1 + 1 + 1) #[.slice (some ⟨w.heap.size, 0, none⟩) 3 3, .slice (some ⟨w.heap.size + 1 + 1 + 1 + 1, 0, none⟩) 2 2, .slice none 0 0, .slice none 0 0, .slice (some ⟨w.heap.size + 1, 0, none⟩) 1 1, .slice (some ⟨w.heap.size + 1 + 1, 0, none⟩) 1 1] 48 := by
    rw [← hW]
    exact (rowN4 w _ _ _ _ _).alloc _
  have hA : FaAt w1 w.heap.size := by
    rw [← hW]
    exact ⟨((((Row.new w _ _).alloc _).alloc _).alloc _).alloc _, (((rowNew2 w _ _ _).alloc _).alloc _).alloc _, ((rowN3 w _ _ _ _).alloc _).alloc _, rowN5 w _ _ _ _ _ _⟩
  have hs1 : w.heap.size + 5 ≤ w1.heap.size := by rw [← hW]; simp
  clear hW
  have hs0 : w.heap.size ≤ w1.heap.size := by omega
  obtain ⟨f0, f1, f2, f3, f4, f5⟩ := rF.six'
  have HO := Lib.hid (order_any fA _ _ _ _ _ _ w1 (hA.fm.more hs1) (by decide) fA_ok)
  go_wp2_with fail
  (with_reducible refine HO.out.mono ?_)
  rintro e w2 ⟨va', out, rfl, hord, hsl, hb2⟩
  have hout := hord.uniq fA_ord
  subst hout
  obtain ⟨Aa, ca, rfl, lca, mca, sl2⟩ := hsl
  have mca' : ca ≤ 9223372036854775807 := by unfold maxLen at mca; omega
  obtain ⟨b, off, x, rfl, hbb, hx, _, d0, d1, d2, d3, d4, d5⟩ := sl2.ac (k := 0) (by decide)
  simp only [List.getElem?_cons_zero, Option.some.injEq] at hx
  subst hx
  have hA2 := hA.below hb2
  have rF2 := rF.below hb2 rF.lt
  have b2 := b1.trans (hb2.mono hs0)
  have hs2 := b2.size
  have hsl2 : SlV w2 w2.heap.size 6 isAc (.slice (some ⟨b, off, none⟩) 2 ca) [a2, a1] := ⟨_, _, rfl, lca, mca, sl2⟩
  have hsz2 : w.heap.size + 5 ≤ w2.heap.size := Nat.le_trans hs1 hb2.size
  have hX : FmAt w2 w2.heap.size (withActs fA [a2, a1]) (.slice (some ⟨w.heap.size, 0, none⟩) 3 3) (.slice (some ⟨b, off, none⟩) 2 ca) (.slice none 0 0) (.slice none 0 0) (.slice (some ⟨w.heap.size + 1, 0, none⟩) 1 1) (.slice (some ⟨w.heap.size + 1 + 1, 0, none⟩) 1 1) := by
    have g := hA2.fm.more hsz2
    exact ⟨g.wires, hsl2, g.cells, g.keeps, g.ins, g.outs⟩
  have b3 : Below w2.heap.size w2 (w2.alloc (.cells #[.slice (some ⟨w.heap.size, 0, none⟩) 3 3, .slice (some ⟨b, off, none⟩) 2 ca, .slice none 0 0, .slice none 0 0, .slice (some ⟨w.heap.size + 1, 0, none⟩) 1 1, .slice (some ⟨w.heap.size + 1 + 1, 0, none⟩) 1 1] 48)) := bE
  have rX := Row.new w2 #[.slice (some ⟨w.heap.size, 0, none⟩) 3 3, .slice (some ⟨b, off, none⟩) 2 ca, .slice none 0 0, .slice none 0 0, .slice (some ⟨w.heap.size + 1, 0, none⟩) 1 1, .slice (some ⟨w.heap.size + 1 + 1, 0, none⟩) 1 1] 48
  have rF3 := rF2.below b3 rF2.lt
  have e1' := cell_kept d1 b3
  have hF3 : FmAt (w2.alloc (.cells #[.slice (some ⟨w.heap.size, 0, none⟩) 3 3, .slice (some ⟨b, off, none⟩) 2 ca, .slice none 0 0, .slice none 0 0, .slice (some ⟨w.heap.size + 1, 0, none⟩) 1 1, .slice (some ⟨w.heap.size + 1 + 1, 0, none⟩) 1 1] 48)) _ fA _ _ _ _ _ _ := (hA2.fm.more hsz2).next b3
  have hX3 := hX.next b3
  dsimp only [a2] at e1'
  simp only [Nat.zero_mul, Nat.add_zero] at e1'
  clear f0 f1 f2 f3 f4 f5 d0 d1 d2 d3 d4 d5 HO hA hord sl2 hsl2 rF rF2 hX hA2 b1
  go_upto_region 4 with (fail)
  generalize w2.alloc (.cells #[.slice (some ⟨w.heap.size, 0, none⟩) 3 3, .slice (some ⟨b, off, none⟩) 2 ca, .slice none 0 0, .slice none 0 0, .slice (some ⟨w.heap.size + 1, 0, none⟩) 1 1, .slice (some ⟨w.heap.size + 1 + 1, 0, none⟩) 1 1] 48) = w3 at *
  have b3' := b2.trans (b3.mono hs2)
  have hs3 := b3'.size
  obtain ⟨f0, f1, f2, f3, f4, f5⟩ := rF3.six'
  obtain ⟨x0, x1, x2, x3, x4, x5⟩ := rX.six'
  have HO3 := Lib.hid (ordered_any (withActs fA [a2, a1]) _ _ _ _ _ _ w3 hX3 (by decide))
  rw [cB_true (fA_ordered rfl)] at HO3
  clear hX3
  go_wp2_with fail
  (with_reducible refine HO3.out.mono ?_)
  rintro e w4 ⟨rfl, hb4⟩
  have HO4 := Lib.hid (ordered_any fA _ _ _ _ _ _ w4 (hF3.next hb4) (by decide))
  rw [cB_false fA_not] at HO4
  have rF4 := rF3.below hb4 rF3.lt
  have b4 := b3'.trans (hb4.mono hs3)
  have hs4 := b4.size
  clear f0 f1 f2 f3 f4 f5 x0 x1 x2 x3 x4 x5 HO3 hF3 e1'
  obtain ⟨f0, f1, f2, f3, f4, f5⟩ := rF4.six'
  go_wp2_with fail
  (with_reducible refine HO4.out.mono ?_)
  rintro e w5 ⟨rfl, hb5⟩
  have b5 := b4.trans (hb5.mono hs4)
  go_wp2_with fail
  go_ret
  exact ⟨rfl, b5⟩
end Go.Proofs.Ytbjaejgechadpaa
