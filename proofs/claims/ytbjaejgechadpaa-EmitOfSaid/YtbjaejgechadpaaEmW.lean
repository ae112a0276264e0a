/-
  Forms of few parts for layer 30; its example.
-/
import Derived.Test.YtbjaejgechadpaaEmE
import Derived.Test.YtbjaejgechadpaaAwF
import Derived.Test.YtbjaejgechadpaaRefRight28
namespace Go.Proofs.Ytbjaejgechadpaa.Fo
open Vf
theorem runs_nil {l : List Stp} {code : List In5} (h : Runs l code) (e : l = []) : code = [] := by
  cases h with
  | nil => rfl
  | cons h t c code hne _ _ => exact absurd (List.append_eq_nil_iff.1 e).1 hne
theorem runs_one {x : In5} {body : List In5} (h : Runs [(x, [])] body) : body = [x] := by
  generalize hl : [((x, []) : Stp)] = l at h
  cases h with
  | nil => cases hl
  | cons h t c code hne hc ht =>
    cases h with
    | nil => exact absurd rfl hne
    | cons s0 h =>
      simp only [List.cons_append, List.cons.injEq] at hl
      obtain ⟨rfl, hl⟩ := hl
      have hl' := List.append_eq_nil_iff.1 hl.symm
      obtain ⟨rfl, rfl⟩ := hl'
      have hc0 := hc (x, []) (by simp)
      dsimp only at hc0
      subst hc0
      rw [runs_nil ht rfl]
      simp [skipsOf]
theorem emits_fB {code : List In5} (h : Emits fB code) : code = [⟨28, 0, 0, 0, 0⟩, ⟨5, 1, 0, 0, 0⟩, ⟨29, 1, 0, 0, 0⟩] := by
  obtain ⟨body, hr, rfl⟩ := h
  have e : stepsOf fB = [((⟨5, 1, 0, 0, 0⟩ : In5), [])] := rfl
  rw [e] at hr
  rw [runs_one hr]
  rfl
end Go.Proofs.Ytbjaejgechadpaa.Fo
namespace Go.Proofs.Ytbjaejgechadpaa
open Go.RowKit Vf Fo
attribute [local go_sem ↓] Go.wp_at_zero Go.wp_at_succ
set_option maxRecDepth 100000 in
set_option maxHeartbeats 4000000 in
theorem few30_any {w : World} {B : Nat} {f : Fm} {vw va vc vk vi vo : Value} (h : FmAt w B f vw va vc vk vi vo) (hB : B ≤ w.heap.size) :
    Calls Try.prog 42 #[fmV vw va vc vk vi vo] w (FewIs (FewOk f 160) w) := by
  have b1 : Below w.heap.size w (w.alloc (.cells #[vw, va, vc, vk, vi, vo] 48)) := bE
  have rF1 := Row.new w #[vw, va, vc, vk, vi, vo] 48
  have HC := Lib.hid (few24_any (h.below (b1.mono hB)) (Nat.le_trans hB b1.size))
  obtain ⟨Aw, cw, rfl, lw, mw, sw⟩ := h.wires
  clear h sw
  go_enter Try.func42, Try.ntmps42
  go_upto_region 1 with (fail)
  generalize w.alloc (.cells #[.slice Aw f.wires.length cw, va, vc, vk, vi, vo] 48) = w1 at *
  have hs1 := b1.size
  have hGl := rF1.lt
  obtain ⟨f0, f1, f2, f3, f4, f5⟩ := rF1.six'
  go_wp2_with fail
  (with_reducible refine HC.out.mono ?_)
  rintro e w3 ⟨⟨b, rfl, HB⟩, hb3⟩
  have hb := b1.trans (hb3.mono hs1)
  have rF3 := rF1.below hb3 hGl
  clear f0 f1 f2 f3 f4 f5 HC
  obtain ⟨f0, f1, f2, f3, f4, f5⟩ := rF3.six'
  clear rF3 rF1
  cases b
  · go_wp2_with fail
    go_ret
    exact FewIs.no hb
  · have HP : Hid (f.wires.length ≤ 160 → FewOk f 160) := fun h5 => ⟨HB.out rfl, h5⟩
    clear HB
    go_wp2_with fail
    go_ret
    exact ⟨⟨_, rfl, fun g => HP.out (by simp at g; omega)⟩, hb⟩
structure FbAt (W : World) (b : Nat) : Prop where
  r0 : Row W b #[.int .i64 1, .slice none 0 0, .int .i64 1, .slice none 0 0] 89
  r1 : Row W (b + 1) #[.int .i64 5, .int .i64 1, .int .i64 0, .int .i64 0, .int .i64 0, .int .i64 0] 91
  r2 : Row W (b + 1 + 1) #[.int .i64 0] 3
  r3 : Row W (b + 1 + 1 + 1) #[.int .i64 1] 3
theorem FbAt.fm {W : World} {b : Nat} (h : FbAt W b) : FmAt W (b + 4) fB (.slice (some ⟨b, 0, none⟩) 2 2) (.slice (some ⟨b + 1, 0, none⟩) 1 1) (.slice none 0 0) (.slice none 0 0) (.slice (some ⟨b + 1 + 1, 0, none⟩) 1 1) (.slice (some ⟨b + 1 + 1 + 1, 0, none⟩) 1 1) :=
  ⟨row_flat (C := wr0) (l := fB.wires) h.r0 (fun _ => rfl) (fun x hx => by simp [fB] at hx; subst hx; exact isWr0 rfl (wf_little (by decide))) (by omega) (by simp [maxLen, fB]),
   row_flat (C := acC) (l := fB.acts) h.r1 (fun _ => rfl) (fun x hx => by simp [fB] at hx; subst hx; exact ⟨rfl, acIn_small (by decide)⟩) (by omega) (by simp [maxLen, fB]),
   SlV.nil, SlV.nil, ones_row h.r2 (wf_little (by decide)) (by omega), ones_row h.r3 (wf_little (by decide)) (by omega)⟩
set_option maxRecDepth 100000 in
set_option maxHeartbeats 8000000 in
theorem awake30_any (w : World) : Calls Try.prog 41 #[] w fun e w' => e = .returned (.bool true) ∧ Below w.heap.size w w' := by
  go_enter Try.func41, Try.ntmps41
  go_upto_region 2 with (fail)
  generalize hW : World.alloc (World.alloc (World.alloc (World.alloc (World.alloc w _) _) _) _) _ = w1
  have b1 : Below w.heap.size w w1 := by rw [← hW]; exact bE
  have rF : Row w1 (w.heap.size + 1 + 1 + 1 + 1) #[.slice (some ⟨w.heap.size, 0, none⟩) 2 2, .slice (some ⟨w.heap.size + 1, 0, none⟩) 1 1, .slice none 0 0, .slice none 0 0, .slice (some ⟨w.heap.size + 1 + 1, 0, none⟩) 1 1, .slice (some ⟨w.heap.size + 1 + 1 + 1, 0, none⟩) 1 1] 48 := by
    rw [← hW]
    exact rowN5 w _ _ _ _ _ _
  have hA : FbAt w1 w.heap.size := by
    rw [← hW]
    exact ⟨((((Row.new w _ _).alloc _).alloc _).alloc _).alloc _, (((rowNew2 w _ _ _).alloc _).alloc _).alloc _, ((rowN3 w _ _ _ _).alloc _).alloc _, (rowN4 w _ _ _ _ _).alloc _⟩
  have hs1 : w.heap.size + 4 ≤ w1.heap.size := by rw [← hW]; simp
  clear hW
  have hs0 : w.heap.size ≤ w1.heap.size := by omega
  obtain ⟨f0, f1, f2, f3, f4, f5⟩ := rF.six'
  have HO := Lib.hid (emit_any fB _ _ _ _ _ _ w1 (hA.fm.more hs1) (by decide))
  go_wp2_with fail
  (with_reducible refine HO.out.mono ?_)
  rintro e w2 ⟨hout, hb2⟩
  rcases hout with ⟨hno, _⟩ | ⟨_, code, hem, hout⟩
  · exact absurd fB_ordered hno
  have hcode := emits_fB hem
  rcases hout with ⟨hbig, _⟩ | ⟨hle, vi, vo, vc, vd, he, hpg⟩
  · rw [hcode] at hbig; exact absurd hbig (by decide)
  have HRO := Lib.hid (emit_right fB_ordered hem hle)
  subst hcode
  obtain ⟨A0, c0, hv0, _, _, _⟩ := id hpg.ins
  obtain ⟨A1, c1, hv1, _, _, _⟩ := id hpg.outs
  obtain ⟨A3, c3, hv3, _, _, _⟩ := id hpg.cells
  obtain ⟨A4, c4, hv4, l4, m4, s4⟩ := id hpg.code
  change vi = .slice A0 1 c0 at hv0
  change vo = .slice A1 1 c1 at hv1
  change vc = .slice A3 0 c3 at hv3
  change vd = .slice A4 3 c4 at hv4
  change 3 ≤ c4 at l4
  subst hv0; subst hv1; subst hv3; subst hv4
  change e = .returned (.tuple #[.agg #[.slice A0 1 c0, .slice A1 1 c1, .int .i64 2, .slice A3 0 c3, .slice A4 3 c4], .int .i64 0]) at he
  subst he
  have m4' : c4 ≤ 9223372036854775807 := by unfold maxLen at m4; omega
  obtain ⟨b, off, x, rfl, hbb, hx, _, d0, d1, d2, d3, d4⟩ := s4.in5 (k := 1) (by decide)
  change some _ = some x at hx
  injection hx with hx
  subst hx
  dsimp only at d0
  have b2 := b1.trans (hb2.mono hs0)
  have hs2 := b2.size
  have b3 : Below w2.heap.size w2 (w2.alloc (.cells #[.slice A0 1 c0, .slice A1 1 c1, .int .i64 2, .slice A3 0 c3, .slice (some ⟨b, off, none⟩) 3 c4] 26)) := bE
  have rP := Row.new w2 #[.slice A0 1 c0, .slice A1 1 c1, .int .i64 2, .slice A3 0 c3, .slice (some ⟨b, off, none⟩) 3 c4] 26
  have HKR0 := kright_any _ (hpg.next b3)
  rw [cB_true HRO.out] at HKR0
  have HKR : Hid (Calls Try.prog 16 #[.agg #[.slice A0 1 c0, .slice A1 1 c1, .int .i64 2, .slice A3 0 c3, .slice (some ⟨b, off, none⟩) 3 c4]] (w2.alloc (.cells #[.slice A0 1 c0, .slice A1 1 c1, .int .i64 2, .slice A3 0 c3, .slice (some ⟨b, off, none⟩) 3 c4] 26)) fun e w' => e = .returned (.bool true) ∧ Below (w2.alloc (.cells #[.slice A0 1 c0, .slice A1 1 c1, .int .i64 2, .slice A3 0 c3, .slice (some ⟨b, off, none⟩) 3 c4] 26)).heap.size (w2.alloc (.cells #[.slice A0 1 c0, .slice A1 1 c1, .int .i64 2, .slice A3 0 c3, .slice (some ⟨b, off, none⟩) 3 c4] 26)) w') := HKR0
  clear HKR0
  have HD := Lib.hid (cell_kept d0 b3)
  clear f0 f1 f2 f3 f4 f5 d0 d1 d2 d3 d4 HO hA hem hpg s4 rF hb2 b1
  go_upto_region 3 with (fail)
  generalize w2.alloc (.cells #[.slice A0 1 c0, .slice A1 1 c1, .int .i64 2, .slice A3 0 c3, .slice (some ⟨b, off, none⟩) 3 c4] 26) = w3 at *
  have b3' := b2.trans (b3.mono hs2)
  have hs3 := b3'.size
  obtain ⟨p0, p1, p2, p3, p4⟩ := rP.five'
  go_wp2_with fail
  (with_reducible refine HKR.out.mono ?_)
  rintro e w4 ⟨rfl, hb4⟩
  have b4 := b3'.trans (hb4.mono hs3)
  have rP4 := rP.below hb4 rP.lt
  have d9 := cell_kept HD.out hb4
  clear p0 p1 p2 p3 p4 rP
  obtain ⟨p0, p1, p2, p3, p4⟩ := rP4.five'
  go_wp2_with fail
  go_ret
  exact ⟨rfl, b4⟩
end Go.Proofs.Ytbjaejgechadpaa
