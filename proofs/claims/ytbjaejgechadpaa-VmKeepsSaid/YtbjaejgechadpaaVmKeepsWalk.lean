/-
  The walk of the law VmKeeps.
-/
import Derived.Test.YtbjaejgechadpaaVmLaw
namespace Go.Proofs.Ytbjaejgechadpaa.vmKeeps
open Go.RowKit Vf
attribute [local go_sem ↓] Go.wp_at_zero Go.wp_at_succ
theorem slv_below {w w' : World} {v : Value} {l : List Int} (h : SlV w w.heap.size 1 isInt v l) (hb : Below w.heap.size w w') : SlV w' w'.heap.size 1 isInt v l := (h.below hb).more hb.size
theorem ints_same (l : List Int) (v1 v2 : Value) (w : World) (h1 : SlV w w.heap.size 1 isInt v1 l) (h2 : SlV w w.heap.size 1 isInt v2 l) :
    Calls Try.prog 20 #[v1, v2] w fun e w' => e = .returned (.bool true) ∧ ∃ n, w' = w.drewN n := by
  have := rints_any l l v1 v2 w.heap.size w h1 h2
  rwa [cB_true rfl] at this
theorem slv_drew {w : World} {v : Value} {l : List Int} (h : SlV w w.heap.size 1 isInt v l) (n : Nat) : SlV (w.drewN n) (w.drewN n).heap.size 1 isInt v l := slv_below h (below_drewN' (Below.refl _ _) n)
theorem news_of {w : World} {B : Nat} {A : Option Addr} {l : List Int} (h : Sl w B 1 isInt A l) : ∀ ad, A = some ad → ∀ j u, (ints l)[j]? = some u → w.cell? (ad.add j) = some u := by
  rintro ad rfl j u hu
  rw [← intC_flat] at hu
  exact h.flatA intC_of intC_len j u hu
theorem ints_one (l : List Int) : ∀ u ∈ ints l, u.oneCell' = true := by
  intro u hu
  obtain ⟨x, _, rfl⟩ := List.mem_map.1 hu
  rfl
set_option maxRecDepth 100000 in
set_option maxHeartbeats 1500000 in
theorem walk0 (p : Pg) (vi vo vc vd : Value) (cells inn : List Int) (v1 v2 : Value) (w : World) (h : PgAt w w.heap.size p vi vo vc vd) (h1 : IntsIs w cells v1) (h2 : IntsIs w inn v2) :
    Calls Try.prog 5 #[pgV p vi vo vc vd, v1, v2] w fun e w' => e = .returned (.bool true) ∧ Below w.heap.size w w' := by
  have b0 : Below w.heap.size w (w.alloc (.cells #[vi, vo, .int .i64 p.regs, vc, vd] 26)) := (Below.refl _ _).alloc (Nat.le_refl _) _
  have bP := Row.new w #[vi, vo, .int .i64 p.regs, vc, vd] 26
  have HP := Lib.hid h
  have H1 := Lib.hid h1.1
  have H2 := Lib.hid h2.1
  obtain ⟨A1, c1, rfl, l1, m1, s1⟩ := h1.1
  obtain ⟨A2, c2, rfl, l2, m2, s2⟩ := h2.1
  have n1 := Lib.hid h1.2
  have n2 := Lib.hid h2.2
  clear h h1 h2
  go_enter Try.func5, Try.ntmps5
  go_wp2_with fail
  trace "1"
  refine (awake29_any _).mono ?_
  rintro e w1 ⟨rfl, hb1⟩
  have b1 := b0.trans (hb1.mono b0.size)
  have bP1 := bP.below hb1 bP.lt
  clear hb1 bP b0
  have q0 := bP1.cell 0
  have q1 := bP1.cell 1
  have q2 := bP1.cell 2
  have q3 := bP1.cell 3
  have q4 := bP1.cell 4
  simp only [List.getElem?_toArray, List.getElem?_cons_zero, List.getElem?_cons_succ] at q0 q1 q2 q3 q4
  go_wp2_with fail
  trace "2"
  refine (few_any p _ _ _ _ _ (HP.out.next b1)).mono ?_
  rintro e w2 ⟨rfl, hb2⟩
  have b2 := b1.trans (hb2.mono b1.size)
  have bP2 := bP1.below hb2 bP1.lt
  clear hb2 bP1 b1 q0 q1 q2 q3 q4
  generalize hV : cB (fewOk p) = V at *
  have HV := Lib.hid hV
  clear hV
  have q0 := bP2.cell 0
  have q1 := bP2.cell 1
  have q2 := bP2.cell 2
  have q3 := bP2.cell 3
  have q4 := bP2.cell 4
  simp only [List.getElem?_toArray, List.getElem?_cons_zero, List.getElem?_cons_succ] at q0 q1 q2 q3 q4
  cases V
  · go_wp2_with fail
    go_ret
    exact ⟨rfl, b2⟩
  by_cases hl1 : 100 < cells.length
  · go_wp2_with fail
    go_ret
    exact ⟨rfl, b2⟩
  by_cases hl2 : 20 < inn.length
  · go_wp2_with fail
    go_ret
    exact ⟨rfl, b2⟩
  go_wp2_with fail
  trace "3"
  refine (new_any p _ _ _ _ _ (HP.out.next b2)).mono ?_
  rintro e w3 ⟨hb3, ⟨hr, M, vi', vo', vc', vd', rfl, hM⟩ | ⟨hno, rfl⟩⟩
  rotate_left 1
  · have b3 := b2.trans (hb3.mono b2.size)
    clear hb3
    go_wp2_with fail
    go_ret
    exact ⟨rfl, b3⟩
  have b3 := b2.trans (hb3.mono b2.size)
  clear hb3 q0 q1 q2 q3 q4 bP2 b2 HV
  have HR := Lib.hid hr
  have HM := Lib.hid hM
  clear hr hM
  obtain ⟨i0, hi0, hz0, hz1, hz2⟩ := info_parts info_int
  have b4 := (Below.refl w3.heap.size w3).alloc (Nat.le_refl _) (.cells #[] 3)
  have S4 := Lib.hid (s1.below (b3.trans (b4.mono b3.size)))
  go_wp2_with (at_builtin; refine wpList_append_opt _ rfl _ _ 22 rfl w3.heap.size 3 i0 (.int .i64 0) 1 8 Try.underlying22 hi0 hz0 hz1 hz2 rfl (by decide) _ _ _ rfl (own_empty w3 3 1) A1 cells.length c1 (ints cells) rfl ?c0 ?c1 ?c2 ?c3 ?c4 ?c5 ?c6 ?_)
  case c0 => exact n1.out
  case c1 => rw [ints_len]; omega
  case c2 => exact news_of S4.out
  case c3 => exact ints_one _
  case c4 => unfold maxLen; omega
  case c5 => omega
  case c6 => simp
  intro va w5 hown5 hb5
  have b5 := b4.trans (hb5.mono (by simp))
  have b6 := b5.alloc b5.size (.cells #[] 3)
  have S6 := Lib.hid (s2.below (b3.trans (b6.mono b3.size)))
  have hz5 := b5.size
  go_wp2_with (at_builtin; refine wpList_append_opt _ rfl _ _ 22 rfl w5.heap.size 3 i0 (.int .i64 0) 1 8 Try.underlying22 hi0 hz0 hz1 hz2 rfl (by decide) _ _ _ rfl (own_empty w5 3 1) A2 inn.length c2 (ints inn) rfl ?d0 ?d1 ?d2 ?d3 ?d4 ?d5 ?d6 ?_)
  case d0 => exact n2.out
  case d1 => rw [ints_len]; omega
  case d2 => exact news_of S6.out
  case d3 => exact ints_one _
  case d4 => unfold maxLen; omega
  case d5 => omega
  case d6 => simp
  intro vb w7 hown7 hb7
  have b57 := ((Below.refl w5.heap.size w5).alloc (Nat.le_refl _) (.cells #[] 3)).trans hb7
  have b7 := b5.trans (b57.mono hz5)
  have Sa := Lib.hid (own_ints (l := cells) (by simpa using own_below hown5 b57) (slv_in H1.out))
  have Sb := Lib.hid (own_ints (l := inn) (by simpa using hown7) (slv_in H2.out))
  have bw7 := b3.trans (b7.mono b3.size)
  have Sc := Lib.hid (slv_below H1.out bw7)
  have Sd := Lib.hid (slv_below H2.out bw7)
  have HM7 := Lib.hid (HM.out.below b7)
  clear hown5 hown7 b57 b7 b5 b6 b4 hb5 hb7 S4 S6 HM b3
  go_wp2_with fail
  trace "4"
  refine (tick_any HR.out HM7.out cells inn _ _ Sa.out Sb.out (by omega)).mono ?_
  rintro e w8 ⟨hb8, ht8⟩
  have Sa8 := slv_below Sa.out hb8
  have Sb8 := slv_below Sb.out hb8
  have Sc8 := slv_below Sc.out hb8
  have Sd8 := slv_below Sd.out hb8
  have HM8 := Lib.hid (HM7.out.below hb8)
  have bw8 := bw7.trans (hb8.mono bw7.size)
  clear Sa Sb Sc Sd HM7 bw7 hb8
  have Sa := Lib.hid Sa8
  have Sb := Lib.hid Sb8
  have Sc := Lib.hid Sc8
  have Sd := Lib.hid Sd8
  clear Sa8 Sb8 Sc8 Sd8
  rcases ht8 with ⟨f1, f2, vn1, vo1, rfl, t1, t2⟩ | ⟨no, rfl⟩
  · have T1 := Lib.hid t1
    have T2 := Lib.hid t2
    clear t1 t2
    go_wp2_with fail
    trace "5"
    refine (tick_any HR.out HM8.out cells inn _ _ Sc.out Sd.out (by omega)).mono ?_
    rintro e w9 ⟨hb9, ⟨_, _, vn2, vo2, rfl, t3, t4⟩ | ⟨no, _⟩⟩
    rotate_left 1
    · exact absurd ⟨f1, f2⟩ no
    have bw9 := bw8.trans (hb9.mono bw8.size)
    have U1 := Lib.hid (slv_below T1.out hb9)
    have U2 := Lib.hid (slv_below T2.out hb9)
    have U3 := Lib.hid t3
    have U4 := Lib.hid t4
    have V1 := Lib.hid (slv_below Sa.out hb9)
    have V2 := Lib.hid (slv_below Sb.out hb9)
    have V3 := Lib.hid (slv_below Sc.out hb9)
    have V4 := Lib.hid (slv_below Sd.out hb9)
    clear t3 t4 T1 T2 Sa Sb Sc Sd hb9
    generalize ((tick p cells inn).2 : Nat) = N at *
    go_wp2_with fail
    trace "6"
    refine (ints_same cells _ _ _ V1.out V3.out).mono ?_
    rintro e wa ⟨rfl, na, rfl⟩
    go_wp2_with fail
    trace "7"
    refine (ints_same inn _ _ _ (slv_drew V2.out _) (slv_drew V4.out _)).mono ?_
    rintro e wb ⟨rfl, nb, rfl⟩
    go_wp2_with fail
    trace "8"
    refine (ints_same _ _ _ _ (slv_drew U1.out _) (slv_drew U3.out _)).mono ?_
    rintro e wc ⟨rfl, nc, rfl⟩
    go_wp2_with fail
    trace "9"
    refine (ints_same _ _ _ _ (slv_drew U2.out _) (slv_drew U4.out _)).mono ?_
    rintro e wd ⟨rfl, nd, rfl⟩
    go_wp2_with fail
    go_ret
    exact ⟨by simp, below_drewN' bw9 _⟩
  · go_wp2_with fail
    trace "10"
    refine (tick_any HR.out HM8.out cells inn _ _ Sc.out Sd.out (by omega)).mono ?_
    rintro e w9 ⟨hb9, ⟨f1, f2, _⟩ | ⟨_, rfl⟩⟩
    · exact absurd ⟨f1, f2⟩ no
    have bw9 := bw8.trans (hb9.mono bw8.size)
    have V1 := Lib.hid (slv_below Sa.out hb9)
    have V2 := Lib.hid (slv_below Sb.out hb9)
    have V3 := Lib.hid (slv_below Sc.out hb9)
    have V4 := Lib.hid (slv_below Sd.out hb9)
    clear Sa Sb Sc Sd hb9
    go_wp2_with fail
    trace "11"
    refine (ints_same cells _ _ _ V1.out V3.out).mono ?_
    rintro e wa ⟨rfl, na, rfl⟩
    go_wp2_with fail
    trace "12"
    refine (ints_same inn _ _ _ (slv_drew V2.out _) (slv_drew V4.out _)).mono ?_
    rintro e wb ⟨rfl, nb, rfl⟩
    go_wp2_with fail
    trace "13"
    refine (ints_same [] _ _ _ SlV.nil SlV.nil).mono ?_
    rintro e wc ⟨rfl, nc, rfl⟩
    go_wp2_with fail
    trace "14"
    refine (ints_same [] _ _ _ SlV.nil SlV.nil).mono ?_
    rintro e wd ⟨rfl, nd, rfl⟩
    go_wp2_with fail
    go_ret
    exact ⟨by simp, below_drewN' bw9 _⟩
theorem walk (p : Pg) (v : Value) (l1 : List Int) (v1 : Value) (l2 : List Int) (v2 : Value) (w : World) (h : PgIs w p v) (h1 : IntsIs w l1 v1) (h2 : IntsIs w l2 v2) : Calls Try.prog 5 #[v, v1, v2] w fun e w' => e = .returned (.bool true) ∧ Below w.heap.size w w' := by
  obtain ⟨vi, vo, vc, vd, rfl, ha⟩ := h
  exact walk0 p vi vo vc vd l1 l2 v1 v2 w ha h1 h2
end Go.Proofs.Ytbjaejgechadpaa.vmKeeps
