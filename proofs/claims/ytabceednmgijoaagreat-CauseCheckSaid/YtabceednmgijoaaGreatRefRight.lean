/-
  What is plain of an expression, by the document: the contract of tompionref12.plain. Which expressions are right, by the document: the contract of tompionref12.Right.
-/
import Derived.Test.YtabceednmgijoaaGreatTreePlain
import Derived.Test.YtabceednmgijoaaGreatTreeList
namespace Go.Proofs.YtabceednmgijoaaGreat
open Go.RowKit Nm

theorem plainR_else {e : Ex} (hne : ¬ (namesB e.op = true ∨ e.op = 4)) (hE : e.name.toList.isEmpty = true) (hn : ¬ e.n < 0) : plainR (namesB e.op) e = ((e.op == 1 || e.n == 0) || (e.op == 2 && e.n == 1)) := by
  unfold plainR
  rw [if_neg hne, hE, show decide (0 ≤ e.n) = true by simp; omega]
  by_cases h1 : e.op = 1
  · rw [if_pos h1, show (e.op == 1) = true by simp [h1]]; simp
  · rw [if_neg h1, show (e.op == 1) = false by simp [h1]]
    by_cases h2 : e.op = 2
    · rw [if_pos h2, show (e.op == 2) = true by simp [h2]]; simp
    · rw [if_neg h2, show (e.op == 2) = false by simp [h2]]; simp
set_option maxHeartbeats 8000000 in
theorem rplain_any (e : Ex) (A : Option Addr) (cap : Nat) (w : World) (hnm : e.name.size ≤ 1000000) (hl : e.args.length ≤ maxLen) :
    Calls Tryz.prog 108 #[exV e A cap] w fun r w' => r = .returned (.bool (plainB e)) ∧ Below w.heap.size w w' := by
  unfold maxLen at hl
  have HE := Lib.hid (show plainB e = plainK (partsZ e.op) (namesB e.op) e from rfl)
  have hK := partsZ_lo e.op
  go_enter Tryz.func108, Tryz.ntmps108
  go_wp2_with fail
  refine (rparts_any e.op _).mono ?_
  rintro r w1 ⟨rfl, hb1⟩
  obtain ⟨⟨c0, c1, c2, c3, _, _⟩, hbel, hsz⟩ := exBox (w := w) (wr := w1) (e := e) (A := A) (cap := cap) (by simpa using hb1)
  generalize partsZ e.op = K at *
  clear hb1
  by_cases hk2 : K = -2
  · subst hk2
    go_wp2_with fail
    go_ret
    exact ⟨ret_bool (by rw [HE.out]; rfl), hbel⟩
  · have q2 : (K == -2) = false := by rw [beq_eq_false_iff_ne]; omega
    by_cases h1 : K = -1 ∧ (e.args.length < 1 ∨ 8 < e.args.length)
    · have HF := Lib.hid (HE.out.trans (plainK_no1 h1))
      obtain ⟨rfl, h1⟩ := h1
      clear hK HE
      rcases h1 with h1 | h1
      all_goals
        go_wp2_with fail
        go_ret
        exact ⟨ret_bool HF.out.symm, hbel⟩
    · by_cases h2 : 0 ≤ K ∧ (e.args.length : Int) ≠ K
      · have HF := Lib.hid (HE.out.trans (plainK_no2 h2))
        obtain ⟨h2, h3⟩ := h2
        have h3' : (((e.args.length : Int)) != K) = true := by rw [bne_iff_ne]; exact h3
        clear hK HE h3 h1 hk2
        go_wp2_with fail
        go_ret
        exact ⟨ret_bool HF.out.symm, hbel⟩
      · have HF := Lib.hid (HE.out.trans (plainK_go hk2 h1 h2))
        have HG : Hid ((K = -1 ∧ 1 ≤ e.args.length ∧ e.args.length ≤ 8) ∨ (0 ≤ K ∧ (e.args.length : Int) = K)) := by
          show _ ∨ _
          omega
        clear hK HE hk2 h1 h2
        rcases HG.out with ⟨rfl, h1, h8⟩ | ⟨h0, h3⟩
        rotate_left
        · have hk1 : (K == -1) = false := by rw [beq_eq_false_iff_ne]; omega
          have h3' : (((e.args.length : Int)) != K) = false := by rw [bne_eq_false_iff_eq]; exact h3
          clear h3 HG
          by_cases h3 : e.op = 3 ∨ e.op = 4 ∨ (24 ≤ e.op ∧ e.op ≤ 26)
          · have HR := Lib.hid (HF.out.trans (show plainR (namesB e.op) e = (nameB e.name.toList && e.n == 0) by unfold plainR; rw [if_pos (by simp only [namesB, decide_eq_true_eq]; omega)]))
            clear HF
            have HP : Hid (Calls Tryz.prog 87 #[.string e.name] w1 fun r w' => r = .returned (.bool (nameB e.name.toList)) ∧ w1 = w') := rname_any e.name _ hnm
            rcases h3 with h3 | h3 | ⟨h3, h3'⟩
            · have k3 : (e.op == 3) = true := by simp [h3]
              clear h3
              go_wp2_with fail
              refine HP.out.mono ?_
              rintro r w' ⟨rfl, rfl⟩
              generalize nameB e.name.toList = N at *
              cases N
              all_goals
                go_wp2_with fail
                go_ret
                exact ⟨ret_bool HR.out.symm, hbel⟩
            · have k3 : (e.op == 3) = false := by simp [h3]
              have k4 : (e.op == 4) = true := by simp [h3]
              clear h3
              go_wp2_with fail
              refine HP.out.mono ?_
              rintro r w' ⟨rfl, rfl⟩
              generalize nameB e.name.toList = N at *
              cases N
              all_goals
                go_wp2_with fail
                go_ret
                exact ⟨ret_bool HR.out.symm, hbel⟩
            · have k3 : (e.op == 3) = false := by rw [beq_eq_false_iff_ne]; omega
              have k4 : (e.op == 4) = false := by rw [beq_eq_false_iff_ne]; omega
              go_wp2_with fail
              refine HP.out.mono ?_
              rintro r w' ⟨rfl, rfl⟩
              generalize nameB e.name.toList = N at *
              cases N
              all_goals
                go_wp2_with fail
                go_ret
                exact ⟨ret_bool HR.out.symm, hbel⟩
          · have k3 : (e.op == 3) = false := by rw [beq_eq_false_iff_ne]; omega
            have k4 : (e.op == 4) = false := by rw [beq_eq_false_iff_ne]; omega
            have k5 : decide (24 ≤ e.op) = false ∨ (decide (24 ≤ e.op) = true ∧ decide (e.op ≤ 26) = false) := by simp; omega
            have hne : ¬ (namesB e.op = true ∨ e.op = 4) := by simp only [namesB, decide_eq_true_eq]; omega
            clear h3
            cases hE : e.name.toList.isEmpty
            · have HR := Lib.hid (HF.out.trans (show plainR (namesB e.op) e = false by unfold plainR; rw [if_neg hne, hE]; simp))
              clear HF hne
              rcases k5 with k5 | ⟨k5, k6⟩
              all_goals
                go_wp2_with fail
                go_ret
                exact ⟨ret_bool HR.out.symm, hbel⟩
            · by_cases hn : e.n < 0
              · have HR := Lib.hid (HF.out.trans (show plainR (namesB e.op) e = false by
                  unfold plainR; rw [if_neg hne, hE]
                  have g1 : decide (0 ≤ e.n) = false := by simp; omega
                  have g2 : (e.n == 0) = false := by rw [beq_eq_false_iff_ne]; omega
                  have g3 : (e.n == 1) = false := by rw [beq_eq_false_iff_ne]; omega
                  rw [g1, g2, g3]; simp))
                clear HF hne
                rcases k5 with k5 | ⟨k5, k6⟩
                all_goals
                  go_wp2_with fail
                  go_ret
                  exact ⟨ret_bool HR.out.symm, hbel⟩
              · have HR := Lib.hid (HF.out.trans (plainR_else hne hE hn))
                clear HF hne
                rcases k5 with k5 | ⟨k5, k6⟩
                all_goals
                  go_wp2_with fail
                  all_goals
                    go_ret
                    refine ⟨ret_bool ?_, hbel⟩
                    rw [HR.out]
                    simp_all
        · clear HG
          by_cases h3 : e.op = 3 ∨ e.op = 4 ∨ (24 ≤ e.op ∧ e.op ≤ 26)
          · have HR := Lib.hid (HF.out.trans (show plainR (namesB e.op) e = (nameB e.name.toList && e.n == 0) by unfold plainR; rw [if_pos (by simp only [namesB, decide_eq_true_eq]; omega)]))
            clear HF
            have HP : Hid (Calls Tryz.prog 87 #[.string e.name] w1 fun r w' => r = .returned (.bool (nameB e.name.toList)) ∧ w1 = w') := rname_any e.name _ hnm
            rcases h3 with h3 | h3 | ⟨h3, h3'⟩
            · have k3 : (e.op == 3) = true := by simp [h3]
              clear h3
              go_wp2_with fail
              refine HP.out.mono ?_
              rintro r w' ⟨rfl, rfl⟩
              generalize nameB e.name.toList = N at *
              cases N
              all_goals
                go_wp2_with fail
                go_ret
                exact ⟨ret_bool HR.out.symm, hbel⟩
            · have k3 : (e.op == 3) = false := by simp [h3]
              have k4 : (e.op == 4) = true := by simp [h3]
              clear h3
              go_wp2_with fail
              refine HP.out.mono ?_
              rintro r w' ⟨rfl, rfl⟩
              generalize nameB e.name.toList = N at *
              cases N
              all_goals
                go_wp2_with fail
                go_ret
                exact ⟨ret_bool HR.out.symm, hbel⟩
            · have k3 : (e.op == 3) = false := by rw [beq_eq_false_iff_ne]; omega
              have k4 : (e.op == 4) = false := by rw [beq_eq_false_iff_ne]; omega
              go_wp2_with fail
              refine HP.out.mono ?_
              rintro r w' ⟨rfl, rfl⟩
              generalize nameB e.name.toList = N at *
              cases N
              all_goals
                go_wp2_with fail
                go_ret
                exact ⟨ret_bool HR.out.symm, hbel⟩
          · have k3 : (e.op == 3) = false := by rw [beq_eq_false_iff_ne]; omega
            have k4 : (e.op == 4) = false := by rw [beq_eq_false_iff_ne]; omega
            have k5 : decide (24 ≤ e.op) = false ∨ (decide (24 ≤ e.op) = true ∧ decide (e.op ≤ 26) = false) := by simp; omega
            have hne : ¬ (namesB e.op = true ∨ e.op = 4) := by simp only [namesB, decide_eq_true_eq]; omega
            clear h3
            cases hE : e.name.toList.isEmpty
            · have HR := Lib.hid (HF.out.trans (show plainR (namesB e.op) e = false by unfold plainR; rw [if_neg hne, hE]; simp))
              clear HF hne
              rcases k5 with k5 | ⟨k5, k6⟩
              all_goals
                go_wp2_with fail
                go_ret
                exact ⟨ret_bool HR.out.symm, hbel⟩
            · by_cases hn : e.n < 0
              · have HR := Lib.hid (HF.out.trans (show plainR (namesB e.op) e = false by
                  unfold plainR; rw [if_neg hne, hE]
                  have g1 : decide (0 ≤ e.n) = false := by simp; omega
                  have g2 : (e.n == 0) = false := by rw [beq_eq_false_iff_ne]; omega
                  have g3 : (e.n == 1) = false := by rw [beq_eq_false_iff_ne]; omega
                  rw [g1, g2, g3]; simp))
                clear HF hne
                rcases k5 with k5 | ⟨k5, k6⟩
                all_goals
                  go_wp2_with fail
                  go_ret
                  exact ⟨ret_bool HR.out.symm, hbel⟩
              · have HR := Lib.hid (HF.out.trans (plainR_else hne hE hn))
                clear HF hne
                rcases k5 with k5 | ⟨k5, k6⟩
                all_goals
                  go_wp2_with fail
                  all_goals
                    go_ret
                    refine ⟨ret_bool ?_, hbel⟩
                    rw [HR.out]
                    simp_all
end Go.Proofs.YtabceednmgijoaaGreat
namespace Go.Proofs.YtabceednmgijoaaGreat
open Go.RowKit Nm

noncomputable def exRight (e : Ex) : Bool := (exList e).all plainB && decide (exHeight e ≤ 30)
/-- few parts, short names -/
structure Small (e : Ex) : Prop where
  size : exSize e ≤ 900
  names : ∀ x ∈ exList e, x.name.size ≤ 30
theorem exList_self (e : Ex) : e ∈ exList e := by rw [exList_eq]; simp
theorem exList_sub {e x : Ex} (h : x ∈ e.args) {y : Ex} (hy : y ∈ exList x) : y ∈ exList e := by
  rw [exList_eq]
  exact List.mem_cons_of_mem _ (List.mem_flatten.2 ⟨_, List.mem_map_of_mem h, hy⟩)
theorem Small.arg {e x : Ex} (h : Small e) (hx : x ∈ e.args) : Small x := ⟨by have := exSize_arg hx; have := h.size; omega, fun y hy => h.names y (exList_sub hx hy)⟩
theorem all_no {α : Type} {p : α → Bool} {l : List α} {k : Nat} {x : α} (h : l[k]? = some x) (hx : p x = false) : l.all p = false := List.all_eq_false.2 ⟨x, List.mem_of_getElem? h, by simp [hx]⟩
theorem all_yes {α : Type} {p : α → Bool} {l : List α} (h : ∀ j, j < l.length → ∀ x, l[j]? = some x → p x = true) : l.all p = true := by
  refine List.all_eq_true.2 fun x hx => ?_
  obtain ⟨j, hj⟩ := List.getElem?_of_mem hx
  exact h j (List.getElem?_eq_some_iff.1 hj).1 x hj

set_option maxHeartbeats 2000000 in
theorem rright_any (e : Ex) (A : Option Addr) (cap : Nat) (w : World) (hok : ExOk e) (hcap : e.args.length ≤ cap) (hmax : cap ≤ maxLen) (hx : IsExs w w.heap.size A e.args) (hs : Small e) :
    Calls Tryz.prog 89 #[exV e A cap] w fun r w' => r = .returned (.bool (exRight e)) ∧ Below w.heap.size w w' := by
  have hsz := hs.size
  have HS := Lib.hid hs
  have HE := Lib.hid (show exRight e = ((exList e).all plainB && decide (exHeight e ≤ 30)) from rfl)
  clear hs
  go_enter Tryz.func89, Tryz.ntmps89
  go_wp2_with fail
  have hB0 : Below w.heap.size w (w.alloc (.cells #[.int .i64 e.op, .string e.name, .int .i64 e.n, .slice A e.args.length cap, .int .i64 e.line, .int .i64 e.col] 45)) := (Below.refl _ _).alloc (Nat.le_refl _) _
  refine (list_any w.heap.size e A cap _ hok hcap hmax (by simp) (hx.below hB0) (by omega)).mono ?_
  rintro r w1 ⟨v, css, rfl, hown, hare, hb1⟩
  have hb1' : Below (w.heap.size + 1) (w.alloc (.cells #[.int .i64 e.op, .string e.name, .int .i64 e.n, .slice A e.args.length cap, .int .i64 e.line, .int .i64 e.col] 45)) w1 := by simpa using hb1
  obtain ⟨_, hbel1, hsz1⟩ := exBox hb1'
  obtain ⟨A1, c1, rfl, hn, hl1, hm1, hx1⟩ := own_exs hown hare (by omega)
  have HL : Hid (∀ x ∈ exList e, x.name.size ≤ 30) := HS.out.names
  clear hown hare hb1 hn
  generalize hLL : exList e = L at *
  have hlen : L.length ≤ 1000 := by rw [← hLL]; exact Nat.le_trans hsz (by decide)
  clear hLL
  have hm1' : c1 ≤ 9223372036854775807 := by unfold maxLen at hm1; omega
  go_wp2_with fail
  go_loopw [4] (fun i wr => ∃ k : Nat, k ≤ L.length ∧ i = .int .i64 k ∧ Hid (∀ j, j < k → ∀ x, L[j]? = some x → plainB x = true) ∧ Below w1.heap.size w1 wr) (fun i _ => L.length - (intOf i).toNat)
  case atStart => exact ⟨0, Nat.zero_le _, rfl, fun j h => absurd h (by omega), Below.refl _ _⟩
  case round =>
    obtain ⟨k, hk, rfl, HN, hbr⟩ := hrel
    have hszr := hbr.size
    by_cases hlt : k < L.length
    · obtain ⟨b, off, x, A', cap', rfl, hb, hxk, hxm, hok', hcap', hmax', hx', d0, d1, d2, d3, d4, d5⟩ := (hx1.below hbr).at_ hlt
      have HK := Lib.hid hxk
      have HM := Lib.hid hxm
      clear hxk hxm
      go_wp2_with fail
      refine (rplain_any x A' cap' _ (by have := HL.out x HM.out; omega) (by omega)).mono ?_
      rintro r w2 ⟨rfl, hb2⟩
      have hb3 := hbr.trans (hb2.mono hszr)
      generalize hP : plainB x = P at *
      have HP := Lib.hid hP
      clear hP
      cases P
      · have HF := Lib.hid (show exRight e = false from by rw [HE.out, all_no HK.out HP.out]; rfl)
        go_wp2_with fail
        go_ret
        exact ⟨ret_bool HF.out.symm, hbel1.trans (hb3.mono (by omega))⟩
      · go_wp2_with fail
        go_roundw
        case rel => exact ⟨k + 1, by omega, by go_num, upto_succ HN.out (fun y hy => by rw [HK.out] at hy; injection hy with hy; rw [← hy]; exact HP.out), hb3⟩
        case measure => simp [intOf]; omega
    · obtain rfl : k = L.length := by omega
      have HF := Lib.hid (show exRight e = decide (exHeight e ≤ 30) from by rw [HE.out, all_yes HN.out, Bool.true_and])
      have hb2 : Below (w.heap.size + 1) (w.alloc (.cells #[.int .i64 e.op, .string e.name, .int .i64 e.n, .slice A e.args.length cap, .int .i64 e.line, .int .i64 e.col] 45)) wr := hb1'.trans (hbr.mono hsz1)
      obtain ⟨⟨d0, d1, d2, d3, d4, d5⟩, hbel2, hsz2⟩ := exBox hb2
      go_wp2_with fail
      refine (rheight_any e A cap _ hcap hmax ((hx.below hbel2).more (by omega)) (by omega)).mono ?_
      rintro r w2 ⟨rfl, hb3⟩
      go_wp2_with fail
      go_ret
      exact ⟨ret_bool (by rw [HF.out, Bool.eq_iff_iff]; simp; omega), hbel2.trans (hb3.mono (by omega))⟩
end Go.Proofs.YtabceednmgijoaaGreat
