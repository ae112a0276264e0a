/-
  slices.Concat of lists of variables; scope.all.
-/
import Derived.Test.YtolabbnchmmckaaSrc
import Derived.Test.YtolabbnchmmckaaLst
import Derived.Test.YtolabbnchmmckaaTreeHeight
import Derived.Test.YtolabbnchmmckaaToken
import Derived.Outline
namespace Go.Proofs.Ytolabbnchmmckaa
open Go.RowKit
theorem info_var : (Try.prog.info? 64).map (fun i => (i.zero, i.size, i.bytes)) = some (some (.agg #[.string ⟨#[]⟩, .int .i64 0, .slice none 0 0, .int .i64 0, .int .i64 0]), 5, 64) := by kernel_rfl
theorem isVr_one {w : World} {B : Nat} {x : Vr} {cs : List Value} (h : isVr w B x cs) : cs.length = 5 ∧ ∀ u ∈ cs, u.oneCell' = true := by
  obtain ⟨A, cap, rfl, _⟩ := h
  refine ⟨rfl, fun u hu => ?_⟩
  simp only [List.mem_cons, List.not_mem_nil, or_false] at hu
  rcases hu with rfl | rfl | rfl | rfl | rfl <;> rfl
set_option maxRecDepth 100000 in
set_option maxHeartbeats 1000000 in
theorem grow_var (n : Nat) (w : World) (hn : n ≤ 100000) :
    Calls Try.prog 136 #[.slice none 0 0, .int .i64 n] w fun e w' => (∃ v, e = .returned v ∧ w'.ownsRow w.heap.size 64 5 v 0 []) ∧ Below w.heap.size w w' := by
  obtain ⟨i0, hi0, hz0, hz1, hz2⟩ := info_parts info_var
  rcases Nat.eq_zero_or_pos n with h0 | h0
  · subst h0
    go_enter Try.func136, Try.ntmps136
    go_wp2_with fail
    go_ret
    exact ⟨⟨_, rfl, by simp, .inl ⟨rfl, rfl⟩⟩, Below.refl _ _⟩
  · have hp : decide ((0 : Int) < (n : Int)) = true := by simpa using h0
    have hg := grownCap_ge w n 0 64
    have hm := grownCap_le_maxLen w n 0 64 (by unfold maxLen; omega)
    have hr := Lib.run_append_nil_zeros (P := Try.prog) w 37 3 37 64 i0 _ .i64 .i64 Try.underlying37 Try.underlying3 hi0 hz0 n h0 (by omega) (by omega) (by rw [hz2]; omega)
    have HR := Lib.hid hr
    clear hr
    generalize grownCap w n 0 64 = gc at *
    have hm' : gc ≤ 9223372036854775807 := by unfold maxLen at hm; omega
    have HS : Hid ((Builtin.zeroCells (Value.agg #[.string ⟨#[]⟩, .int .i64 0, .slice none 0 0, .int .i64 0, .int .i64 0]).cells n ++ Builtin.zeroCells (Value.agg #[.string ⟨#[]⟩, .int .i64 0, .slice none 0 0, .int .i64 0, .int .i64 0]).cells (gc - n)).size = gc * 5) := by
      show _ = _
      simp [Builtin.zeroCells, Value.cells]
      omega
    generalize Builtin.zeroCells (Value.agg #[.string ⟨#[]⟩, .int .i64 0, .slice none 0 0, .int .i64 0, .int .i64 0]).cells n ++ Builtin.zeroCells (Value.agg #[.string ⟨#[]⟩, .int .i64 0, .slice none 0 0, .int .i64 0, .int .i64 0]).cells (gc - n) = Z at *
    go_enter Try.func136, Try.ntmps136
    go_wp2_with (at_builtin; refine Lib.wpList_append_run w rfl _ _ 37 3 rfl _ _ rfl rfl _ _ HR.out ?_)
    go_ret
    exact ⟨⟨_, rfl, by simp, .inr ⟨w.heap.size, gc, Z, rfl, Nat.le_refl _, heap_alloc_new w.drew _, Nat.zero_le _, hm, HS.out, by simp⟩⟩, (Below.refl _ _).drew.alloc (Nat.le_refl _) _⟩
/-- a slice of variables, with where it lies -/
structure Vsl where
  A : Option Addr
  cap : Nat
  l : List Vr
noncomputable def catTo (ss : List Vsl) (k : Nat) : List Vr := ((ss.take k).map (·.l)).flatten
theorem catTo_succ {ss : List Vsl} {k : Nat} {s : Vsl} (h : ss[k]? = some s) : catTo ss (k + 1) = catTo ss k ++ s.l := by
  unfold catTo; rw [take_succ_map _ h]; simp
theorem catTo_le (ss : List Vsl) (k : Nat) : (catTo ss k).length ≤ (catTo ss ss.length).length := by
  unfold catTo
  conv => rhs; rw [List.take_length, ← List.take_append_drop k ss]
  rw [List.map_append, List.flatten_append, List.length_append]; omega
set_option maxRecDepth 100000 in
set_option maxHeartbeats 2000000 in
theorem concat_var (ss : List Vsl) (b B cap : Nat) (w : World) (hl : ss.length ≤ cap) (hcap : cap ≤ 10) (hlen : (catTo ss ss.length).length ≤ 10000) (hb : b < w.heap.size) (hB : B ≤ w.heap.size)
    (hrow : ∀ (k : Nat) (s : Vsl), ss[k]? = some s → w.cell? ⟨b, k, none⟩ = some (.slice s.A s.l.length s.cap)) (hss : ∀ (k : Nat) (s : Vsl), ss[k]? = some s → Vrs w B s.A s.l) :
    Calls Try.prog 109 #[.slice (some ⟨b, 0, none⟩) ss.length cap] w fun e w' => ∃ v css, e = .returned v ∧ w'.ownsRow w.heap.size 64 5 v (catTo ss ss.length).length css.flatten ∧ Are (isVr w' B) (catTo ss ss.length) css ∧ Below w.heap.size w w' := by
  obtain ⟨i0, hi0, hz0, hz1, hz2⟩ := info_parts info_var
  have HR := Lib.hid hrow
  have HS := Lib.hid hss
  have HC := Lib.hid (catTo_le ss)
  have HL := Lib.hid hlen
  have hsl : ss.length ≤ 10 := by omega
  clear hrow hss hlen
  go_enter Try.func109, Try.ntmps109
  go_wp2_with fail
  go_loop [3, 11] (fun t i => ∃ k : Nat, k ≤ ss.length ∧ i = .int .i64 k ∧ t = .int .i64 ((catTo ss k).length : Int)) (fun _ i => ss.length - (intOf i).toNat)
  case atStart => exact ⟨0, Nat.zero_le _, rfl, rfl⟩
  case round =>
    obtain ⟨k, hk, rfl, rfl⟩ := hrel
    have h1 := HC.out k
    have h2 := HL.out
    have h3 : (catTo ss k).length ≤ 10000 := by omega
    clear h1 h2
    by_cases hlt : k < ss.length
    · have hg := List.getElem?_eq_getElem hlt
      have c0 := HR.out k _ hg
      have HT := Lib.hid (catTo_succ hg)
      have h4 : (catTo ss k).length + ss[k].l.length ≤ 10000 := by
        have h1 := HC.out (k + 1)
        have h2 := HL.out
        rw [HT.out, List.length_append] at h1
        omega
      clear hg
      generalize ss[k] = s at *
      have HT2 : Hid ((catTo ss (k + 1)).length = (catTo ss k).length + s.l.length) := by show _ = _; rw [HT.out, List.length_append]
      clear HT
      generalize (catTo ss k).length = n at *
      have hnn : decide ((n : Int) + (s.l.length : Int) < 0) = false := by simp; omega
      go_wp2_with fail
      go_round
      case rel => exact ⟨k + 1, by omega, by go_num, by rw [HT2.out]; go_num⟩
      case measure => simp [intOf]; omega
    · obtain rfl : k = ss.length := by omega
      go_wp2_with fail
      refine (grow_var _ _ (by omega)).mono ?_
      rintro e w1 ⟨⟨v1, rfl, ho1⟩, hb1⟩
      have hw1 := hb1.size
      go_wp2_with fail
      go_loopw [6, 27] (fun v i wr => ∃ (k : Nat) (css : List (List Value)), k ≤ ss.length ∧ i = .int .i64 k ∧ wr.ownsRow w.heap.size 64 5 v (catTo ss k).length css.flatten ∧ Hid (Are (isVr wr B) (catTo ss k) css) ∧ Below w.heap.size w wr) (fun _ i _ => ss.length - (intOf i).toNat)
      case atStart => exact ⟨0, [], Nat.zero_le _, rfl, ho1, Are.nil, hb1⟩
      case round =>
        obtain ⟨k, css, hk, rfl, hown, HA, hbr⟩ := hrel
        have hszr := hbr.size
        by_cases hlt : k < ss.length
        · have hg := List.getElem?_eq_getElem hlt
          have c0 : wr.cell? ⟨b, k, none⟩ = _ := (hbr.cell (p := ⟨b, k, none⟩) hb).trans (HR.out k _ hg)
          have hs := vrs_keep (HS.out k _ hg) (keeps_of (hbr.mono hB)) (Nat.le_refl _)
          have HSS := Lib.hid hs
          have HT := Lib.hid (catTo_succ hg)
          have h4 : (catTo ss k).length + ss[k].l.length ≤ 10000 := by
            have h1 := HC.out (k + 1)
            have h2 := HL.out
            rw [HT.out, List.length_append] at h1
            omega
          clear hg hs
          generalize ss[k] = s at *
          go_wp2_with (at_builtin; refine wpList_append_sl rfl _ _ 37 rfl w.heap.size 64 i0 _ 5 64 Try.underlying37 hi0 hz0 hz1 hz2 rfl (by decide) _ _ _ rfl hown s.A s.l s.cap rfl HSS.out (fun _ _ h => isVr_one h) ?c3 ?c4 hszr ?_)
          case c3 => unfold maxLen; omega
          case c4 => omega
          intro v' w3 css' hown' hare' hb3 _
          have hown4 : w3.ownsRow w.heap.size 64 5 v' (catTo ss (k + 1)).length (css ++ css').flatten := by
            rw [HT.out, List.length_append, List.flatten_append]; exact hown'
          have hb4 := hbr.trans hb3
          have HA4 : Hid (Are (isVr w3 B) (catTo ss (k + 1)) (css ++ css')) := by
            show Are _ _ _
            rw [HT.out]
            exact (HA.out.append hare').mono (fun x _ cs h => isVr_keep (keeps_of (hb3.mono hB)) (Nat.le_refl _) h)
          clear hown' hare' hown HA
          go_wp2_with fail
          go_roundw
          case rel => exact ⟨k + 1, _, by omega, by go_num, hown4, HA4, hb4⟩
          case measure => simp [intOf]; omega
        · obtain rfl : k = ss.length := by omega
          go_wp2_with fail
          go_ret
          exact ⟨_, css, rfl, hown, HA.out, hbr⟩
end Go.Proofs.Ytolabbnchmmckaa
