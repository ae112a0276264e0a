/-
  The contracts of tree.Height, tompionref12.Height, List.
-/
import Derived.Test.YtolabbnchmmckaaExMem
import Derived.Test.YtolabbnchmmckaaRoom
namespace Go.Proofs.Ytolabbnchmmckaa
open Go.RowKit

theorem take_succ_map {α β : Type} {l : List α} {k : Nat} {x : α} (f : α → β) (h : l[k]? = some x) : (l.take (k + 1)).map f = (l.take k).map f ++ [f x] := by
  rw [List.take_add_one, h]; simp
theorem maxL_take {l : List Ex} {b : Nat} (k : Nat) (h : maxL (l.map exHeight) ≤ b) : maxL ((l.take k).map exHeight) ≤ b := by
  refine maxL_le fun x hx => ?_
  obtain ⟨y, hy, rfl⟩ := List.mem_map.1 hx
  have : ∀ l : List Nat, ∀ x ∈ l, x ≤ maxL l := by
    intro l
    induction l with
    | nil => intro x hx; cases hx
    | cons z l ih =>
      intro x hx
      simp only [maxL]
      rcases List.mem_cons.1 hx with rfl | hx
      · omega
      · have := ih x hx; omega
  exact Nat.le_trans (this _ _ (List.mem_map_of_mem (List.mem_of_mem_take hy))) h

/-- how high the first k parts are -/
noncomputable def hTo (e : Ex) (k : Nat) : Nat := maxL ((e.args.take k).map exHeight)
theorem hTo_zero (e : Ex) : hTo e 0 = 0 := rfl
theorem hTo_succ {e x : Ex} {k : Nat} (h : e.args[k]? = some x) : hTo e (k + 1) = max (hTo e k) (exHeight x) := by
  unfold hTo; rw [take_succ_map exHeight h, maxL_snoc]
theorem hTo_end (e : Ex) : exHeight e = hTo e e.args.length + 1 := by unfold hTo; rw [exHeight_eq, List.take_length]
theorem hTo_le {e : Ex} (k : Nat) (h : exSize e ≤ 1000000) : hTo e k ≤ 1000000 := by
  have := exHeight_le e
  have := exHeight_eq e
  exact maxL_take k (by omega)

set_option maxHeartbeats 1000000 in
theorem height_any (e : Ex) : ∀ (A : Option Addr) (cap : Nat) (w : World), e.args.length ≤ cap → cap ≤ maxLen → IsExs w w.heap.size A e.args → exSize e ≤ 1000000 →
    Calls Try.prog 96 #[exV e A cap] w fun r w' => r = .returned (.int .i64 (exHeight e)) ∧ Below w.heap.size w w' := by
  induction e using Ex.ind with
  | h e ih =>
    intro A cap w hcap hmax hx hs
    have HI := Lib.hid ih
    clear ih
    have HE := Lib.hid (hTo_end e)
    have HS := Lib.hid hs
    unfold maxLen at hmax
    clear hs
    go_enter Try.func96, Try.ntmps96
    go_wp2_with fail
    go_loopw [3, 9] (fun v i wr => ∃ k : Nat, k ≤ e.args.length ∧ i = .int .i64 k ∧ v = .int .i64 (hTo e k) ∧ Below w.heap.size w wr) (fun _ i _ => e.args.length - (intOf i).toNat)
    case atStart => exact ⟨0, Nat.zero_le _, rfl, rfl, (Below.refl _ _).alloc (Nat.le_refl _) _⟩
    case round =>
      obtain ⟨k, hk, rfl, rfl, hbel⟩ := hrel
      have hm := hTo_le k HS.out
      by_cases hlt : k < e.args.length
      · obtain ⟨b, off, x, A', cap', rfl, hb, hxk, hxm, hok', hcap', hmax', hx', c0, c1, c2, c3, c4, c5⟩ := (hx.below hbel).at_ hlt
        have HT := Lib.hid (hTo_succ hxk)
        have HSx := Lib.hid (exSize_arg hxm)
        have HM := Lib.hid hxm
        have hsz := hbel.size
        clear hxk hxm
        go_wp2_with fail
        refine (HI.out x HM.out A' cap' _ hcap' hmax' ((hx'.below ((Below.refl _ _).alloc hsz _)).more (by simp; omega)) (by have := HSx.out; have := HS.out; omega)).mono ?_
        rintro r w2 ⟨rfl, hb2⟩
        go_wp2_with fail
        go_roundw
        case rel => exact ⟨k + 1, by omega, by go_num, by rw [HT.out]; go_num, (hbel.alloc hsz _).trans (hb2.mono (by simp; omega))⟩
        case measure => simp [intOf]; omega
      · obtain rfl : k = e.args.length := by omega
        go_wp2_with fail
        go_ret
        exact ⟨ret_int (by rw [HE.out]; rfl), hbel⟩

set_option maxHeartbeats 1000000 in
theorem rheight_any (e : Ex) : ∀ (A : Option Addr) (cap : Nat) (w : World), e.args.length ≤ cap → cap ≤ maxLen → IsExs w w.heap.size A e.args → exSize e ≤ 1000000 →
    Calls Try.prog 56 #[exV e A cap] w fun r w' => r = .returned (.int .i64 (exHeight e)) ∧ Below w.heap.size w w' := by
  induction e using Ex.ind with
  | h e ih =>
    intro A cap w hcap hmax hx hs
    have HI := Lib.hid ih
    clear ih
    have HE := Lib.hid (hTo_end e)
    have HS := Lib.hid hs
    unfold maxLen at hmax
    clear hs
    go_enter Try.func56, Try.ntmps56
    go_wp2_with fail
    go_loopw [3, 4] (fun v i wr => ∃ k : Nat, k ≤ e.args.length ∧ i = .int .i64 k ∧ v = .int .i64 (hTo e k) ∧ Below (w.heap.size + 1) (w.alloc (.cells #[.int .i64 e.op, .string e.name, .int .i64 e.n, .slice A e.args.length cap, .int .i64 e.line, .int .i64 e.col] 26)) wr) (fun _ i _ => e.args.length - (intOf i).toNat)
    case atStart => exact ⟨0, Nat.zero_le _, rfl, rfl, by simpa using Below.refl _ _⟩
    case round =>
      obtain ⟨k, hk, rfl, rfl, hbox⟩ := hrel
      obtain ⟨⟨_, _, _, hc3, _, _⟩, hbel, hsz⟩ := exBox hbox
      have hm := hTo_le k HS.out
      by_cases hlt : k < e.args.length
      · obtain ⟨b, off, x, A', cap', rfl, hb, hxk, hxm, hok', hcap', hmax', hx', c0, c1, c2, c3, c4, c5⟩ := (hx.below hbel).at_ hlt
        have HT := Lib.hid (hTo_succ hxk)
        have HSx := Lib.hid (exSize_arg hxm)
        have HM := Lib.hid hxm
        clear hxk hxm
        go_wp2_with fail
        refine (HI.out x HM.out A' cap' _ hcap' hmax' (hx'.more (by omega)) (by have := HSx.out; have := HS.out; omega)).mono ?_
        rintro r w2 ⟨rfl, hb2⟩
        have hb3 := hbox.trans (hb2.mono hsz)
        clear hbox
        go_wp2_with fail
        · have hgt : hTo e k < exHeight x := by omega
          go_roundw
          case rel => exact ⟨k + 1, by omega, by go_num, by rw [HT.out, Nat.max_eq_right (by omega)], hb3⟩
          case measure => simp [intOf]; omega
        · have hgt : exHeight x ≤ hTo e k := by omega
          go_roundw
          case rel => exact ⟨k + 1, by omega, by go_num, by rw [HT.out, Nat.max_eq_left (by omega)], hb3⟩
          case measure => simp [intOf]; omega
      · obtain rfl : k = e.args.length := by omega
        go_wp2_with fail
        go_ret
        exact ⟨ret_int (by rw [HE.out]; rfl), hbel⟩
end Go.Proofs.Ytolabbnchmmckaa
