/-
  An order of nodes, each behind those it calls: the contract of calls.Order.
-/
import Derived.Test.YtabceednmgijoaaGreatCalC
namespace Go.Proofs.YtabceednmgijoaaGreat
open Go.RowKit
attribute [local go_sem ↓] Go.wp_at_zero Go.wp_at_succ
set_option maxRecDepth 100000 in
set_option maxHeartbeats 1000000 in
theorem order1_any (x : ByteArray) (p bw : Nat) (L : List ByteArray) (w : World) (hp : w.cell? ⟨p, 0, none⟩ = some (.map (some bw))) (hM : MetS w bw L) (hx : x.size ≤ maxLen) :
    Calls Tryz.prog 38 #[.string x, .pointer (some ⟨p, 0, none⟩)] w fun e w' => e = .returned (.bool (cB (x ∈ L))) ∧ w' = w := by
  obtain ⟨P, HP⟩ : ∃ P : Bool, Hid (cB (x ∈ L) = P) := ⟨_, rfl⟩
  have hlk := MetS.val hM hx (P := P) (by rw [← HP.out]; exact cB_iff)
  rw [HP.out]
  clear hM
  go_enter Tryz.func38, Tryz.ntmps38
  go_wp2_with fail
  go_ret
  exact ⟨by cases P <;> rfl, rfl⟩
set_option maxRecDepth 100000 in
set_option maxHeartbeats 1000000 in
theorem indexFn_any (l L : List ByteArray) (A : Option Addr) (cap p bw : Nat) (w : World) (h1 : l.length ≤ cap) (h2 : cap ≤ maxLen) (h : Sl w w.heap.size 1 isStr A l) (hp : w.cell? ⟨p, 0, none⟩ = some (.map (some bw))) (hM : MetS w bw L) :
    Calls Tryz.prog 65 #[.slice A l.length cap, .func (.func 38) #[] #[.pointer (some ⟨p, 0, none⟩)]] w fun e w' => (∃ i : Int, e = .returned (.int .i64 i) ∧ Hid (0 ≤ i ↔ ∃ y ∈ l, y ∈ L)) ∧ w' = w := by
  have HS := Lib.hid h
  have HO : Hid (∀ x : ByteArray, x.size ≤ maxLen → Calls Tryz.prog 38 #[.string x, .pointer (some ⟨p, 0, none⟩)] w fun e w' => e = .returned (.bool (cB (x ∈ L))) ∧ w' = w) := fun x hx => order1_any x p bw L w hp hM hx
  have hF : ∀ args w, (callFunc 38 args).run Tryz.prog w = .ok (.enter 38 args) w := enters_of Tryz.func38 (by kernel_rfl) rfl
  have h2' : cap ≤ 9223372036854775807 := by unfold maxLen at h2; omega
  clear h hp hM
  go_enter Tryz.func65, Tryz.ntmps65
  go_wp2_with fail
  go_loopw [8] (fun i wr => ∃ k : Nat, k ≤ l.length ∧ i = .int .i64 k ∧ wr = w ∧ Hid (∀ j, j < k → ∀ y, l[j]? = some y → y ∉ L)) (fun i _ => l.length - (intOf i).toNat)
  case atStart => exact ⟨0, Nat.zero_le _, rfl, rfl, fun j h => absurd h (by omega)⟩
  case round =>
    obtain ⟨k, hk, rfl, rfl, HN⟩ := hrel
    by_cases hlt : k < l.length
    rotate_left 1
    · obtain rfl : k = l.length := by omega
      go_wp2_with fail
      go_ret
      refine ⟨⟨_, rfl, ?_⟩, rfl⟩
      show _ ↔ _
      constructor
      · intro g; omega
      · rintro ⟨y, hy, hyL⟩
        obtain ⟨j, hj⟩ := List.getElem?_of_mem hy
        exact absurd hyL (HN.out j (List.getElem?_eq_some_iff.1 hj).1 y hj)
    obtain ⟨b, off, x, rfl, hb, hx, hsx, c0⟩ := HS.out.str hlt
    have HX := Lib.hid hx
    have i0 : (0 : Int) ≤ (k : Int) := by omega
    have i1 : (k : Int) < (l.length : Int) := by omega
    have HC := Lib.hid (HO.out x hsx)
    obtain ⟨P, HP⟩ : ∃ P : Bool, Hid (cB (x ∈ L) = P) := ⟨_, rfl⟩
    rw [HP.out] at HC
    clear hx
    cases P
    · have HN' := Lib.hid (step_upto (P := fun y => y ∉ L) HN.out HX.out (cB_not.1 HP.out))
      go_wp2_with fail
      refine Calls.mono HC.out ?_
      rintro e w2 ⟨rfl, rfl⟩
      go_wp2_with fail
      go_roundw
      case rel => exact ⟨k + 1, by omega, by go_num, (by first | rfl | trivial), HN'⟩
      case measure => first | (simp [intOf]; omega) | simp [intOf]
    · go_wp2_with fail
      refine Calls.mono HC.out ?_
      rintro e w2 ⟨rfl, rfl⟩
      go_wp2_with fail
      go_ret
      refine ⟨⟨_, rfl, ?_⟩, rfl⟩
      show _ ↔ _
      exact ⟨fun _ => ⟨x, List.mem_of_getElem? HX.out, cB_iff.1 HP.out⟩, fun _ => by omega⟩
set_option maxRecDepth 100000 in
set_option maxHeartbeats 1000000 in
theorem containsFn_any (l L : List ByteArray) (A : Option Addr) (cap p bw : Nat) (w : World) (h1 : l.length ≤ cap) (h2 : cap ≤ maxLen) (h : Sl w w.heap.size 1 isStr A l) (hp : w.cell? ⟨p, 0, none⟩ = some (.map (some bw))) (hM : MetS w bw L) :
    Calls Tryz.prog 37 #[.slice A l.length cap, .func (.func 38) #[] #[.pointer (some ⟨p, 0, none⟩)]] w fun e w' => e = .returned (.bool (cB (∃ y ∈ l, y ∈ L))) ∧ w' = w := by
  have HC := Lib.hid (indexFn_any l L A cap p bw w h1 h2 h hp hM)
  clear h hp hM
  go_enter Tryz.func37, Tryz.ntmps37
  go_wp2_with fail
  refine Calls.mono HC.out ?_
  rintro e w2 ⟨⟨i, rfl, HI⟩, rfl⟩
  go_wp2_with fail
  go_ret
  exact ⟨congrArg (fun b => Ending.returned (.bool b)) (by unfold cB; simp [HI.out]), rfl⟩
end Go.Proofs.YtabceednmgijoaaGreat
