/-
  The contract of tompionlaw12.room and Few.
-/
import Derived.Test.YtolabbnchmmckaaExMem
import Derived.Outline
namespace Go.Proofs.Ytolabbnchmmckaa
open Go.RowKit

/-- what the loop over the parts leaves -/
def roomL : List (Int → Int → Int) → Int → Int → Int
  | [], left, _ => left
  | p :: ps, left, deep => if left < 0 then -1 else roomL ps (p left deep) deep
noncomputable def roomZ : Ex → Int → Int → Int := Ex.para fun e ps left deep => if deep = 0 ∨ 30 < e.name.size then -1 else roomL ps (left - 1) (deep - 1)
theorem roomZ_eq (e : Ex) (left deep : Int) : roomZ e left deep = if deep = 0 ∨ 30 < e.name.size then -1 else roomL (e.args.map roomZ) (left - 1) (deep - 1) := by
  unfold roomZ; rw [Ex.para_eq]
theorem roomL_lo {ps : List (Int → Int → Int)} (h : ∀ p ∈ ps, ∀ l d, -1 ≤ l → l ≤ 100000 → -1 ≤ p l d ∧ p l d ≤ 100000) : ∀ l d, -1 ≤ l → l ≤ 100000 → -1 ≤ roomL ps l d ∧ roomL ps l d ≤ 100000 := by
  induction ps with
  | nil => intro l d h1 h2; exact ⟨h1, h2⟩
  | cons p ps ih =>
    intro l d h1 h2
    simp only [roomL]
    split
    · omega
    · have := h p (by simp) l d h1 h2
      exact ih (fun q hq => h q (by simp [hq])) _ _ this.1 this.2

theorem roomZ_lo (e : Ex) : ∀ l d, -1 ≤ l → l ≤ 100000 → -1 ≤ roomZ e l d ∧ roomZ e l d ≤ 100000 ∨ l = -1 := by
  induction e using Ex.ind with
  | h e ih =>
    intro l d h1 h2
    rw [roomZ_eq]
    split
    · exact .inl (by omega)
    · by_cases hl : l = -1
      · exact .inr hl
      · left
        have : ∀ ps : List Ex, (∀ x ∈ ps, x ∈ e.args) → ∀ l d, -1 ≤ l → l ≤ 100000 → -1 ≤ roomL (ps.map roomZ) l d ∧ roomL (ps.map roomZ) l d ≤ 100000 := by
          intro ps
          induction ps with
          | nil => intro _ l d h1 h2; exact ⟨h1, h2⟩
          | cons p ps ihp =>
            intro hm l d h1 h2
            simp only [List.map_cons, roomL]
            split
            · omega
            · have := ih p (hm p (by simp)) l d h1 h2
              rcases this with this | this
              · exact ihp (fun x hx => hm x (by simp [hx])) _ _ this.1 this.2
              · omega
        exact this e.args (fun _ h => h) _ _ (by omega) (by omega)
theorem drop_succ_map {α β : Type} {l : List α} {k : Nat} {x : α} (f : α → β) (h : l[k]? = some x) : (l.drop k).map f = f x :: (l.drop (k + 1)).map f := by
  obtain ⟨hk, rfl⟩ := List.getElem?_eq_some_iff.1 h
  rw [List.drop_eq_getElem_cons hk, List.map_cons]

set_option maxHeartbeats 1000000 in
theorem room_any (e : Ex) : ∀ (A : Option Addr) (cap : Nat) (left deep : Int) (w : World), ExOk e → e.args.length ≤ cap → cap ≤ maxLen → IsExs w w.heap.size A e.args → 0 ≤ left → left ≤ 100000 → 0 ≤ deep → deep ≤ 1000 →
    Calls Try.prog 52 #[exV e A cap, .int .i64 left, .int .i64 deep] w fun r w' => r = .returned (.int .i64 (roomZ e left deep)) ∧ Below w.heap.size w w' := by
  induction e using Ex.ind with
  | h e ih =>
    intro A cap left deep w hok hcap hmax hx hl0 hl1 hd0 hd1
    have HI := Lib.hid ih
    clear ih
    unfold maxLen at hmax
    by_cases hd : deep = 0
    · subst hd
      have HE := Lib.hid (show roomZ e left 0 = -1 by rw [roomZ_eq, if_pos (.inl rfl)])
      go_enter Try.func52, Try.ntmps52
      go_wp2_with fail
      go_ret
      exact ⟨ret_int HE.out.symm, (Below.refl _ _).alloc (Nat.le_refl _) _⟩
    · have hdb : (deep == 0) = false := by simp [hd]
      by_cases hs : 30 < e.name.size
      · have hs' : decide (30 < (e.name.size : Int)) = true := by simp; omega
        have HE := Lib.hid (show roomZ e left deep = -1 by rw [roomZ_eq, if_pos (.inr hs)])
        clear hd
        go_enter Try.func52, Try.ntmps52
        go_wp2_with fail
        go_ret
        exact ⟨ret_int HE.out.symm, (Below.refl _ _).alloc (Nat.le_refl _) _⟩
      · have hs' : decide (30 < (e.name.size : Int)) = false := by simp; omega
        have HE := Lib.hid (show roomZ e left deep = roomL (e.args.map roomZ) (left - 1) (deep - 1) by rw [roomZ_eq, if_neg (by omega)])
        clear hs
        go_enter Try.func52, Try.ntmps52
        go_wp2_with fail
        go_loopw [1, 22] (fun v i wr => ∃ (k : Nat) (L : Int), k ≤ e.args.length ∧ i = .int .i64 k ∧ v = .int .i64 L ∧ -1 ≤ L ∧ L ≤ 100000 ∧ Hid (roomZ e left deep = roomL ((e.args.drop k).map roomZ) L (deep - 1)) ∧ Below w.heap.size w wr) (fun _ i _ => e.args.length - (intOf i).toNat)
        case atStart => exact ⟨0, left - 1, Nat.zero_le _, rfl, rfl, by omega, by omega, HE, (Below.refl _ _).alloc (Nat.le_refl _) _⟩
        case round =>
          obtain ⟨k, L, hk, rfl, rfl, hL0, hL1, HR, hbel⟩ := hrel
          by_cases hlt : k < e.args.length
          · obtain ⟨b, off, x, A', cap', rfl, hb, hxk, hxm, hok', hcap', hmax', hx', c0, c1, c2, c3, c4, c5⟩ := (hx.below hbel).at_ hlt
            have HD := Lib.hid (drop_succ_map roomZ hxk)
            have HM := Lib.hid hxm
            have hsz := hbel.size
            clear hxk hxm HE
            by_cases hneg : L < 0
            · have HF := Lib.hid (show roomZ e left deep = -1 by rw [HR.out, HD.out, roomL, if_pos hneg])
              go_wp2_with fail
              go_ret
              exact ⟨ret_int HF.out.symm, hbel.alloc hsz _⟩
            · have hlo := roomZ_lo x L (deep - 1) (by omega) (by omega)
              have HL : Hid (-1 ≤ roomZ x L (deep - 1) ∧ roomZ x L (deep - 1) ≤ 100000) := hlo.resolve_right (by omega)
              have HF := Lib.hid (show roomZ e left deep = roomL ((e.args.drop (k + 1)).map roomZ) (roomZ x L (deep - 1)) (deep - 1) by rw [HR.out, HD.out, roomL, if_neg hneg])
              clear hlo
              go_wp2_with fail
              refine (HI.out x HM.out A' cap' L (deep - 1) _ hok' hcap' hmax' ((hx'.below ((Below.refl _ _).alloc hsz _)).more (by simp; omega)) (by omega) (by omega) (by omega) (by omega)).mono ?_
              rintro r w2 ⟨rfl, hb2⟩
              go_wp2_with fail
              go_roundw
              case rel => exact ⟨k + 1, _, by omega, by go_num, rfl, HL.out.1, HL.out.2, HF, (hbel.alloc hsz _).trans (hb2.mono (by simp; omega))⟩
              case measure => simp [intOf]; omega
          · obtain rfl : k = e.args.length := by omega
            have HF := Lib.hid (show roomZ e left deep = L by rw [HR.out, List.drop_length]; rfl)
            go_wp2_with fail
            go_ret
            exact ⟨ret_int HF.out.symm, hbel⟩
end Go.Proofs.Ytolabbnchmmckaa
