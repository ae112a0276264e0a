/-
  The contract of tompionlaw12.room and Few. The contracts of tree.Height, tompionref12.Height, List. The contract of tompionref12.List.
-/
import Derived.Test.YtabceednmgijoaaGreatExMem
import Derived.Outline
namespace Go.Proofs.YtabceednmgijoaaGreat
open Go.RowKit

/-- what the loop over the parts leaves -/
def roomL : List (Int → Int → Int) → Int → Int → Int
  | [], left, _ => left
  | p :: ps, left, deep => if left < 0 then -1 else roomL ps (p left deep) deep
noncomputable def roomZ : Ex → Int → Int → Int := Ex.para fun e ps left deep => if deep = 0 ∨ 30 < e.name.size then -1 else roomL ps (left - 1) (deep - 1)
theorem roomZ_eq (e : Ex) (left deep : Int) : roomZ e left deep = if deep = 0 ∨ 30 < e.name.size then -1 else roomL (e.args.map roomZ) (left - 1) (deep - 1) := by
  unfold roomZ; rw [Ex.para_eq]
theorem roomL_lo {ps : List (Int → Int → Int)} (h : ∀ p ∈ ps, ∀ l d, -1 ≤ l → l ≤ 100000 → -1 ≤ p l d ∧ p l d ≤ 100000) : ∀ l d, -1 ≤ l → l ≤ 100000 → -1 ≤ roomL ps l d ∧ roomL ps l d ≤ 100000 := by
  induction ps with
  | nil => intro l d h1 h2; exact ⟨h1, h2⟩
  | cons p ps ih =>
    intro l d h1 h2
    simp only [roomL]
    split
    · omega
    · have := h p (by simp) l d h1 h2
      exact ih (fun q hq => h q (by simp [hq])) _ _ this.1 this.2

theorem roomZ_lo (e : Ex) : ∀ l d, -1 ≤ l → l ≤ 100000 → -1 ≤ roomZ e l d ∧ roomZ e l d ≤ 100000 ∨ l = -1 := by
  induction e using Ex.ind with
  | h e ih =>
    intro l d h1 h2
    rw [roomZ_eq]
    split
    · exact .inl (by omega)
    · by_cases hl : l = -1
      · exact .inr hl
      · left
        have : ∀ ps : List Ex, (∀ x ∈ ps, x ∈ e.args) → ∀ l d, -1 ≤ l → l ≤ 100000 → -1 ≤ roomL (ps.map roomZ) l d ∧ roomL (ps.map roomZ) l d ≤ 100000 := by
          intro ps
          induction ps with
          | nil => intro _ l d h1 h2; exact ⟨h1, h2⟩
          | cons p ps ihp =>
            intro hm l d h1 h2
            simp only [List.map_cons, roomL]
            split
            · omega
            · have := ih p (hm p (by simp)) l d h1 h2
              rcases this with this | this
              · exact ihp (fun x hx => hm x (by simp [hx])) _ _ this.1 this.2
              · omega
        exact this e.args (fun _ h => h) _ _ (by omega) (by omega)
theorem drop_succ_map {α β : Type} {l : List α} {k : Nat} {x : α} (f : α → β) (h : l[k]? = some x) : (l.drop k).map f = f x :: (l.drop (k + 1)).map f := by
  obtain ⟨hk, rfl⟩ := List.getElem?_eq_some_iff.1 h
  rw [List.drop_eq_getElem_cons hk, List.map_cons]

set_option maxHeartbeats 1000000 in
theorem room_any (e : Ex) : ∀ (A : Option Addr) (cap : Nat) (left deep : Int) (w : World), ExOk e → e.args.length ≤ cap → cap ≤ maxLen → IsExs w w.heap.size A e.args → 0 ≤ left → left ≤ 100000 → 0 ≤ deep → deep ≤ 1000 →
    Calls Tryz.prog 22 #[exV e A cap, .int .i64 left, .int .i64 deep] w fun r w' => r = .returned (.int .i64 (roomZ e left deep)) ∧ Below w.heap.size w w' := by
  induction e using Ex.ind with
  | h e ih =>
    intro A cap left deep w hok hcap hmax hx hl0 hl1 hd0 hd1
    have HI := Lib.hid ih
    clear ih
    unfold maxLen at hmax
    by_cases hd : deep = 0
    · subst hd
      have HE := Lib.hid (show roomZ e left 0 = -1 by rw [roomZ_eq, if_pos (.inl rfl)])
      go_enter Tryz.func22, Tryz.ntmps22
      go_wp2_with fail
      go_ret
      exact ⟨ret_int HE.out.symm, (Below.refl _ _).alloc (Nat.le_refl _) _⟩
    · have hdb : (deep == 0) = false := by simp [hd]
      by_cases hs : 30 < e.name.size
      · have hs' : decide (30 < (e.name.size : Int)) = true := by simp; omega
        have HE := Lib.hid (show roomZ e left deep = -1 by rw [roomZ_eq, if_pos (.inr hs)])
        clear hd
        go_enter Tryz.func22, Tryz.ntmps22
        go_wp2_with fail
        go_ret
        exact ⟨ret_int HE.out.symm, (Below.refl _ _).alloc (Nat.le_refl _) _⟩
      · have hs' : decide (30 < (e.name.size : Int)) = false := by simp; omega
        have HE := Lib.hid (show roomZ e left deep = roomL (e.args.map roomZ) (left - 1) (deep - 1) by rw [roomZ_eq, if_neg (by omega)])
        clear hs
        go_enter Tryz.func22, Tryz.ntmps22
        go_wp2_with fail
        go_loopw [1, 22] (fun v i wr => ∃ (k : Nat) (L : Int), k ≤ e.args.length ∧ i = .int .i64 k ∧ v = .int .i64 L ∧ -1 ≤ L ∧ L ≤ 100000 ∧ Hid (roomZ e left deep = roomL ((e.args.drop k).map roomZ) L (deep - 1)) ∧ Below w.heap.size w wr) (fun _ i _ => e.args.length - (intOf i).toNat)
        case atStart => exact ⟨0, left - 1, Nat.zero_le _, rfl, rfl, by omega, by omega, HE, (Below.refl _ _).alloc (Nat.le_refl _) _⟩
        case round =>
          obtain ⟨k, L, hk, rfl, rfl, hL0, hL1, HR, hbel⟩ := hrel
          by_cases hlt : k < e.args.length
          · obtain ⟨b, off, x, A', cap', rfl, hb, hxk, hxm, hok', hcap', hmax', hx', c0, c1, c2, c3, c4, c5⟩ := (hx.below hbel).at_ hlt
            have HD := Lib.hid (drop_succ_map roomZ hxk)
            have HM := Lib.hid hxm
            have hsz := hbel.size
            clear hxk hxm HE
            by_cases hneg : L < 0
            · have HF := Lib.hid (show roomZ e left deep = -1 by rw [HR.out, HD.out, roomL, if_pos hneg])
              go_wp2_with fail
              go_ret
              exact ⟨ret_int HF.out.symm, hbel.alloc hsz _⟩
            · have hlo := roomZ_lo x L (deep - 1) (by omega) (by omega)
              have HL : Hid (-1 ≤ roomZ x L (deep - 1) ∧ roomZ x L (deep - 1) ≤ 100000) := hlo.resolve_right (by omega)
              have HF := Lib.hid (show roomZ e left deep = roomL ((e.args.drop (k + 1)).map roomZ) (roomZ x L (deep - 1)) (deep - 1) by rw [HR.out, HD.out, roomL, if_neg hneg])
              clear hlo
              go_wp2_with fail
              refine (HI.out x HM.out A' cap' L (deep - 1) _ hok' hcap' hmax' ((hx'.below ((Below.refl _ _).alloc hsz _)).more (by simp; omega)) (by omega) (by omega) (by omega) (by omega)).mono ?_
              rintro r w2 ⟨rfl, hb2⟩
              go_wp2_with fail
              go_roundw
              case rel => exact ⟨k + 1, _, by omega, by go_num, rfl, HL.out.1, HL.out.2, HF, (hbel.alloc hsz _).trans (hb2.mono (by simp; omega))⟩
              case measure => simp [intOf]; omega
          · obtain rfl : k = e.args.length := by omega
            have HF := Lib.hid (show roomZ e left deep = L by rw [HR.out, List.drop_length]; rfl)
            go_wp2_with fail
            go_ret
            exact ⟨ret_int HF.out.symm, hbel⟩
end Go.Proofs.YtabceednmgijoaaGreat
namespace Go.Proofs.YtabceednmgijoaaGreat
open Go.RowKit

theorem take_succ_map {α β : Type} {l : List α} {k : Nat} {x : α} (f : α → β) (h : l[k]? = some x) : (l.take (k + 1)).map f = (l.take k).map f ++ [f x] := by
  rw [List.take_add_one, h]; simp
theorem maxL_take {l : List Ex} {b : Nat} (k : Nat) (h : maxL (l.map exHeight) ≤ b) : maxL ((l.take k).map exHeight) ≤ b := by
  refine maxL_le fun x hx => ?_
  obtain ⟨y, hy, rfl⟩ := List.mem_map.1 hx
  have : ∀ l : List Nat, ∀ x ∈ l, x ≤ maxL l := by
    intro l
    induction l with
    | nil => intro x hx; cases hx
    | cons z l ih =>
      intro x hx
      simp only [maxL]
      rcases List.mem_cons.1 hx with rfl | hx
      · omega
      · have := ih x hx; omega
  exact Nat.le_trans (this _ _ (List.mem_map_of_mem (List.mem_of_mem_take hy))) h

/-- how high the first k parts are -/
noncomputable def hTo (e : Ex) (k : Nat) : Nat := maxL ((e.args.take k).map exHeight)
theorem hTo_zero (e : Ex) : hTo e 0 = 0 := rfl
theorem hTo_succ {e x : Ex} {k : Nat} (h : e.args[k]? = some x) : hTo e (k + 1) = max (hTo e k) (exHeight x) := by
  unfold hTo; rw [take_succ_map exHeight h, maxL_snoc]
theorem hTo_end (e : Ex) : exHeight e = hTo e e.args.length + 1 := by unfold hTo; rw [exHeight_eq, List.take_length]
theorem hTo_le {e : Ex} (k : Nat) (h : exSize e ≤ 1000000) : hTo e k ≤ 1000000 := by
  have := exHeight_le e
  have := exHeight_eq e
  exact maxL_take k (by omega)

set_option maxHeartbeats 1000000 in
theorem height_any (e : Ex) : ∀ (A : Option Addr) (cap : Nat) (w : World), e.args.length ≤ cap → cap ≤ maxLen → IsExs w w.heap.size A e.args → exSize e ≤ 1000000 →
    Calls Tryz.prog 117 #[exV e A cap] w fun r w' => r = .returned (.int .i64 (exHeight e)) ∧ Below w.heap.size w w' := by
  induction e using Ex.ind with
  | h e ih =>
    intro A cap w hcap hmax hx hs
    have HI := Lib.hid ih
    clear ih
    have HE := Lib.hid (hTo_end e)
    have HS := Lib.hid hs
    unfold maxLen at hmax
    clear hs
    go_enter Tryz.func117, Tryz.ntmps117
    go_wp2_with fail
    go_loopw [3, 9] (fun v i wr => ∃ k : Nat, k ≤ e.args.length ∧ i = .int .i64 k ∧ v = .int .i64 (hTo e k) ∧ Below w.heap.size w wr) (fun _ i _ => e.args.length - (intOf i).toNat)
    case atStart => exact ⟨0, Nat.zero_le _, rfl, rfl, (Below.refl _ _).alloc (Nat.le_refl _) _⟩
    case round =>
      obtain ⟨k, hk, rfl, rfl, hbel⟩ := hrel
      have hm := hTo_le k HS.out
      by_cases hlt : k < e.args.length
      · obtain ⟨b, off, x, A', cap', rfl, hb, hxk, hxm, hok', hcap', hmax', hx', c0, c1, c2, c3, c4, c5⟩ := (hx.below hbel).at_ hlt
        have HT := Lib.hid (hTo_succ hxk)
        have HSx := Lib.hid (exSize_arg hxm)
        have HM := Lib.hid hxm
        have hsz := hbel.size
        clear hxk hxm
        go_wp2_with fail
        refine (HI.out x HM.out A' cap' _ hcap' hmax' ((hx'.below ((Below.refl _ _).alloc hsz _)).more (by simp; omega)) (by have := HSx.out; have := HS.out; omega)).mono ?_
        rintro r w2 ⟨rfl, hb2⟩
        go_wp2_with fail
        go_roundw
        case rel => exact ⟨k + 1, by omega, by go_num, by rw [HT.out]; go_num, (hbel.alloc hsz _).trans (hb2.mono (by simp; omega))⟩
        case measure => simp [intOf]; omega
      · obtain rfl : k = e.args.length := by omega
        go_wp2_with fail
        go_ret
        exact ⟨ret_int (by rw [HE.out]; rfl), hbel⟩

set_option maxHeartbeats 1000000 in
theorem rheight_any (e : Ex) : ∀ (A : Option Addr) (cap : Nat) (w : World), e.args.length ≤ cap → cap ≤ maxLen → IsExs w w.heap.size A e.args → exSize e ≤ 1000000 →
    Calls Tryz.prog 109 #[exV e A cap] w fun r w' => r = .returned (.int .i64 (exHeight e)) ∧ Below w.heap.size w w' := by
  induction e using Ex.ind with
  | h e ih =>
    intro A cap w hcap hmax hx hs
    have HI := Lib.hid ih
    clear ih
    have HE := Lib.hid (hTo_end e)
    have HS := Lib.hid hs
    unfold maxLen at hmax
    clear hs
    go_enter Tryz.func109, Tryz.ntmps109
    go_wp2_with fail
    go_loopw [3, 4] (fun v i wr => ∃ k : Nat, k ≤ e.args.length ∧ i = .int .i64 k ∧ v = .int .i64 (hTo e k) ∧ Below (w.heap.size + 1) (w.alloc (.cells #[.int .i64 e.op, .string e.name, .int .i64 e.n, .slice A e.args.length cap, .int .i64 e.line, .int .i64 e.col] 45)) wr) (fun _ i _ => e.args.length - (intOf i).toNat)
    case atStart => exact ⟨0, Nat.zero_le _, rfl, rfl, by simpa using Below.refl _ _⟩
    case round =>
      obtain ⟨k, hk, rfl, rfl, hbox⟩ := hrel
      obtain ⟨⟨_, _, _, hc3, _, _⟩, hbel, hsz⟩ := exBox hbox
      have hm := hTo_le k HS.out
      by_cases hlt : k < e.args.length
      · obtain ⟨b, off, x, A', cap', rfl, hb, hxk, hxm, hok', hcap', hmax', hx', c0, c1, c2, c3, c4, c5⟩ := (hx.below hbel).at_ hlt
        have HT := Lib.hid (hTo_succ hxk)
        have HSx := Lib.hid (exSize_arg hxm)
        have HM := Lib.hid hxm
        clear hxk hxm
        go_wp2_with fail
        refine (HI.out x HM.out A' cap' _ hcap' hmax' (hx'.more (by omega)) (by have := HSx.out; have := HS.out; omega)).mono ?_
        rintro r w2 ⟨rfl, hb2⟩
        have hb3 := hbox.trans (hb2.mono hsz)
        clear hbox
        go_wp2_with fail
        · have hgt : hTo e k < exHeight x := by omega
          go_roundw
          case rel => exact ⟨k + 1, by omega, by go_num, by rw [HT.out, Nat.max_eq_right (by omega)], hb3⟩
          case measure => simp [intOf]; omega
        · have hgt : exHeight x ≤ hTo e k := by omega
          go_roundw
          case rel => exact ⟨k + 1, by omega, by go_num, by rw [HT.out, Nat.max_eq_left (by omega)], hb3⟩
          case measure => simp [intOf]; omega
      · obtain rfl : k = e.args.length := by omega
        go_wp2_with fail
        go_ret
        exact ⟨ret_int (by rw [HE.out]; rfl), hbel⟩
end Go.Proofs.YtabceednmgijoaaGreat
namespace Go.Proofs.YtabceednmgijoaaGreat
open Go.RowKit

theorem info_expr : (Tryz.prog.info? 45).map (fun i => (i.zero, i.size, i.bytes)) = some (some (.agg #[.int .i64 0, .string ⟨#[]⟩, .int .i64 0, .slice none 0 0, .int .i64 0, .int .i64 0]), 6, 72) := by kernel_rfl
/-- an expression, and all within its first k parts -/
noncomputable def lTo (e : Ex) (k : Nat) : List Ex := e :: ((e.args.take k).map exList).flatten
theorem lTo_zero (e : Ex) : lTo e 0 = [e] := rfl
theorem lTo_succ {e x : Ex} {k : Nat} (h : e.args[k]? = some x) : lTo e (k + 1) = lTo e k ++ exList x := by
  unfold lTo; rw [take_succ_map exList h]; simp
theorem lTo_end (e : Ex) : exList e = lTo e e.args.length := by unfold lTo; rw [exList_eq, List.take_length]
theorem sub_flatten {α : Type} (l : List (List α)) (k : Nat) : (l.take k).flatten.length ≤ l.flatten.length := by
  conv => rhs; rw [← List.take_append_drop k l]
  rw [List.flatten_append, List.length_append]; omega
theorem lTo_le (e : Ex) (k : Nat) : (lTo e k).length ≤ exSize e := by
  unfold exSize; rw [exList_eq]; unfold lTo
  rw [List.length_cons, List.length_cons, List.map_take]
  have := sub_flatten (e.args.map exList) k
  omega

set_option maxHeartbeats 2000000 in
theorem list_any (B : Nat) (e : Ex) : ∀ (A : Option Addr) (cap : Nat) (w : World), ExOk e → e.args.length ≤ cap → cap ≤ maxLen → B ≤ w.heap.size → IsExs w B A e.args → exSize e ≤ 1000000 →
    Calls Tryz.prog 31 #[exV e A cap] w fun r w' => ∃ v css, r = .returned v ∧ w'.ownsRow w.heap.size 45 6 v (exSize e) css.flatten ∧ ExsAre w' B (exList e) css ∧ Below w.heap.size w w' := by
  induction e using Ex.ind with
  | h e ih =>
    intro A cap w hok hcap hmax hB hx hs
    obtain ⟨i0, hi0, hz0, hz1, hz2⟩ := info_parts info_expr
    have HI := Lib.hid ih
    clear ih
    have HE := Lib.hid (lTo_end e)
    have HS := Lib.hid hs
    have HX : Hid (IsEx w B e (exCells e A cap)) := IsEx.mk' hok hcap hmax hx
    unfold maxLen at hmax
    clear hs
    go_enter Tryz.func31, Tryz.ntmps31
    go_wp2_with fail
    go_loopw [3, 4] (fun v i wr => ∃ (k : Nat) (css : List (List Value)), k ≤ e.args.length ∧ i = .int .i64 k ∧ wr.ownsRow (w.heap.size + 1) 45 6 v (lTo e k).length css.flatten ∧ ExsAre wr B (lTo e k) css ∧ Below (w.heap.size + 1) (w.alloc (.cells #[.int .i64 e.op, .string e.name, .int .i64 e.n, .slice A e.args.length cap, .int .i64 e.line, .int .i64 e.col] 45)) wr) (fun _ i _ => e.args.length - (intOf i).toNat)
    case atStart =>
      refine ⟨0, [exCells e A cap], Nat.zero_le _, rfl, ?_, ExsAre.one (HX.out.below (((Below.refl _ _).alloc hB _).alloc (by simp; omega) _)), ?_⟩
      · rw [lTo_zero]
        exact ⟨rfl, .inr ⟨_, _, _, rfl, by simp, by simpa only [World.size_alloc] using heap_alloc_new (w.alloc _) _, Nat.le_refl _, by unfold maxLen; simp, rfl, rfl⟩⟩
      · exact (Below.refl _ _).alloc (by simp) _
    case round =>
      obtain ⟨k, css, hk, rfl, hown, hare, hbox⟩ := hrel
      obtain ⟨⟨_, _, _, hc3, _, _⟩, hbel, hsz⟩ := exBox hbox
      by_cases hlt : k < e.args.length
      · obtain ⟨b, off, x, A', cap', rfl, hb, hxk, hxm, hok', hcap', hmax', hx', c0, c1, c2, c3, c4, c5⟩ := (hx.below (hbel.mono hB)).at_ hlt
        have HT := Lib.hid (lTo_succ hxk)
        have HTl : Hid ((lTo e k).length + exSize x ≤ 1000000) := by
          have h1 := lTo_le e (k + 1)
          rw [HT.out, List.length_append] at h1
          have h2 := HS.out
          unfold exSize at h1 h2 ⊢
          show _ ≤ _
          omega
        have HSx := Lib.hid (exSize_arg hxm)
        have HM := Lib.hid hxm
        clear hxk hxm
        go_wp2_with fail
        refine (HI.out x HM.out A' cap' _ hok' hcap' hmax' (by omega) hx' (by have := HSx.out; have := HS.out; omega)).mono ?_
        rintro r w2 ⟨v2, css2, rfl, hown2, hare2, hb2⟩
        have hsz2 := hb2.size
        have hpos := exSize_pos x
        have HO := Lib.hid (hare2.oneCell)
        have HN := Lib.hid (hown2.1)
        obtain ⟨g2, d2, rfl⟩ := own_some hown2 hpos
        have hlp : 0 < (lTo e k).length := by unfold lTo; simp
        obtain ⟨g1, d1, rfl⟩ := own_some hown hlp
        have hown1 := own_below hown hb2
        have hare1 := hare.keep (hb2.mono (by omega : B ≤ wr.heap.size)) (Nat.le_refl _)
        have HC := Lib.hid (hown2.cells (g := g2) rfl)
        have hb3 := hbox.trans (hb2.mono hsz)
        clear hown hare
        generalize exSize x = m at *
        generalize hL : (lTo e k).length = n at *
        have HL := Lib.hid hL
        clear hL
        go_wp2_with (at_builtin; refine wpList_append_own _ rfl _ _ 43 rfl (w.heap.size + 1) 45 i0 _ 6 72 Tryz.underlying43 hi0 hz0 hz1 hz2 rfl (by decide) _ _ _ rfl hown1 ⟨g2, 0, none⟩ m d2 css2.flatten rfl HN.out HC.out HO.out ?c3 ?c4 ?c5 ?_)
        case c3 => unfold maxLen; have := HTl.out; omega
        case c4 => have := HTl.out; omega
        case c5 => omega
        intro v' w3 hown' hgrow _
        have hb4 : Below (w.heap.size + 1) (w.alloc (.cells #[.int .i64 e.op, .string e.name, .int .i64 e.n, .slice (some ⟨b, off, none⟩) e.args.length cap, .int .i64 e.line, .int .i64 e.col] 45)) w3 := below_own hb3 hown1 hgrow (by omega)
        have hB4 : Below B w2 w3 := (Below.refl _ _).grown hgrow (by omega) (fun k hk => by have := (hown1.lt k hk).1; omega)
        have hare4 : ExsAre w3 B (lTo e (k + 1)) (css ++ css2) := by rw [HT.out]; exact (hare1.append hare2).keep hB4 (Nat.le_refl _)
        have hown4 : w3.ownsRow (w.heap.size + 1) 45 6 v' (lTo e (k + 1)).length (css ++ css2).flatten := by
          rw [HT.out, List.length_append, HL.out, List.flatten_append, show (exList x).length = m from by rw [← hare2.1]; have := HN.out; rw [flatten_len hare2.six] at this; omega]
          exact hown'
        clear hown' hgrow hown1 hown2 hare1 hare2 hb3 hbox
        go_wp2_with fail
        go_roundw
        case rel => exact ⟨k + 1, _, by omega, by go_num, hown4, hare4, hb4⟩
        case measure => simp [intOf]; omega
      · obtain rfl : k = e.args.length := by omega
        rw [← HE.out] at hown hare
        go_wp2_with fail
        go_ret
        exact ⟨_, css, rfl, own_base hown (by omega), hare, hbel⟩
end Go.Proofs.YtabceednmgijoaaGreat
