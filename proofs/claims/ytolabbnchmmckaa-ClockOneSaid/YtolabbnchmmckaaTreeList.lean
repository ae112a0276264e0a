/-
  The contract of tompionref12.List.
-/
import Derived.Test.YtolabbnchmmckaaTreeHeight
namespace Go.Proofs.Ytolabbnchmmckaa
open Go.RowKit

theorem info_expr : (Try.prog.info? 26).map (fun i => (i.zero, i.size, i.bytes)) = some (some (.agg #[.int .i64 0, .string ⟨#[]⟩, .int .i64 0, .slice none 0 0, .int .i64 0, .int .i64 0]), 6, 72) := by kernel_rfl
/-- an expression, and all within its first k parts -/
noncomputable def lTo (e : Ex) (k : Nat) : List Ex := e :: ((e.args.take k).map exList).flatten
theorem lTo_zero (e : Ex) : lTo e 0 = [e] := rfl
theorem lTo_succ {e x : Ex} {k : Nat} (h : e.args[k]? = some x) : lTo e (k + 1) = lTo e k ++ exList x := by
  unfold lTo; rw [take_succ_map exList h]; simp
theorem lTo_end (e : Ex) : exList e = lTo e e.args.length := by unfold lTo; rw [exList_eq, List.take_length]
theorem sub_flatten {α : Type} (l : List (List α)) (k : Nat) : (l.take k).flatten.length ≤ l.flatten.length := by
  conv => rhs; rw [← List.take_append_drop k l]
  rw [List.flatten_append, List.length_append]; omega
theorem lTo_le (e : Ex) (k : Nat) : (lTo e k).length ≤ exSize e := by
  unfold exSize; rw [exList_eq]; unfold lTo
  rw [List.length_cons, List.length_cons, List.map_take]
  have := sub_flatten (e.args.map exList) k
  omega

set_option maxHeartbeats 2000000 in
theorem list_any (B : Nat) (e : Ex) : ∀ (A : Option Addr) (cap : Nat) (w : World), ExOk e → e.args.length ≤ cap → cap ≤ maxLen → B ≤ w.heap.size → IsExs w B A e.args → exSize e ≤ 1000000 →
    Calls Try.prog 30 #[exV e A cap] w fun r w' => ∃ v css, r = .returned v ∧ w'.ownsRow w.heap.size 26 6 v (exSize e) css.flatten ∧ ExsAre w' B (exList e) css ∧ Below w.heap.size w w' := by
  induction e using Ex.ind with
  | h e ih =>
    intro A cap w hok hcap hmax hB hx hs
    obtain ⟨i0, hi0, hz0, hz1, hz2⟩ := info_parts info_expr
    have HI := Lib.hid ih
    clear ih
    have HE := Lib.hid (lTo_end e)
    have HS := Lib.hid hs
    have HX : Hid (IsEx w B e (exCells e A cap)) := IsEx.mk' hok hcap hmax hx
    unfold maxLen at hmax
    clear hs
    go_enter Try.func30, Try.ntmps30
    go_wp2_with fail
    go_loopw [3, 4] (fun v i wr => ∃ (k : Nat) (css : List (List Value)), k ≤ e.args.length ∧ i = .int .i64 k ∧ wr.ownsRow (w.heap.size + 1) 26 6 v (lTo e k).length css.flatten ∧ ExsAre wr B (lTo e k) css ∧ Below (w.heap.size + 1) (w.alloc (.cells #[.int .i64 e.op, .string e.name, .int .i64 e.n, .slice A e.args.length cap, .int .i64 e.line, .int .i64 e.col] 26)) wr) (fun _ i _ => e.args.length - (intOf i).toNat)
    case atStart =>
      refine ⟨0, [exCells e A cap], Nat.zero_le _, rfl, ?_, ExsAre.one (HX.out.below (((Below.refl _ _).alloc hB _).alloc (by simp; omega) _)), ?_⟩
      · rw [lTo_zero]
        exact ⟨rfl, .inr ⟨_, _, _, rfl, by simp, by simpa only [World.size_alloc] using heap_alloc_new (w.alloc _) _, Nat.le_refl _, by unfold maxLen; simp, rfl, rfl⟩⟩
      · exact (Below.refl _ _).alloc (by simp) _
    case round =>
      obtain ⟨k, css, hk, rfl, hown, hare, hbox⟩ := hrel
      obtain ⟨⟨_, _, _, hc3, _, _⟩, hbel, hsz⟩ := exBox hbox
      by_cases hlt : k < e.args.length
      · obtain ⟨b, off, x, A', cap', rfl, hb, hxk, hxm, hok', hcap', hmax', hx', c0, c1, c2, c3, c4, c5⟩ := (hx.below (hbel.mono hB)).at_ hlt
        have HT := Lib.hid (lTo_succ hxk)
        have HTl : Hid ((lTo e k).length + exSize x ≤ 1000000) := by
          have h1 := lTo_le e (k + 1)
          rw [HT.out, List.length_append] at h1
          have h2 := HS.out
          unfold exSize at h1 h2 ⊢
          show _ ≤ _
          omega
        have HSx := Lib.hid (exSize_arg hxm)
        have HM := Lib.hid hxm
        clear hxk hxm
        go_wp2_with fail
        refine (HI.out x HM.out A' cap' _ hok' hcap' hmax' (by omega) hx' (by have := HSx.out; have := HS.out; omega)).mono ?_
        rintro r w2 ⟨v2, css2, rfl, hown2, hare2, hb2⟩
        have hsz2 := hb2.size
        have hpos := exSize_pos x
        have HO := Lib.hid (hare2.oneCell)
        have HN := Lib.hid (hown2.1)
        obtain ⟨g2, d2, rfl⟩ := own_some hown2 hpos
        have hlp : 0 < (lTo e k).length := by unfold lTo; simp
        obtain ⟨g1, d1, rfl⟩ := own_some hown hlp
        have hown1 := own_below hown hb2
        have hare1 := hare.keep (hb2.mono (by omega : B ≤ wr.heap.size)) (Nat.le_refl _)
        have HC := Lib.hid (hown2.cells (g := g2) rfl)
        have hb3 := hbox.trans (hb2.mono hsz)
        clear hown hare
        generalize exSize x = m at *
        generalize hL : (lTo e k).length = n at *
        have HL := Lib.hid hL
        clear hL
        go_wp2_with (at_builtin; refine wpList_append_own _ rfl _ _ 22 rfl (w.heap.size + 1) 26 i0 _ 6 72 Try.underlying22 hi0 hz0 hz1 hz2 rfl (by decide) _ _ _ rfl hown1 ⟨g2, 0, none⟩ m d2 css2.flatten rfl HN.out HC.out HO.out ?c3 ?c4 ?c5 ?_)
        case c3 => unfold maxLen; have := HTl.out; omega
        case c4 => have := HTl.out; omega
        case c5 => omega
        intro v' w3 hown' hgrow _
        have hb4 : Below (w.heap.size + 1) (w.alloc (.cells #[.int .i64 e.op, .string e.name, .int .i64 e.n, .slice (some ⟨b, off, none⟩) e.args.length cap, .int .i64 e.line, .int .i64 e.col] 26)) w3 := below_own hb3 hown1 hgrow (by omega)
        have hB4 : Below B w2 w3 := (Below.refl _ _).grown hgrow (by omega) (fun k hk => by have := (hown1.lt k hk).1; omega)
        have hare4 : ExsAre w3 B (lTo e (k + 1)) (css ++ css2) := by rw [HT.out]; exact (hare1.append hare2).keep hB4 (Nat.le_refl _)
        have hown4 : w3.ownsRow (w.heap.size + 1) 26 6 v' (lTo e (k + 1)).length (css ++ css2).flatten := by
          rw [HT.out, List.length_append, HL.out, List.flatten_append, show (exList x).length = m from by rw [← hare2.1]; have := HN.out; rw [flatten_len hare2.six] at this; omega]
          exact hown'
        clear hown' hgrow hown1 hown2 hare1 hare2 hb3 hbox
        go_wp2_with fail
        go_roundw
        case rel => exact ⟨k + 1, _, by omega, by go_num, hown4, hare4, hb4⟩
        case measure => simp [intOf]; omega
      · obtain rfl : k = e.args.length := by omega
        rw [← HE.out] at hown hare
        go_wp2_with fail
        go_ret
        exact ⟨_, css, rfl, own_base hown (by omega), hare, hbel⟩
end Go.Proofs.Ytolabbnchmmckaa
