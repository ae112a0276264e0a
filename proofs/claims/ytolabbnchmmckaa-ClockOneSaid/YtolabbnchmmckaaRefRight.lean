/-
  Which expressions are right, by the document: the contract of tompionref12.Right.
-/
import Derived.Test.YtolabbnchmmckaaRefPlain
import Derived.Test.YtolabbnchmmckaaTreeList
namespace Go.Proofs.Ytolabbnchmmckaa
open Go.RowKit Nm

noncomputable def exRight (e : Ex) : Bool := (exList e).all plainB && decide (exHeight e ≤ 30)
/-- few parts, short names -/
structure Small (e : Ex) : Prop where
  size : exSize e ≤ 1000
  names : ∀ x ∈ exList e, x.name.size ≤ 30
theorem exList_self (e : Ex) : e ∈ exList e := by rw [exList_eq]; simp
theorem exList_sub {e x : Ex} (h : x ∈ e.args) {y : Ex} (hy : y ∈ exList x) : y ∈ exList e := by
  rw [exList_eq]
  exact List.mem_cons_of_mem _ (List.mem_flatten.2 ⟨_, List.mem_map_of_mem h, hy⟩)
theorem Small.arg {e x : Ex} (h : Small e) (hx : x ∈ e.args) : Small x := ⟨by have := exSize_arg hx; have := h.size; omega, fun y hy => h.names y (exList_sub hx hy)⟩
theorem all_no {α : Type} {p : α → Bool} {l : List α} {k : Nat} {x : α} (h : l[k]? = some x) (hx : p x = false) : l.all p = false := List.all_eq_false.2 ⟨x, List.mem_of_getElem? h, by simp [hx]⟩
theorem all_yes {α : Type} {p : α → Bool} {l : List α} (h : ∀ j, j < l.length → ∀ x, l[j]? = some x → p x = true) : l.all p = true := by
  refine List.all_eq_true.2 fun x hx => ?_
  obtain ⟨j, hj⟩ := List.getElem?_of_mem hx
  exact h j (List.getElem?_eq_some_iff.1 hj).1 x hj

set_option maxHeartbeats 2000000 in
theorem rright_any (e : Ex) (A : Option Addr) (cap : Nat) (w : World) (hok : ExOk e) (hcap : e.args.length ≤ cap) (hmax : cap ≤ maxLen) (hx : IsExs w w.heap.size A e.args) (hs : Small e) :
    Calls Try.prog 17 #[exV e A cap] w fun r w' => r = .returned (.bool (exRight e)) ∧ Below w.heap.size w w' := by
  have hsz := hs.size
  have HS := Lib.hid hs
  have HE := Lib.hid (show exRight e = ((exList e).all plainB && decide (exHeight e ≤ 30)) from rfl)
  clear hs
  go_enter Try.func17, Try.ntmps17
  go_wp2_with fail
  have hB0 : Below w.heap.size w (w.alloc (.cells #[.int .i64 e.op, .string e.name, .int .i64 e.n, .slice A e.args.length cap, .int .i64 e.line, .int .i64 e.col] 26)) := (Below.refl _ _).alloc (Nat.le_refl _) _
  refine (list_any w.heap.size e A cap _ hok hcap hmax (by simp) (hx.below hB0) (by omega)).mono ?_
  rintro r w1 ⟨v, css, rfl, hown, hare, hb1⟩
  have hb1' : Below (w.heap.size + 1) (w.alloc (.cells #[.int .i64 e.op, .string e.name, .int .i64 e.n, .slice A e.args.length cap, .int .i64 e.line, .int .i64 e.col] 26)) w1 := by simpa using hb1
  obtain ⟨_, hbel1, hsz1⟩ := exBox hb1'
  obtain ⟨A1, c1, rfl, hn, hl1, hm1, hx1⟩ := own_exs hown hare (by omega)
  have HL : Hid (∀ x ∈ exList e, x.name.size ≤ 30) := HS.out.names
  clear hown hare hb1 hn
  generalize hLL : exList e = L at *
  have hlen : L.length ≤ 1000 := by rw [← hLL]; exact hsz
  clear hLL
  have hm1' : c1 ≤ 9223372036854775807 := by unfold maxLen at hm1; omega
  go_wp2_with fail
  go_loopw [4] (fun i wr => ∃ k : Nat, k ≤ L.length ∧ i = .int .i64 k ∧ Hid (∀ j, j < k → ∀ x, L[j]? = some x → plainB x = true) ∧ Below w1.heap.size w1 wr) (fun i _ => L.length - (intOf i).toNat)
  case atStart => exact ⟨0, Nat.zero_le _, rfl, fun j h => absurd h (by omega), Below.refl _ _⟩
  case round =>
    obtain ⟨k, hk, rfl, HN, hbr⟩ := hrel
    have hszr := hbr.size
    by_cases hlt : k < L.length
    · obtain ⟨b, off, x, A', cap', rfl, hb, hxk, hxm, hok', hcap', hmax', hx', d0, d1, d2, d3, d4, d5⟩ := (hx1.below hbr).at_ hlt
      have HK := Lib.hid hxk
      have HM := Lib.hid hxm
      clear hxk hxm
      go_wp2_with fail
      refine (rplain_any x A' cap' _ (by have := HL.out x HM.out; omega) (by omega)).mono ?_
      rintro r w2 ⟨rfl, hb2⟩
      have hb3 := hbr.trans (hb2.mono hszr)
      generalize hP : plainB x = P at *
      have HP := Lib.hid hP
      clear hP
      cases P
      · have HF := Lib.hid (show exRight e = false from by rw [HE.out, all_no HK.out HP.out]; rfl)
        go_wp2_with fail
        go_ret
        exact ⟨ret_bool HF.out.symm, hbel1.trans (hb3.mono (by omega))⟩
      · go_wp2_with fail
        go_roundw
        case rel => exact ⟨k + 1, by omega, by go_num, upto_succ HN.out (fun y hy => by rw [HK.out] at hy; injection hy with hy; rw [← hy]; exact HP.out), hb3⟩
        case measure => simp [intOf]; omega
    · obtain rfl : k = L.length := by omega
      have HF := Lib.hid (show exRight e = decide (exHeight e ≤ 30) from by rw [HE.out, all_yes HN.out, Bool.true_and])
      have hb2 : Below (w.heap.size + 1) (w.alloc (.cells #[.int .i64 e.op, .string e.name, .int .i64 e.n, .slice A e.args.length cap, .int .i64 e.line, .int .i64 e.col] 26)) wr := hb1'.trans (hbr.mono hsz1)
      obtain ⟨⟨d0, d1, d2, d3, d4, d5⟩, hbel2, hsz2⟩ := exBox hb2
      go_wp2_with fail
      refine (rheight_any e A cap _ hcap hmax ((hx.below hbel2).more (by omega)) (by omega)).mono ?_
      rintro r w2 ⟨rfl, hb3⟩
      go_wp2_with fail
      go_ret
      exact ⟨ret_bool (by rw [HF.out, Bool.eq_iff_iff]; simp; omega), hbel2.trans (hb3.mono (by omega))⟩
end Go.Proofs.Ytolabbnchmmckaa
