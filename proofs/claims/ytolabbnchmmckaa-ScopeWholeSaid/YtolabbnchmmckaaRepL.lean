/-
  slices.Repeat of one row of conditions.
-/
import Derived.Test.YtolabbnchmmckaaBitsMul
import Derived.Test.YtolabbnchmmckaaClkC
import Derived.Deep.DeepCutAuto
import Derived.Laws.MakeOwn
import Derived.Laws.CopyOwn
import Derived.Deep.RegionHeld3
import Derived.IntWalk
namespace Go.Proofs.Ytolabbnchmmckaa
open Go.RowKit
/-- so many of one number, then noughts -/
def repN (x : Value) (n c : Nat) : List Value := List.replicate n x ++ List.replicate (c - n) (.slice none 0 0)
theorem repN_len {x : Value} {n c : Nat} (h : n ≤ c) : (repN x n c).length = c := by simp [repN]; omega
theorem repN_splice {x : Value} {n m c : Nat} : splice (repN x n c) n (List.replicate m x) = repN x (n + m) c := by
  unfold splice repN
  rw [List.take_left' (by simp), List.length_replicate, show n + m = (List.replicate n x).length + m by simp, List.drop_length_add_append, List.drop_replicate, List.length_replicate, ← List.append_assoc, List.replicate_append_replicate, show c - n - m = c - (n + m) by omega]
theorem repN_get {x : Value} {n c j : Nat} (h : j < n) : (repN x n c)[j]? = some x := by
  unfold repN
  rw [List.getElem?_append_left (by simpa using h), List.getElem?_replicate, if_pos h]
theorem repN_zero (x : Value) (c : Nat) : repN x 0 c = List.replicate c (.slice none 0 0) := by simp [repN]
theorem repN_full (x : Value) (c : Nat) : repN x c c = List.replicate c x := by simp [repN]
theorem made_one (z : Value) (n : Nat) : madeCells #[z] n = (List.replicate n z).toArray := by
  apply Array.ext
  · simp [madeCells]
  · intro i h1 h2
    simp [madeCells, Nat.mod_one]
theorem info_lits : (Try.prog.info? 41).map (fun i => (i.zero, i.size, i.bytes)) = some (some (.slice none 0 0), 1, 24) := by kernel_rfl
set_option maxRecDepth 100000 in
theorem make_lits (n : Int) (h0 : 0 ≤ n) (h1 : n ≤ 1600) (W : World) : (Instr.makeSlice 115 (.int .i64 n) (.int .i64 n)).run Try.prog W = .ok (.slice (some ⟨W.heap.size, 0, none⟩) n.toNat n.toNat) (W.alloc (.cells (List.replicate n.toNat (.slice none 0 0)).toArray 41)) := by
  obtain ⟨i0, hi0, hz0, hz1, hz2⟩ := info_parts info_lits
  rw [run_make (P := Try.prog) W 115 41 i0 (.slice none 0 0) rfl hi0 hz0 .i64 .i64 n n h0 (Int.le_refl _) (by rw [hz2]; omega) (by omega), hz1, Nat.mul_one, ← made_one]
  rfl
def RepIs (x : Value) (c : Nat) (w : World) (e : Ending) (w' : World) : Prop := ∃ R, e = .returned (.slice (some ⟨R, 0, none⟩) c c) ∧ w.heap.size ≤ R ∧ Row w' R (List.replicate c x).toArray 41 ∧ Below w.heap.size w w'
set_option maxRecDepth 100000 in
set_option maxHeartbeats 2000000 in
theorem repL_pos (x : Value) (c b off cap : Nat) (hc : c ≤ 1600) (hc1 : 1 ≤ c) (w : World) (hv : x.oneCell' = true) (hb : b < w.heap.size) (hx : w.cell? ⟨b, off, none⟩ = some x) :
    Calls Try.prog 101 #[.slice (some ⟨b, off, none⟩) 1 cap, .int .i64 c] w (RepIs x c w) := by
  have mk := make_lits c (by omega) (by omega)
  have e1 : IntKind.u64.wrap (c : Int) = (c : Int) := by rw [IntKind.wrap_u64]; omega
  have hsz1 : (Try.prog.info? 41).map (·.size) = some 1 := by kernel_rfl
  have b1 := (Below.refl w.heap.size w).alloc (Nat.le_refl _) (.cells (Array.replicate c (.slice none 0 0)) 41)
  have r1 := Row.new w (Array.replicate c (.slice none 0 0)) 41
  have hx1 : (w.alloc (.cells (Array.replicate c (.slice none 0 0)) 41)).cell? ⟨b, off, none⟩ = some x := (World.cell?_alloc_lt w _ _ hb).trans hx
  have R1 : Hid ((w.alloc (.cells (Array.replicate c (.slice none 0 0)) 41)).heap[w.heap.size]? = some (.cells (repN x 0 c).toArray 41 (0, 0))) := by show _ = _; rw [repN_zero]; simpa [Row] using r1
  clear r1
  go_enter Try.func101, Try.ntmps101
  go_wp2_with fail
  refine (mul_one c (by omega) _).mono ?_
  rintro e w' ⟨rfl, rfl⟩
  go_upto_region 7 with (fail)
  go_wp2_with (refine wpList_copy_splice rfl (.tmp 31) (.tmp 32) 115 115 rfl 41 Try.underlying115 hsz1 _ _ _ _ _ _ rfl rfl w.heap.size 0 (repN x 0 c) 41 R1.out [x] ?c1 ?c2 ?c3 ?c4 w.heap.size w b1 (Nat.le_refl _) ?_)
  case c1 => exact (Nat.min_eq_left hc1).symm
  case c2 =>
    intro j v hv
    match j, hv with
    | 0, hv => simp at hv; subst hv; simpa using hx
  case c3 => rw [repN_len (Nat.zero_le _)]; simpa using hc1
  case c4 => intro v hw; simp at hw; subst hw; exact hv
  intro w2 hR2 hb2
  have R2 : Hid (Row w2 w.heap.size (repN x 1 c).toArray 41) := by
    have := hR2.out
    rw [show [x] = List.replicate 1 x from rfl, repN_splice] at this
    exact this
  clear hR2 R1 b1 hx1 mk
  go_wp2_with fail
  go_loopw [8] (fun i wr => ∃ n : Nat, 1 ≤ n ∧ n ≤ c ∧ i = .int .i64 n ∧ Hid (Row wr w.heap.size (repN x n c).toArray 41) ∧ Below w.heap.size w wr) (fun i _ => c - (intOf i).toNat)
  case atStart => exact ⟨1, by omega, hc1, rfl, R2, hb2⟩
  case round =>
    clear R2 hb2
    obtain ⟨n, hn1, hnc, rfl, HR, hbr⟩ := hrel
    by_cases hlt : n < c
    · have hi0 : (0 : Int) ≤ (n : Int) := by omega
      have hi1 : (n : Int) ≤ (c : Int) := by omega
      have hne : ¬ (c = n) := by omega
      have hm : min n (c - n) ≤ c := by omega
      have HM : Hid (∀ v ∈ List.replicate (min n (c - n)) x, v.oneCell' = true) := fun v hw => by rw [(List.mem_replicate.1 hw).2]; exact hv
      have HC : Hid (∀ j v, (List.replicate (min n (c - n)) x)[j]? = some v → wr.drew.cell? ((⟨w.heap.size, 0, none⟩ : Addr).add j) = some v) := by
        intro j v hv
        rw [List.getElem?_replicate] at hv
        split at hv
        · rename_i hj
          injection hv with hv
          subst hv
          rw [Addr.add_lit, Nat.zero_add]
          refine (Row.cell HR.out.drew j).trans ?_
          rw [List.getElem?_toArray]
          exact repN_get (by omega)
        · cases hv
      have HL : Hid ((repN x n c).length = c) := repN_len hnc
      go_wp2_with fail
      go_region_held3 (fun _ => True) (first | trivial) (first | ((refine step_copy_splice (by rfl) (.tmp 41) (.tmp 44) 115 115 (by rfl) 41 Try.underlying115 hsz1 (some ⟨w.heap.size, n, none⟩) (some ⟨w.heap.size, 0, none⟩) (c - n) (c - n) n c (by rfl) (by rfl) w.heap.size n (repN x n c) 41 HR.out.drew (List.replicate (min n (c - n)) x) (by simp) (fun _ => ⟨rfl, _, rfl, HC.out⟩) (by rw [HL.out]; simp; omega) HM.out w.heap.size w hbr.drew (Nat.le_refl _) ?_); intro w3 hR3 hb3))
      have R3 : Hid (Row w3 w.heap.size (repN x (n + min n (c - n)) c).toArray 41) := by
        have := hR3.out
        rw [repN_splice] at this
        exact this
      have hlen : (List.replicate (min n (c - n)) x).length = min n (c - n) := by simp
      have e2 : IntKind.i64.wrap ((n : Int) + ((min n (c - n) : Nat) : Int)) = (n : Int) + ((min n (c - n) : Nat) : Int) := IntWalk.i64_in _ (by omega)
      generalize hM : min n (c - n) = mm at *
      have hmm : 1 ≤ mm := by omega
      have hmc : n + mm ≤ c := by omega
      have HMM := Lib.hid hM
      clear hM
      go_wp2_with fail
      go_roundw
      case rel => exact ⟨n + mm, by omega, hmc, by go_num, R3, hb3⟩
      case measure => simp [intOf]; omega
    · obtain rfl : n = c := by omega
      go_wp2_with fail
      go_ret
      exact ⟨w.heap.size, rfl, Nat.le_refl _, by rw [← repN_full]; exact HR.out, hbr⟩
set_option maxRecDepth 100000 in
set_option maxHeartbeats 2000000 in
theorem repL_zero (x : Value) (b off cap : Nat) (w : World) :
    Calls Try.prog 101 #[.slice (some ⟨b, off, none⟩) 1 cap, .int .i64 0] w (RepIs x 0 w) := by
  have mk := make_lits 0 (by omega) (by omega)
  have hsz1 : (Try.prog.info? 41).map (·.size) = some 1 := by kernel_rfl
  have b1 := (Below.refl w.heap.size w).alloc (Nat.le_refl _) (.cells #[] 41)
  have R1 : Hid ((w.alloc (.cells #[] 41)).heap[w.heap.size]? = some (.cells ([] : List Value).toArray 41 (0, 0))) := Row.new w #[] 41
  go_enter Try.func101, Try.ntmps101
  go_wp2_with fail
  refine (mul_one 0 (by omega) _).mono ?_
  rintro e w' ⟨rfl, rfl⟩
  go_upto_region 7 with (fail)
  go_wp2_with (refine wpList_copy_splice rfl (.tmp 31) (.tmp 32) 115 115 rfl 41 Try.underlying115 hsz1 _ _ _ _ _ _ rfl rfl w.heap.size 0 [] 41 R1.out [] ?c1 (fun h => absurd h (by simp)) ?c3 ?c4 w.heap.size w b1 (Nat.le_refl _) ?_)
  case c1 => rfl
  case c3 => simp
  case c4 => intro v hw; simp at hw
  intro w2 hR2 hb2
  clear R1 mk b1
  go_wp2_with fail
  go_loop [8] (fun i => i = .int .i64 0) (fun _ => 0)
  case atStart => exact rfl
  case round =>
    obtain rfl := hrel
    go_wp2_with fail
    go_ret
    exact ⟨w.heap.size, rfl, Nat.le_refl _, hR2.out, hb2⟩
/-- so many of one value -/
theorem repL_any (x : Value) (c b off cap : Nat) (hc : c ≤ 1600) (w : World) (hv : x.oneCell' = true) (hb : b < w.heap.size) (hx : w.cell? ⟨b, off, none⟩ = some x) :
    Calls Try.prog 101 #[.slice (some ⟨b, off, none⟩) 1 cap, .int .i64 c] w (RepIs x c w) := by
  rcases Nat.eq_zero_or_pos c with rfl | h
  · exact repL_zero x b off cap w
  · exact repL_pos x c b off cap hc h w hv hb hx
end Go.Proofs.Ytolabbnchmmckaa
