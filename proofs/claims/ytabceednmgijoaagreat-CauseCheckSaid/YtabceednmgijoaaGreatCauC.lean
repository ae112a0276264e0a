/-
  Does a name hang on itself: the contract of cause.round.
-/
import Derived.Test.YtabceednmgijoaaGreatCauB
namespace Go.Proofs.YtabceednmgijoaaGreat
open Go.RowKit
attribute [local go_sem ↓] Go.wp_at_zero Go.wp_at_succ
/-- what is found behind a name, with these met before -/
structure Dfs (U : ByteArray → List ByteArray) (L : List ByteArray) (a : ByteArray) (pre L' : List ByteArray) : Prop where
  old : ∀ x ∈ L, x ∈ L'
  hg : ∀ x ∈ L', x ∈ L ∨ Hg U a x
  pre : ∀ y ∈ pre, y ∈ L'
  more : ∀ y ∈ L', y ∉ L → ∀ z ∈ U y, z ∈ L'
section
variable {U : ByteArray → List ByteArray} {V L L' L2 pre : List ByteArray} {a x : ByteArray}
theorem Dfs.start (U : ByteArray → List ByteArray) (L : List ByteArray) (a : ByteArray) : Dfs U L a [] L := ⟨fun _ h => h, fun _ h => .inl h, (fun _ h => by cases h), fun y h g => absurd h g⟩
theorem Dfs.skip (h : Dfs U L a pre L') (hx : x ∈ L') : Dfs U L a (pre ++ [x]) L' := by
  refine ⟨h.old, h.hg, fun y hy => ?_, h.more⟩
  rcases List.mem_append.1 hy with hy | hy
  · exact h.pre y hy
  · rw [List.mem_singleton.1 hy]; exact hx
theorem Dfs.step (h : Dfs U L a pre L') (hx : x ∈ U a) (k : Dfs U (L' ++ [x]) x (U x) L2) : Dfs U L a (pre ++ [x]) L2 := by
  have hsub : ∀ y ∈ L', y ∈ L2 := fun y hy => k.old y (by simp [hy])
  have hx2 : x ∈ L2 := k.old x (by simp)
  refine ⟨fun y hy => hsub y (h.old y hy), fun y hy => ?_, fun y hy => ?_, fun y hy hn z hz => ?_⟩
  · rcases k.hg y hy with g | g
    · rcases List.mem_append.1 g with g | g
      · exact h.hg y g
      · rw [List.mem_singleton.1 g]; exact .inr (.one hx)
    · exact .inr (hg_trans (.one hx) g)
  · rcases List.mem_append.1 hy with hy | hy
    · exact hsub y (h.pre y hy)
    · rw [List.mem_singleton.1 hy]; exact hx2
  · by_cases g : y ∈ L' ++ [x]
    · rcases List.mem_append.1 g with g | g
      · exact hsub z (h.more y g hn z hz)
      · rw [List.mem_singleton.1 g] at hz; exact k.pre z hz
    · exact k.more y hy g z hz
theorem Dfs.all (h : Dfs U [] a (U a) L') (x : ByteArray) : x ∈ L' ↔ Hg U a x := by
  constructor
  · intro g; exact (h.hg x g).resolve_left (by simp)
  · intro g
    induction g with
    | one g => exact h.pre _ g
    | more _ g ih => exact h.more _ ih (by simp) _ g
theorem Dfs.sub (h : Dfs U L a pre L') (hV : ∀ x, ∀ y ∈ U x, y ∈ V) (hL : ∀ y ∈ L, y ∈ V) : ∀ y ∈ L', y ∈ V := fun y hy => by
  rcases h.hg y hy with g | g
  · exact hL y g
  · exact hg_sub hV g
end
abbrev rF (bn pm pf : Nat) : Value := .func (.func 51) #[] #[.pointer (some ⟨bn, 0, none⟩), .pointer (some ⟨pm, 0, none⟩), .pointer (some ⟨pf, 0, none⟩)]
set_option maxRecDepth 100000 in
set_option maxHeartbeats 1000000 in
theorem round1_any (n : Nd) (a : NdA) (bn pm pf bm : Nat) (t : TypeId) (sm : NdSm n) (hV : ∀ x, ∀ y ∈ hangsF n x, y ∈ nms (vrs n)) (m : Nat) : ∀ (nm : ByteArray) (L : List ByteArray) (w : World), (nms (vrs n)).length - L.length ≤ m → (∀ y ∈ L, y ∈ nms (vrs n)) → NdAt w w.heap.size n a → Row w bn (ndArr n a) 36 → Row w pm #[.map (some bm)] 58 → Row w pf #[rF bn pm pf] t → MetS w bm L →
    Calls Tryz.prog 51 #[.string nm, .pointer (some ⟨bn, 0, none⟩), .pointer (some ⟨pm, 0, none⟩), .pointer (some ⟨pf, 0, none⟩)] w fun r w' => r = .returned (.tuple #[]) ∧ (∃ L', MetS w' bm L' ∧ Hid (Dfs (hangsF n) L nm (hangsF n nm) L')) ∧ UpdM bm w w' := by
  induction m using Nat.strongRecOn with
  | ind m ih =>
    intro nm L w hm hL hn rn rp rf hM
    have HI := Lib.hid ih
    have HV := Lib.hid hV
    have HL := Lib.hid hL
    have HSM := Lib.hid sm
    have HN : Hid (∀ W, UpdM bm w W → NdAt W W.heap.size n a) := fun W hW => hn.keep (mupd_keeps hW hM) hW.size
    have hF : ∀ args w, (callFunc 51 args).run Tryz.prog w = .ok (.enter 51 args) w := enters_of Tryz.func51 (by kernel_rfl) rfl
    have hvl := sm.len
    clear ih hV hL sm hn
    obtain ⟨c0, c1, cc2, c3, c4, c5, c6⟩ := rn.nd
    go_enter Tryz.func51, Tryz.ntmps51
    go_wp2_with fail
    refine (hangs_any n a nm w HSM.out (HN.out w (Upd.refl _ _))).mono ?_
    rintro r w2 ⟨⟨v2, rfl, hv2⟩, hb2⟩
    obtain ⟨A2, c2, rfl, g1, g2, g3⟩ := hv2
    have rn2 := rn.below hb2 rn.lt
    have rp2 := rp.below hb2 rp.lt
    have rf2 := rf.below hb2 rf.lt
    have m2 := hM.below hb2 hM.lt
    have u2 : UpdM bm w w2 := UpdM.of hb2
    have HS2 : Hid (∀ W, UpdM bm w2 W → Sl W w2.heap.size 1 isStr A2 (hangsF n nm)) := fun W hW => strs_keep g3 (mupd_keeps hW m2) (Nat.le_refl _)
    have g2' : c2 ≤ 9223372036854775807 := by unfold maxLen at g2; omega
    clear c0 c1 cc2 c3 c4 c5 c6 g3
    go_wp2_with fail
    go_loopw [11] (fun i wr => ∃ (k : Nat) (Lk : List ByteArray), k ≤ (hangsF n nm).length ∧ i = .int .i64 k ∧ MetS wr bm Lk ∧ Hid (Dfs (hangsF n) L nm ((hangsF n nm).take k) Lk) ∧ UpdM bm w2 wr) (fun i _ => (hangsF n nm).length - (intOf i).toNat)
    case atStart => exact ⟨0, L, Nat.zero_le _, rfl, m2, Dfs.start _ _ _, Upd.refl _ _⟩
    case round =>
      obtain ⟨k, Lk, hk, rfl, m3, HD, u3⟩ := hrel
      have u03 := u2.trans u3
      by_cases hlt : k < (hangsF n nm).length
      rotate_left 1
      · obtain rfl : k = (hangsF n nm).length := by omega
        rw [List.take_length] at HD
        go_wp2_with fail
        go_end0
        exact ⟨rfl, ⟨Lk, m3, HD⟩, u03⟩
      obtain ⟨b, off, x, rfl, hb, hx, hsx, e0⟩ := (HS2.out wr u3).str hlt
      have HX := Lib.hid hx
      have HT : Hid ((hangsF n nm).take (k + 1) = (hangsF n nm).take k ++ [x]) := by
        show _ = _
        obtain ⟨q1, q2⟩ := List.getElem?_eq_some_iff.1 hx
        rw [List.take_succ_eq_append_getElem q1, q2]
      have i0 : (0 : Int) ≤ (k : Int) := by omega
      have i1 : (k : Int) < ((hangsF n nm).length : Int) := by omega
      have rp3 := mupd_row u3 m2 rp2
      have rf3 := mupd_row u3 m2 rf2
      have rn3 := mupd_row u3 m2 rn2
      have p3 : wr.cell? ⟨pm, 0, none⟩ = some (.map (some bm)) := (rp3.cell 0).trans rfl
      have f3 : wr.cell? ⟨pf, 0, none⟩ = some (rF bn pm pf) := (rf3.cell 0).trans rfl
      clear hx
      by_cases hP : x ∈ Lk
      · have hlk := (m3.look hsx).1 hP
        have HD' := Lib.hid (HD.out.skip hP)
        clear hP
        go_wp2_with fail
        go_roundw
        case rel => exact ⟨k + 1, Lk, by omega, by go_num, m3, (by rw [HT.out]; exact HD'.out), u3⟩
        case measure => first | (simp [intOf]; omega) | simp [intOf]
      · have hlk := (m3.look hsx).2 hP
        have HPN : Hid (putN Lk x = Lk ++ [x]) := by show _ = _; unfold putN; rw [if_neg hP]
        have HLV : Hid (∀ y ∈ Lk ++ [x], y ∈ nms (vrs n)) := fun y hy => by
          rcases List.mem_append.1 hy with hy | hy
          · exact HD.out.sub HV.out HL.out y hy
          · rw [List.mem_singleton.1 hy]; exact HV.out nm x (List.mem_of_getElem? HX.out)
        have hnd : (Lk ++ [x]).Nodup := by rw [← HPN.out]; exact putN_nodup m3.1
        have hl1 := nodup_len hnd HLV.out
        have hl2 := nodup_len (m := Lk) hM.1 HD.out.old
        rw [List.length_append, List.length_singleton] at hl1
        rw [List.length_map] at hl1 hm
        clear hP hnd
        go_wp2_with (at_mapUpdate; refine wpList_mets rfl _ _ _ rfl bm Lk rfl m3 (by omega) x rfl hsx rfl ?_; intro w4 m4 hg4; rw [HPN.out] at m4; have rf4 := row_map rf3 m3 hg4; have rp4 := row_map rp3 m3 hg4; have rn4 := row_map rn3 m3 hg4; have u4 := UpdM.grown u3 hg4; have f4 : w4.cell? ⟨pf, 0, none⟩ = some (rF bn pm pf) := (rf4.cell 0).trans rfl)
        refine (HI.out ((vrs n).length - (Lk.length + 1)) (by omega) x (Lk ++ [x]) w4 (by rw [List.length_map, List.length_append, List.length_singleton]; omega) HLV.out (HN.out w4 (u2.trans u4)) rn4 rp4 rf4 m4).mono ?_
        rintro r w5 ⟨rfl, ⟨L5, m5, HD5⟩, u5⟩
        have HD' := Lib.hid (HD.out.step (List.mem_of_getElem? HX.out) HD5.out)
        have u35 := u4.trans u5
        go_wp2_with fail
        go_roundw
        case rel => exact ⟨k + 1, L5, by omega, by go_num, m5, (by rw [HT.out]; exact HD'.out), u35⟩
        case measure => first | (simp [intOf]; omega) | simp [intOf]
end Go.Proofs.YtabceednmgijoaaGreat
