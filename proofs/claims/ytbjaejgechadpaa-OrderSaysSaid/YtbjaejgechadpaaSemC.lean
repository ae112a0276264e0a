/-
  The document's run of a form: every wire's value; is a clock there?
-/
import Derived.Test.YtbjaejgechadpaaSemB
namespace Go.Proofs.Ytbjaejgechadpaa
open Go.RowKit Vf Fo Ar
attribute [local go_sem ↓] Go.wp_at_zero Go.wp_at_succ
section
variable {f : Fm} {cs row : List Int} {R K V : Nat} {vw va vc vk vi vo vC vR vP : Value}
theorem wire_all (hf : formOk f) (hrl : row.length = f.ins.length) (hcs : cs.length = f.cells.length) {n : Int} (h : Done f n) : WireC f cs row R K V vw va vc vk vi vo vC vR vP 108 n := by
  induction h with
  | ins n h => exact wire_of_find n (hf.2.1.1 n h).1 (find_in hf hrl n h)
  | act x hx hw _ ih1 _ => exact wire_of_find x.dst (hf.2.2.2.2.1.2.1 x hx).1 (find_act hf hcs x hx (fun n hn => ⟨hw n hn, ih1 n hn⟩))
theorem wire_any (hf : formOk f) (hrl : row.length = f.ins.length) (hcs : cs.length = f.cells.length) {n : Int} (h : isW f n) : WireC f cs row R K V vw va vc vk vi vo vC vR vP 108 n :=
  wire_all hf hrl hcs (Done.want (x := ⟨0, 0, n, 0, 0, 0⟩) hf.2.2.2.2.2.2 h)
theorem thF_drop {c : List Gd} {k : Nat} {g : Gd} (h : c[k]? = some g) : thF f cs row (c.drop k) = if (decide (valF f cs row g.wire ≠ 0)) = g.no then false else thF f cs row (c.drop (k + 1)) := by
  have hk := (List.getElem?_eq_some_iff.1 h)
  rw [List.drop_eq_getElem_cons hk.1, hk.2, thF]
set_option maxRecDepth 100000 in
set_option maxHeartbeats 8000000 in
theorem there_run (hf : formOk f) (hrl : row.length = f.ins.length) (hcs : cs.length = f.cells.length) (c : List Gd) (v : Value) (B : Nat) (W : World) (ds : List Bool) (vs : List Int) (h : RunAt f cs row R K V vw va vc vk vi vo vC vR vP W ds vs)
    (hv : ∀ W', Upd (fun k => k = K ∨ k = V) W W' → SlV W' B 2 isGd v c) (hc : ∀ g ∈ c, isW f g.wire) :
    Calls Try.prog 109 #[.pointer (some ⟨R, 0, none⟩), v] W fun e W' =>
      e = .returned (.bool (thF f cs row c)) ∧ (∃ ds' vs', RunAt f cs row R K V vw va vc vk vi vo vC vR vP W' ds' vs') ∧ Upd (fun k => k = K ∨ k = V) W W' := by
  have HV := Lib.hid hv
  obtain ⟨A, cap, rfl, l1, m1, _⟩ := hv W (Upd.refl _ _)
  have m1' : cap ≤ 9223372036854775807 := by unfold maxLen at m1; omega
  have HH := Lib.hid h
  have HC := Lib.hid hc
  have HWI : Hid (∀ n, isW f n → ∀ W ds vs, RunAt f cs row R K V vw va vc vk vi vo vC vR vP W ds vs → Calls Try.prog 108 #[.pointer (some ⟨R, 0, none⟩), .int .i64 n] W fun e W' =>
    e = .returned (.int .i64 (valF f cs row n)) ∧ Wf (valF f cs row n) ∧ (∃ ds' vs', RunAt f cs row R K V vw va vc vk vi vo vC vR vP W' ds' vs') ∧ Upd (fun k => k = K ∨ k = V) W W') := fun n hn => wire_any hf hrl hcs hn
  clear hv h hc hf hrl hcs
  go_enter Try.func109, Try.ntmps109
  go_wp2_with fail
  go_loopw [5] (fun i wr => ∃ (k : Nat) (ds : List Bool) (vs : List Int), k ≤ c.length ∧ i = .int .i64 k ∧ Hid (thF f cs row c = thF f cs row (c.drop k)) ∧ Hid (RunAt f cs row R K V vw va vc vk vi vo vC vR vP wr ds vs) ∧ Hid (Upd (fun k => k = K ∨ k = V) W wr)) (fun i _ => c.length - (intOf i).toNat)
  case atStart => exact ⟨0, ds, vs, Nat.zero_le _, rfl, rfl, HH.out, Upd.refl _ _⟩
  case round =>
    clear HH
    obtain ⟨k, ds, vs, hk, rfl, HT, HR, HU⟩ := hrel
    by_cases hlt : k < c.length
    · have hsz := HU.out.size
      obtain ⟨A', c', hA', _, _, sl⟩ := HV.out wr HU.out
      injection hA' with hA1 _ hA3
      subst hA1; subst hA3
      obtain ⟨b, off, ⟨gw, gn⟩, rfl, hbB, hx, wx, d0, d1⟩ := sl.gd hlt
      dsimp only at d0 d1
      have hlt' : (k : Int) < c.length := by omega
      have HGW := Lib.hid (HC.out _ (List.mem_of_getElem? hx))
      have HTD : Hid (thF f cs row (c.drop k) = if (decide (valF f cs row gw ≠ 0)) = gn then false else thF f cs row (c.drop (k + 1))) := thF_drop hx
      have HX := Lib.hid hx
      have HK : Hid (∀ W1, Upd (fun k => k = K ∨ k = V) wr W1 → W1.cell? ⟨b, off + k * 2, none⟩ = some (.int .i64 gw) ∧ W1.cell? ⟨b, off + k * 2 + 1, none⟩ = some (.bool gn)) := fun W1 u => by
        obtain ⟨A', c', hA', _, _, sl⟩ := HV.out W1 (HU.out.trans u)
        injection hA' with hA1 _ hA3
        subst hA1; subst hA3
        obtain ⟨b', off', g', hA', _, hx', _, e0, e1⟩ := sl.gd hlt
        injection hA' with hA'
        injection hA' with h1 h2
        subst h1; subst h2
        obtain rfl : (⟨gw, gn⟩ : Gd) = g' := Option.some.inj (HX.out.symm.trans hx')
        exact ⟨e0, e1⟩
      clear sl hx wx d0 d1
      go_upto_region 4 with (fail)
      refine wp_region_held_drew (S := fun W => W.cell? ⟨b, off + k * 2, none⟩ = some (.int .i64 gw) ∧ W.cell? ⟨b, off + k * 2 + 1, none⟩ = some (.bool gn)) (by kernel_rfl) ?_ (fun hHeld => ?_)
      · (try dsimp only); (first | exact HK.out _ hu8' | exact HK.out _ (Upd.of_below ((Below.refl _ _).drew)))
      refine tk 0 (some 12) rfl ?_
      refine tk 1 (some 13) rfl ?_
      refine tk 2 (some 14) rfl ?_
      refine tk 3 (some 15) rfl ?_
      refine tk 4 (some 16) rfl ?_
      refine tk 5 (some 17) rfl ?_
      refine tk 8 (some 20) rfl ?_
      refine tk 9 (some 21) rfl ?_
      refine tk 10 (some 22) rfl ?_
      refine tk 11 (some 23) rfl ?_
      refine tk 12 (some 24) rfl ?_
      refine rd1 6 (some 18) rfl (fun KK hKK => ?_)
      go_simp
      (go_at_call 108; refine Calls.mono (HWI.out gw HGW.out _ _ _ (HR.out.below ((Below.refl _ _).drew))) ?_; rintro e w8 ⟨rfl, _, ⟨ds8, vs8, hr8⟩, hu8⟩; (have hu8' : Upd (fun k => k = K ∨ k = V) wr w8 := (Upd.of_below ((Below.refl _ _).drew)).trans hu8))
      (try go_wp2_with fail)
      refine hKK.out _ _ ?_ (fun hHeld => ?_)
      · (try dsimp only); (first | exact HK.out _ hu8' | exact HK.out _ (Upd.of_below ((Below.refl _ _).drew)))
      clear hKK KK
      try simp only [Act.put, List.setIfInBounds_toArray, List.set_cons_zero, List.set_cons_succ]
      refine tk 7 (some 19) rfl ?_
      refine tk 13 (some 25) rfl ?_
      refine wpAnyH_done (by kernel_rfl) ?_ _
      have HR8 := Lib.hid hr8
      have HU8 := Lib.hid (HU.out.trans hu8')
      clear hHeld hr8 hu8 hu8' HK
      obtain ⟨BB, hbb⟩ : ∃ BB : Bool, ((valF f cs row gw != 0) == gn) = BB := ⟨_, rfl⟩
      have HTB : Hid (thF f cs row (c.drop k) = if BB = true then false else thF f cs row (c.drop (k + 1))) := by
        show _ = _
        rw [HTD.out, ← hbb]
        by_cases hz : valF f cs row gw = 0 <;> cases gn <;> simp [hz]
      rw [hbb]
      clear hbb
      cases BB
      · have HT' : Hid (thF f cs row c = thF f cs row (c.drop (k + 1))) := by
          show _ = _
          rw [HT.out, HTB.out, if_neg (by decide)]
        go_wp2_with fail
        go_roundw
        case rel => exact ⟨k + 1, _, _, by omega, by go_num, HT', HR8, HU8⟩
        case measure => simp [intOf]; omega
      · have HF : Hid (thF f cs row c = false) := by
          show _ = _
          rw [HT.out, HTB.out, if_pos rfl]
        go_wp2_with fail
        go_ret
        exact ⟨ret_bool HF.out.symm, ⟨_, _, HR8.out⟩, HU8.out⟩
    · obtain rfl : k = c.length := by omega
      have HF : Hid (thF f cs row c = true) := by
        show _ = _
        rw [HT.out, List.drop_length, thF]
      go_wp2_with fail
      go_ret
      exact ⟨ret_bool HF.out.symm, ⟨_, _, HR.out⟩, HU.out⟩
end
end Go.Proofs.Ytbjaejgechadpaa
