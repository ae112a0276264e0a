/-
  An order of nodes, each behind those it calls: the contract of calls.Order.
-/
import Derived.Test.YtabceednmgijoaaGreatCalD
namespace Go.Proofs.YtabceednmgijoaaGreat
open Go.RowKit
attribute [local go_sem ↓] Go.wp_at_zero Go.wp_at_succ
theorem field_flt (f : Ft) (W : World) : (Instr.field 31 (.agg #[.int .i64 f.err, .int .i64 f.line, .int .i64 f.col]) 0).run Tryz.prog W = .ok (.int .i64 f.err) W := by kernel_rfl
theorem dropN_le {l : List ByteArray} {nm : ByteArray} : (dropN l nm).length ≤ l.length := List.length_filter_le _ _
/-- who waits yet -/
def Waits (s : List Nd) (out L : List ByteArray) : Prop := ∀ x, x ∈ L ↔ x ∈ s.map Nd.name ∧ x ∉ out
theorem waits_ready {s : List Nd} {out L : List ByteArray} {n : Nd} (h0 : (scopeF s).err = 0) (hn : n ∈ s) (h : Waits s out L) : Ready out n ↔ n.name ∈ L ∧ ¬ ∃ y ∈ usesF n, y ∈ L := by
  unfold Ready
  rw [h n.name]
  constructor
  · rintro ⟨h1, h2⟩
    exact ⟨⟨List.mem_map_of_mem hn, h1⟩, fun ⟨y, hy, hl⟩ => ((h y).1 hl).2 (h2 y hy)⟩
  · rintro ⟨⟨_, h1⟩, h2⟩
    exact ⟨h1, fun y hy => Classical.byContradiction fun g => h2 ⟨y, hy, (h y).2 ⟨calls_known h0 hn hy, g⟩⟩⟩
theorem waits_drop {s : List Nd} {out L : List ByteArray} {x : ByteArray} (h : Waits s out L) : Waits s (out ++ [x]) (dropN L x) := fun y => by
  rw [dropN_mem, h y]
  simp only [List.mem_append, List.mem_singleton, not_or, and_assoc]
theorem waits_end {s : List Nd} {L : List ByteArray} (hc : (callsF s).err = 0) (h : Waits s (ordTo s s.length) L) : L = [] := by
  cases L with
  | nil => rfl
  | cons x L => exact absurd (ord_all hc ((h x).1 (by simp)).1) ((h x).1 (by simp)).2
theorem waits_more {s : List Nd} {L : List ByteArray} {k : Nat} (hc : (callsF s).err = 0) (hk : k < s.length) (h : Waits s (ordTo s k) L) : 0 < L.length := by
  obtain ⟨n, hp⟩ := pick_some hc (out := ordTo s k) (by rw [ord_len hc k (by omega)]; exact hk)
  obtain ⟨hn, hr, _⟩ := pick_ok hp
  exact List.length_pos_of_mem ((h n.name).2 ⟨List.mem_map_of_mem hn, hr⟩)
theorem no_pick {s : List Nd} {k : Nat} (hc : (callsF s).err = 0) (hk : k < s.length) (h : ∀ j, j < s.length → ∀ x, s[j]? = some x → ¬ Ready (ordTo s k) x) : False := by
  obtain ⟨n, hp⟩ := pick_some hc (out := ordTo s k) (by rw [ord_len hc k (by omega)]; exact hk)
  rw [pick_none h] at hp
  cases hp
theorem waits_start {s : List Nd} {L : List ByteArray} (h : ∀ x, x ∈ L ↔ x ∈ (s.map Nd.name).take s.length) : Waits s (ordTo s 0) L := fun x => by
  rw [h x, List.take_of_length_le (by simp)]
  simp [ordTo]
theorem names_put {s : List Nd} {L : List ByteArray} {k : Nat} {n : Nd} (hk : s[k]? = some n) (h : ∀ x, x ∈ L ↔ x ∈ (s.map Nd.name).take k) : ∀ x, x ∈ putN L n.name ↔ x ∈ (s.map Nd.name).take (k + 1) := fun x => by
  have g := map_get Nd.name hk
  obtain ⟨h1, h2⟩ := List.getElem?_eq_some_iff.1 g
  rw [putN_mem, h x, List.take_succ_eq_append_getElem h1, h2, List.mem_append, List.mem_singleton]
/-- what calls.Order gives -/
def OrdRes (s : List Nd) (w : World) (e : Ending) (w' : World) : Prop :=
  (∃ v, e = .returned (.tuple #[v, .bool (cB ((callsF s).err = 0))]) ∧ Hid (((callsF s).err = 0 → SlV w' w'.heap.size 1 isStr v (orderF s)) ∧ ((callsF s).err ≠ 0 → v = .slice none 0 0))) ∧ Below w.heap.size w w'
set_option maxRecDepth 100000 in
set_option maxHeartbeats 1000000 in
theorem order_any (s : List Nd) (A : Option Addr) (cap : Nat) (w : World) (sm : SrcSm s) (h1 : s.length ≤ cap) (h2 : cap ≤ maxLen) (h : Nds w w.heap.size A s) :
    Calls Tryz.prog 16 #[srcV s A cap] w (OrdRes s w) := by
  have rs1 := Row.new w #[.slice A s.length cap] 24
  have b1 : Below w.heap.size w (w.alloc (.cells #[.slice A s.length cap] 24)) := bE
  have HS : Hid (∀ W, Below w.heap.size w W → Nds W w.heap.size A s) := fun W hW => nds_keep h (keeps_of hW) (Nat.le_refl _)
  have HSM := Lib.hid sm
  have hmm := @run_makeMap Tryz.prog
  have h2' : cap ≤ 9223372036854775807 := by unfold maxLen at h2; omega
  clear h sm
  go_enter Tryz.func16, Tryz.ntmps16
  go_upto_region 1 with (fail)
  generalize w.alloc (.cells #[.slice A s.length cap] 24) = W1 at *
  have hs1 := b1.size
  have c0 := rs1.src
  go_wp2_with fail
  refine (check_calls s A cap W1 HSM.out h1 h2 (nds_keep (HS.out W1 b1) (fun _ _ _ h => h) hs1)).mono ?_
  rintro r w2 ⟨rfl, hb2⟩
  have rs2 := rs1.below hb2 rs1.lt
  have hB2 := b1.trans (hb2.mono hs1)
  have hs2 := hB2.size
  clear c0 rs1 b1 hb2 hs1
  have c0 := rs2.src
  obtain ⟨f, HFN⟩ : ∃ f, Hid (callsF s = f) := ⟨_, rfl⟩
  rw [HFN.out]
  have fe := field_flt f
  by_cases hf : f.err = 0
  rotate_left 1
  · have hf1 : (f.err != 0) = true := neq_yes hf
    have HE : Hid (cB ((callsF s).err = 0) = false) := by show _ = _; rw [HFN.out]; exact cB_false hf
    have HNE : Hid ((callsF s).err ≠ 0) := by show _ ≠ _; rw [HFN.out]; exact hf
    clear hf
    go_wp2_with fail
    go_ret2
    refine ⟨⟨_, ?_, fun g => absurd g HNE.out, fun _ => rfl⟩, hB2⟩
    rw [HE.out]
    rfl
  have hf1 : (f.err != 0) = false := neq_no hf
  have HC : Hid ((callsF s).err = 0) := by show _ = _; rw [HFN.out]; exact hf
  have HE : Hid (cB ((callsF s).err = 0) = true) := cB_true HC.out
  have H0 : Hid ((scopeF s).err = 0) := (callsF_ok HC.out).1
  clear hf HFN
  go_upto_region 4 with (go_at_call 33; refine Calls.mono (all_calls s A cap w2 H0.out HSM.out h1 h2 (nds_keep (HS.out w2 hB2) (fun _ _ _ h => h) hs2)) ?_; rintro r w5 ⟨⟨bu, rfl, hU5, hbu⟩, hb5⟩)
  have rs5 := rs2.below hb5 rs2.lt
  have hB5 := hB2.trans (hb5.mono hs2)
  have hs5 := hB5.size
  clear c0 rs2 hB2 hb5
  have b6 : Below w5.heap.size w5 ((w5.alloc (.map #[] 0)).alloc (.cells #[.map (some w5.heap.size)] 58)) := bE
  have m6 := (mets_made w5).alloc (.cells #[.map (some w5.heap.size)] 58)
  have rp6 : Row ((w5.alloc (.map #[] 0)).alloc (.cells #[.map (some w5.heap.size)] 58)) (w5.heap.size + 1) #[.map (some w5.heap.size)] 58 := rowNew2 w5 _ _ _
  go_upto_region 5 with (fail)
  generalize hW6 : (w5.alloc (.map #[] 0)).alloc (.cells #[.map (some w5.heap.size)] 58) = w6 at *
  clear hW6
  have hl6 := rp6.lt
  have rs6 := rs5.below b6 rs5.lt
  have hB6 := hB5.trans (b6.mono hs5)
  have hs6 := hB6.size
  have c0 := rs6.src
  go_wp2_with fail
  go_loopw [22] (fun i wr => ∃ (k : Nat) (L : List ByteArray), k ≤ s.length ∧ i = .int .i64 k ∧ MetS wr w5.heap.size L ∧ L.length ≤ k ∧ Hid (∀ x, x ∈ L ↔ x ∈ (s.map Nd.name).take k) ∧ Row wr (w5.heap.size + 1) #[.map (some w5.heap.size)] 58 ∧ Below w5.heap.size w5 wr) (fun i _ => s.length - (intOf i).toNat)
  case atStart => exact ⟨0, [], Nat.zero_le _, rfl, m6, Nat.le_refl _, fun x => by simp, rp6, b6⟩
  case round =>
    obtain ⟨k, L, hk, rfl, hM, hLk, HL, rp, hbr⟩ := hrel
    have hB := hB5.trans (hbr.mono hs5)
    have hsB := hB.size
    have hlr := rp.lt
    by_cases hlt : k < s.length
    · obtain ⟨b, off, n, a, hA, hb, hn, hat, d0, d1, d2, d3, d4, d5, d6⟩ := (HS.out wr hB).nd hlt
      subst hA
      have HX := Lib.hid hn
      have hnm := hat.name
      have i0 : (0 : Int) ≤ (k : Int) := by omega
      have i1 : (k : Int) < (s.length : Int) := by omega
      have rn1 := Row.new wr (ndArr n a) 36
      have ba : Below wr.heap.size wr (wr.alloc (.cells (ndArr n a) 36)) := bE
      have hMa := hM.below ba hM.lt
      have rpa := rp.below ba rp.lt
      clear hn hat
      go_upto_region 8 with (fail)
      clear d0 d1 d2 d3 d4 d5 d6
      generalize hW7 : wr.alloc (.cells (ndArr n a) 36) = w7 at *
      clear hW7
      have hsa := ba.size
      have hbr7 := hbr.trans (ba.mono hbr.size)
      obtain ⟨d0, d1, d2, d3, d4, d5, d6⟩ := rn1.nd
      have p0 : w7.cell? ⟨w5.heap.size + 1, 0, none⟩ = some (.map (some w5.heap.size)) := (rpa.cell 0).trans rfl
      have hL20 : L.length < 1000000 := by have := HSM.out.len; omega
      go_wp2_with (at_mapUpdate; refine wpList_mets rfl _ _ _ rfl w5.heap.size L rfl hMa hL20 n.name rfl hnm rfl ?_; intro w8 m8 hg8; have rp8 := row_map rpa hMa hg8)
      have HL8 := Lib.hid (names_put HX.out HL.out)
      have hb8 := hbr7.grown hg8 hbr7.size (fun k e => by cases e; exact Nat.le_refl _)
      clear d0 d1 d2 d3 d4 d5 d6 p0
      go_roundw
      case rel => exact ⟨k + 1, _, by omega, by go_num, m8, by have := putN_len (l := L) (nm := n.name); omega, HL8, rp8, hb8⟩
      case measure => first | (simp [intOf]; omega) | simp [intOf]
    obtain rfl : k = s.length := by omega
    have HW0 := Lib.hid (waits_start HL.out)
    have rs7 := rs5.below hbr rs5.lt
    have hU7 := hU5.below hbr
    have hsr := hbr.size
    clear HL rs6 rp6 m6 b6 hB6 hs6 c0 hl6
    obtain ⟨w7, rfl⟩ : ∃ w7 : World, w7 = wr := ⟨_, rfl⟩
    have c0 := rs7.src
    go_wp2_with fail
    go_loopw [8] (fun o wr => ∃ (k : Nat) (L : List ByteArray), k ≤ s.length ∧ wr.ownsRow w7.heap.size 9 1 o (ordTo s k).length ((ordTo s k).map Value.string) ∧ MetS wr w5.heap.size L ∧ L.length ≤ 20 ∧ Hid (Waits s (ordTo s k) L) ∧ Row wr (w5.heap.size + 1) #[.map (some w5.heap.size)] 58 ∧ Below w5.heap.size w5 wr ∧ w7.heap.size ≤ wr.heap.size) (fun o _ => s.length - sliceLen o)
    case atStart => exact ⟨0, L, Nat.zero_le _, World.ownsRow_nil _ _ _ _, hM, by have := HSM.out.len; omega, HW0, rp, hbr, Nat.le_refl _⟩
    case round =>
      have hl7 : w5.heap.size + 1 < w7.heap.size := hlr
      clear c0 rs7 hU7 hM hLk rp hB hsB hlr
      obtain ⟨k, L, hk, hown, hM, hL20, HW, rp, hbo, hz7⟩ := hrel
      have hB := hB5.trans (hbo.mono hs5)
      have hsB := hB.size
      have rs8 := rs5.below hbo rs5.lt
      have c0 := rs8.src
      have p0 : wr.cell? ⟨w5.heap.size + 1, 0, none⟩ = some (.map (some w5.heap.size)) := (rp.cell 0).trans rfl
      by_cases hlt : k < s.length
      rotate_left 1
      · obtain rfl : k = s.length := by omega
        obtain rfl := waits_end HC.out HW.out
        have i0 : decide ((0 : Int) < 0) = false := rfl
        have hln := hM.len 3
        simp only [List.length_nil] at hln
        go_wp2_with fail
        go_ret2
        refine ⟨⟨_, ?_, fun _ => own_strs hown fun x hx => ?_, fun g => absurd HC.out g⟩, hB⟩
        · rw [HE.out]
          rfl
        · obtain ⟨n, hn, rfl⟩ := List.mem_map.1 ((ord_in HC.out s.length (Nat.le_refl _)).2.1 x hx)
          have := (HSM.out.all n hn).name
          unfold maxLen; omega
      have hLp := waits_more HC.out hlt HW.out
      have i0 : (0 : Int) < (L.length : Int) := by omega
      have hkl := ord_len HC.out k (by omega)
      rw [hkl] at hown
      obtain ⟨Ao, co, rfl, _, _, _⟩ := own_rd hown
      have HKL := Lib.hid hkl
      clear hkl
      have hln := hM.len 3
      go_wp2_with fail
      clear hln
      obtain ⟨w8, rfl⟩ : ∃ w8 : World, w8 = wr := ⟨_, rfl⟩
      go_loopw [8, 36] (fun o i wr => o = .slice Ao k co ∧ ∃ j : Nat, j ≤ s.length ∧ i = .int .i64 j ∧ Hid (∀ m, m < j → ∀ x, s[m]? = some x → ¬ Ready (ordTo s k) x) ∧ Below w8.heap.size w8 wr) (fun _ i _ => s.length - (intOf i).toNat)
      case atStart => exact ⟨rfl, 0, Nat.zero_le _, rfl, fun j h => absurd h (by omega), Below.refl _ _⟩
      case round =>
        obtain ⟨rfl, j, hj, rfl, HN, hbj⟩ := hrel
        by_cases hlj : j < s.length
        rotate_left 1
        · obtain rfl : j = s.length := by omega
          exact (no_pick HC.out hlt HN.out).elim
        have hBj := hB.trans (hbj.mono hsB)
        have hsj := hbj.size
        obtain ⟨b, off, n, a, hA, hb, hn, hat, d0, d1, d2, d3, d4, d5, d6⟩ := (HS.out wr hBj).nd hlj
        subst hA
        have HX := Lib.hid hn
        have HNM := Lib.hid (List.mem_of_getElem? hn)
        have hnm := hat.name
        have i2 : (0 : Int) ≤ (j : Int) := by omega
        have i3 : (j : Int) < (s.length : Int) := by omega
        have rn1 := Row.new wr (ndArr n a) 36
        have ba : Below wr.heap.size wr (wr.alloc (.cells (ndArr n a) 36)) := bE
        have ba8 := hbj.trans (ba.mono hsj)
        clear hn hat c0 p0
        go_upto_region 15 with (fail)
        clear d0 d1 d2 d3 d4 d5 d6
        generalize hW9 : wr.alloc (.cells (ndArr n a) 36) = w9 at *
        clear hW9
        have hs9 := ba8.size
        have hM9 := hM.below ba8 hM.lt
        have rp9 := rp.below ba8 rp.lt
        have p9 : w9.cell? ⟨w5.heap.size + 1, 0, none⟩ = some (.map (some w5.heap.size)) := (rp9.cell 0).trans rfl
        have hbo9 := hbo.trans (ba8.mono hbo.size)
        have hU9 := hU5.below hbo9
        obtain ⟨A9, c9, hlk9, r1, r2, r3⟩ := hU9.look hnm
        rw [usesAt_self H0.out HNM.out] at hlk9 r1 r3
        have HCF := Lib.hid (containsFn_any (usesF n) L A9 c9 (w5.heap.size + 1) w5.heap.size w9 r1 r2 r3 p9 hM9)
        obtain ⟨P1, HP1⟩ : ∃ P : Bool, Hid (cB (n.name ∈ L) = P) := ⟨_, rfl⟩
        obtain ⟨P2, HP2⟩ : ∃ P : Bool, Hid (cB (∃ y ∈ usesF n, y ∈ L) = P) := ⟨_, rfl⟩
        rw [HP2.out] at HCF
        have hlv := MetS.val hM9 hnm (P := P1) (by rw [← HP1.out]; exact cB_iff)
        have HRD := Lib.hid (waits_ready H0.out HNM.out HW.out)
        obtain ⟨d0, d1, d2, d3, d4, d5, d6⟩ := rn1.nd
        clear r1 r3
        by_cases hR : P1 = true ∧ P2 = false
        · obtain ⟨rfl, rfl⟩ := hR
          have HR := Lib.hid (HRD.out.2 ⟨cB_iff.1 HP1.out, cB_not.1 HP2.out⟩)
          have HPK := Lib.hid (pick_at HN.out HX.out HR.out)
          simp only [cond_true] at hlv
          have hown9 := own_below hown ba8
          go_wp2_with (first
            | (go_at_call 37; refine Calls.mono HCF.out ?_; rintro e w10 ⟨rfl, rfl⟩)
            | (at_builtin; refine wpList_append_str rfl _ _ rfl w7.heap.size (ordTo s k) k _ rfl (hown9.alloc _) HKL.out.symm w10.heap.size n.name rfl (((Row.new w10 #[.string n.name] 9).cell 0).trans rfl) (by rw [HKL.out]; have := HSM.out.len; omega) (by first | omega | (simp; omega)) ?_; intro v11 w11 o11 g11; have rp11 : Row w11 (w5.heap.size + 1) #[.map (some w5.heap.size)] 58 := (g11.block _ (rp9.alloc _).lt (fun e => by have := (hown9.lt _ e.symm).1; omega)).trans (rp9.alloc _); have rn11 : Row w11 wr.heap.size (ndArr n a) 36 := (g11.block _ (rn1.alloc _).lt (fun e => by have := (hown.lt _ e.symm).2; omega)).trans (rn1.alloc _); have hM11 := (hM9.alloc (.cells #[.string n.name] 9)).grown g11 (fun e => by have := (hown9.lt _ e.symm).1; omega); have p11 : w11.cell? ⟨w5.heap.size + 1, 0, none⟩ = some (.map (some w5.heap.size)) := (rp11.cell 0).trans rfl; obtain ⟨t0, t1, t2, t3, t4, t5, t6⟩ := rn11.nd; obtain ⟨w12, hr12, m12, g12⟩ := hM11.drop hnm 0))
          have rp12 := row_map rp11 hM11 g12
          have o12 := o11.kept g12 (.inr (fun e => by have := (o11.lt _ e).1; omega))
          have hbo11 : Below w5.heap.size w5 w11 := (hbo9.alloc hbo9.size (.cells #[.string n.name] 9)).grown g11 (by have := hbo9.size; simp; omega) (fun k e => by have := (hown9.lt _ e).1; omega)
          have hbo12 := hbo11.grown g12 hbo11.size (fun k e => by cases e; exact Nat.le_refl _)
          have hz11 := g11.size
          have hz12 := g12.size
          rw [World.size_alloc] at hz11
          have HW12 := Lib.hid (waits_drop (x := n.name) HW.out)
          obtain ⟨A12, c12, rfl, _, _, _⟩ := own_rd o12
          go_roundw
          case rel => exact ⟨k + 1, dropN L n.name, by omega, by rw [ordTo_succ HPK.out]; exact o12, m12, by have := dropN_le (l := L) (nm := n.name); omega, by rw [ordTo_succ HPK.out]; exact HW12, rp12, hbo12, by omega⟩
          case measure =>
            simp only [sliceLen, List.length_append, List.length_cons, List.length_nil, HKL.out]
            omega
        · have HNR : Hid (¬ Ready (ordTo s k) n) := fun g => by
            obtain ⟨g1, g2⟩ := HRD.out.1 g
            exact hR ⟨by rw [← HP1.out]; exact cB_true g1, by rw [← HP2.out]; exact cB_false g2⟩
          have HN' := Lib.hid (step_uptoI (P := fun _ x => ¬ Ready (ordTo s k) x) HN.out HX.out HNR.out)
          have hq : P1 = false ∨ (P1 = true ∧ P2 = true) := by cases P1 <;> cases P2 <;> simp_all
          clear hR
          rcases hq with rfl | ⟨rfl, rfl⟩
          · simp only [cond_false] at hlv
            go_wp2_with (go_at_call 37; refine Calls.mono HCF.out ?_; rintro e w10 ⟨rfl, rfl⟩)
            go_roundw
            case rel => exact ⟨rfl, j + 1, by omega, by go_num, HN', ba8⟩
            case measure => first | (simp [intOf]; omega) | simp [intOf]
          · simp only [cond_true] at hlv
            go_wp2_with (go_at_call 37; refine Calls.mono HCF.out ?_; rintro e w10 ⟨rfl, rfl⟩)
            go_roundw
            case rel => exact ⟨rfl, j + 1, by omega, by go_num, HN', ba8⟩
            case measure => first | (simp [intOf]; omega) | simp [intOf]
end Go.Proofs.YtabceednmgijoaaGreat
