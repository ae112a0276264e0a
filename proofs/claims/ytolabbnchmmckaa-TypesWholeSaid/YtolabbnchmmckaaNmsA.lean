/-
  The names of variables in an expression, plain; the contract of tompionref12.Names.
-/
import Derived.Test.YtolabbnchmmckaaClkA
import Derived.Test.YtolabbnchmmckaaTreeList
import Derived.Test.YtolabbnchmmckaaTreePlain
namespace Go.Proofs.Ytolabbnchmmckaa
open Go.RowKit
open Classical in
noncomputable def addNm (out : List ByteArray) (x : Ex) : List ByteArray := if namesB x.op = true ∧ x.name ∉ out then out ++ [x.name] else out
noncomputable def nmsOf (l : List Ex) : List ByteArray := l.foldl addNm []
theorem nms_snoc (l : List Ex) (x : Ex) : nmsOf (l ++ [x]) = addNm (nmsOf l) x := by unfold nmsOf; rw [List.foldl_append]; rfl
theorem addNm_yes {out : List ByteArray} {x : Ex} (h : namesB x.op = true) (h' : x.name ∉ out) : addNm out x = out ++ [x.name] := by unfold addNm; rw [if_pos ⟨h, h'⟩]
theorem addNm_no {out : List ByteArray} {x : Ex} (h : namesB x.op = true → x.name ∈ out) : addNm out x = out := by unfold addNm; rw [if_neg (fun g => g.2 (h g.1))]
theorem nms_rev {P : List Ex → Prop} (h0 : P []) (h1 : ∀ l x, P l → P (l ++ [x])) (l : List Ex) : P l := by
  have : ∀ m : List Ex, P m.reverse := by
    intro m
    induction m with
    | nil => exact h0
    | cons x m ih => rw [List.reverse_cons]; exact h1 _ _ ih
  have := this l.reverse
  rwa [List.reverse_reverse] at this
theorem nms_mem (l : List Ex) : ∀ nm, nm ∈ nmsOf l ↔ ∃ x ∈ l, namesB x.op = true ∧ x.name = nm := by
  refine nms_rev (P := fun l => ∀ nm, nm ∈ nmsOf l ↔ ∃ x ∈ l, namesB x.op = true ∧ x.name = nm) ?_ ?_ l
  · intro nm; simp [nmsOf]
  · intro l x ih nm
    rw [nms_snoc]
    by_cases h : namesB x.op = true ∧ x.name ∉ nmsOf l
    · rw [addNm_yes h.1 h.2, List.mem_append, ih]
      constructor
      · rintro (⟨y, hy, h1, h2⟩ | h2)
        · exact ⟨y, List.mem_append_left _ hy, h1, h2⟩
        · simp at h2; exact ⟨x, by simp, h.1, h2.symm⟩
      · rintro ⟨y, hy, h1, h2⟩
        rcases List.mem_append.1 hy with hy | hy
        · exact .inl ⟨y, hy, h1, h2⟩
        · simp at hy; subst hy; exact .inr (by simp [h2])
    · rw [addNm_no (fun g => Classical.byContradiction fun g' => h ⟨g, g'⟩), ih]
      constructor
      · rintro ⟨y, hy, h1, h2⟩
        exact ⟨y, List.mem_append_left _ hy, h1, h2⟩
      · rintro ⟨y, hy, h1, h2⟩
        rcases List.mem_append.1 hy with hy | hy
        · exact ⟨y, hy, h1, h2⟩
        · simp at hy; subst hy
          have := Classical.byContradiction fun g' => h ⟨h1, g'⟩
          rw [ih, h2] at this
          exact this
theorem nms_len (l : List Ex) : (nmsOf l).length ≤ l.length := by
  refine nms_rev (P := fun l => (nmsOf l).length ≤ l.length) (Nat.le_refl _) ?_ l
  intro l x ih
  rw [nms_snoc, List.length_append]
  by_cases h : namesB x.op = true ∧ x.name ∉ nmsOf l
  · rw [addNm_yes h.1 h.2, List.length_append]; simp; omega
  · rw [addNm_no (fun g => Classical.byContradiction fun g' => h ⟨g, g'⟩)]; simp; omega
theorem info_str : (Try.prog.info? 9).map (fun i => (i.zero, i.size, i.bytes)) = some (some (.string ⟨#[]⟩), 1, 16) := by kernel_rfl
theorem isStr_one {x : ByteArray} {cs : List Value} (h : isStr x cs) : cs.length = 1 ∧ ∀ u ∈ cs, u.oneCell' = true := by
  obtain ⟨rfl, _⟩ := h
  refine ⟨rfl, fun u hu => ?_⟩
  simp at hu; subst hu; rfl
/-- a row of texts of the call's own -/
def StrsO (B : Nat) (w : World) (l : List ByteArray) (v : Value) : Prop := ∃ css, w.ownsRow B 9 1 v l.length css.flatten ∧ Are isStr l css
theorem StrsO.sl {B : Nat} {w : World} {l : List ByteArray} {v : Value} (h : StrsO B w l v) : ∃ A cap, v = .slice A l.length cap ∧ l.length ≤ cap ∧ cap ≤ maxLen ∧ Sl w w.heap.size 1 isStr A l := by
  obtain ⟨css, h1, h2⟩ := h
  obtain ⟨⟨A, cap, e1, e2, e3, e4⟩, _⟩ := own_sl h1 h2 (h2.all (fun _ _ _ h => (isStr_one h).1)) (by decide)
  exact ⟨A, cap, e1, e2, e3, e4⟩
theorem StrsO.nil (B : Nat) (w : World) : StrsO B w [] (.slice none 0 0) := ⟨[], ⟨rfl, .inl ⟨rfl, rfl⟩⟩, Are.nil⟩
theorem StrsO.below {B : Nat} {w w' : World} {l : List ByteArray} {v : Value} (h : StrsO B w l v) (hb : Below w.heap.size w w') : StrsO B w' l v := by
  obtain ⟨css, h1, h2⟩ := h
  exact ⟨css, own_below h1 hb, h2⟩
theorem StrsO.base {B B' : Nat} {w : World} {l : List ByteArray} {v : Value} (h : StrsO B w l v) (hB : B' ≤ B) : StrsO B' w l v := by
  obtain ⟨css, h1, h2⟩ := h
  exact ⟨css, own_base h1 hB, h2⟩
theorem exs_name {w : World} {B : Nat} {A : Option Addr} {l : List Ex} (h : IsExs w B A l) : ∀ x ∈ l, x.name.size ≤ maxLen := fun x hx => by
  obtain ⟨i, hi⟩ := List.getElem?_of_mem hx
  obtain ⟨b, off, y, A', cap', _, _, hy, _, ok, _⟩ := h.at_ (List.getElem?_eq_some_iff.1 hi).1
  rw [hi] at hy
  injection hy with hy
  rw [hy]; exact ok.name
set_option maxRecDepth 100000 in
set_option maxHeartbeats 4000000 in
theorem rnames_any (e : Ex) (A : Option Addr) (cap : Nat) (w : World) (hok : ExOk e) (hcap : e.args.length ≤ cap) (hmax : cap ≤ maxLen) (hx : IsExs w w.heap.size A e.args) (hs : exSize e ≤ 1000) :
    Calls Try.prog 23 #[exV e A cap] w fun r w' => (∃ v, r = .returned v ∧ StrsO w.heap.size w' (nmsOf (exList e)) v) ∧ Below w.heap.size w w' := by
  obtain ⟨i0, hi0, hz0, hz1, hz2⟩ := info_parts info_str
  have hB0 : Below w.heap.size w (w.alloc (.cells #[.int .i64 e.op, .string e.name, .int .i64 e.n, .slice A e.args.length cap, .int .i64 e.line, .int .i64 e.col] 26)) := (Below.refl _ _).alloc (Nat.le_refl _) _
  go_enter Try.func23, Try.ntmps23
  go_wp2_with fail
  refine (list_any w.heap.size e A cap _ hok hcap hmax (by simp) (hx.below hB0) (by omega)).mono ?_
  rintro r w1 ⟨v, css, rfl, hown, hare, hb1⟩
  have hb1' : Below (w.heap.size + 1) (w.alloc (.cells #[.int .i64 e.op, .string e.name, .int .i64 e.n, .slice A e.args.length cap, .int .i64 e.line, .int .i64 e.col] 26)) w1 := by simpa using hb1
  obtain ⟨_, hbel1, hsz1⟩ := exBox hb1'
  obtain ⟨A1, c1, rfl, hn, hl1, hm1, hx1⟩ := own_exs hown hare (by omega)
  clear hown hare hb1 hn
  generalize hLL : exList e = L at *
  have hlen : L.length ≤ 1000 := by rw [← hLL]; exact hs
  have HLL := Lib.hid hLL
  clear hLL
  have hm1' : c1 ≤ 9223372036854775807 := by unfold maxLen at hm1; omega
  have HX1 := Lib.hid hx1
  have HNM := Lib.hid (exs_name hx1)
  clear hx1
  go_wp2_with fail
  go_loopw [4, 5] (fun v i wr => ∃ k : Nat, k ≤ L.length ∧ i = .int .i64 k ∧ StrsO w1.heap.size wr (nmsOf (L.take k)) v ∧ Below w1.heap.size w1 wr) (fun _ i _ => L.length - (intOf i).toNat)
  case atStart => exact ⟨0, Nat.zero_le _, rfl, StrsO.nil _ _, Below.refl _ _⟩
  case round =>
    obtain ⟨k, hk, rfl, hso, hbr⟩ := hrel
    have hszr := hbr.size
    obtain ⟨A2, c2, rfl, hl2, hm2, hs2⟩ := hso.sl
    have HS2 := Lib.hid hs2
    have HO := Lib.hid hso
    have hln := nms_len (L.take k)
    have hln2 : (L.take k).length ≤ k := List.length_take_le _ _
    clear hs2 hso
    by_cases hlt : k < L.length
    · obtain ⟨b, off, x, A', cap', rfl, hb, hxk, hxm, hok', hcap', hmax', hx', d0, d1, d2, d3, d4, d5⟩ := (HX1.out.below hbr).at_ hlt
      have HT : Hid (nmsOf (L.take (k + 1)) = addNm (nmsOf (L.take k)) x) := by show _ = _; rw [List.take_add_one, hxk]; exact nms_snoc _ _
      have hnx := HNM.out x hxm
      have HI := Lib.hid (in_str (nmsOf (L.take k)) x.name A2 c2 wr.heap.size wr hl2 hm2 HS2.out)
      clear hxk hxm hx'
      generalize nmsOf (L.take k) = out at *
      have hl0 : out.length ≤ 1000 := by omega
      by_cases hnb : namesB x.op = true
      · have hcs : (x.op == 3) = true ∨ ((x.op == 3) = false ∧ decide (24 ≤ x.op) = true ∧ decide (x.op ≤ 26) = true) := by
          have h : x.op = 3 ∨ x.op = 24 ∨ x.op = 25 ∨ x.op = 26 := by simpa [namesB] using hnb
          rcases h with h | h
          · exact .inl (by rw [beq_iff_eq]; exact h)
          · exact .inr ⟨by rw [beq_eq_false_iff_ne]; omega, by simp; omega, by simp; omega⟩
        by_cases hin : x.name ∈ out
        · have HT2 := Lib.hid (HT.out.trans (addNm_no fun _ => hin))
          have HB := Lib.hid (cB_true hin)
          clear hnb hin
          rcases hcs with o3 | ⟨o3, o24, o26⟩
          all_goals
            go_wp2_with fail
            refine HI.out.mono ?_
            rintro r w2 ⟨rfl, rfl⟩
            rw [HB.out]
            go_wp2_with fail
            go_roundw
            case rel => exact ⟨k + 1, by omega, by go_num, by rw [HT2.out]; exact HO.out, hbr⟩
            case measure => simp [intOf]; omega
        · have HT2 := Lib.hid (HT.out.trans (addNm_yes hnb hin))
          have HB := Lib.hid (cB_false hin)
          obtain ⟨css2, ho2, ha2⟩ := HO.out
          have HA2 := Lib.hid ha2
          have r3 := Row.new wr #[.string x.name] 9
          have ho3 := ho2.alloc (.cells #[.string x.name] 9)
          have HS3 : Hid (Sl (wr.alloc (.cells #[.string x.name] 9)) (wr.alloc (.cells #[.string x.name] 9)).heap.size 1 isStr (some ⟨wr.heap.size, 0, none⟩) [x.name]) := sl_one (cs := [.string x.name]) r3 r3.lt ⟨rfl, hnx⟩
          clear hnb hin ho2 ha2 r3 HO
          rcases hcs with o3 | ⟨o3, o24, o26⟩
          all_goals
            go_wp2_with fail
            refine HI.out.mono ?_
            rintro r w2 ⟨rfl, rfl⟩
            rw [HB.out]
            go_wp2_with (at_builtin; refine wpList_append_sl rfl _ _ 46 rfl w1.heap.size 9 i0 _ 1 16 Try.underlying46 hi0 hz0 hz1 hz2 rfl (by decide) _ _ _ rfl ho3 (some ⟨wr.heap.size, 0, none⟩) [x.name] 1 rfl HS3.out (fun _ _ h => isStr_one h) (by unfold maxLen; simp; omega) (by simp; omega) (by simp; omega) ?_)
            intro v4 w4 css4 ho4 ha4 hb4 _
            have HS4 : Hid (StrsO w1.heap.size w4 (nmsOf (L.take (k + 1))) v4) := by
              show StrsO _ _ _ _
              rw [HT2.out]
              exact ⟨css2 ++ css4, by rw [List.flatten_append, List.length_append]; exact ho4, HA2.out.append ha4⟩
            have hb5 := (hbr.alloc hszr (.cells #[.string x.name] 9)).trans hb4
            clear ho4 ha4
            go_wp2_with fail
            go_roundw
            case rel => exact ⟨k + 1, by omega, by go_num, HS4.out, hb5⟩
            case measure => simp [intOf]; omega
      · have HT2 := Lib.hid (HT.out.trans (addNm_no fun g => absurd g hnb))
        have hcs : (x.op == 3) = false ∧ (decide (24 ≤ x.op) = false ∨ (decide (24 ≤ x.op) = true ∧ decide (x.op ≤ 26) = false)) := by
          have h : ¬ (x.op = 3 ∨ x.op = 24 ∨ x.op = 25 ∨ x.op = 26) := by simpa [namesB] using hnb
          refine ⟨by rw [beq_eq_false_iff_ne]; omega, ?_⟩
          by_cases h2 : 24 ≤ x.op
          · exact .inr ⟨by simpa using h2, by simp; omega⟩
          · exact .inl (by simp; omega)
        obtain ⟨o3, hcs⟩ := hcs
        clear hnb HI
        rcases hcs with o24 | ⟨o24, o26⟩
        all_goals
          go_wp2_with fail
          go_roundw
          case rel => exact ⟨k + 1, by omega, by go_num, by rw [HT2.out]; exact HO.out, hbr⟩
          case measure => simp [intOf]; omega
    · obtain rfl : k = L.length := by omega
      rw [List.take_length] at *
      go_wp2_with fail
      go_ret
      refine ⟨⟨_, rfl, ?_⟩, hbel1.trans (hbr.mono (by omega))⟩
      rw [HLL.out]
      exact HO.out.base (by omega)
end Go.Proofs.Ytolabbnchmmckaa
