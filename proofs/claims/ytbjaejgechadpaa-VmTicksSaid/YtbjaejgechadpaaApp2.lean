/-
  Appends of whatever slice, nil let in; arguments that are rows of numbers.
-/
import Derived.Test.YtbjaejgechadpaaOpenP
import Derived.Test.YtbjaejgechadpaaApp
import Derived.Laws.AppendOwnNone
namespace Go.Proofs.Ytbjaejgechadpaa
open Go.RowKit Vf
/-- a slice that is nil is the nil slice -/
def NilOk (v : Value) : Prop := ∀ n c, v = .slice none n c → n = 0 ∧ c = 0
theorem NilOk.some {ad : Addr} {n c : Nat} : NilOk (.slice (some ad) n c) := fun _ _ h => by injection h with h; cases h
theorem NilOk.nil : NilOk (.slice none 0 0) := fun _ _ h => by injection h with _ h1 h2; exact ⟨h1.symm, h2.symm⟩
theorem own_nilOk {w : World} {base : Nat} {e : TypeId} {size : Nat} {v : Value} {n : Nat} {xs : List Value} (h : w.ownsRow base e size v n xs) : NilOk v := by
  rcases h.2 with ⟨rfl, _⟩ | ⟨g, cap, cur, rfl, _⟩
  · exact NilOk.nil
  · exact NilOk.some
/-- a row of numbers that came in -/
def IntsIs (w : World) (l : List Int) (v : Value) : Prop := SlV w w.heap.size 1 isInt v l ∧ NilOk v
section
variable {H : Type} {enc : TypeId × Value → H} {w : World} {spare : Nat → Bool} {held : Bool}
set_option maxRecDepth 100000 in
theorem open_intsN {base : Nat} {v : Value} {d : DataW H} {p : List MemPlace} {r : Reach} (hv : Value.okWide Try.prog w r base 22 v) (h : DataW.Trod enc Try.prog w 0 spare held 22 v d p) : ∃ l, IntsIs w l v := by
  obtain ⟨a, len, cap, rfl⟩ := WideShapes.okWide_slice Try.underlying22 hv
  obtain ⟨fuel, hf⟩ := h
  obtain ⟨l, hl⟩ := open_ints hf
  refine ⟨l, hl, ?_⟩
  rcases DataW.trod_slice Try.underlying22 hf with ⟨hc, _⟩ | ⟨a', len', cap', elems, rest, k, hk, hc, _⟩
  · have hc' : [Value.slice a len cap] = [.slice none 0 0] := hc
    injection hc' with hc' _
    rw [hc']
    exact NilOk.nil
  · have hc' : [Value.slice a len cap] = [.slice (some a') len' cap'] := hc
    injection hc' with hc' _
    rw [hc']
    exact NilOk.some
end
section
variable {P : Program} (w : World)
theorem wpList_append_opt {ops : Array Oper} {rest : List Oper} {o : Oper} {a : Act} {Q : Exit → Act → World → Prop} (hgd : o.guard = none) (s x : Operand) (t : TypeId)
    (ho : o.op = .call { callee := .builtin .append, args := #[s, x], argTypes := #[t, t] })
    (base : Nat) (e : TypeId) (i : TypeInfo) (z : Value) (size bytes : Nat) (ht : P.underlying t = some (.slice e)) (hi : P.info? e = some i) (hz : i.zero = some z)
    (hsize : i.size = size) (hby : i.bytes = bytes) (hzs : z.cells.size = size) (hsz : 0 < size)
    (v : Value) (n : Nat) (xs : List Value) (hs : a.eval s = v) (hown : w.ownsRow base e size v n xs)
    (A : Option Addr) (m c : Nat) (news : List Value) (hx : a.eval x = .slice A m c) (hnil : NilOk (.slice A m c)) (hl : news.length = m * size) (hnews : ∀ ad, A = some ad → ∀ j u, news[j]? = some u → w.cell? (ad.add j) = some u) (h1 : ∀ u ∈ news, u.oneCell' = true)
    (h63 : n + m ≤ maxLen) (hbytes : (n + m) * bytes ≤ 140737488355328) (hbase : base ≤ w.heap.size)
    (h : ∀ v' w', w'.ownsRow base e size v' (n + m) (xs ++ news) → Below base w w' → wpList P ops Q rest (a.put o.dst v') w') : wpList P ops Q (o :: rest) a w := by
  cases A with
  | none =>
    obtain ⟨rfl, rfl⟩ := hnil m c rfl
    have hn : news = [] := List.eq_nil_of_length_eq_zero (by omega)
    subst hn
    refine wpList_append_own_none hgd s x t ho base e i size ht hi v n xs hs hown hx ?_
    refine h v w ?_ (Below.refl _ _)
    rw [List.append_nil, Nat.add_zero]
    exact hown
  | some ad =>
    refine wpList_append_any w hgd s x t ho base e i z size bytes ht hi hz hsize hby hzs hsz v n xs hs hown ad m c news hx hl (hnews ad rfl) h1 h63 hbytes hbase ?_
    intro v' w' h2 h3 _
    exact h v' w' h2 (below_own (Below.refl _ _) hown h3 hbase)
end
end Go.Proofs.Ytbjaejgechadpaa
