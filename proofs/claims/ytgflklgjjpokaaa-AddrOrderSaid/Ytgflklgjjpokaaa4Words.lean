/-
  More words on memory: an append of one element where the walk spells the new block's number otherwise.
-/
import Derived.Test.Ytgflklgjjpokaaa1Words
namespace Go.Proofs.Ytgflklgjjpokaaa
open Go.RowKit

/-- Append of one new element, whose block's number the walk spells H. -/
theorem wpList_append_newH {P : Program} {ops : Array Oper} {rest : List Oper} {o : Oper} {a : Act} {Q : Exit → Act → World → Prop} (w w0 : World) (H : Nat) (hH : w0.heap.size = H) (hgd : o.guard = none) (s x : Operand) (t : TypeId)
    (ho : o.op = .call { callee := .builtin .append, args := #[s, x], argTypes := #[t, t] })
    (base : Nat) (e : TypeId) (i : TypeInfo) (z : Value) (size bytes : Nat) (ht : P.underlying t = some (.slice e)) (hi : P.info? e = some i) (hz : i.zero = some z)
    (hsize : i.size = size) (hby : i.bytes = bytes) (hzs : z.cells.size = size) (hsz : 0 < size) (hb4 : bytes ≤ 4096)
    (v : Value) (n : Nat) (xs : List Value) (hs : a.eval s = v) (hown : w0.ownsRow base e size v n xs)
    (cs : Array Value) (hcs : cs.size = size) (h1 : ∀ u ∈ cs.toList, u.oneCell' = true) (hx : a.eval x = .slice (some ⟨H, 0, none⟩) 1 1)
    (hw : w = w0.alloc (.cells cs e)) (hn : n ≤ 1000000000) (hbase : base ≤ w0.heap.size)
    (h : ∀ v' w', w'.ownsRow base e size v' (n + 1) (xs ++ cs.toList) → Below base w0 w' → wpList P ops Q rest (a.put o.dst v') w') : wpList P ops Q (o :: rest) a w := by
  subst hH
  exact wpList_append_new w w0 hgd s x t ho base e i z size bytes ht hi hz hsize hby hzs hsz hb4 v n xs hs hown cs hcs h1 hx hw hn hbase h
end Go.Proofs.Ytgflklgjjpokaaa
