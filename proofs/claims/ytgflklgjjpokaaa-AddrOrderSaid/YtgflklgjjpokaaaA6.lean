/-
  Words on lists of claims in memory (layer 8).
-/
import Derived.Test.YtgflklgjjpokaaaA5
import Derived.Test.YtgflklgjjpokaaaAP4
namespace Go.Proofs.Ytgflklgjjpokaaa
open Go.RowKit

def Cl.cells (c : Cl) : List Value := [.int .u64 c.eui, .int .i64 c.addr, .int .i64 c.try_]
def clCells (l : List Cl) : List Value := l.flatMap Cl.cells
theorem Cl.cells_length (c : Cl) : c.cells.length = 3 := rfl
theorem clCells_length (l : List Cl) : (clCells l).length = l.length * 3 := by
  induction l with
  | nil => rfl
  | cons x l ih => simp only [clCells, List.flatMap_cons, List.length_append, Cl.cells_length, List.length_cons] at ih ⊢; omega
theorem clCells_get {l : List Cl} {k j : Nat} (hk : k < l.length) (hj : j < 3) : (clCells l)[k * 3 + j]? = l[k].cells[j]? := by
  induction l generalizing k with
  | nil => simp at hk
  | cons x l ih =>
    cases k with
    | zero =>
      simp only [clCells, List.flatMap_cons, List.getElem_cons_zero]
      rw [List.getElem?_append_left (by rw [Cl.cells_length]; omega)]
      congr 1; omega
    | succ k =>
      simp only [clCells, List.flatMap_cons, List.getElem_cons_succ]
      rw [List.getElem?_append_right (by rw [Cl.cells_length]; omega), Cl.cells_length, show (k + 1) * 3 + j - 3 = k * 3 + j by omega]
      exact ih (by simpa using hk)
theorem clCells_append (l m : List Cl) : clCells (l ++ m) = clCells l ++ clCells m := by simp [clCells]
theorem clCells_one (l : List Cl) : ∀ u ∈ clCells l, u.oneCell' = true := by
  intro u hu
  simp only [clCells, List.mem_flatMap, Cl.cells, List.mem_cons, List.not_mem_nil, or_false] at hu
  obtain ⟨x, _, rfl | rfl | rfl⟩ := hu <;> rfl
/-- A slice value that reads as a list of claims. -/
def RCls (w : World) (A : Option Addr) (l : List Cl) : Prop := Reads w w.heap.size 3 A l.length (clCells l)
section
variable {w w' : World} {A : Option Addr} {l : List Cl}
theorem RCls.below (h : RCls w A l) (hb : Below w.heap.size w w') : RCls w' A l := (Reads.below h hb).more hb.size
theorem RCls.alloc (h : RCls w A l) (o : Obj) : RCls (w.alloc o) A l := (Reads.alloc h (Nat.le_refl _) o).more (by simp)
theorem RCls.drewN (h : RCls w A l) (n : Nat) : RCls (w.drewN n) A l := h
theorem RCls.nil : RCls w A [] := ⟨by simp [clCells], fun h => absurd h (by simp)⟩
theorem RCls.at' {k : Nat} (h : RCls w A l) (hk : k < l.length) : ∃ b o, A = some ⟨b, o, none⟩ ∧ b < w.heap.size ∧ w.cell? ⟨b, o + k * 3, none⟩ = some (.int .u64 l[k].eui) ∧
    w.cell? ⟨b, o + k * 3 + 1, none⟩ = some (.int .i64 l[k].addr) ∧ w.cell? ⟨b, o + k * 3 + 2, none⟩ = some (.int .i64 l[k].try_) := by
  obtain ⟨ad, e, hb, hc⟩ := h.2 (by omega)
  have hc0 := hc 0 (.int .u64 (l[0]'(by omega)).eui) (clCells_get (k := 0) (j := 0) (by omega) (by omega))
  obtain ⟨b, o, sp⟩ := ad
  have hsp : sp = none := by
    cases sp with
    | none => rfl
    | some x =>
      simp only [Addr.add, if_pos, World.cell?] at hc0
      split at hc0 <;> simp at hc0
  subst hsp
  have hg : ∀ j u, j < 3 → l[k].cells[j]? = some u → w.cell? ⟨b, o + k * 3 + j, none⟩ = some u := by
    intro j u hj hu
    have := hc (k * 3 + j) u ((clCells_get hk hj).trans hu)
    rw [addr_add] at this
    rwa [Nat.add_assoc]
  exact ⟨b, o, e, hb, hg 0 _ (by omega) rfl, hg 1 _ (by omega) rfl, hg 2 _ (by omega) rfl⟩
theorem rcls_own {base : Nat} {e : TypeId} {v : Value} {n : Nat} (h : w.ownsRow base e 3 v n (clCells l)) : ∃ A c, v = .slice A l.length c ∧ RCls w A l ∧ ∀ ad, A = some ad → base ≤ ad.block := by
  obtain ⟨A, c, rfl⟩ := own_form h
  have hn : n = l.length := by have := h.1; rw [clCells_length] at this; omega
  subst hn
  exact ⟨A, c, rfl, Reads.of_own h, own_fresh h⟩
theorem rcls_lit {W : World} (cs : Array Value) (t : TypeId) {l : List Cl} (hcs : cs.toList = clCells l) : RCls (W.alloc (.cells cs t)) (some ⟨W.heap.size, 0, none⟩) l := by
  refine ⟨by rw [clCells_length], fun _ => ⟨_, rfl, by simp, fun j u hu => ?_⟩⟩
  rw [addr_add, Nat.zero_add, (Blk.new W t cs).cell j, ← hu, ← hcs]
  simp
end
theorem wf_u64 {x : Int} (h : 0 ≤ x ∧ x < 18446744073709551616) : (Lit.int .u64 x).wf = true := by
  simp [Lit.wf, IntKind.min, IntKind.max, IntKind.signed, IntKind.bits]
  omega
theorem cell_below {p : Addr} {x : Value} {W W' : World} (h : W.cell? p = some x) (hb : Below W.heap.size W W') : W'.cell? p = some x := (hb.cell (World.block_lt_of_cell? _ _ h)).trans h
end Go.Proofs.Ytgflklgjjpokaaa
