/-
  The plain mathematics of the check of several loads (layer 41): the first error.
-/
import Derived.Test.YtnibhdpgjmdkeaaLP4
namespace Go.Proofs.Ytnibhdpgjmdkeaa

def dupTo (l : List Ld) (i k : Nat) : Prop := ∃ x, l[i]? = some x ∧ ∃ y ∈ l.take k, y.name = x.name
instance (l : List Ld) (i k : Nat) : Decidable (dupTo l i k) :=
  match h : l[i]? with
  | none => .isFalse (by rintro ⟨x, hx, _⟩; rw [h] at hx; cases hx)
  | some x => if h2 : ∃ y ∈ l.take k, y.name = x.name then .isTrue ⟨x, h, h2⟩ else .isFalse (by rintro ⟨z, hz, hh⟩; rw [h] at hz; injection hz with hz; subst hz; exact h2 hh)
def loadErr (l : List Ld) (n : Int) (i : Nat) : Int := match l[i]? with
  | none => 0
  | some x => if x.chk n = 0 then (if dupTo l i i then 9 else 0) else x.chk n
def allTo (l : List Ld) (n : Int) : Nat → Int
  | 0 => 0
  | k + 1 => if allTo l n k = 0 then loadErr l n k else allTo l n k
def allChk (l : List Ld) (n : Int) : Int := if 4 < l.length then 3 else allTo l n l.length
theorem allTo_stay {l : List Ld} {n : Int} {k m : Nat} (h : allTo l n k ≠ 0) (hm : k ≤ m) : allTo l n m = allTo l n k := by
  induction m with
  | zero => rw [show k = 0 by omega]
  | succ m ih =>
    by_cases e : k = m + 1
    · rw [e]
    · have := ih (by omega)
      rw [allTo, this, if_neg h]
theorem allTo_hit {l : List Ld} {n : Int} {k : Nat} (h0 : allTo l n k = 0) (h : loadErr l n k ≠ 0) (hk : k < l.length) (h4 : l.length ≤ 4) : allChk l n = loadErr l n k := by
  unfold allChk
  rw [if_neg (by omega)]
  have h1 : allTo l n (k + 1) = loadErr l n k := by rw [allTo, if_pos h0]
  rw [allTo_stay (k := k + 1) (by rw [h1]; exact h) (by omega), h1]
theorem allTo_go {l : List Ld} {n : Int} {k : Nat} (h0 : allTo l n k = 0) (h : loadErr l n k = 0) : allTo l n (k + 1) = 0 := by rw [allTo, if_pos h0, h]
theorem loadErr_bad {l : List Ld} {n : Int} {k : Nat} (hk : k < l.length) (h : l[k].chk n ≠ 0) : loadErr l n k = l[k].chk n := by
  unfold loadErr; rw [List.getElem?_eq_getElem hk]; simp only []; rw [if_neg h]
theorem loadErr_dup {l : List Ld} {n : Int} {k j : Nat} (hk : k < l.length) (h : l[k].chk n = 0) (hj : j < k) (e : l[j].name = l[k].name) : loadErr l n k = 9 := by
  unfold loadErr; rw [List.getElem?_eq_getElem hk]; simp only []
  rw [if_pos h, if_pos]
  refine ⟨_, List.getElem?_eq_getElem hk, l[j], ?_, e⟩
  rw [List.mem_iff_getElem]
  exact ⟨j, by rw [List.length_take]; omega, by simp⟩
theorem loadErr_ok {l : List Ld} {n : Int} {k : Nat} (hk : k < l.length) (h : l[k].chk n = 0) (hd : ¬ dupTo l k k) : loadErr l n k = 0 := by
  unfold loadErr; rw [List.getElem?_eq_getElem hk]; simp only []
  rw [if_pos h, if_neg hd]
theorem dupTo_zero (l : List Ld) (i : Nat) : ¬ dupTo l i 0 := by rintro ⟨x, _, y, hy, _⟩; simp at hy
theorem dupTo_succ {l : List Ld} {i j : Nat} (hi : i < l.length) (hj : j < l.length) (h : ¬ dupTo l i j) (e : l[j].name ≠ l[i].name) : ¬ dupTo l i (j + 1) := by
  rintro ⟨x, hx, y, hy, hn⟩
  rw [List.take_succ_eq_append_getElem hj, List.mem_append, List.mem_singleton] at hy
  rcases hy with hy | rfl
  · exact h ⟨x, hx, y, hy, hn⟩
  · rw [List.getElem?_eq_getElem hi] at hx
    injection hx with hx
    subst hx
    exact e hn
end Go.Proofs.Ytnibhdpgjmdkeaa
