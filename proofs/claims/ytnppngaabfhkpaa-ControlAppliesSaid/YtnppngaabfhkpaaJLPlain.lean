/-
  The plain mathematics of names (layer 4) and of flexible loads (layer 41). No program in sight.
-/
import Derived.Calls
namespace Go.Proofs.Ytnppngaabfhkpaa
def byteN (s : ByteArray) (i : Nat) : Nat := if h : i < s.size then (s[i]'h).toNat else 0
theorem byteN_lt {s : ByteArray} {i : Nat} (h : i < s.size) : byteN s i = (s[i]'h).toNat := by unfold byteN; rw [dif_pos h]
def okByte (i c : Nat) : Bool := (decide (97 ≤ c) && decide (c ≤ 122)) || (decide (i ≠ 0) && (decide (c = 95) || (decide (c = 45) || (decide (48 ≤ c) && decide (c ≤ 57)))))
def okTo (s : ByteArray) (k : Nat) : Bool := (List.range k).all fun i => okByte i (byteN s i)
theorem okTo_succ (s : ByteArray) (k : Nat) : okTo s (k + 1) = (okTo s k && okByte k (byteN s k)) := by simp [okTo, List.range_succ, List.all_append]
theorem okTo_le {s : ByteArray} {k m : Nat} (h : okTo s k = false) (hm : k ≤ m) : okTo s m = false := by
  rw [← Bool.not_eq_true] at h ⊢
  simp only [okTo, List.all_eq_true, List.mem_range] at h ⊢
  exact fun g => h fun i hi => g i (by omega)
def nameOk (s : ByteArray) : Bool := decide (1 ≤ s.size ∧ s.size ≤ 24) && okTo s s.size
theorem okByte_cases (i c : Nat) : (okByte i c = true ∧ ((97 ≤ c ∧ c ≤ 122) ∨ ((c < 97 ∨ 122 < c) ∧ i ≠ 0 ∧ c = 95) ∨ ((c < 97 ∨ 122 < c) ∧ i ≠ 0 ∧ c ≠ 95 ∧ c = 45) ∨ ((c < 97 ∨ 122 < c) ∧ i ≠ 0 ∧ c ≠ 95 ∧ c ≠ 45 ∧ 48 ≤ c ∧ c ≤ 57))) ∨
    (okByte i c = false ∧ (c < 97 ∨ 122 < c) ∧ (i = 0 ∨ (i ≠ 0 ∧ c ≠ 95 ∧ c ≠ 45 ∧ (c < 48 ∨ 57 < c)))) := by
  unfold okByte
  by_cases h1 : 97 ≤ c <;> by_cases h2 : c ≤ 122 <;> by_cases h3 : i = 0 <;> by_cases h4 : c = 95 <;> by_cases h5 : c = 45 <;> by_cases h6 : 48 ≤ c <;> by_cases h7 : c ≤ 57 <;> simp [*] <;> omega
end Go.Proofs.Ytnppngaabfhkpaa
namespace Go.Proofs.Ytnppngaabfhkpaa
structure Ld where
  name : ByteArray
  prof : List Int
  early : Int
  late : Int
def Ld.v (r : Ld) (A : Option Addr) (c : Nat) : Value := .agg #[.string r.name, .slice A r.prof.length c, .int .i64 r.early, .int .i64 r.late]
def unitZ (n : Int) : Int := if n < 0 then 0 else if 1000 < n then 1000 else n
theorem unitZ_bd (n : Int) : 0 ≤ unitZ n ∧ unitZ n ≤ 1000 := by unfold unitZ; split <;> (try split) <;> omega
def unitOk (n : Int) : Bool := decide (0 ≤ n) && decide (n ≤ 1000)
theorem unitOk_true {n : Int} : unitOk n = true ↔ 0 ≤ n ∧ n ≤ 1000 := by simp [unitOk]
theorem unitOk_eq (n : Int) : (n != unitZ n) = !unitOk n := by
  unfold unitZ unitOk
  by_cases h : n < 0
  · rw [if_pos h]; simp [show ¬ 0 ≤ n by omega]; omega
  · rw [if_neg h]
    by_cases h2 : 1000 < n
    · rw [if_pos h2]; simp [show 0 ≤ n by omega, show ¬ n ≤ 1000 by omega]; omega
    · rw [if_neg h2]; simp [show 0 ≤ n by omega, show n ≤ 1000 by omega]
def Ld.lim (r : Ld) : Bool := decide (1 ≤ r.prof.length ∧ r.prof.length ≤ 24)
def Ld.span (r : Ld) (n : Int) : Bool := decide (1 ≤ n ∧ n ≤ 96 ∧ 0 ≤ r.early ∧ r.late ≤ n ∧ r.early ≤ r.late ∧ (r.prof.length : Int) ≤ r.late - r.early)
def Ld.chk (r : Ld) (n : Int) : Int := if nameOk r.name = true then (if r.lim = true then (if r.prof.all unitOk = true ∧ r.span n = true then 0 else 2) else 3) else 10
theorem Ld.chk_name {r : Ld} {n : Int} (h : nameOk r.name = false) : r.chk n = 10 := by unfold Ld.chk; rw [if_neg (by simp [h])]
theorem Ld.chk_lim {r : Ld} {n : Int} (h : nameOk r.name = true) (h2 : r.lim = false) : r.chk n = 3 := by unfold Ld.chk; rw [if_pos h, if_neg (by simp [h2])]
theorem Ld.chk_bad {r : Ld} {n : Int} (h : nameOk r.name = true) (h2 : r.lim = true) (h3 : r.prof.all unitOk = false ∨ r.span n = false) : r.chk n = 2 := by
  unfold Ld.chk; rw [if_pos h, if_pos h2, if_neg]; rintro ⟨a, b⟩; rcases h3 with h3 | h3 <;> simp [h3] at *
theorem Ld.chk_ok {r : Ld} {n : Int} (h : nameOk r.name = true) (h2 : r.lim = true) (h3 : r.prof.all unitOk = true) (h4 : r.span n = true) : r.chk n = 0 := by unfold Ld.chk; rw [if_pos h, if_pos h2, if_pos ⟨h3, h4⟩]
end Go.Proofs.Ytnppngaabfhkpaa
namespace Go.Proofs.Ytnppngaabfhkpaa
def seqFrom (a : Int) (k : Nat) : List Int := (List.range k).map fun (i : Nat) => a + (i : Int)
theorem seqFrom_succ (a : Int) (k : Nat) : seqFrom a (k + 1) = seqFrom a k ++ [a + (k : Int)] := by simp [seqFrom, List.range_succ]
theorem seqFrom_length (a : Int) (k : Nat) : (seqFrom a k).length = k := by simp [seqFrom]
theorem mem_seqFrom {a x : Int} {k : Nat} : x ∈ seqFrom a k ↔ a ≤ x ∧ x < a + (k : Int) := by
  simp only [seqFrom, List.mem_map, List.mem_range]
  constructor
  · rintro ⟨i, hi, rfl⟩; omega
  · intro ⟨h1, h2⟩; exact ⟨(x - a).toNat, by omega, by omega⟩
def Ld.cnt (r : Ld) : Nat := (r.late - (r.prof.length : Int) - r.early + 1).toNat
def Ld.starts (r : Ld) (n : Int) : List Int := if r.chk n = 0 then seqFrom r.early r.cnt else []
structure Ld.Good (r : Ld) (n : Int) : Prop where
  n0 : 1 ≤ n
  n1 : n ≤ 96
  e0 : 0 ≤ r.early
  l1 : r.late ≤ n
  el : r.early ≤ r.late
  p : (r.prof.length : Int) ≤ r.late - r.early
  p0 : 1 ≤ r.prof.length
  p1 : r.prof.length ≤ 24
  units : r.prof.all unitOk = true
  name : nameOk r.name = true
theorem Ld.good {r : Ld} {n : Int} (h : r.chk n = 0) : r.Good n := by
  unfold Ld.chk at h
  split at h
  · rename_i hn
    split at h
    · rename_i hl
      split at h
      · rename_i hs
        obtain ⟨hu, hs⟩ := hs
        simp only [Ld.lim, decide_eq_true_iff] at hl
        simp only [Ld.span, decide_eq_true_iff] at hs
        exact ⟨by omega, by omega, by omega, by omega, by omega, by omega, hl.1, hl.2, hu, hn⟩
      · cases h
    · cases h
  · cases h
end Go.Proofs.Ytnppngaabfhkpaa
namespace Go.Proofs.Ytnppngaabfhkpaa
def Ld.last (r : Ld) : Int := if r.late < (r.prof.length : Int) then -1 else if 96 < r.late then -1 else r.late - (r.prof.length : Int)
def Ld.fit (r : Ld) (s n : Int) : Bool := decide (r.chk n = 0) && (decide (r.early ≤ s) && decide (s ≤ r.late - (r.prof.length : Int)))
def Ld.use (r : Ld) (s i : Int) : Int := if i < s then 0 else if (r.prof.length : Int) ≤ i - s then 0 else unitZ (r.prof.getD (i - s).toNat 0)
def sumZ : List Int → Int
  | [] => 0
  | x :: l => x + sumZ l
theorem sumZ_append (l m : List Int) : sumZ (l ++ m) = sumZ l + sumZ m := by
  induction l with
  | nil => simp [sumZ]
  | cons x l ih => simp only [List.cons_append, sumZ, ih]; omega
theorem Ld.use_bd (r : Ld) (s i : Int) : 0 ≤ r.use s i ∧ r.use s i ≤ 1000 := by
  unfold Ld.use
  split
  · omega
  · split
    · omega
    · exact unitZ_bd _
theorem Ld.fit_mem (r : Ld) (s n : Int) : r.fit s n = decide (s ∈ r.starts n) := by
  unfold Ld.fit Ld.starts
  by_cases hc : r.chk n = 0
  · have g := Ld.good hc
    rw [if_pos hc, decide_eq_true hc, Bool.true_and, Bool.eq_iff_iff]
    have hcnt : (r.cnt : Int) = r.late - (r.prof.length : Int) - r.early + 1 := by
      have := g.p; unfold Ld.cnt; omega
    simp only [Bool.and_eq_true, decide_eq_true_iff, mem_seqFrom]
    omega
  · rw [if_neg hc, decide_eq_false hc]; simp
theorem wrapU {i s : Int} (h : s ≤ i) (h1 : -9223372036854775808 ≤ s) (h2 : i ≤ 9223372036854775807) :
    (i % 18446744073709551616 - s % 18446744073709551616) % 18446744073709551616 = i - s := by omega
end Go.Proofs.Ytnppngaabfhkpaa
namespace Go.Proofs.Ytnppngaabfhkpaa
def dupTo (l : List Ld) (i k : Nat) : Prop := ∃ x, l[i]? = some x ∧ ∃ y ∈ l.take k, y.name = x.name
instance (l : List Ld) (i k : Nat) : Decidable (dupTo l i k) :=
  match h : l[i]? with
  | none => .isFalse (by rintro ⟨x, hx, _⟩; rw [h] at hx; cases hx)
  | some x => if h2 : ∃ y ∈ l.take k, y.name = x.name then .isTrue ⟨x, h, h2⟩ else .isFalse (by rintro ⟨z, hz, hh⟩; rw [h] at hz; injection hz with hz; subst hz; exact h2 hh)
def loadErr (l : List Ld) (n : Int) (i : Nat) : Int := match l[i]? with
  | none => 0
  | some x => if x.chk n = 0 then (if dupTo l i i then 9 else 0) else x.chk n
def allTo (l : List Ld) (n : Int) : Nat → Int
  | 0 => 0
  | k + 1 => if allTo l n k = 0 then loadErr l n k else allTo l n k
def allChk (l : List Ld) (n : Int) : Int := if 4 < l.length then 3 else allTo l n l.length
theorem allTo_stay {l : List Ld} {n : Int} {k m : Nat} (h : allTo l n k ≠ 0) (hm : k ≤ m) : allTo l n m = allTo l n k := by
  induction m with
  | zero => rw [show k = 0 by omega]
  | succ m ih =>
    by_cases e : k = m + 1
    · rw [e]
    · have := ih (by omega)
      rw [allTo, this, if_neg h]
theorem allTo_hit {l : List Ld} {n : Int} {k : Nat} (h0 : allTo l n k = 0) (h : loadErr l n k ≠ 0) (hk : k < l.length) (h4 : l.length ≤ 4) : allChk l n = loadErr l n k := by
  unfold allChk
  rw [if_neg (by omega)]
  have h1 : allTo l n (k + 1) = loadErr l n k := by rw [allTo, if_pos h0]
  rw [allTo_stay (k := k + 1) (by rw [h1]; exact h) (by omega), h1]
theorem allTo_go {l : List Ld} {n : Int} {k : Nat} (h0 : allTo l n k = 0) (h : loadErr l n k = 0) : allTo l n (k + 1) = 0 := by rw [allTo, if_pos h0, h]
theorem loadErr_bad {l : List Ld} {n : Int} {k : Nat} (hk : k < l.length) (h : l[k].chk n ≠ 0) : loadErr l n k = l[k].chk n := by
  unfold loadErr; rw [List.getElem?_eq_getElem hk]; simp only []; rw [if_neg h]
theorem loadErr_dup {l : List Ld} {n : Int} {k j : Nat} (hk : k < l.length) (h : l[k].chk n = 0) (hj : j < k) (e : l[j].name = l[k].name) : loadErr l n k = 9 := by
  unfold loadErr; rw [List.getElem?_eq_getElem hk]; simp only []
  rw [if_pos h, if_pos]
  refine ⟨_, List.getElem?_eq_getElem hk, l[j], ?_, e⟩
  rw [List.mem_iff_getElem]
  exact ⟨j, by rw [List.length_take]; omega, by simp⟩
theorem loadErr_ok {l : List Ld} {n : Int} {k : Nat} (hk : k < l.length) (h : l[k].chk n = 0) (hd : ¬ dupTo l k k) : loadErr l n k = 0 := by
  unfold loadErr; rw [List.getElem?_eq_getElem hk]; simp only []
  rw [if_pos h, if_neg hd]
theorem dupTo_zero (l : List Ld) (i : Nat) : ¬ dupTo l i 0 := by rintro ⟨x, _, y, hy, _⟩; simp at hy
theorem dupTo_succ {l : List Ld} {i j : Nat} (hi : i < l.length) (hj : j < l.length) (h : ¬ dupTo l i j) (e : l[j].name ≠ l[i].name) : ¬ dupTo l i (j + 1) := by
  rintro ⟨x, hx, y, hy, hn⟩
  rw [List.take_succ_eq_append_getElem hj, List.mem_append, List.mem_singleton] at hy
  rcases hy with hy | rfl
  · exact h ⟨x, hx, y, hy, hn⟩
  · rw [List.getElem?_eq_getElem hi] at hx
    injection hx with hx
    subst hx
    exact e hn
end Go.Proofs.Ytnppngaabfhkpaa
namespace Go.Proofs.Ytnppngaabfhkpaa
def addTo (ls : List (List Int)) (k i : Nat) : Int := sumZ ((ls.take k).map fun l => l.getD i 0)
theorem addTo_succ {ls : List (List Int)} {k : Nat} (hk : k < ls.length) (i : Nat) : addTo ls (k + 1) i = addTo ls k i + ls[k].getD i 0 := by
  unfold addTo
  rw [List.take_succ_eq_append_getElem hk, List.map_append, sumZ_append]
  simp [sumZ]
theorem addTo_zero (ls : List (List Int)) (i : Nat) : addTo ls 0 i = 0 := by simp [addTo, sumZ]
theorem getD_bd {l : List Int} {b : Int} (h : ∀ v ∈ l, 0 ≤ v ∧ v ≤ b) (hb : 0 ≤ b) (i : Nat) : 0 ≤ l.getD i 0 ∧ l.getD i 0 ≤ b := by
  by_cases hi : i < l.length
  · have := h _ (List.getElem_mem hi)
    simpa [List.getD, hi] using this
  · simp [List.getD, List.getElem?_eq_none (Nat.le_of_not_lt hi), hb]
theorem addTo_bd {ls : List (List Int)} (h : ∀ l ∈ ls, ∀ v ∈ l, 0 ≤ v ∧ v ≤ 1000) (k i : Nat) : 0 ≤ addTo ls k i ∧ addTo ls k i ≤ 1000 * (k : Int) := by
  induction k with
  | zero => rw [addTo_zero]; omega
  | succ k ih =>
    by_cases hk : k < ls.length
    · rw [addTo_succ hk]
      have := getD_bd (h _ (List.getElem_mem hk)) (by omega) i
      omega
    · unfold addTo at ih ⊢
      rw [List.take_of_length_le (by omega)] at ih ⊢
      omega
def addL (ls : List (List Int)) (n : Nat) : List Int := (List.range n).map (addTo ls ls.length)
def addMid (ls : List (List Int)) (k j i : Nat) : Int := if i < j then addTo ls (k + 1) i else addTo ls k i
theorem addMid_zero (ls : List (List Int)) (k i : Nat) : addMid ls k 0 i = addTo ls k i := by simp [addMid]
theorem addMid_full {ls : List (List Int)} {k n i : Nat} (h : i < n) : addMid ls k n i = addTo ls (k + 1) i := by simp [addMid, h]
theorem addMid_succ {ls : List (List Int)} {k j : Nat} (i : Nat) : addMid ls k (j + 1) i = if i = j then addTo ls (k + 1) j else addMid ls k j i := by
  unfold addMid
  by_cases h : i = j
  · subst h; simp
  · rw [if_neg h]
    by_cases h2 : i < j
    · rw [if_pos h2, if_pos (by omega)]
    · rw [if_neg h2, if_neg (by omega)]
def slotsN (n : Int) : Nat := if n < 0 then 0 else if 96 < n then 96 else n.toNat
theorem slotsN_le (n : Int) : slotsN n ≤ 96 := by unfold slotsN; split <;> (try split) <;> omega
def useTo (ls : List Ld) (ss : List Int) (i : Int) (k : Nat) : Int := sumZ (((ls.zip ss).take k).map fun x => x.1.use x.2 i)
def usesL (ls : List Ld) (ss : List Int) (n : Int) : List Int := (List.range (slotsN n)).map fun (i : Nat) => useTo ls ss i (min ls.length ss.length)
theorem useTo_succ {ls : List Ld} {ss : List Int} {k : Nat} (h1 : k < ls.length) (h2 : k < ss.length) (i : Int) : useTo ls ss i (k + 1) = useTo ls ss i k + ls[k].use ss[k] i := by
  unfold useTo
  rw [List.take_succ_eq_append_getElem (by rw [List.length_zip]; omega), List.map_append, sumZ_append]
  simp [sumZ]
theorem useTo_zero (ls : List Ld) (ss : List Int) (i : Int) : useTo ls ss i 0 = 0 := by simp [useTo, sumZ]
theorem useTo_bd (ls : List Ld) (ss : List Int) (i : Int) (k : Nat) : 0 ≤ useTo ls ss i k ∧ useTo ls ss i k ≤ 1000 * (k : Int) := by
  induction k with
  | zero => rw [useTo_zero]; omega
  | succ k ih =>
    by_cases h : k < (ls.zip ss).length
    · rw [List.length_zip] at h
      rw [useTo_succ (by omega) (by omega)]
      have := (ls[k]'(by omega)).use_bd (ss[k]'(by omega)) i
      omega
    · unfold useTo at ih ⊢
      rw [List.take_of_length_le (by omega)] at ih ⊢
      omega
def oneRow (r : Ld) (s : Int) (n : Nat) : List Int := (List.range n).map fun (i : Nat) => r.use s (i : Int)
def rowsOf (ls : List Ld) (ss : List Int) (n : Nat) : List (List Int) := (ls.zip ss).map fun x => oneRow x.1 x.2 n
theorem oneRow_length (r : Ld) (s : Int) (n : Nat) : (oneRow r s n).length = n := by simp [oneRow]
theorem oneRow_bd (r : Ld) (s : Int) (n : Nat) : ∀ v ∈ oneRow r s n, 0 ≤ v ∧ v ≤ 1000 := by
  intro v hv
  simp only [oneRow, List.mem_map, List.mem_range] at hv
  obtain ⟨i, _, rfl⟩ := hv
  exact r.use_bd s i
theorem oneRow_get {r : Ld} {s : Int} {n i : Nat} (h : i < n) : (oneRow r s n).getD i 0 = r.use s (i : Int) := by simp [oneRow, List.getD, h]
theorem rows_use (ls : List Ld) (ss : List Int) {n i : Nat} (h : i < n) (k : Nat) : addTo (rowsOf ls ss n) k i = useTo ls ss i k := by
  unfold addTo useTo rowsOf
  rw [← List.map_take, List.map_map]
  congr 1
  apply List.map_congr_left
  intro x _
  exact oneRow_get h
theorem addL_rows (ls : List Ld) (ss : List Int) (n : Int) : addL (rowsOf ls ss (slotsN n)) (slotsN n) = usesL ls ss n := by
  unfold addL usesL
  apply List.map_congr_left
  intro i hi
  rw [List.mem_range] at hi
  rw [rows_use ls ss hi]
  congr 1
  simp [rowsOf]
end Go.Proofs.Ytnppngaabfhkpaa
namespace Go.Proofs.Ytnppngaabfhkpaa
def Ld.zero : Ld := ⟨ByteArray.empty, [], 0, 0⟩
def clampK (k : Int) : Int := if k < 0 then 0 else if 96 < k then 96 else k
theorem clampK_bd (k : Int) : 0 ≤ clampK k ∧ clampK k ≤ 96 := by unfold clampK; split <;> (try split) <;> omega
def Ld.canShift (r : Ld) (k : Int) : Bool := decide (r.chk 96 = 0) && decide ((r.prof.length : Int) ≤ r.late - clampK k)
def Ld.moved (r : Ld) (k : Int) : Ld := ⟨r.name, r.prof, if r.early - clampK k < 0 then 0 else r.early - clampK k, r.late - clampK k⟩
def Ld.shift (r : Ld) (k : Int) : Ld := if r.canShift k = true then r.moved k else Ld.zero
theorem Ld.shift_no {r : Ld} {k : Int} (h : r.canShift k = false) : r.shift k = Ld.zero := by unfold Ld.shift; rw [if_neg (by simp [h])]
theorem Ld.shift_yes {r : Ld} {k : Int} (h : r.canShift k = true) : r.shift k = r.moved k := by unfold Ld.shift; rw [if_pos h]
theorem Ld.can_chk {r : Ld} {k : Int} (h : r.chk 96 ≠ 0) : r.canShift k = false := by unfold Ld.canShift; rw [decide_eq_false h]; rfl
theorem Ld.can_len {r : Ld} {k : Int} (h : ¬ (r.prof.length : Int) ≤ r.late - clampK k) : r.canShift k = false := by unfold Ld.canShift; rw [decide_eq_false h, Bool.and_false]
theorem Ld.can_yes {r : Ld} {k : Int} (h : r.chk 96 = 0) (h2 : (r.prof.length : Int) ≤ r.late - clampK k) : r.canShift k = true := by simp [Ld.canShift, h, h2]
theorem Ld.chk_iff {r : Ld} {n : Int} : r.chk n = 0 ↔ (nameOk r.name = true ∧ r.lim = true ∧ r.prof.all unitOk = true ∧ r.span n = true) := by
  unfold Ld.chk
  constructor
  · intro h
    split at h
    · split at h
      · split at h
        · rename_i a b c; exact ⟨a, b, c.1, c.2⟩
        · cases h
      · cases h
    · cases h
  · rintro ⟨a, b, c, d⟩
    rw [if_pos a, if_pos b, if_pos ⟨c, d⟩]
theorem Ld.chk96 {r : Ld} {n : Int} (h : r.chk n = 0) : r.chk 96 = 0 := by
  rw [Ld.chk_iff] at h ⊢
  refine ⟨h.1, h.2.1, h.2.2.1, ?_⟩
  have := h.2.2.2
  simp only [Ld.span, decide_eq_true_iff] at this ⊢
  omega
theorem Ld.moved_chk {r : Ld} {n k : Int} (h : r.chk n = 0) (k0 : 0 ≤ k) (k1 : k < n) (hc : r.canShift k = true) : (r.moved k).chk (n - k) = 0 := by
  have g := Ld.good h
  have hk : clampK k = k := by have := g.n1; unfold clampK; rw [if_neg (by omega), if_neg (by omega)]
  have hl : (r.prof.length : Int) ≤ r.late - k := by
    have := hc
    simp only [Ld.canShift, Bool.and_eq_true, decide_eq_true_iff, hk] at this
    exact this.2
  rw [Ld.chk_iff] at h ⊢
  refine ⟨h.1, h.2.1, h.2.2.1, ?_⟩
  have hs := h.2.2.2
  simp only [Ld.span, decide_eq_true_iff, Ld.moved, hk] at hs ⊢
  split <;> omega
theorem Ld.moved_fit {r : Ld} {n k s : Int} (h : r.chk n = 0) (k0 : 0 ≤ k) (k1 : k < n) (s0 : k ≤ s) (hc : r.canShift k = true) : (r.moved k).fit (s - k) (n - k) = r.fit s n := by
  have g := Ld.good h
  have hk : clampK k = k := by have := g.n1; unfold clampK; rw [if_neg (by omega), if_neg (by omega)]
  unfold Ld.fit
  rw [decide_eq_true h, decide_eq_true (Ld.moved_chk h k0 k1 hc), Bool.eq_iff_iff]
  simp only [Bool.true_and, Bool.and_eq_true, decide_eq_true_iff, Ld.moved, hk]
  split <;> omega
theorem Ld.moved_use {r : Ld} {k s i : Int} : (r.moved k).use (s - k) (i - k) = r.use s i := by
  unfold Ld.use Ld.moved
  simp only []
  have e : i - k - (s - k) = i - s := by omega
  rw [e]
  by_cases h : i < s
  · rw [if_pos h, if_pos (by omega)]
  · rw [if_neg h, if_neg (by omega)]
end Go.Proofs.Ytnppngaabfhkpaa
