/-
  The plain mathematics of a battery (layer 39): what Check, Step, Choices, Reach and Round compute, on integers and lists. No program in sight.
-/
import Derived.Calls
namespace Go.Proofs.Ytnppngaabfhkpaa
structure Bat where
  cap : Int
  reserve : Int
  charge : Int
  discharge : Int
  eff : Int
def Bat.v (b : Bat) : Value := .agg #[.int .i64 b.cap, .int .i64 b.reserve, .int .i64 b.charge, .int .i64 b.discharge, .int .i64 b.eff]
def wB (n lo hi : Int) : Bool := decide (lo ≤ n) && decide (n ≤ hi)
theorem wB_true {n lo hi : Int} : wB n lo hi = true ↔ lo ≤ n ∧ n ≤ hi := by simp [wB]
theorem wB_false {n lo hi : Int} : wB n lo hi = false ↔ n < lo ∨ hi < n := by
  cases h : wB n lo hi
  · have : ¬ (lo ≤ n ∧ n ≤ hi) := fun g => by rw [wB_true.2 g] at h; cases h
    simp; omega
  · have := wB_true.1 h; simp; omega
def Bat.ok (b : Bat) : Bool := wB b.cap 0 40 && (wB b.reserve 0 b.cap && (wB b.charge 0 40 && (wB b.discharge 0 40 && wB b.eff 500 1000)))
structure Bat.Good (b : Bat) : Prop where
  cap0 : 0 ≤ b.cap
  cap1 : b.cap ≤ 40
  res0 : 0 ≤ b.reserve
  res1 : b.reserve ≤ b.cap
  ch0 : 0 ≤ b.charge
  ch1 : b.charge ≤ 40
  di0 : 0 ≤ b.discharge
  di1 : b.discharge ≤ 40
  ef0 : 500 ≤ b.eff
  ef1 : b.eff ≤ 1000
theorem Bat.good {b : Bat} (h : b.ok = true) : b.Good := by
  simp only [Bat.ok, Bool.and_eq_true, wB_true] at h
  obtain ⟨⟨a1, a2⟩, ⟨b1, b2⟩, ⟨c1, c2⟩, ⟨d1, d2⟩, e1, e2⟩ := h
  exact ⟨a1, a2, b1, b2, c1, c2, d1, d2, e1, e2⟩
def Bat.chk (b : Bat) : Int := if b.ok = true then 0 else 2
def drawnZ (b : Bat) (c : Int) : Int := if 0 < c then (1000 * c + b.eff - 1) / b.eff else c
def stepZ (b : Bat) (l c : Int) : Int × Int × Int :=
  if b.ok = false then (0, 0, 2) else
  if l < 0 ∨ b.cap < l ∨ c < -b.discharge ∨ b.charge < c then (0, 0, 2) else
  if b.cap < l + c ∨ (c < 0 ∧ l + c < b.reserve) then (0, 0, 20) else (l + c, drawnZ b c, 0)
def canZ (b : Bat) (l c : Int) : Bool := decide ((stepZ b l c).2.2 = 0)
theorem canZ_iff {b : Bat} {l c : Int} : canZ b l c = true ↔ b.ok = true ∧ 0 ≤ l ∧ l ≤ b.cap ∧ -b.discharge ≤ c ∧ c ≤ b.charge ∧ l + c ≤ b.cap ∧ (0 ≤ c ∨ b.reserve ≤ l + c) := by
  unfold canZ stepZ
  by_cases h : b.ok = false
  · simp [h]
  · rw [if_neg h]
    have h' : b.ok = true := by simpa using h
    by_cases h2 : l < 0 ∨ b.cap < l ∨ c < -b.discharge ∨ b.charge < c
    · rw [if_pos h2]; simp [h']; omega
    · rw [if_neg h2]
      by_cases h3 : b.cap < l + c ∨ (c < 0 ∧ l + c < b.reserve)
      · rw [if_pos h3]; simp [h']; omega
      · rw [if_neg h3]; simp [h']; omega
def choicesZ (b : Bat) (l : Int) : List Int :=
  if b.ok = true then ((List.range (b.discharge + b.charge + 1).toNat).map fun (i : Nat) => (i : Int) - b.discharge).filter (canZ b l) else []
end Go.Proofs.Ytnppngaabfhkpaa
namespace Go.Proofs.Ytnppngaabfhkpaa
def span (a : Int) (n : Nat) : List Int := (List.range n).map fun (i : Nat) => a + (i : Int)
theorem span_succ (a : Int) (n : Nat) : span a (n + 1) = span a n ++ [a + (n : Int)] := by simp [span, List.range_succ]
theorem span_add (a : Int) (m n : Nat) : span a (m + n) = span a m ++ span (a + (m : Int)) n := by
  induction n with
  | zero => simp [span]
  | succ n ih => rw [← Nat.add_assoc, span_succ, ih, span_succ, List.append_assoc]; congr 3; push_cast; omega
theorem mem_span {a x : Int} {n : Nat} : x ∈ span a n ↔ a ≤ x ∧ x < a + (n : Int) := by
  simp only [span, List.mem_map, List.mem_range]
  constructor
  · rintro ⟨i, hi, rfl⟩; omega
  · intro ⟨h1, h2⟩; exact ⟨(x - a).toNat, by omega, by omega⟩
theorem span_length (a : Int) (n : Nat) : (span a n).length = n := by simp [span]
theorem filter_span_none {p : Int → Bool} {a : Int} {n : Nat} (h : ∀ x, a ≤ x → x < a + (n : Int) → p x = false) : (span a n).filter p = [] := by
  rw [List.filter_eq_nil_iff]
  intro x hx
  rw [mem_span] at hx
  rw [h x hx.1 hx.2]
  simp
theorem filter_span {p : Int → Bool} {a c : Int} {n m : Nat} (h0 : a ≤ c) (h1 : c + (m : Int) ≤ a + (n : Int)) (hl : ∀ x, x < c → p x = false) (hr : ∀ x, c + (m : Int) ≤ x → p x = false) :
    (span a n).filter p = (span c m).filter p := by
  obtain ⟨k, hk⟩ : ∃ k : Nat, n = (c - a).toNat + (m + k) := ⟨n - ((c - a).toNat + m), by omega⟩
  subst hk
  rw [span_add, span_add, List.filter_append, List.filter_append, filter_span_none (fun x _ h => hl x (by omega)),
    show a + (((c - a).toNat : Nat) : Int) = c by omega, filter_span_none (a := c + (m : Int)) (fun x h _ => hr x h)]
  simp
theorem choicesZ_span (b : Bat) (l : Int) : choicesZ b l = (span (-40) 81).filter (canZ b l) := by
  unfold choicesZ
  by_cases h : b.ok = true
  · rw [if_pos h]
    have hg := Bat.good h
    have d0 := hg.di0; have d1 := hg.di1; have c0 := hg.ch0; have c1 := hg.ch1
    rw [filter_span (c := -b.discharge) (m := (b.discharge + b.charge + 1).toNat) (by omega) (by omega)]
    · unfold span
      congr 2
      funext i
      omega
    · intro x hx
      rw [← Bool.not_eq_true, canZ_iff]; omega
    · intro x hx
      rw [← Bool.not_eq_true, canZ_iff]; omega
  · rw [if_neg h]
    symm
    rw [List.filter_eq_nil_iff]
    intro x _
    rw [canZ_iff]
    simp [h]
theorem mem_choicesZ {b : Bat} {l c : Int} : c ∈ choicesZ b l ↔ canZ b l c = true := by
  rw [choicesZ_span, List.mem_filter, mem_span]
  constructor
  · exact fun h => h.2
  · intro h
    refine ⟨?_, h⟩
    rw [canZ_iff] at h
    have hg := Bat.good h.1
    have d0 := hg.di0; have d1 := hg.di1; have c0 := hg.ch0; have c1 := hg.ch1
    omega
theorem choicesZ_length (b : Bat) (l : Int) : (choicesZ b l).length ≤ 81 := by
  rw [choicesZ_span]
  exact Nat.le_trans (List.length_filter_le _ _) (by rw [span_length]; omega)
end Go.Proofs.Ytnppngaabfhkpaa
namespace Go.Proofs.Ytnppngaabfhkpaa
structure Rm where
  gain : Int
  loss : Int
  steps : Int
  power : Int
  low : List Int
  high : List Int
def Rm.v (r : Rm) (A : Option Addr) (c : Nat) (B : Option Addr) (d : Nat) : Value := .agg #[.int .i64 r.gain, .int .i64 r.loss, .int .i64 r.steps, .int .i64 r.power, .slice A r.low.length c, .slice B r.high.length d]
def Rm0 : Rm := ⟨0, 0, 0, 0, [], []⟩
def wT (n lo hi : Int) : Bool := decide (lo ≤ n) && decide (n ≤ hi)
theorem wT_true {n lo hi : Int} : wT n lo hi = true ↔ lo ≤ n ∧ n ≤ hi := by simp [wT]
theorem wT_false {n lo hi : Int} : wT n lo hi = false ↔ n < lo ∨ hi < n := by
  cases h : wT n lo hi
  · have : ¬ (lo ≤ n ∧ n ≤ hi) := fun g => by rw [wT_true.2 g] at h; cases h
    simp; omega
  · have := wT_true.1 h; simp; omega
def slotOk (lo hi : Int) : Bool := decide (-500 ≤ lo) && (decide (lo ≤ hi) && decide (hi ≤ 1000))
theorem slotOk_true {lo hi : Int} : slotOk lo hi = true ↔ -500 ≤ lo ∧ lo ≤ hi ∧ hi ≤ 1000 := by simp [slotOk]
def Rm.slotsTo (r : Rm) (k : Nat) : Bool := (List.range k).all fun i => slotOk (r.low.getD i 0) (r.high.getD i 0)
theorem Rm.slotsTo_succ (r : Rm) (k : Nat) : r.slotsTo (k + 1) = (r.slotsTo k && slotOk (r.low.getD k 0) (r.high.getD k 0)) := by
  simp [Rm.slotsTo, List.range_succ, List.all_append]
def Rm.numsOk (r : Rm) : Bool := wT r.gain 0 100 && (wT r.loss 0 1000 && (wT r.steps 0 40 && wT r.power 0 1000))
def Rm.sizeOk (r : Rm) (n : Int) : Bool := decide (1 ≤ n ∧ n ≤ 96 ∧ (r.low.length : Int) = n ∧ (r.high.length : Int) = n)
def Rm.chk (r : Rm) (n : Int) : Int := if r.sizeOk n = true then (if r.numsOk = true then (if r.slotsTo r.low.length = true then 0 else 2) else 2) else 3
def Rm.slotErr (r : Rm) (k : Nat) : Int := if r.slotsTo k = true then 0 else 2
theorem Rm.chk_size {r : Rm} {n : Int} (h : r.sizeOk n = false) : r.chk n = 3 := by unfold Rm.chk; rw [if_neg (by simp [h])]
theorem Rm.chk_nums {r : Rm} {n : Int} (h : r.sizeOk n = true) (h2 : r.numsOk = false) : r.chk n = 2 := by unfold Rm.chk; rw [if_pos h, if_neg (by simp [h2])]
theorem Rm.chk_ok {r : Rm} {n : Int} (h : r.sizeOk n = true) (h2 : r.numsOk = true) (h3 : r.slotsTo r.low.length = true) : r.chk n = 0 := by unfold Rm.chk; rw [if_pos h, if_pos h2, if_pos h3]
theorem Rm.slotsTo_le {r : Rm} {k m : Nat} (h : r.slotsTo k = false) (hm : k ≤ m) : r.slotsTo m = false := by
  rw [← Bool.not_eq_true] at h ⊢
  simp only [Rm.slotsTo, List.all_eq_true, List.mem_range] at h ⊢
  exact fun g => h fun i hi => g i (by omega)
theorem Rm.size_false {r : Rm} {n : Int} (h : r.sizeOk n = false) : (n < 1 ∨ 96 < n) ∨ ((1 ≤ n ∧ n ≤ 96) ∧ (r.low.length : Int) ≠ n) ∨ ((1 ≤ n ∧ n ≤ 96) ∧ (r.low.length : Int) = n ∧ (r.high.length : Int) ≠ n) := by
  simp only [Rm.sizeOk, decide_eq_false_iff_not] at h
  omega
theorem Rm.size_true {r : Rm} {n : Int} (h : r.sizeOk n = true) : 1 ≤ n ∧ n ≤ 96 ∧ (r.low.length : Int) = n ∧ (r.high.length : Int) = n := by
  simpa only [Rm.sizeOk, decide_eq_true_eq] using h
def Rm.ok (r : Rm) : Bool := decide (r.chk r.low.length = 0)
def Rm.valid (r : Rm) : Rm := if r.ok = true then r else Rm0
structure Rm.Good (r : Rm) : Prop where
  len0 : 1 ≤ r.low.length
  len1 : r.low.length ≤ 96
  len2 : r.high.length = r.low.length
  g0 : 0 ≤ r.gain
  g1 : r.gain ≤ 100
  l0 : 0 ≤ r.loss
  l1 : r.loss ≤ 1000
  s0 : 0 ≤ r.steps
  s1 : r.steps ≤ 40
  p0 : 0 ≤ r.power
  p1 : r.power ≤ 1000
  slots : ∀ i, i < r.low.length → -500 ≤ r.low.getD i 0 ∧ r.low.getD i 0 ≤ r.high.getD i 0 ∧ r.high.getD i 0 ≤ 1000
theorem Rm.good {r : Rm} (h : r.ok = true) : r.Good := by
  simp only [Rm.ok, decide_eq_true_eq] at h
  unfold Rm.chk at h
  split at h
  · rename_i hs
    split at h
    · rename_i hn
      split at h
      · rename_i hsl
        simp only [Rm.sizeOk, decide_eq_true_eq] at hs
        simp only [Rm.numsOk, Bool.and_eq_true, wT_true] at hn
        simp only [Rm.slotsTo, List.all_eq_true, List.mem_range, slotOk_true] at hsl
        obtain ⟨a1, a2, _, a4⟩ := hs
        obtain ⟨⟨b1, b2⟩, ⟨c1, c2⟩, ⟨d1, d2⟩, e1, e2⟩ := hn
        exact ⟨by omega, by omega, by omega, b1, b2, c1, c2, d1, d2, e1, e2, hsl⟩
      · cases h
    · cases h
  · cases h
structure Rm.Fine (r : Rm) : Prop where
  len1 : r.low.length ≤ 96
  len2 : r.high.length = r.low.length
  g0 : 0 ≤ r.gain
  g1 : r.gain ≤ 100
  l0 : 0 ≤ r.loss
  l1 : r.loss ≤ 1000
  s0 : 0 ≤ r.steps
  s1 : r.steps ≤ 40
  slots : ∀ i, i < r.low.length → -500 ≤ r.low.getD i 0 ∧ r.low.getD i 0 ≤ r.high.getD i 0 ∧ r.high.getD i 0 ≤ 1000
theorem Rm.fine (r : Rm) : r.valid.Fine := by
  unfold Rm.valid
  split
  · rename_i h
    have g := Rm.good h
    exact ⟨g.len1, g.len2, g.g0, g.g1, g.l0, g.l1, g.s0, g.s1, g.slots⟩
  · exact ⟨by simp [Rm0], by simp [Rm0], by simp [Rm0], by simp [Rm0], by simp [Rm0], by simp [Rm0], by simp [Rm0], by simp [Rm0], by simp [Rm0]⟩
theorem Rm.valid_ok {r : Rm} (h : r.ok = true) : r.valid = r := by unfold Rm.valid; rw [if_pos h]
theorem Rm.valid_not {r : Rm} (h : ¬ r.ok = true) : r.valid = Rm0 := by unfold Rm.valid; rw [if_neg h]
def limT (t : Int) : Int := if t < -1000 then -1000 else if 2000 < t then 2000 else t
theorem limT_bd (t : Int) : -1000 ≤ limT t ∧ limT t ≤ 2000 := by unfold limT; split <;> (try split) <;> omega
def heatT (h s : Int) : Int := if h < 0 then 0 else if s < h then s else h
theorem heatT_bd {h s : Int} (hs : 0 ≤ s) : 0 ≤ heatT h s ∧ heatT h s ≤ s := by unfold heatT; split <;> (try split) <;> omega
def stepT (g l s temp out heat : Int) : Int := limT (limT temp + g * heatT heat s - l * (limT temp - limT out) / 1000)
def Rm.step (r : Rm) (temp out heat : Int) : Int := stepT r.gain r.loss r.steps temp out heat
theorem stepT_bd (g l s temp out heat : Int) : -1000 ≤ stepT g l s temp out heat ∧ stepT g l s temp out heat ≤ 2000 := limT_bd _
def Rm.okAt (r : Rm) (i temp : Int) : Bool := decide (0 ≤ i) && (decide (i < (r.low.length : Int)) && wT temp (r.low.getD i.toNat 0) (r.high.getD i.toNat 0))
def upto (n : Nat) : List Int := (List.range n).map fun (i : Nat) => (i : Int)
theorem upto_succ (n : Nat) : upto (n + 1) = upto n ++ [(n : Int)] := by simp [upto, List.range_succ]
theorem upto_length (n : Nat) : (upto n).length = n := by simp [upto]
theorem mem_upto {n : Nat} {x : Int} : x ∈ upto n ↔ 0 ≤ x ∧ x < (n : Int) := by
  simp only [upto, List.mem_map, List.mem_range]
  constructor
  · rintro ⟨i, hi, rfl⟩; omega
  · intro ⟨h1, h2⟩; exact ⟨x.toNat, by omega, by omega⟩
def Rm.choices (r : Rm) (i temp out : Int) : List Int := (upto (r.steps + 1).toNat).filter fun h => r.okAt i (r.step temp out h)
def holdTo (p : Int → Bool) : Nat → Int
  | 0 => 0
  | n + 1 => if (upto n).any p = true then holdTo p n else if p (n : Int) = true then (n : Int) else (n : Int) + 1
def Rm.hold (r : Rm) (i temp out : Int) : Int := if 0 ≤ i ∧ i < (r.low.length : Int) then holdTo (fun h => decide (r.low.getD i.toNat 0 ≤ r.step temp out h)) r.steps.toNat else 0
end Go.Proofs.Ytnppngaabfhkpaa
namespace Go.Proofs.Ytnppngaabfhkpaa
def FineL (l : List Int) : Prop := l.Nodup ∧ ∀ u ∈ l, -1000 ≤ u ∧ u ≤ 2000
theorem nodup_len (a : Int) : ∀ (n : Nat) (l : List Int), l.Nodup → (∀ u ∈ l, a ≤ u ∧ u < a + (n : Int)) → l.length ≤ n := by
  intro n
  induction n with
  | zero =>
    intro l _ h
    cases l with
    | nil => simp
    | cons x l => have := h x (by simp); omega
  | succ n ih =>
    intro l hn h
    have h1 := ih (l.erase (a + (n : Int))) (hn.erase _) (fun u hu => by
      have hm := (hn.mem_erase_iff).1 hu
      have := h u hm.2
      have := hm.1
      omega)
    have h2 : l.length ≤ (l.erase (a + (n : Int))).length + 1 := by
      rw [List.length_erase]; split <;> omega
    omega
theorem FineL.len {l : List Int} (h : FineL l) : l.length ≤ 3001 := nodup_len (-1000) 3001 l h.1 (fun u hu => by have := h.2 u hu; omega)
end Go.Proofs.Ytnppngaabfhkpaa
