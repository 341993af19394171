/-
  The plain mathematics of a heated room (layer 40): what Check, Step, Ok, Choices, Hold, Drift and Safe compute, on integers and lists. No program in sight.
-/
import Derived.Calls
namespace Go.Proofs.Ytohgcenfhglfdaa

/-- A room's numbers and bounds. -/
structure Rm where
  gain : Int
  loss : Int
  steps : Int
  power : Int
  low : List Int
  high : List Int

/-- As Go's value, the two lists at the given addresses. -/
def Rm.v (r : Rm) (A : Option Addr) (c : Nat) (B : Option Addr) (d : Nat) : Value := .agg #[.int .i64 r.gain, .int .i64 r.loss, .int .i64 r.steps, .int .i64 r.power, .slice A r.low.length c, .slice B r.high.length d]
def Rm0 : Rm := ⟨0, 0, 0, 0, [], []⟩

/-- A number within bounds. -/
def wT (n lo hi : Int) : Bool := decide (lo ≤ n) && decide (n ≤ hi)
theorem wT_true {n lo hi : Int} : wT n lo hi = true ↔ lo ≤ n ∧ n ≤ hi := by simp [wT]
theorem wT_false {n lo hi : Int} : wT n lo hi = false ↔ n < lo ∨ hi < n := by
  cases h : wT n lo hi
  · have : ¬ (lo ≤ n ∧ n ≤ hi) := fun g => by rw [wT_true.2 g] at h; cases h
    simp; omega
  · have := wT_true.1 h; simp; omega

/-- The bounds of one slot are in order. -/
def slotOk (lo hi : Int) : Bool := decide (-500 ≤ lo) && (decide (lo ≤ hi) && decide (hi ≤ 1000))
theorem slotOk_true {lo hi : Int} : slotOk lo hi = true ↔ -500 ≤ lo ∧ lo ≤ hi ∧ hi ≤ 1000 := by simp [slotOk]
/-- The first k slots are in order. -/
def Rm.slotsTo (r : Rm) (k : Nat) : Bool := (List.range k).all fun i => slotOk (r.low.getD i 0) (r.high.getD i 0)
theorem Rm.slotsTo_succ (r : Rm) (k : Nat) : r.slotsTo (k + 1) = (r.slotsTo k && slotOk (r.low.getD k 0) (r.high.getD k 0)) := by
  simp [Rm.slotsTo, List.range_succ, List.all_append]
def Rm.numsOk (r : Rm) : Bool := wT r.gain 0 100 && (wT r.loss 0 1000 && (wT r.steps 0 40 && wT r.power 0 1000))
def Rm.sizeOk (r : Rm) (n : Int) : Bool := decide (1 ≤ n ∧ n ≤ 96 ∧ (r.low.length : Int) = n ∧ (r.high.length : Int) = n)
def Rm.chk (r : Rm) (n : Int) : Int := if r.sizeOk n = true then (if r.numsOk = true then (if r.slotsTo r.low.length = true then 0 else 2) else 2) else 3
def Rm.slotErr (r : Rm) (k : Nat) : Int := if r.slotsTo k = true then 0 else 2
theorem Rm.chk_size {r : Rm} {n : Int} (h : r.sizeOk n = false) : r.chk n = 3 := by unfold Rm.chk; rw [if_neg (by simp [h])]
theorem Rm.chk_nums {r : Rm} {n : Int} (h : r.sizeOk n = true) (h2 : r.numsOk = false) : r.chk n = 2 := by unfold Rm.chk; rw [if_pos h, if_neg (by simp [h2])]
theorem Rm.chk_slots {r : Rm} {n : Int} (h : r.sizeOk n = true) (h2 : r.numsOk = true) (h3 : r.slotsTo r.low.length = false) : r.chk n = 2 := by unfold Rm.chk; rw [if_pos h, if_pos h2, if_neg (by simp [h3])]
theorem Rm.chk_ok {r : Rm} {n : Int} (h : r.sizeOk n = true) (h2 : r.numsOk = true) (h3 : r.slotsTo r.low.length = true) : r.chk n = 0 := by unfold Rm.chk; rw [if_pos h, if_pos h2, if_pos h3]
theorem Rm.slotsTo_le {r : Rm} {k m : Nat} (h : r.slotsTo k = false) (hm : k ≤ m) : r.slotsTo m = false := by
  rw [← Bool.not_eq_true] at h ⊢
  simp only [Rm.slotsTo, List.all_eq_true, List.mem_range] at h ⊢
  exact fun g => h fun i hi => g i (by omega)
theorem Rm.size_false {r : Rm} {n : Int} (h : r.sizeOk n = false) : (n < 1 ∨ 96 < n) ∨ ((1 ≤ n ∧ n ≤ 96) ∧ (r.low.length : Int) ≠ n) ∨ ((1 ≤ n ∧ n ≤ 96) ∧ (r.low.length : Int) = n ∧ (r.high.length : Int) ≠ n) := by
  simp only [Rm.sizeOk, decide_eq_false_iff_not] at h
  omega
theorem Rm.size_true {r : Rm} {n : Int} (h : r.sizeOk n = true) : 1 ≤ n ∧ n ≤ 96 ∧ (r.low.length : Int) = n ∧ (r.high.length : Int) = n := by
  simpa only [Rm.sizeOk, decide_eq_true_eq] using h
theorem Rm.chk_cases (r : Rm) (n : Int) : r.chk n = 0 ∨ r.chk n = 2 ∨ r.chk n = 3 := by
  unfold Rm.chk; split <;> (try split) <;> (try split) <;> simp
def Rm.ok (r : Rm) : Bool := decide (r.chk r.low.length = 0)
def Rm.valid (r : Rm) : Rm := if r.ok = true then r else Rm0

/-- What is known of a valid room. -/
structure Rm.Good (r : Rm) : Prop where
  len0 : 1 ≤ r.low.length
  len1 : r.low.length ≤ 96
  len2 : r.high.length = r.low.length
  g0 : 0 ≤ r.gain
  g1 : r.gain ≤ 100
  l0 : 0 ≤ r.loss
  l1 : r.loss ≤ 1000
  s0 : 0 ≤ r.steps
  s1 : r.steps ≤ 40
  p0 : 0 ≤ r.power
  p1 : r.power ≤ 1000
  slots : ∀ i, i < r.low.length → -500 ≤ r.low.getD i 0 ∧ r.low.getD i 0 ≤ r.high.getD i 0 ∧ r.high.getD i 0 ≤ 1000
theorem Rm.good {r : Rm} (h : r.ok = true) : r.Good := by
  simp only [Rm.ok, decide_eq_true_eq] at h
  unfold Rm.chk at h
  split at h
  · rename_i hs
    split at h
    · rename_i hn
      split at h
      · rename_i hsl
        simp only [Rm.sizeOk, decide_eq_true_eq] at hs
        simp only [Rm.numsOk, Bool.and_eq_true, wT_true] at hn
        simp only [Rm.slotsTo, List.all_eq_true, List.mem_range, slotOk_true] at hsl
        obtain ⟨a1, a2, _, a4⟩ := hs
        obtain ⟨⟨b1, b2⟩, ⟨c1, c2⟩, ⟨d1, d2⟩, e1, e2⟩ := hn
        exact ⟨by omega, by omega, by omega, b1, b2, c1, c2, d1, d2, e1, e2, hsl⟩
      · cases h
    · cases h
  · cases h
/-- A room that valid returns: a valid one or the zero room. -/
structure Rm.Fine (r : Rm) : Prop where
  len1 : r.low.length ≤ 96
  len2 : r.high.length = r.low.length
  g0 : 0 ≤ r.gain
  g1 : r.gain ≤ 100
  l0 : 0 ≤ r.loss
  l1 : r.loss ≤ 1000
  s0 : 0 ≤ r.steps
  s1 : r.steps ≤ 40
  slots : ∀ i, i < r.low.length → -500 ≤ r.low.getD i 0 ∧ r.low.getD i 0 ≤ r.high.getD i 0 ∧ r.high.getD i 0 ≤ 1000
theorem Rm.fine (r : Rm) : r.valid.Fine := by
  unfold Rm.valid
  split
  · rename_i h
    have g := Rm.good h
    exact ⟨g.len1, g.len2, g.g0, g.g1, g.l0, g.l1, g.s0, g.s1, g.slots⟩
  · exact ⟨by simp [Rm0], by simp [Rm0], by simp [Rm0], by simp [Rm0], by simp [Rm0], by simp [Rm0], by simp [Rm0], by simp [Rm0], by simp [Rm0]⟩
theorem Rm.valid_ok {r : Rm} (h : r.ok = true) : r.valid = r := by unfold Rm.valid; rw [if_pos h]
theorem Rm.valid_not {r : Rm} (h : ¬ r.ok = true) : r.valid = Rm0 := by unfold Rm.valid; rw [if_neg h]
theorem Rm.zero_ok : ¬ Rm0.ok = true := by decide
theorem Rm.valid_valid (r : Rm) : r.valid.valid = r.valid := by
  by_cases h : r.ok = true
  · rw [Rm.valid_ok h, Rm.valid_ok h]
  · rw [Rm.valid_not h, Rm.valid_not Rm.zero_ok]

def limT (t : Int) : Int := if t < -1000 then -1000 else if 2000 < t then 2000 else t
theorem limT_bd (t : Int) : -1000 ≤ limT t ∧ limT t ≤ 2000 := by unfold limT; split <;> (try split) <;> omega
theorem limT_id {t : Int} (h0 : -1000 ≤ t) (h1 : t ≤ 2000) : limT t = t := by unfold limT; rw [if_neg (by omega), if_neg (by omega)]
theorem limT_mono {s t : Int} (h : s ≤ t) : limT s ≤ limT t := by unfold limT; repeat' split <;> omega
def heatT (h s : Int) : Int := if h < 0 then 0 else if s < h then s else h
theorem heatT_bd {h s : Int} (hs : 0 ≤ s) : 0 ≤ heatT h s ∧ heatT h s ≤ s := by unfold heatT; split <;> (try split) <;> omega
theorem heatT_id {h s : Int} (h0 : 0 ≤ h) (h1 : h ≤ s) : heatT h s = h := by unfold heatT; rw [if_neg (by omega), if_neg (by omega)]
theorem heatT_mono {h k s : Int} (hs : 0 ≤ s) (e : h ≤ k) : heatT h s ≤ heatT k s := by unfold heatT; repeat' split <;> omega

/-- The temperature behind a slot, of a room whose numbers are given. -/
def stepT (g l s temp out heat : Int) : Int := limT (limT temp + g * heatT heat s - l * (limT temp - limT out) / 1000)
def Rm.step (r : Rm) (temp out heat : Int) : Int := stepT r.gain r.loss r.steps temp out heat
theorem stepT_bd (g l s temp out heat : Int) : -1000 ≤ stepT g l s temp out heat ∧ stepT g l s temp out heat ≤ 2000 := limT_bd _
def Rm.okAt (r : Rm) (i temp : Int) : Bool := decide (0 ≤ i) && (decide (i < (r.low.length : Int)) && wT temp (r.low.getD i.toNat 0) (r.high.getD i.toNat 0))

/-- The n numbers from 0 on. -/
def upto (n : Nat) : List Int := (List.range n).map fun (i : Nat) => (i : Int)
theorem upto_succ (n : Nat) : upto (n + 1) = upto n ++ [(n : Int)] := by simp [upto, List.range_succ]
theorem upto_length (n : Nat) : (upto n).length = n := by simp [upto]
theorem mem_upto {n : Nat} {x : Int} : x ∈ upto n ↔ 0 ≤ x ∧ x < (n : Int) := by
  simp only [upto, List.mem_map, List.mem_range]
  constructor
  · rintro ⟨i, hi, rfl⟩; omega
  · intro ⟨h1, h2⟩; exact ⟨x.toNat, by omega, by omega⟩

/-- The heats of a room that is fine that keep within the bounds. -/
def Rm.choices (r : Rm) (i temp out : Int) : List Int := (upto (r.steps + 1).toNat).filter fun h => r.okAt i (r.step temp out h)
/-- The least heat below n that reaches the bound; n if none does. -/
def holdTo (p : Int → Bool) : Nat → Int
  | 0 => 0
  | n + 1 => if (upto n).any p = true then holdTo p n else if p (n : Int) = true then (n : Int) else (n : Int) + 1
def Rm.hold (r : Rm) (i temp out : Int) : Int := if 0 ≤ i ∧ i < (r.low.length : Int) then holdTo (fun h => decide (r.low.getD i.toNat 0 ≤ r.step temp out h)) r.steps.toNat else 0
/-- The temperatures of slots without heat. -/
def Rm.drift (r : Rm) : Int → List Int → List Int
  | _, [] => []
  | t, o :: os => r.step t o 0 :: r.drift (r.step t o 0) os
end Go.Proofs.Ytohgcenfhglfdaa
