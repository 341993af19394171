/-
  The plain mathematics of a battery (layer 39): what Check, Step, Choices, Reach and Round compute, on integers and lists. No program in sight.
-/
import Derived.Calls
namespace Go.Proofs.Ythoknhbjeddcjaa

/-- A battery's numbers. -/
structure Bat where
  cap : Int
  reserve : Int
  charge : Int
  discharge : Int
  eff : Int

/-- As Go's value. -/
def Bat.v (b : Bat) : Value := .agg #[.int .i64 b.cap, .int .i64 b.reserve, .int .i64 b.charge, .int .i64 b.discharge, .int .i64 b.eff]

/-- A number within bounds. -/
def wB (n lo hi : Int) : Bool := decide (lo ≤ n) && decide (n ≤ hi)
theorem wB_true {n lo hi : Int} : wB n lo hi = true ↔ lo ≤ n ∧ n ≤ hi := by simp [wB]
theorem wB_false {n lo hi : Int} : wB n lo hi = false ↔ n < lo ∨ hi < n := by
  cases h : wB n lo hi
  · have : ¬ (lo ≤ n ∧ n ≤ hi) := fun g => by rw [wB_true.2 g] at h; cases h
    simp; omega
  · have := wB_true.1 h; simp; omega

def Bat.ok (b : Bat) : Bool := wB b.cap 0 40 && (wB b.reserve 0 b.cap && (wB b.charge 0 40 && (wB b.discharge 0 40 && wB b.eff 500 1000)))
/-- The bounds of a valid battery. -/
structure Bat.Good (b : Bat) : Prop where
  cap0 : 0 ≤ b.cap
  cap1 : b.cap ≤ 40
  res0 : 0 ≤ b.reserve
  res1 : b.reserve ≤ b.cap
  ch0 : 0 ≤ b.charge
  ch1 : b.charge ≤ 40
  di0 : 0 ≤ b.discharge
  di1 : b.discharge ≤ 40
  ef0 : 500 ≤ b.eff
  ef1 : b.eff ≤ 1000
theorem Bat.good {b : Bat} (h : b.ok = true) : b.Good := by
  simp only [Bat.ok, Bool.and_eq_true, wB_true] at h
  obtain ⟨⟨a1, a2⟩, ⟨b1, b2⟩, ⟨c1, c2⟩, ⟨d1, d2⟩, e1, e2⟩ := h
  exact ⟨a1, a2, b1, b2, c1, c2, d1, d2, e1, e2⟩
theorem Bat.ok_of {b : Bat} (h : b.Good) : b.ok = true := by
  simp only [Bat.ok, Bool.and_eq_true, wB_true]
  exact ⟨⟨h.cap0, h.cap1⟩, ⟨h.res0, h.res1⟩, ⟨h.ch0, h.ch1⟩, ⟨h.di0, h.di1⟩, h.ef0, h.ef1⟩
def Bat.chk (b : Bat) : Int := if b.ok = true then 0 else 2

def drawnZ (b : Bat) (c : Int) : Int := if 0 < c then (1000 * c + b.eff - 1) / b.eff else c

def stepZ (b : Bat) (l c : Int) : Int × Int × Int :=
  if b.ok = false then (0, 0, 2) else
  if l < 0 ∨ b.cap < l ∨ c < -b.discharge ∨ b.charge < c then (0, 0, 2) else
  if b.cap < l + c ∨ (c < 0 ∧ l + c < b.reserve) then (0, 0, 20) else (l + c, drawnZ b c, 0)

/-- Is a charge possible? -/
def canZ (b : Bat) (l c : Int) : Bool := decide ((stepZ b l c).2.2 = 0)
theorem canZ_iff {b : Bat} {l c : Int} : canZ b l c = true ↔ b.ok = true ∧ 0 ≤ l ∧ l ≤ b.cap ∧ -b.discharge ≤ c ∧ c ≤ b.charge ∧ l + c ≤ b.cap ∧ (0 ≤ c ∨ b.reserve ≤ l + c) := by
  unfold canZ stepZ
  by_cases h : b.ok = false
  · simp [h]
  · rw [if_neg h]
    have h' : b.ok = true := by simpa using h
    by_cases h2 : l < 0 ∨ b.cap < l ∨ c < -b.discharge ∨ b.charge < c
    · rw [if_pos h2]; simp [h']; omega
    · rw [if_neg h2]
      by_cases h3 : b.cap < l + c ∨ (c < 0 ∧ l + c < b.reserve)
      · rw [if_pos h3]; simp [h']; omega
      · rw [if_neg h3]; simp [h']; omega

def choicesZ (b : Bat) (l : Int) : List Int :=
  if b.ok = true then ((List.range (b.discharge + b.charge + 1).toNat).map fun (i : Nat) => (i : Int) - b.discharge).filter (canZ b l) else []

/-- Can y be reached from l by n steps? -/
def reachB (b : Bat) (l : Int) : Nat → Int → Bool
  | 0, y => decide (y = l)
  | n + 1, y => (List.range (b.cap.toNat + 1)).any fun x => reachB b l n (x : Int) && canZ b (x : Int) (y - (x : Int))

def reachZ (b : Bat) (l n : Int) : List Int :=
  if b.ok = true ∧ 0 ≤ l ∧ l ≤ b.cap ∧ 0 ≤ n ∧ n ≤ 96 then ((List.range (b.cap.toNat + 1)).map fun (i : Nat) => (i : Int)).filter (reachB b l n.toNat) else []

def roundZ (b : Bat) (c : Int) : Int :=
  if b.ok = true ∧ 0 ≤ c ∧ c ≤ b.charge ∧ c ≤ b.discharge ∧ c ≤ b.cap then drawnZ b c - c else 0

end Go.Proofs.Ythoknhbjeddcjaa
