/-
  The plain mathematics of a round of claims (layer 8).
-/
import Derived.Test.YtgflklgjjpokaaaAP4
namespace Go.Proofs.Ytgflklgjjpokaaa

def isLeast (l : List Cl) (c : Cl) : Bool := l.all fun d => !(decide (d.addr = c.addr) && decide (d.eui < c.eui))
theorem isLeast_true {l : List Cl} {c : Cl} : isLeast l c = true ↔ ∀ d ∈ l, d.addr = c.addr → ¬ d.eui < c.eui := by
  unfold isLeast
  rw [List.all_eq_true]
  constructor
  · intro h d hd ha hlt
    have := h d hd
    simp [ha, hlt] at this
  · intro h d hd
    by_cases ha : d.addr = c.addr
    · have := h d hd ha; simp [this]
    · simp [ha]
def Cl.next (c : Cl) : Cl := ⟨c.eui, pickZ c.eui (c.try_ + 1), c.try_ + 1⟩
def stepCl (l : List Cl) (c : Cl) : Cl := if isLeast l c = true then c else c.next
def roundL (l : List Cl) : List Cl := l.map (stepCl l)
def roundTo (l : List Cl) (k : Nat) : List Cl := (l.take k).map (stepCl l)
def roundN (l : List Cl) (k : Nat) : Int := (((l.take k).filter fun c => !isLeast l c).length : Nat)
theorem roundTo_succ {l : List Cl} {k : Nat} (hk : k < l.length) : roundTo l (k + 1) = roundTo l k ++ [stepCl l l[k]] := by
  unfold roundTo
  rw [List.take_succ_eq_append_getElem hk, List.map_append]
  rfl
theorem roundTo_length {l : List Cl} {k : Nat} (hk : k ≤ l.length) : (roundTo l k).length = k := by unfold roundTo; rw [List.length_map, List.length_take]; omega
theorem roundTo_all (l : List Cl) : roundTo l l.length = roundL l := by unfold roundTo roundL; rw [List.take_of_length_le (Nat.le_refl _)]
theorem roundL_length (l : List Cl) : (roundL l).length = l.length := by simp [roundL]
theorem roundN_succ {l : List Cl} {k : Nat} (hk : k < l.length) : roundN l (k + 1) = roundN l k + (if isLeast l l[k] = true then 0 else 1) := by
  unfold roundN
  rw [List.take_succ_eq_append_getElem hk, List.filter_append]
  cases h : isLeast l l[k] <;> simp [h]
theorem roundN_bd (l : List Cl) (k : Nat) : 0 ≤ roundN l k ∧ roundN l k ≤ (l.length : Int) := by
  unfold roundN
  have h1 := List.length_filter_le (fun c => !isLeast l c) (l.take k)
  have h2 : (l.take k).length ≤ l.length := by rw [List.length_take]; omega
  omega
theorem stepCl_least {l : List Cl} {c : Cl} (h : isLeast l c = true) : stepCl l c = c := by unfold stepCl; rw [if_pos h]
theorem stepCl_moved {l : List Cl} {c : Cl} (h : isLeast l c = false) : stepCl l c = c.next := by unfold stepCl; rw [h]; rfl
/-- The least identifier at an address, among the first k claims. -/
def leastTo (l : List Cl) : Nat → Int → Option Int
  | 0, _ => none
  | k + 1, a => match l[k]? with
    | none => leastTo l k a
    | some c => if a = c.addr then (match leastTo l k a with
        | none => some c.eui
        | some e => if c.eui < e then some c.eui else some e) else leastTo l k a
def leastV (l : List Cl) (k : Nat) (a : Int) : Int := (leastTo l k a).getD 0
def leastH (l : List Cl) (k : Nat) (a : Int) : Bool := (leastTo l k a).isSome
theorem leastTo_succ {l : List Cl} {k : Nat} (hk : k < l.length) (a : Int) : leastTo l (k + 1) a = if a = l[k].addr then (match leastTo l k a with
        | none => some l[k].eui
        | some e => if l[k].eui < e then some l[k].eui else some e) else leastTo l k a := by
  conv => lhs; unfold leastTo
  rw [List.getElem?_eq_getElem hk]
theorem leastTo_spec {l : List Cl} (k : Nat) (hk : k ≤ l.length) (a : Int) : (leastTo l k a = none → ∀ d ∈ l.take k, d.addr ≠ a) ∧ (∀ e, leastTo l k a = some e → (∃ d ∈ l.take k, d.addr = a ∧ d.eui = e) ∧ ∀ d ∈ l.take k, d.addr = a → e ≤ d.eui) := by
  induction k with
  | zero => simp [leastTo]
  | succ k ih =>
    have hlt : k < l.length := by omega
    obtain ⟨ih1, ih2⟩ := ih (by omega)
    rw [List.take_succ_eq_append_getElem hlt]
    rw [leastTo_succ hlt]
    by_cases ha : a = l[k].addr
    · rw [if_pos ha]
      cases hl : leastTo l k a with
      | none =>
        have h1 := ih1 hl
        refine ⟨(fun h => by cases h), fun e he => ?_⟩
        injection he with he
        subst he
        refine ⟨⟨l[k], List.mem_append_right _ (List.mem_singleton.2 rfl), ha.symm, rfl⟩, fun d hd hda => ?_⟩
        rw [List.mem_append, List.mem_singleton] at hd
        rcases hd with hd | rfl
        · exact absurd hda (h1 d hd)
        · omega
      | some e0 =>
        obtain ⟨⟨d0, hd0, ha0, he0⟩, hmin⟩ := ih2 e0 hl
        simp only []
        by_cases hlt2 : l[k].eui < e0
        · rw [if_pos hlt2]
          refine ⟨(fun h => by cases h), fun e he => ?_⟩
          injection he with he
          subst he
          refine ⟨⟨l[k], List.mem_append_right _ (List.mem_singleton.2 rfl), ha.symm, rfl⟩, fun d hd hda => ?_⟩
          rw [List.mem_append, List.mem_singleton] at hd
          rcases hd with hd | rfl
          · have := hmin d hd hda; omega
          · omega
        · rw [if_neg hlt2]
          refine ⟨(fun h => by cases h), fun e he => ?_⟩
          injection he with he
          subst he
          refine ⟨⟨d0, List.mem_append_left _ hd0, ha0, he0⟩, fun d hd hda => ?_⟩
          rw [List.mem_append, List.mem_singleton] at hd
          rcases hd with hd | rfl
          · exact hmin d hd hda
          · omega
    · rw [if_neg ha]
      refine ⟨fun h d hd => ?_, fun e he => ?_⟩
      · rw [List.mem_append, List.mem_singleton] at hd
        rcases hd with hd | rfl
        · exact ih1 h d hd
        · exact fun e => ha e.symm
      · obtain ⟨⟨d0, hd0, ha0, he0⟩, hmin⟩ := ih2 e he
        refine ⟨⟨d0, List.mem_append_left _ hd0, ha0, he0⟩, fun d hd hda => ?_⟩
        rw [List.mem_append, List.mem_singleton] at hd
        rcases hd with hd | rfl
        · exact hmin d hd hda
        · exact absurd hda.symm ha
theorem least_of {l : List Cl} {c : Cl} (hc : c ∈ l) : (leastV l l.length c.addr ≠ c.eui ↔ isLeast l c = false) := by
  obtain ⟨h1, h2⟩ := leastTo_spec l.length (Nat.le_refl _) c.addr
  rw [List.take_of_length_le (Nat.le_refl _)] at h1 h2
  cases hl : leastTo l l.length c.addr with
  | none => exact absurd rfl (h1 hl c hc)
  | some e =>
    obtain ⟨⟨d, hd, hda, hde⟩, hmin⟩ := h2 e hl
    have hv : leastV l l.length c.addr = e := by unfold leastV; rw [hl]; rfl
    rw [hv]
    have hec := hmin c hc rfl
    constructor
    · intro hne
      rw [← Bool.not_eq_true, isLeast_true]
      intro h
      exact h d hd hda (by omega)
    · intro hf he
      rw [← Bool.not_eq_true, isLeast_true] at hf
      apply hf
      intro d' hd' ha' hlt
      have := hmin d' hd' ha'
      omega
theorem leastTo_wf {l : List Cl} (hw : ∀ c ∈ l, c.Wf) (k : Nat) (hk : k ≤ l.length) (a : Int) : 0 ≤ leastV l k a ∧ leastV l k a < 18446744073709551616 := by
  unfold leastV
  cases hl : leastTo l k a with
  | none => simp
  | some e =>
    obtain ⟨⟨d, hd, _, hde⟩, _⟩ := (leastTo_spec k hk a).2 e hl
    have := hw d (List.mem_of_mem_take hd)
    have h0 := this.e0; have h1 := this.e1
    simp only [Option.getD_some]
    omega
/-- What the program's test says of the map, and what stands there behind the store. -/
theorem least_keep {l : List Cl} {k : Nat} (hk : k < l.length) (hh : leastH l k l[k].addr = true) (hn : ¬ l[k].eui < leastV l k l[k].addr) (a : Int) : leastTo l (k + 1) a = leastTo l k a := by
  rw [leastTo_succ hk]
  by_cases ha : a = l[k].addr
  · rw [if_pos ha]
    subst ha
    unfold leastH at hh
    unfold leastV at hn
    cases hl : leastTo l k l[k].addr with
    | none => rw [hl] at hh; cases hh
    | some e =>
      rw [hl] at hn
      simp only [Option.getD_some] at hn
      simp only []
      rw [if_neg hn]
  · rw [if_neg ha]
theorem least_set {l : List Cl} {k : Nat} (hk : k < l.length) (hh : leastH l k l[k].addr = false ∨ l[k].eui < leastV l k l[k].addr) (a : Int) : leastTo l (k + 1) a = if a = l[k].addr then some l[k].eui else leastTo l k a := by
  rw [leastTo_succ hk]
  by_cases ha : a = l[k].addr
  · rw [if_pos ha, if_pos ha]
    subst ha
    unfold leastH leastV at hh
    cases hl : leastTo l k l[k].addr with
    | none => rfl
    | some e =>
      rw [hl] at hh
      simp only [Option.isSome_some, Option.getD_some] at hh
      rcases hh with hh | hh
      · cases hh
      · simp only []
        rw [if_pos hh]
  · rw [if_neg ha, if_neg ha]
end Go.Proofs.Ytgflklgjjpokaaa
