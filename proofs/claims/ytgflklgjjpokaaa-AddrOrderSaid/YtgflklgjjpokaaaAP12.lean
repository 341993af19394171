/-
  The plain mathematics of AddrApart and AddrOrder (layer 8).
-/
import Derived.Test.YtgflklgjjpokaaaAP11
namespace Go.Proofs.Ytgflklgjjpokaaa

theorem isLeast_end {l : List Cl} (hg : ClGood l) {c : Cl} (hc : c ∈ l) {k : Nat} (hk : 621 ≤ k) : isLeast (iterL l k) (gF l k c) = true := by
  have h := still_good hg c hc
  have h1 : gF l (k + 1) c = gF l k c := by rw [h (k + 1) (by omega), h k hk]
  rw [gF] at h1
  apply Classical.byContradiction
  intro hn
  rw [Bool.not_eq_true] at hn
  rw [stepCl_moved hn] at h1
  have h2 := congrArg Cl.try_ h1
  have h3 : (gF l k c).next.try_ = (gF l k c).try_ + 1 := rfl
  omega
/-- What Settle makes of a list that Check takes. -/
structure ApartIs (l m : List Cl) : Prop where
  len : m.length = l.length
  eui : ∀ i, (hi : i < l.length) → (m[i]'(by omega)).eui = l[i].eui
  tr : ∀ i, (hi : i < l.length) → l[i].try_ ≤ (m[i]'(by omega)).try_
  addr : ∀ i, (hi : i < l.length) → (m[i]'(by omega)).addr = pickZ (m[i]'(by omega)).eui (m[i]'(by omega)).try_
  apart : ∀ i k, (hi : i < l.length) → (hk : k < l.length) → k ≠ i → (m[k]'(by omega)).addr ≠ (m[i]'(by omega)).addr
  least : ∀ i, (hi : i < l.length) → (∀ k, (hk : k < l.length) → ¬ l[k].eui < l[i].eui) → m[i]'(by omega) = l[i]
theorem gF_least {l : List Cl} {c : Cl} (h : ∀ d ∈ l, ¬ d.eui < c.eui) (k : Nat) : gF l k c = c := by
  induction k with
  | zero => rfl
  | succ k ih =>
    rw [gF, stepCl_least, ih]
    rw [least_iff]
    unfold takenL
    intro hm
    obtain ⟨d, hd, _⟩ := List.mem_map.1 hm
    rw [lesser_mem] at hd
    exact h d hd.1 hd.2
theorem apartIs {l : List Cl} (hg : ClGood l) : ApartIs l (iterL l 700) := by
  have hle : (iterL l 700).length = l.length := iterL_length l 700
  have hget : ∀ i, (hi : i < l.length) → (iterL l 700)[i]'(by omega) = gF l 700 l[i] := by
    intro i hi
    have h : ∀ (m : List Cl) (hm : m = l.map (gF l 700)) (h : i < m.length), m[i] = gF l 700 l[i] := by
      intro m hm h
      subst hm
      simp
    exact h _ (iterL_map l 700) _
  have hok := fun i (hi : i < l.length) => Cl.ok_iff.1 (hg.ok l[i] (List.getElem_mem hi))
  refine ⟨hle, fun i hi => ?_, fun i hi => ?_, fun i hi => ?_, fun i k hi hk hne ha => ?_, fun i hi h => ?_⟩
  · rw [hget i hi, gF_eui]
  · rw [hget i hi]; exact gF_try _ _ _
  · rw [hget i hi]
    have := gF_addr l 700 (hok i hi).2.2
    rw [gF_eui]
    exact this
  · rw [hget i hi, hget k hk] at ha
    have h1 := isLeast_true.1 (isLeast_end hg (List.getElem_mem hi) (k := 700) (by omega))
    have h2 := isLeast_true.1 (isLeast_end hg (List.getElem_mem hk) (k := 700) (by omega))
    have m1 : gF l 700 l[i] ∈ iterL l 700 := by rw [iterL_map]; exact List.mem_map_of_mem (List.getElem_mem hi)
    have m2 : gF l 700 l[k] ∈ iterL l 700 := by rw [iterL_map]; exact List.mem_map_of_mem (List.getElem_mem hk)
    have h3 := h1 _ m2 ha
    have h4 := h2 _ m1 ha.symm
    rw [gF_eui, gF_eui] at h3 h4
    exact hne (hg.apart k i hk hi (by omega))
  · rw [hget i hi]
    refine gF_least (fun d hd => ?_) 700
    obtain ⟨k, hk, rfl⟩ := List.mem_iff_getElem.1 hd
    exact h k hk
/- The order does not matter. -/
theorem isLeast_same {l m : List Cl} (h : ∀ x, x ∈ l ↔ x ∈ m) (c : Cl) : isLeast l c = isLeast m c := by
  rw [Bool.eq_iff_iff, isLeast_true, isLeast_true]
  constructor
  · intro h1 d hd; exact h1 d ((h d).2 hd)
  · intro h1 d hd; exact h1 d ((h d).1 hd)
theorem gF_same {l m : List Cl} (h : ∀ x, x ∈ l ↔ x ∈ m) (k : Nat) : (∀ c, gF l k c = gF m k c) ∧ ∀ x, x ∈ iterL l k ↔ x ∈ iterL m k := by
  induction k with
  | zero => exact ⟨fun _ => rfl, h⟩
  | succ k ih =>
    have h1 : ∀ c, gF l (k + 1) c = gF m (k + 1) c := by
      intro c
      rw [gF, gF, ih.1 c]
      unfold stepCl
      rw [isLeast_same ih.2]
    refine ⟨h1, fun x => ?_⟩
    rw [iterL_map, iterL_map]
    constructor
    · intro hx
      obtain ⟨c, hc, rfl⟩ := List.mem_map.1 hx
      rw [h1 c]
      exact List.mem_map_of_mem ((h c).1 hc)
    · intro hx
      obtain ⟨c, hc, rfl⟩ := List.mem_map.1 hx
      rw [← h1 c]
      exact List.mem_map_of_mem ((h c).2 hc)
theorem order_same {l m : List Cl} (h : ∀ x, x ∈ l ↔ x ∈ m) (hg : ClGood l) (k : Nat) {x y : Cl} (hx : x ∈ iterL l k) (hy : y ∈ iterL m k) (he : x.eui = y.eui) : x = y := by
  rw [iterL_map] at hx hy
  obtain ⟨c, hc, rfl⟩ := List.mem_map.1 hx
  obtain ⟨d, hd, rfl⟩ := List.mem_map.1 hy
  rw [gF_eui, gF_eui] at he
  have hd2 := (h d).2 hd
  obtain ⟨i, hi, rfl⟩ := List.mem_iff_getElem.1 hc
  obtain ⟨j, hj, rfl⟩ := List.mem_iff_getElem.1 hd2
  have := hg.apart i j hi hj he
  subst this
  exact (gF_same h k).1 _
theorem good_clTo {l : List Cl} (hg : ClGood l) (k : Nat) (hk : k ≤ l.length) : clTo l k = 0 := by
  induction k with
  | zero => rfl
  | succ k ih =>
    refine clTo_ok (ih (by omega)) (by omega) ?_ (hg.ok _ (List.getElem_mem _))
    unfold seenTo
    rw [decide_eq_false_iff_not]
    intro hm
    obtain ⟨d, hd, he⟩ := List.mem_map.1 hm
    obtain ⟨i, hi, rfl⟩ := List.mem_iff_getElem.1 hd
    rw [List.length_take] at hi
    rw [List.getElem_take] at he
    have := hg.apart i k (by omega) (by omega) he
    omega
theorem good_clChk {l : List Cl} (hg : ClGood l) : clChk l = 0 := by
  unfold clChk
  rw [if_neg (by have := hg.len; omega)]
  exact good_clTo hg _ (Nat.le_refl _)
/-- The reversed list, rotated. -/
def rotAt (n b i : Nat) : Nat := (2 * n - 1 - i + b) % n
theorem rotAt_lt {n b i : Nat} (h : 0 < n) : rotAt n b i < n := Nat.mod_lt _ h
theorem rotAt_inj {n b i j : Nat} (hi : i < n) (hj : j < n) (h : rotAt n b i = rotAt n b j) : i = j := by
  unfold rotAt at h
  rcases Nat.lt_trichotomy i j with hl | he | hl
  · have h1 := Nat.sub_mod_eq_zero_of_mod_eq h
    rw [show 2 * n - 1 - i + b - (2 * n - 1 - j + b) = j - i by omega, Nat.mod_eq_of_lt (by omega)] at h1
    omega
  · exact he
  · have h1 := Nat.sub_mod_eq_zero_of_mod_eq h.symm
    rw [show 2 * n - 1 - j + b - (2 * n - 1 - i + b) = i - j by omega, Nat.mod_eq_of_lt (by omega)] at h1
    omega
theorem rotAt_onto {n b p : Nat} (hp : p < n) : ∃ i, i < n ∧ rotAt n b i = p := by
  have h0 : 0 < n := by omega
  refine ⟨(2 * n - 1 + b - p) % n, Nat.mod_lt _ h0, ?_⟩
  have h1 := Nat.mod_lt (2 * n - 1 + b - p) h0
  have h2 := Nat.div_add_mod (2 * n - 1 + b - p) n
  unfold rotAt
  generalize (2 * n - 1 + b - p) / n = t at *
  generalize (2 * n - 1 + b - p) % n = i at *
  rw [show 2 * n - 1 - i + b = p + n * t by omega, Nat.add_mul_mod_self_left, Nat.mod_eq_of_lt hp]
end Go.Proofs.Ytgflklgjjpokaaa
