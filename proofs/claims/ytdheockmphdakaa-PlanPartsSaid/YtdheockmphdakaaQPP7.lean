/-
  The plain mathematics of plans (layer 42), part 7: what is left of loads after some slots.
-/
import Derived.Test.YtdheockmphdakaaQPP4
import Derived.Test.YtdheockmphdakaaQP23
namespace Go.Proofs.Ytdheockmphdakaa

/-- What is left of the first j loads after k slots. -/
def Pb.lefts (p : Pb) (x : Pn) (k : Int) : Nat → List Ld
  | 0 => []
  | j + 1 => if (p.loads.getD j Ld.zero).isLeft (x.start.getD j 0) k = true then p.lefts x k j ++ [(p.loads.getD j Ld.zero).left (x.start.getD j 0) k] else p.lefts x k j
theorem Pb.lefts_len (p : Pb) (x : Pn) (k : Int) (j : Nat) : (p.lefts x k j).length ≤ j := by
  induction j with
  | zero => simp [Pb.lefts]
  | succ j ih =>
    rw [Pb.lefts]
    split
    · rw [List.length_append, List.length_singleton]; omega
    · omega
theorem Ld.left_pos {r : Ld} {s k : Int} (h : 0 < r.prof.length) (hb : r.isLeft s k = true) : 0 < (r.left s k).prof.length := by
  unfold Ld.isLeft at hb
  unfold Ld.left
  split
  · rename_i h1
    rw [if_pos h1] at hb
    rw [Ld.shift_yes hb]
    exact h
  · rename_i h1
    rw [if_neg h1] at hb
    split
    · rename_i h2
      rw [if_pos h2] at hb
      cases hb
    · show 0 < (r.prof.drop (k - s).toNat).length
      rw [List.length_drop]
      omega
/-- The problem that is left after k slots. -/
def Pb.rest (p : Pb) (x : Pn) (k : Nat) : Pb :=
  ⟨⟨p.t.buy.drop k, p.t.sell.drop k, p.t.fuse⟩, p.solar.drop k, p.demand.drop k, p.outside.drop k, p.bat, ⟨p.room.gain, p.room.loss, p.room.steps, p.room.power, p.room.low.drop k, p.room.high.drop k⟩, p.lefts x k p.loads.length, p.lv x k, p.tm x k⟩
/-- The starts of what is left of the first j loads. -/
def laterZ (s k : Int) : Int := if s - k < 0 then 0 else s - k
def Pb.later (p : Pb) (x : Pn) (k : Int) : Nat → List Int
  | 0 => []
  | j + 1 => if k < x.start.getD j 0 + ((p.loads.getD j Ld.zero).prof.length : Int) then p.later x k j ++ [laterZ (x.start.getD j 0) k] else p.later x k j
/-- The plan that is left after k slots. -/
def Pn.rest (p : Pb) (x : Pn) (k : Nat) : Pn := ⟨x.charge.drop k, x.heat.drop k, p.later x k p.loads.length⟩

theorem Ld.left_iff {r : Ld} {n s k : Int} (hf : r.fit s n = true) (k0 : 0 ≤ k) (k1 : k < n) : r.isLeft s k = decide (k < s + (r.prof.length : Int)) := by
  simp only [Ld.fit, Bool.and_eq_true, decide_eq_true_iff] at hf
  obtain ⟨hc, h1, h2⟩ := hf
  have g := Ld.good hc
  have g1 := g.n1; have g2 := g.p0
  unfold Ld.isLeft
  by_cases h : k ≤ s
  · rw [if_pos h, decide_eq_true (by omega), Ld.can_yes (Ld.chk96 hc)]
    unfold clampK
    rw [if_neg (by omega), if_neg (by omega)]
    omega
  · rw [if_neg h]
    by_cases h3 : s + (r.prof.length : Int) ≤ k
    · rw [if_pos h3, decide_eq_false (by omega)]
    · rw [if_neg h3, decide_eq_true (by omega)]
theorem Ld.left_fit {r : Ld} {n s k : Int} (hf : r.fit s n = true) (k0 : 0 ≤ k) (k1 : k < n) (hb : r.isLeft s k = true) : (r.left s k).fit (laterZ s k) (n - k) = true := by
  have hf0 := hf
  simp only [Ld.fit, Bool.and_eq_true, decide_eq_true_iff] at hf
  obtain ⟨hc, h1, h2⟩ := hf
  have g := Ld.good hc
  have g1 := g.n1; have g2 := g.p0; have g3 := g.p1; have g4 := g.l1; have g5 := g.e0
  have hb0 := hb
  unfold Ld.isLeft at hb
  unfold Ld.left laterZ
  by_cases h : k ≤ s
  · rw [if_pos h] at hb
    rw [if_pos h, if_neg (by omega), Ld.shift_yes hb, Ld.moved_fit hc k0 k1 h hb]
    exact hf0
  · rw [if_neg h] at hb ⊢
    by_cases h3 : s + (r.prof.length : Int) ≤ k
    · rw [if_pos h3] at hb; cases hb
    · rw [if_neg h3, if_pos (by omega)]
      obtain ⟨d, hd⟩ : ∃ d : Nat, (d : Int) = k - s := ⟨(k - s).toNat, by omega⟩
      rw [← hd, Int.toNat_natCast]
      simp only [Ld.fit, Bool.and_eq_true, decide_eq_true_iff, List.length_drop]
      refine ⟨?_, by omega, by omega⟩
      rw [Ld.chk_iff]
      refine ⟨g.name, ?_, ?_, ?_⟩
      · simp only [Ld.lim, List.length_drop, decide_eq_true_iff]; omega
      · have hu := g.units
        rw [List.all_eq_true] at hu ⊢
        exact fun z hz => hu z (List.mem_of_mem_drop hz)
      · simp only [Ld.span, List.length_drop, decide_eq_true_iff]; omega
theorem Ld.left_use {r : Ld} {s k i : Int} (i0 : 0 ≤ i) (hb : r.isLeft s k = true) : (r.left s k).use (laterZ s k) i = r.use s (i + k) := by
  unfold Ld.isLeft at hb
  unfold Ld.left laterZ
  by_cases h : k ≤ s
  · rw [if_pos h] at hb
    rw [if_pos h, if_neg (by omega), Ld.shift_yes hb]
    have := Ld.moved_use (r := r) (k := k) (s := s) (i := i + k)
    rw [show i + k - k = i by omega] at this
    exact this
  · rw [if_neg h] at hb ⊢
    by_cases h3 : s + (r.prof.length : Int) ≤ k
    · rw [if_pos h3] at hb; cases hb
    · rw [if_neg h3, if_pos (by omega)]
      obtain ⟨d, hd⟩ : ∃ d : Nat, (d : Int) = k - s := ⟨(k - s).toNat, by omega⟩
      obtain ⟨j, rfl⟩ : ∃ j : Nat, i = (j : Int) := ⟨i.toNat, by omega⟩
      rw [← hd, Int.toNat_natCast]
      unfold Ld.use
      simp only [List.length_drop]
      rw [if_neg (by omega), if_neg (show ¬ (j : Int) + k < s by omega)]
      by_cases h4 : ((r.prof.length - d : Nat) : Int) ≤ (j : Int) - 0
      · rw [if_pos h4, if_pos (by omega)]
      · rw [if_neg h4, if_neg (by omega)]
        congr 1
        rw [show ((j : Int) - 0).toNat = j by omega, show ((j : Int) + k - s).toNat = d + j by omega]
        simp [List.getD]
theorem Ld.left_none {r : Ld} {n s k i : Int} (hf : r.fit s n = true) (k0 : 0 ≤ k) (k1 : k < n) (i0 : 0 ≤ i) (hb : r.isLeft s k = false) : r.use s (i + k) = 0 := by
  rw [Ld.left_iff hf k0 k1, decide_eq_false_iff_not] at hb
  unfold Ld.use
  split
  · rfl
  · rw [if_pos (by omega)]
theorem Ld.left_name {r : Ld} {s k : Int} (hb : r.isLeft s k = true) : (r.left s k).name = r.name := by
  unfold Ld.isLeft at hb
  unfold Ld.left
  by_cases h : k ≤ s
  · rw [if_pos h] at hb
    rw [if_pos h, Ld.shift_yes hb]
    rfl
  · rw [if_neg h] at hb ⊢
    by_cases h3 : s + (r.prof.length : Int) ≤ k
    · rw [if_pos h3] at hb; cases hb
    · rw [if_neg h3]

/-- All loads are valid and no name occurs twice. -/
theorem allTo_iff {l : List Ld} {n : Int} {k : Nat} (hk : k ≤ l.length) : allTo l n k = 0 ↔ (∀ x ∈ l.take k, x.chk n = 0) ∧ ((l.take k).map Ld.name).Nodup := by
  induction k with
  | zero => simp [allTo]
  | succ k ih =>
    have hk' : k < l.length := by omega
    have ih := ih (by omega)
    rw [List.take_succ_eq_append_getElem hk', List.map_append, List.nodup_append]
    have e : allTo l n (k + 1) = 0 ↔ allTo l n k = 0 ∧ loadErr l n k = 0 := by
      rw [allTo]
      constructor
      · intro h
        split at h
        · rename_i h1; exact ⟨h1, h⟩
        · rename_i h1; exact absurd h h1
      · rintro ⟨h1, h2⟩
        rw [if_pos h1, h2]
    rw [e, ih]
    constructor
    · rintro ⟨⟨h1, h2⟩, h3⟩
      have hc : l[k].chk n = 0 := by
        by_cases h4 : l[k].chk n = 0
        · exact h4
        · rw [loadErr_bad hk' h4] at h3; exact absurd h3 h4
      refine ⟨?_, h2, by simp, ?_⟩
      · intro x hx
        rw [List.mem_append, List.mem_singleton] at hx
        rcases hx with hx | rfl
        · exact h1 x hx
        · exact hc
      · intro a ha b hb2 hab
        simp only [List.map_cons, List.map_nil, List.mem_singleton] at hb2
        subst hab
        rw [List.mem_map] at ha
        obtain ⟨y, hy, hyn⟩ := ha
        rw [List.mem_iff_getElem] at hy
        obtain ⟨j, hj, rfl⟩ := hy
        rw [List.length_take] at hj
        have hj2 : j < k := by omega
        rw [List.getElem_take] at hyn
        rw [loadErr_dup hk' hc hj2 (by rw [hyn, hb2])] at h3
        cases h3
    · rintro ⟨h1, h2, -, h4⟩
      refine ⟨⟨fun x hx => h1 x (List.mem_append_left _ hx), h2⟩, ?_⟩
      refine loadErr_ok hk' (h1 _ (List.mem_append_right _ (by simp))) ?_
      rintro ⟨x, hx, y, hy, hn⟩
      rw [List.getElem?_eq_getElem hk'] at hx
      injection hx with hx
      subst hx
      exact h4 y.name (List.mem_map.2 ⟨y, hy, rfl⟩) l[k].name (by simp) hn
theorem allChk_iff {l : List Ld} {n : Int} : allChk l n = 0 ↔ l.length ≤ 4 ∧ (∀ x ∈ l, x.chk n = 0) ∧ (l.map Ld.name).Nodup := by
  have h := allTo_iff (l := l) (n := n) (k := l.length) (Nat.le_refl _)
  rw [List.take_length] at h
  unfold allChk
  constructor
  · intro g
    split at g
    · cases g
    · exact ⟨by omega, h.1 g⟩
  · rintro ⟨g1, g2⟩
    rw [if_neg (by omega)]
    exact h.2 g2
/-- What all loads with their starts use in a slot. -/
def useAll (ls : List Ld) (ss : List Int) (i : Int) : Int := sumZ ((ls.zip ss).map fun x => x.1.use x.2 i)
theorem useTo_all (ls : List Ld) (ss : List Int) (i : Int) : useTo ls ss i (min ls.length ss.length) = useAll ls ss i := by
  unfold useTo useAll
  rw [List.take_of_length_le (by rw [List.length_zip]; omega)]
theorem useAll_push {ls : List Ld} {ss : List Int} (h : ls.length = ss.length) (r : Ld) (s i : Int) : useAll (ls ++ [r]) (ss ++ [s]) i = useAll ls ss i + r.use s i := by
  unfold useAll
  rw [List.zip_append h, List.map_append, sumZ_append]
  simp [sumZ]
end Go.Proofs.Ytdheockmphdakaa
