/-
  The plain mathematics of the top law: a plan keeps all limits, slot by slot, just if it is feasible.
-/
import Derived.Test.YtnppngaabfhkpaaJOP6
namespace Go.Proofs.Ytnppngaabfhkpaa
theorem win_charge {b : Bat} {l c : Int} (h : c < -b.discharge ∨ b.charge < c) : (stepZ b l c).2.2 ≠ 0 := by
  unfold stepZ
  split
  · decide
  · rw [if_pos (by omega)]; decide
theorem Pb.lv_bd {p : Pb} {x : Pn} (g : p.Good) {k : Nat} (h : p.errTo x k = 0) : 0 ≤ p.lv x k ∧ p.lv x k ≤ p.bat.cap := by
  cases k with
  | zero => exact ⟨g.l0, g.l1⟩
  | succ k => exact step_ok_bd (Pb.slot_zero (Pb.errTo_each h (Nat.lt_succ_self k)).2).1
theorem Pb.tm_bd {p : Pb} (x : Pn) (g : p.Good) (k : Nat) : -1000 ≤ p.tm x k ∧ p.tm x k ≤ 2000 := by
  cases k with
  | zero => exact ⟨g.t0, g.t1⟩
  | succ k => exact stepT_bd _ _ _ _ _ _
theorem Pb.heat_ne {p : Pb} {x : Pn} {k : Nat} (hk : k < p.n) (h : x.heat.getD k 0 < 0 ∨ p.room.steps < x.heat.getD k 0) : p.err x ≠ 0 := fun he => by
  obtain ⟨hc, hf, _⟩ := Pb.err_zero he
  obtain ⟨h1, _, h2⟩ := Pb.form_good hf
  simp only [Pb.sized, decide_eq_true_eq] at h1
  have h3 := allB_bd h2 (i := k) (by omega)
  have e : x.heat.getD k 0 = x.heat[k]'(by omega) := by simp [List.getD, show k < x.heat.length by omega]
  rw [e] at h
  omega
def Pb.costTo (p : Pb) (x : Pn) (k : Nat) : Int := p.t.totalTo (p.nets x k) k
theorem Pb.costTo_zero (p : Pb) (x : Pn) : p.costTo x 0 = 0 := Tf.totalTo_zero _ _
theorem totalTo_congr (t : Tf) (l m : List Int) (k : Nat) (h : ∀ i, i < k → l.getD i 0 = m.getD i 0) : t.totalTo l k = t.totalTo m k := by
  induction k with
  | zero => rw [Tf.totalTo_zero, Tf.totalTo_zero]
  | succ k ih => rw [Tf.totalTo_succ, Tf.totalTo_succ, ih fun i hi => h i (by omega), h k (by omega)]
theorem Pb.costTo_succ (p : Pb) (x : Pn) (k : Nat) : p.costTo x (k + 1) = p.costTo x k + p.t.cost k (p.net x k) := by
  unfold Pb.costTo
  rw [Tf.totalTo_succ]
  have e : ∀ (j : Nat), k ≤ j → ∀ i, i < j → (p.nets x j).getD i 0 = p.net x i := fun j _ i hi => by simp [Pb.nets, List.getD, hi]
  rw [e (k + 1) (by omega) k (by omega), totalTo_congr p.t (p.nets x (k + 1)) (p.nets x k) k fun i hi => by rw [e (k + 1) (by omega) i (by omega), e k (by omega) i hi]]
end Go.Proofs.Ytnppngaabfhkpaa
namespace Go.Proofs.Ytnppngaabfhkpaa
def Pn.ext (x y : Pn) : Prop := y.start = x.start ∧ x.charge <+: y.charge ∧ x.heat <+: y.heat
def Pn.push (x : Pn) (c h : Int) : Pn := ⟨x.charge ++ [c], x.heat ++ [h], x.start⟩
theorem Pb.feasible {p : Pb} {y : Pn} (h : p.err y = 0) : y.charge.length = p.n ∧ y.heat.length = p.n ∧ y.start.length = p.loads.length ∧
    (∀ k, k < p.n → -p.bat.discharge ≤ y.charge.getD k 0 ∧ y.charge.getD k 0 ≤ p.bat.charge ∧ 0 ≤ y.heat.getD k 0 ∧ y.heat.getD k 0 ≤ p.room.steps) := by
  obtain ⟨hc, hf, he⟩ := Pb.err_zero h
  obtain ⟨hs, _, _⟩ := Pb.form_good hf
  simp only [Pb.sized, decide_eq_true_eq] at hs
  refine ⟨hs.1, hs.2.1, hs.2.2, fun k hk => ?_⟩
  have h1 := (Pb.slot_zero (Pb.errTo_each he hk).2).1
  refine ⟨?_, ?_, ?_, ?_⟩
  · exact Int.not_lt.1 fun g => win_charge (.inl g) h1
  · exact Int.not_lt.1 fun g => win_charge (.inr g) h1
  · exact Int.not_lt.1 fun g => Pb.heat_ne hk (.inl g) h
  · exact Int.not_lt.1 fun g => Pb.heat_ne hk (.inr g) h
end Go.Proofs.Ytnppngaabfhkpaa
namespace Go.Proofs.Ytnppngaabfhkpaa
end Go.Proofs.Ytnppngaabfhkpaa
namespace Go.Proofs.Ytnppngaabfhkpaa
section
variable {p : Pb} {V : Pn → Prop} {f : Bool} {b x : Pn} {c h : Int}
end
section
variable {p : Pb} {V : Pn → Prop} {f : Bool} {b x : Pn}
end
end Go.Proofs.Ytnppngaabfhkpaa
namespace Go.Proofs.Ytnppngaabfhkpaa
def Ld.left (r : Ld) (s k : Int) : Ld := if k ≤ s then r.shift k else if s + (r.prof.length : Int) ≤ k then Ld.zero else ⟨r.name, r.prof.drop (k - s).toNat, 0, (r.prof.length : Int) - (k - s)⟩
def Ld.isLeft (r : Ld) (s k : Int) : Bool := if k ≤ s then r.canShift k else if s + (r.prof.length : Int) ≤ k then false else true
def Pb.lefts (p : Pb) (x : Pn) (k : Int) : Nat → List Ld
  | 0 => []
  | j + 1 => if (p.loads.getD j Ld.zero).isLeft (x.start.getD j 0) k = true then p.lefts x k j ++ [(p.loads.getD j Ld.zero).left (x.start.getD j 0) k] else p.lefts x k j
theorem Pb.lefts_len (p : Pb) (x : Pn) (k : Int) (j : Nat) : (p.lefts x k j).length ≤ j := by
  induction j with
  | zero => simp [Pb.lefts]
  | succ j ih =>
    rw [Pb.lefts]
    split
    · rw [List.length_append, List.length_singleton]; omega
    · omega
def Pb.rest (p : Pb) (x : Pn) (k : Nat) : Pb :=
  ⟨⟨p.t.buy.drop k, p.t.sell.drop k, p.t.fuse⟩, p.solar.drop k, p.demand.drop k, p.outside.drop k, p.bat, ⟨p.room.gain, p.room.loss, p.room.steps, p.room.power, p.room.low.drop k, p.room.high.drop k⟩, p.lefts x k p.loads.length, p.lv x k, p.tm x k⟩
def laterZ (s k : Int) : Int := if s - k < 0 then 0 else s - k
def Pb.later (p : Pb) (x : Pn) (k : Int) : Nat → List Int
  | 0 => []
  | j + 1 => if k < x.start.getD j 0 + ((p.loads.getD j Ld.zero).prof.length : Int) then p.later x k j ++ [laterZ (x.start.getD j 0) k] else p.later x k j
def Pn.rest (p : Pb) (x : Pn) (k : Nat) : Pn := ⟨x.charge.drop k, x.heat.drop k, p.later x k p.loads.length⟩
theorem Ld.left_iff {r : Ld} {n s k : Int} (hf : r.fit s n = true) (k0 : 0 ≤ k) (k1 : k < n) : r.isLeft s k = decide (k < s + (r.prof.length : Int)) := by
  simp only [Ld.fit, Bool.and_eq_true, decide_eq_true_iff] at hf
  obtain ⟨hc, h1, h2⟩ := hf
  have g := Ld.good hc
  have g1 := g.n1; have g2 := g.p0
  unfold Ld.isLeft
  by_cases h : k ≤ s
  · rw [if_pos h, decide_eq_true (by omega), Ld.can_yes (Ld.chk96 hc)]
    unfold clampK
    rw [if_neg (by omega), if_neg (by omega)]
    omega
  · rw [if_neg h]
    by_cases h3 : s + (r.prof.length : Int) ≤ k
    · rw [if_pos h3, decide_eq_false (by omega)]
    · rw [if_neg h3, decide_eq_true (by omega)]
theorem Ld.left_fit {r : Ld} {n s k : Int} (hf : r.fit s n = true) (k0 : 0 ≤ k) (k1 : k < n) (hb : r.isLeft s k = true) : (r.left s k).fit (laterZ s k) (n - k) = true := by
  have hf0 := hf
  simp only [Ld.fit, Bool.and_eq_true, decide_eq_true_iff] at hf
  obtain ⟨hc, h1, h2⟩ := hf
  have g := Ld.good hc
  have g1 := g.n1; have g2 := g.p0; have g3 := g.p1; have g4 := g.l1; have g5 := g.e0
  have hb0 := hb
  unfold Ld.isLeft at hb
  unfold Ld.left laterZ
  by_cases h : k ≤ s
  · rw [if_pos h] at hb
    rw [if_pos h, if_neg (by omega), Ld.shift_yes hb, Ld.moved_fit hc k0 k1 h hb]
    exact hf0
  · rw [if_neg h] at hb ⊢
    by_cases h3 : s + (r.prof.length : Int) ≤ k
    · rw [if_pos h3] at hb; cases hb
    · rw [if_neg h3, if_pos (by omega)]
      obtain ⟨d, hd⟩ : ∃ d : Nat, (d : Int) = k - s := ⟨(k - s).toNat, by omega⟩
      rw [← hd, Int.toNat_natCast]
      simp only [Ld.fit, Bool.and_eq_true, decide_eq_true_iff, List.length_drop]
      refine ⟨?_, by omega, by omega⟩
      rw [Ld.chk_iff]
      refine ⟨g.name, ?_, ?_, ?_⟩
      · simp only [Ld.lim, List.length_drop, decide_eq_true_iff]; omega
      · have hu := g.units
        rw [List.all_eq_true] at hu ⊢
        exact fun z hz => hu z (List.mem_of_mem_drop hz)
      · simp only [Ld.span, List.length_drop, decide_eq_true_iff]; omega
theorem Ld.left_use {r : Ld} {s k i : Int} (i0 : 0 ≤ i) (hb : r.isLeft s k = true) : (r.left s k).use (laterZ s k) i = r.use s (i + k) := by
  unfold Ld.isLeft at hb
  unfold Ld.left laterZ
  by_cases h : k ≤ s
  · rw [if_pos h] at hb
    rw [if_pos h, if_neg (by omega), Ld.shift_yes hb]
    have := Ld.moved_use (r := r) (k := k) (s := s) (i := i + k)
    rw [show i + k - k = i by omega] at this
    exact this
  · rw [if_neg h] at hb ⊢
    by_cases h3 : s + (r.prof.length : Int) ≤ k
    · rw [if_pos h3] at hb; cases hb
    · rw [if_neg h3, if_pos (by omega)]
      obtain ⟨d, hd⟩ : ∃ d : Nat, (d : Int) = k - s := ⟨(k - s).toNat, by omega⟩
      obtain ⟨j, rfl⟩ : ∃ j : Nat, i = (j : Int) := ⟨i.toNat, by omega⟩
      rw [← hd, Int.toNat_natCast]
      unfold Ld.use
      simp only [List.length_drop]
      rw [if_neg (by omega), if_neg (show ¬ (j : Int) + k < s by omega)]
      by_cases h4 : ((r.prof.length - d : Nat) : Int) ≤ (j : Int) - 0
      · rw [if_pos h4, if_pos (by omega)]
      · rw [if_neg h4, if_neg (by omega)]
        congr 1
        rw [show ((j : Int) - 0).toNat = j by omega, show ((j : Int) + k - s).toNat = d + j by omega]
        simp [List.getD]
theorem Ld.left_none {r : Ld} {n s k i : Int} (hf : r.fit s n = true) (k0 : 0 ≤ k) (k1 : k < n) (i0 : 0 ≤ i) (hb : r.isLeft s k = false) : r.use s (i + k) = 0 := by
  rw [Ld.left_iff hf k0 k1, decide_eq_false_iff_not] at hb
  unfold Ld.use
  split
  · rfl
  · rw [if_pos (by omega)]
theorem Ld.left_name {r : Ld} {s k : Int} (hb : r.isLeft s k = true) : (r.left s k).name = r.name := by
  unfold Ld.isLeft at hb
  unfold Ld.left
  by_cases h : k ≤ s
  · rw [if_pos h] at hb
    rw [if_pos h, Ld.shift_yes hb]
    rfl
  · rw [if_neg h] at hb ⊢
    by_cases h3 : s + (r.prof.length : Int) ≤ k
    · rw [if_pos h3] at hb; cases hb
    · rw [if_neg h3]
theorem allTo_iff {l : List Ld} {n : Int} {k : Nat} (hk : k ≤ l.length) : allTo l n k = 0 ↔ (∀ x ∈ l.take k, x.chk n = 0) ∧ ((l.take k).map Ld.name).Nodup := by
  induction k with
  | zero => simp [allTo]
  | succ k ih =>
    have hk' : k < l.length := by omega
    have ih := ih (by omega)
    rw [List.take_succ_eq_append_getElem hk', List.map_append, List.nodup_append]
    have e : allTo l n (k + 1) = 0 ↔ allTo l n k = 0 ∧ loadErr l n k = 0 := by
      rw [allTo]
      constructor
      · intro h
        split at h
        · rename_i h1; exact ⟨h1, h⟩
        · rename_i h1; exact absurd h h1
      · rintro ⟨h1, h2⟩
        rw [if_pos h1, h2]
    rw [e, ih]
    constructor
    · rintro ⟨⟨h1, h2⟩, h3⟩
      have hc : l[k].chk n = 0 := by
        by_cases h4 : l[k].chk n = 0
        · exact h4
        · rw [loadErr_bad hk' h4] at h3; exact absurd h3 h4
      refine ⟨?_, h2, by simp, ?_⟩
      · intro x hx
        rw [List.mem_append, List.mem_singleton] at hx
        rcases hx with hx | rfl
        · exact h1 x hx
        · exact hc
      · intro a ha b hb2 hab
        simp only [List.map_cons, List.map_nil, List.mem_singleton] at hb2
        subst hab
        rw [List.mem_map] at ha
        obtain ⟨y, hy, hyn⟩ := ha
        rw [List.mem_iff_getElem] at hy
        obtain ⟨j, hj, rfl⟩ := hy
        rw [List.length_take] at hj
        have hj2 : j < k := by omega
        rw [List.getElem_take] at hyn
        rw [loadErr_dup hk' hc hj2 (by rw [hyn, hb2])] at h3
        cases h3
    · rintro ⟨h1, h2, -, h4⟩
      refine ⟨⟨fun x hx => h1 x (List.mem_append_left _ hx), h2⟩, ?_⟩
      refine loadErr_ok hk' (h1 _ (List.mem_append_right _ (by simp))) ?_
      rintro ⟨x, hx, y, hy, hn⟩
      rw [List.getElem?_eq_getElem hk'] at hx
      injection hx with hx
      subst hx
      exact h4 y.name (List.mem_map.2 ⟨y, hy, rfl⟩) l[k].name (by simp) hn
theorem allChk_iff {l : List Ld} {n : Int} : allChk l n = 0 ↔ l.length ≤ 4 ∧ (∀ x ∈ l, x.chk n = 0) ∧ (l.map Ld.name).Nodup := by
  have h := allTo_iff (l := l) (n := n) (k := l.length) (Nat.le_refl _)
  rw [List.take_length] at h
  unfold allChk
  constructor
  · intro g
    split at g
    · cases g
    · exact ⟨by omega, h.1 g⟩
  · rintro ⟨g1, g2⟩
    rw [if_neg (by omega)]
    exact h.2 g2
def useAll (ls : List Ld) (ss : List Int) (i : Int) : Int := sumZ ((ls.zip ss).map fun x => x.1.use x.2 i)
theorem useTo_all (ls : List Ld) (ss : List Int) (i : Int) : useTo ls ss i (min ls.length ss.length) = useAll ls ss i := by
  unfold useTo useAll
  rw [List.take_of_length_le (by rw [List.length_zip]; omega)]
theorem useAll_push {ls : List Ld} {ss : List Int} (h : ls.length = ss.length) (r : Ld) (s i : Int) : useAll (ls ++ [r]) (ss ++ [s]) i = useAll ls ss i + r.use s i := by
  unfold useAll
  rw [List.zip_append h, List.map_append, sumZ_append]
  simp [sumZ]
end Go.Proofs.Ytnppngaabfhkpaa
namespace Go.Proofs.Ytnppngaabfhkpaa
theorem getD_dropZ (l : List Int) (k i : Nat) : (l.drop k).getD i 0 = l.getD (k + i) 0 := by simp [List.getD]
theorem allB_drop {l : List Int} {lo hi : Int} (k : Nat) (h : allB l lo hi = true) : allB (l.drop k) lo hi = true := by
  unfold allB at *
  rw [List.all_eq_true] at *
  exact fun z hz => h z (List.mem_of_mem_drop hz)
theorem Tf.rest_chk {t : Tf} {k : Nat} (h : t.chk = 0) (hk : k < t.buy.length) : (Tf.mk (t.buy.drop k) (t.sell.drop k) t.fuse).chk = 0 := by
  have g := Tf.good h
  have h1 := g.n1; have h2 := g.len
  have ho : t.orderTo t.buy.length = true := by
    cases h3 : t.orderTo t.buy.length
    · unfold Tf.chk at h
      split at h
      · split at h
        · rw [h3] at h; simp at h
        · cases h
      · cases h
    · rfl
  have hn : t.nums = true := by
    cases h3 : t.nums
    · unfold Tf.chk at h
      split at h
      · rw [h3] at h; simp at h
      · cases h
    · rfl
  refine Tf.chk_ok ?_ ?_ ?_
  · simp only [Tf.lim, List.length_drop, decide_eq_true_iff]; omega
  · simp only [Tf.nums, Bool.and_eq_true] at hn ⊢
    exact ⟨allB_drop k hn.1, allB_drop k hn.2.1, hn.2.2⟩
  · simp only [Tf.orderTo, List.all_eq_true, List.mem_range, decide_eq_true_iff, List.length_drop, getD_dropZ] at ho ⊢
    exact fun i hi => ho (k + i) (by omega)
theorem Rm.rest_chk {r : Rm} {n k : Nat} (h : r.chk n = 0) (hk : k < n) : (Rm.mk r.gain r.loss r.steps r.power (r.low.drop k) (r.high.drop k)).chk ((n - k : Nat) : Int) = 0 := by
  unfold Rm.chk at h
  split at h
  · rename_i hs
    split at h
    · rename_i hn
      split at h
      · rename_i hsl
        simp only [Rm.sizeOk, decide_eq_true_eq] at hs
        refine Rm.chk_ok ?_ hn ?_
        · simp only [Rm.sizeOk, List.length_drop, decide_eq_true_iff]; omega
        · simp only [Rm.slotsTo, List.all_eq_true, List.mem_range, List.length_drop, getD_dropZ] at hsl ⊢
          exact fun i hi => hsl (k + i) (by omega)
      · cases h
    · cases h
  · cases h
theorem Pb.fit_each {p : Pb} {x : Pn} (h : p.form x = 0) {j : Nat} (hj : j < p.loads.length) : (p.loads.getD j Ld.zero).fit (x.start.getD j 0) p.n = true := by
  have hf := (Pb.form_good h).2.1
  unfold Pb.fitsTo at hf
  rw [List.all_eq_true] at hf
  exact hf j (List.mem_range.2 hj)
theorem Pb.later_len {p : Pb} {x : Pn} {k : Nat} (h : p.form x = 0) (hk : k < p.n) {j : Nat} (hj : j ≤ p.loads.length) : (p.later x k j).length = (p.lefts x k j).length := by
  induction j with
  | zero => rfl
  | succ j ih =>
    rw [Pb.later, Pb.lefts, Ld.left_iff (Pb.fit_each h (by omega)) (by omega) (by omega)]
    by_cases hc : (k : Int) < x.start.getD j 0 + ((p.loads.getD j Ld.zero).prof.length : Int)
    · rw [if_pos hc, if_pos (by simpa using hc), List.length_append, List.length_append, ih (by omega)]
      rfl
    · rw [if_neg hc, if_neg (by simpa using hc), ih (by omega)]
theorem Pb.later_fits {p : Pb} {x : Pn} {k : Nat} (h : p.form x = 0) (hk : k < p.n) {j : Nat} (hj : j ≤ p.loads.length) : ∀ i, i < (p.lefts x k j).length → ((p.lefts x k j).getD i Ld.zero).fit ((p.later x k j).getD i 0) ((p.n : Int) - k) = true := by
  induction j with
  | zero => intro i hi; simp [Pb.lefts] at hi
  | succ j ih =>
    have ih := ih (by omega)
    have hl := Pb.later_len h hk (j := j) (by omega)
    have hf := Pb.fit_each h (j := j) (by omega)
    have hi2 := Ld.left_iff hf (k := k) (by omega) (by omega)
    intro i hi
    rw [Pb.lefts, hi2] at hi ⊢
    rw [Pb.later]
    by_cases hc : (k : Int) < x.start.getD j 0 + ((p.loads.getD j Ld.zero).prof.length : Int)
    · rw [if_pos (by simpa using hc)] at hi ⊢
      rw [if_pos hc]
      rw [List.length_append, List.length_singleton] at hi
      by_cases he : i < (p.lefts x k j).length
      · have e1 : (p.lefts x k j ++ [(p.loads.getD j Ld.zero).left (x.start.getD j 0) k]).getD i Ld.zero = (p.lefts x k j).getD i Ld.zero := by
          simp only [List.getD, List.getElem?_append_left he]
        have e2 : (p.later x k j ++ [laterZ (x.start.getD j 0) k]).getD i 0 = (p.later x k j).getD i 0 := by
          simp only [List.getD, List.getElem?_append_left (show i < (p.later x k j).length by omega)]
        rw [e1, e2]
        exact ih i he
      · have ei : i = (p.lefts x k j).length := by omega
        have e1 : (p.lefts x k j ++ [(p.loads.getD j Ld.zero).left (x.start.getD j 0) k]).getD i Ld.zero = (p.loads.getD j Ld.zero).left (x.start.getD j 0) k := by
          rw [ei]; simp [List.getD]
        have e2 : (p.later x k j ++ [laterZ (x.start.getD j 0) k]).getD i 0 = laterZ (x.start.getD j 0) k := by
          rw [ei, ← hl]; simp [List.getD]
        rw [e1, e2]
        exact Ld.left_fit hf (by omega) (by omega) (by rw [hi2]; simpa using hc)
    · rw [if_neg (by simpa using hc)] at hi ⊢
      rw [if_neg hc]
      exact ih i hi
theorem Pb.lefts_names {p : Pb} (x : Pn) (k : Nat) {j : Nat} (hj : j ≤ p.loads.length) : ((p.lefts x k j).map Ld.name).Sublist ((p.loads.take j).map Ld.name) := by
  induction j with
  | zero => simp [Pb.lefts]
  | succ j ih =>
    have ih := ih (by omega)
    rw [Pb.lefts, List.take_succ_eq_append_getElem (show j < p.loads.length by omega), List.map_append]
    have e : p.loads.getD j Ld.zero = p.loads[j] := by simp [List.getD, show j < p.loads.length by omega]
    split
    · rename_i hb
      rw [List.map_append]
      refine ih.append ?_
      simp only [List.map_cons, List.map_nil]
      rw [Ld.left_name hb, e]
      exact List.Sublist.refl _
    · exact ih.trans (List.sublist_append_left _ _)
theorem Pb.lefts_chk {p : Pb} {x : Pn} {k : Nat} (g : p.Good) (h : p.form x = 0) (hk : k < p.n) : allChk (p.lefts x k p.loads.length) ((p.n : Int) - k) = 0 := by
  have g0 := (allChk_iff.1 g.loads)
  rw [allChk_iff]
  refine ⟨Nat.le_trans (Pb.lefts_len _ _ _ _) g0.1, ?_, ?_⟩
  · intro y hy
    rw [List.mem_iff_getElem] at hy
    obtain ⟨i, hi, rfl⟩ := hy
    have hf := Pb.later_fits h hk (Nat.le_refl p.loads.length) i hi
    rw [show (p.lefts x k p.loads.length).getD i Ld.zero = (p.lefts x k p.loads.length)[i] by simp [List.getD, hi]] at hf
    simp only [Ld.fit, Bool.and_eq_true, decide_eq_true_iff] at hf
    exact hf.1
  · have hs := Pb.lefts_names (p := p) x k (Nat.le_refl p.loads.length)
    rw [List.take_length] at hs
    exact List.Nodup.sublist hs g0.2.2
theorem Pb.left_uses {p : Pb} {x : Pn} {k : Nat} (h : p.form x = 0) (hk : k < p.n) {j : Nat} (hj : j ≤ p.loads.length) {i : Int} (i0 : 0 ≤ i) : useAll (p.lefts x k j) (p.later x k j) i = useTo p.loads x.start (i + k) j := by
  have hst := (Pb.sized_yes (Pb.form_good h).1).2.2
  induction j with
  | zero => simp [Pb.lefts, Pb.later, useAll, useTo, sumZ]
  | succ j ih =>
    have ih := ih (by omega)
    have hl := Pb.later_len h hk (j := j) (by omega)
    have hf := Pb.fit_each h (j := j) (by omega)
    have hi2 := Ld.left_iff hf (k := k) (by omega) (by omega)
    have e1 : p.loads.getD j Ld.zero = p.loads[j] := by simp [List.getD, show j < p.loads.length by omega]
    have e2 : x.start.getD j 0 = x.start[j] := by simp [List.getD, show j < x.start.length by omega]
    rw [useTo_succ (by omega) (by omega), ← ih, ← e1, ← e2, Pb.lefts, Pb.later]
    by_cases hc : (k : Int) < x.start.getD j 0 + ((p.loads.getD j Ld.zero).prof.length : Int)
    · have hb : (p.loads.getD j Ld.zero).isLeft (x.start.getD j 0) k = true := by rw [hi2]; simpa using hc
      rw [if_pos hb, if_pos hc, useAll_push hl.symm, Ld.left_use i0 hb]
    · have hb : (p.loads.getD j Ld.zero).isLeft (x.start.getD j 0) k = false := by rw [hi2]; simpa using hc
      rw [if_neg (show ¬ (p.loads.getD j Ld.zero).isLeft (x.start.getD j 0) k = true from fun e => by rw [hb] at e; cases e), if_neg hc, Ld.left_none hf (by omega) (by omega) i0 hb]
      omega
theorem Pb.rest_n (p : Pb) (x : Pn) (k : Nat) : (p.rest x k).n = p.n - k := by simp [Pb.n, Pb.rest]
structure Pb.Cut (p : Pb) (x : Pn) (k : Nat) : Prop where
  c : p.chk = 0
  f : p.form x = 0
  e : p.errTo x k = 0
  k : k < p.n
theorem Pb.cut_of {p : Pb} {x : Pn} {k : Nat} (h : p.err x = 0) (hk : k < p.n) : p.Cut x k := by
  obtain ⟨hc, hf, he⟩ := Pb.err_zero h
  exact ⟨hc, hf, (Pb.errTo_each he hk).1, hk⟩
theorem Pb.rest_chk {p : Pb} {x : Pn} {k : Nat} (h : p.Cut x k) : (p.rest x k).chk = 0 := by
  obtain ⟨hc, hf, he, hk⟩ := id h
  have g := Pb.good hc
  obtain ⟨e1, e2, e3⟩ := g.lens
  have hl := Pb.lv_bd g he
  have ht := Pb.tm_bd x g k
  have hn : (((p.rest x k).n : Nat) : Int) = (p.n : Int) - k := by rw [Pb.rest_n]; omega
  apply Pb.chk_of
  refine ⟨Tf.rest_chk g.t hk, ?_, allB_drop k g.so, allB_drop k g.de, allB_drop k g.ou, g.bat, ?_, ?_, hl.1, hl.2, ht.1, ht.2⟩
  · rw [Pb.rest_n]
    simp only [Pb.rest, List.length_drop]
    omega
  · rw [Pb.rest_n]; exact Rm.rest_chk g.room hk
  · rw [hn]; exact Pb.lefts_chk g hf hk
theorem Pb.rest_form {p : Pb} {x : Pn} {k : Nat} (h : p.Cut x k) : (p.rest x k).form (x.rest p k) = 0 := by
  obtain ⟨hc, hf, he, hk⟩ := id h
  obtain ⟨h1, h2, h3⟩ := Pb.form_good hf
  obtain ⟨e1, e2, e3⟩ := Pb.sized_yes h1
  refine Pb.form_ok ?_ ?_ (allB_drop k h3)
  · simp only [Pb.sized, Pb.rest_n, Pn.rest, List.length_drop, decide_eq_true_iff]
    exact ⟨by omega, by omega, Pb.later_len hf hk (Nat.le_refl _)⟩
  · unfold Pb.fitsTo
    rw [List.all_eq_true]
    intro i hi
    rw [List.mem_range] at hi
    have hn : (((p.rest x k).n : Nat) : Int) = (p.n : Int) - k := by rw [Pb.rest_n]; omega
    rw [hn]
    exact Pb.later_fits hf hk (Nat.le_refl _) i hi
theorem Pb.uses_in {p : Pb} (g : p.Good) (x : Pn) {i : Nat} (hi : i < p.n) : (p.uses x).getD i 0 = useTo p.loads x.start i (min p.loads.length x.start.length) := by
  have h : i < (p.uses x).length := by rw [Pb.uses_len g]; exact hi
  simp only [List.getD, List.getElem?_eq_getElem h, Option.getD_some]
  simp [Pb.uses, usesL]
theorem Pb.rest_uses {p : Pb} {x : Pn} {k i : Nat} (h : p.Cut x k) (hi : k + i < p.n) : ((p.rest x k).uses (x.rest p k)).getD i 0 = (p.uses x).getD (k + i) 0 := by
  obtain ⟨hc, hf, he, hk⟩ := id h
  have hst := (Pb.sized_yes (Pb.form_good hf).1).2.2
  rw [Pb.uses_in (Pb.good hc) x hi, Pb.uses_in (Pb.good (Pb.rest_chk h)) _ (by rw [Pb.rest_n]; omega)]
  have e := Pb.left_uses hf hk (Nat.le_refl p.loads.length) (i := (i : Int)) (by omega)
  have e2 := useTo_all (p.lefts x k p.loads.length) (p.later x k p.loads.length) (i : Int)
  show useTo (p.lefts x k p.loads.length) (p.later x k p.loads.length) (i : Int) (min (p.lefts x k p.loads.length).length (p.later x k p.loads.length).length) = _
  rw [e2, e, hst, Nat.min_self, show ((k + i : Nat) : Int) = (i : Int) + k by omega]
theorem Pb.rest_lv {p : Pb} (x : Pn) (k : Nat) (i : Nat) : (p.rest x k).lv (x.rest p k) i = p.lv x (k + i) := by
  induction i with
  | zero => rfl
  | succ i ih =>
    show (stepZ p.bat ((p.rest x k).lv (x.rest p k) i) ((x.charge.drop k).getD i 0)).1 = (stepZ p.bat (p.lv x (k + i)) (x.charge.getD (k + i) 0)).1
    rw [ih, getD_dropZ]
theorem Pb.rest_valid {p : Pb} {x : Pn} {k : Nat} (h : p.Cut x k) : (p.rest x k).room.valid = (p.rest x k).room ∧ p.room.valid = p.room :=
  ⟨(Pb.room_ok (Pb.good (Pb.rest_chk h))).2.2.2, (Pb.room_ok (Pb.good h.c)).2.2.2⟩
theorem Pb.rest_tm {p : Pb} {x : Pn} {k : Nat} (h : p.Cut x k) (i : Nat) : (p.rest x k).tm (x.rest p k) i = p.tm x (k + i) := by
  obtain ⟨v1, v2⟩ := Pb.rest_valid h
  induction i with
  | zero => rfl
  | succ i ih =>
    show (p.rest x k).room.valid.step ((p.rest x k).tm (x.rest p k) i) ((p.outside.drop k).getD i 0) ((x.heat.drop k).getD i 0) = p.room.valid.step (p.tm x (k + i)) (p.outside.getD (k + i) 0) (x.heat.getD (k + i) 0)
    rw [ih, getD_dropZ, getD_dropZ, v1, v2]
    rfl
theorem Pb.rest_net {p : Pb} {x : Pn} {k i : Nat} (h : p.Cut x k) (hi : k + i < p.n) : (p.rest x k).net (x.rest p k) i = p.net x (k + i) := by
  unfold Pb.net
  rw [Pb.rest_uses h hi, Pb.rest_lv]
  show (p.demand.drop k).getD i 0 + (stepZ p.bat (p.lv x (k + i)) ((x.charge.drop k).getD i 0)).2.1 + (x.heat.drop k).getD i 0 * p.room.power + (p.uses x).getD (k + i) 0 - (p.solar.drop k).getD i 0 = _
  rw [getD_dropZ, getD_dropZ, getD_dropZ, getD_dropZ]
theorem Pb.rest_slot {p : Pb} {x : Pn} {k i : Nat} (h : p.Cut x k) (hi : k + i < p.n) : (p.rest x k).slotErr (x.rest p k) i = p.slotErr x (k + i) := by
  obtain ⟨v1, v2⟩ := Pb.rest_valid h
  have e1 : (p.rest x k).slotOk (x.rest p k) i = p.slotOk x (k + i) := by
    unfold Pb.slotOk
    rw [Pb.rest_net h hi, Pb.rest_tm h, v1, v2]
    show (Rm.okAt ⟨p.room.gain, p.room.loss, p.room.steps, p.room.power, p.room.low.drop k, p.room.high.drop k⟩ (i : Int) (p.tm x (k + (i + 1))) && wB (p.net x (k + i)) (-p.t.fuse) p.t.fuse) = _
    congr 1
    unfold Rm.okAt
    simp only [List.length_drop, Int.toNat_natCast, getD_dropZ]
    rw [show k + (i + 1) = k + i + 1 from rfl]
    have hlow := (Pb.room_ok (Pb.good h.c)).2.1
    rw [decide_eq_true (show (0 : Int) ≤ (i : Int) by omega), decide_eq_true (show (0 : Int) ≤ ((k + i : Nat) : Int) by omega), decide_eq_true (show (i : Int) < ((p.room.low.length - k : Nat) : Int) by omega), decide_eq_true (show ((k + i : Nat) : Int) < (p.room.low.length : Int) by omega)]
  unfold Pb.slotErr
  rw [e1, Pb.rest_lv]
  show (if (stepZ p.bat (p.lv x (k + i)) ((x.charge.drop k).getD i 0)).2.2 ≠ 0 then (stepZ p.bat (p.lv x (k + i)) ((x.charge.drop k).getD i 0)).2.2 else _) = _
  rw [getD_dropZ]
theorem Pb.rest_errTo {p : Pb} {x : Pn} {k : Nat} (h : p.Cut x k) (i : Nat) (hi : k + i ≤ p.n) : p.errTo x (k + i) = (p.rest x k).errTo (x.rest p k) i := by
  induction i with
  | zero => exact h.e
  | succ i ih =>
    have ih := ih (by omega)
    show (if p.errTo x (k + i) = 0 then p.slotErr x (k + i) else p.errTo x (k + i)) = (if (p.rest x k).errTo (x.rest p k) i = 0 then (p.rest x k).slotErr (x.rest p k) i else (p.rest x k).errTo (x.rest p k) i)
    rw [ih, Pb.rest_slot h (by omega)]
theorem Pb.rest_err {p : Pb} {x : Pn} {k : Nat} (h : p.Cut x k) : p.err x = (p.rest x k).err (x.rest p k) := by
  have hk := h.k
  rw [Pb.err_run (Pb.rest_chk h) (Pb.rest_form h), Pb.err_run h.c h.f, Pb.rest_n, ← Pb.rest_errTo h _ (by omega)]
  congr 1; omega
theorem Tf.rest_total {t : Tf} (k : Nat) (l : List Int) (m : Nat) : (Tf.mk (t.buy.drop k) (t.sell.drop k) t.fuse).totalTo (l.drop k) m + t.totalTo l k = t.totalTo l (k + m) := by
  induction m with
  | zero => rw [Tf.totalTo_zero]; simp
  | succ m ih =>
    rw [Tf.totalTo_succ, show k + (m + 1) = (k + m) + 1 from rfl, Tf.totalTo_succ, ← ih]
    have e : (Tf.mk (t.buy.drop k) (t.sell.drop k) t.fuse).cost m ((l.drop k).getD m 0) = t.cost (k + m) (l.getD (k + m) 0) := by
      unfold Tf.cost
      rw [getD_dropZ, getD_dropZ, getD_dropZ]
    rw [e]
    omega
theorem Pb.map_shift (f g : Nat → Int) (n k : Nat) (hk : k ≤ n) (h : ∀ i, k + i < n → g i = f (k + i)) : (List.range (n - k)).map g = ((List.range n).map f).drop k := by
  apply List.ext_getElem
  · simp
  · intro i h1 h2
    simp only [List.length_map, List.length_range] at h1
    simp only [List.getElem_map, List.getElem_range, List.getElem_drop]
    exact h i (by omega)
theorem Pb.rest_cost {p : Pb} {x : Pn} {k : Nat} (h : p.err x = 0) (hk : k < p.n) : (p.trace x).cost = ((p.rest x k).trace (x.rest p k)).cost + p.costTo x k := by
  have hC := Pb.cut_of h hk
  have h2 : (p.rest x k).err (x.rest p k) = 0 := by rw [← Pb.rest_err hC]; exact h
  rw [Pb.cost_total h, Pb.cost_total h2, Pb.rest_n]
  have en : (p.rest x k).nets (x.rest p k) (p.n - k) = (p.nets x p.n).drop k := Pb.map_shift _ _ _ _ (Nat.le_of_lt hk) fun i hi => Pb.rest_net hC hi
  rw [en]
  have e := Tf.rest_total (t := p.t) k (p.nets x p.n) (p.n - k)
  rw [show k + (p.n - k) = p.n by omega] at e
  have e2 : p.t.totalTo (p.nets x p.n) k = p.costTo x k := by
    unfold Pb.costTo
    exact totalTo_congr _ _ _ _ fun i hi => by simp [Pb.nets, List.getD, hi, show i < p.n by omega]
  rw [← e2]
  show _ = (Tf.mk (p.t.buy.drop k) (p.t.sell.drop k) p.t.fuse).totalTo _ _ + _
  omega
end Go.Proofs.Ytnppngaabfhkpaa
namespace Go.Proofs.Ytnppngaabfhkpaa
structure Dc where
  charge : Int
  heat : Int
  starts : List Bool
def Dc.zero : Dc := ⟨0, 0, []⟩
def Pb.fallback (p : Pb) : Dc := ⟨0, p.room.valid.hold 0 p.temp (p.outside.getD 0 0), p.loads.map fun l => decide (l.last = 0)⟩
def Pn.first (x : Pn) : Dc := ⟨x.charge.getD 0 0, x.heat.getD 0 0, x.start.map fun s => decide (s = 0)⟩
def Pb.dec (p : Pb) : Dc := if p.chk ≠ 0 then Dc.zero else if p.bestE = 0 then p.best.first else p.fallback
def Pb.clash (p : Pb) (d : Dc) (k : Nat) : Bool := (List.range k).any fun i => d.starts.getD i false && decide ((p.loads.getD i Ld.zero).early ≠ 0)
def Pb.canDo (p : Pb) (d : Dc) : Int := if d.starts.length ≠ p.loads.length then 3 else if d.heat < 0 ∨ p.room.steps < d.heat then 2 else if p.clash d p.loads.length = true then 2 else 0
def Pb.doE (p : Pb) (d : Dc) : Int := if p.chk ≠ 0 then p.chk else if p.canDo d ≠ 0 then p.canDo d else (stepZ p.bat p.level d.charge).2.2
def Pb.firstUse (p : Pb) (d : Dc) : Nat → Int
  | 0 => 0
  | k + 1 => p.firstUse d k + if d.starts.getD k false = true then (p.loads.getD k Ld.zero).prof.getD 0 0 else 0
def Pb.nextLv (p : Pb) (d : Dc) : Int := (stepZ p.bat p.level d.charge).1
def Pb.nextTm (p : Pb) (d : Dc) : Int := p.room.valid.step p.temp (p.outside.getD 0 0) d.heat
def Pb.nextNet (p : Pb) (d : Dc) : Int := p.demand.getD 0 0 + (stepZ p.bat p.level d.charge).2.1 + d.heat * p.room.power - p.solar.getD 0 0 + p.firstUse d p.loads.length
def Ld.okNext (r : Ld) (b : Bool) : Bool := b || r.canShift 1
def Ld.hasNext (r : Ld) (b : Bool) : Bool := !b || decide (1 < r.prof.length)
def Ld.next (r : Ld) (b : Bool) : Ld := if b = true then ⟨r.name, r.prof.drop 1, 0, (r.prof.length : Int) - 1⟩ else r.shift 1
def Pb.okTo (p : Pb) (d : Dc) (k : Nat) : Bool := (List.range k).all fun i => (p.loads.getD i Ld.zero).okNext (d.starts.getD i false)
def Pb.whichs (p : Pb) (d : Dc) (k : Nat) : List Nat := (List.range k).filter fun i => (p.loads.getD i Ld.zero).hasNext (d.starts.getD i false)
def Pb.nexts (p : Pb) (d : Dc) (k : Nat) : List Ld := (p.whichs d k).map fun i => (p.loads.getD i Ld.zero).next (d.starts.getD i false)
def Pb.advE (p : Pb) (d : Dc) : Int := if p.doE d ≠ 0 then p.doE d else if p.n = 1 then 2 else if p.okTo d p.loads.length = false then 20 else 0
def Pb.adv (p : Pb) (d : Dc) : Pb :=
  ⟨⟨p.t.buy.drop 1, p.t.sell.drop 1, p.t.fuse⟩, p.solar.drop 1, p.demand.drop 1, p.outside.drop 1, p.bat, ⟨p.room.gain, p.room.loss, p.room.steps, p.room.power, p.room.low.drop 1, p.room.high.drop 1⟩, p.nexts d p.loads.length, p.nextLv d, p.nextTm d⟩
theorem Pb.clash_succ (p : Pb) (d : Dc) (k : Nat) : p.clash d (k + 1) = (p.clash d k || (d.starts.getD k false && decide ((p.loads.getD k Ld.zero).early ≠ 0))) := by
  simp [Pb.clash, List.range_succ, List.any_append]
theorem Pb.clash_le {p : Pb} {d : Dc} {k m : Nat} (h : p.clash d k = true) (hm : k ≤ m) : p.clash d m = true := by
  simp only [Pb.clash, List.any_eq_true, List.mem_range] at h ⊢
  obtain ⟨i, hi, h⟩ := h
  exact ⟨i, by omega, h⟩
theorem Pb.okTo_succ (p : Pb) (d : Dc) (k : Nat) : p.okTo d (k + 1) = (p.okTo d k && (p.loads.getD k Ld.zero).okNext (d.starts.getD k false)) := by
  simp [Pb.okTo, List.range_succ, List.all_append]
theorem Pb.okTo_le {p : Pb} {d : Dc} {k m : Nat} (h : p.okTo d k = false) (hm : k ≤ m) : p.okTo d m = false := by
  rw [← Bool.not_eq_true] at h ⊢
  simp only [Pb.okTo, List.all_eq_true, List.mem_range] at h ⊢
  exact fun g => h fun i hi => g i (by omega)
theorem Pb.whichs_succ (p : Pb) (d : Dc) (k : Nat) : p.whichs d (k + 1) = if (p.loads.getD k Ld.zero).hasNext (d.starts.getD k false) = true then p.whichs d k ++ [k] else p.whichs d k := by
  unfold Pb.whichs
  rw [List.range_succ, List.filter_append]
  split
  · rename_i h
    have e : List.filter (fun i => (p.loads.getD i Ld.zero).hasNext (d.starts.getD i false)) [k] = [k] := List.filter_cons_of_pos (p := fun i => (p.loads.getD i Ld.zero).hasNext (d.starts.getD i false)) (l := []) h
    rw [e]
  · rename_i h
    have e : List.filter (fun i => (p.loads.getD i Ld.zero).hasNext (d.starts.getD i false)) [k] = [] := List.filter_cons_of_neg (p := fun i => (p.loads.getD i Ld.zero).hasNext (d.starts.getD i false)) (l := []) h
    rw [e, List.append_nil]
theorem Pb.nexts_succ (p : Pb) (d : Dc) (k : Nat) : p.nexts d (k + 1) = if (p.loads.getD k Ld.zero).hasNext (d.starts.getD k false) = true then p.nexts d k ++ [(p.loads.getD k Ld.zero).next (d.starts.getD k false)] else p.nexts d k := by
  unfold Pb.nexts
  rw [Pb.whichs_succ]
  split
  · rw [List.map_append]; rfl
  · rfl
theorem Pb.nexts_len (p : Pb) (d : Dc) (k : Nat) : (p.nexts d k).length = (p.whichs d k).length := by unfold Pb.nexts; rw [List.length_map]
theorem Pb.whichs_mem {p : Pb} {d : Dc} {k i : Nat} : i ∈ p.whichs d k ↔ i < k ∧ (p.loads.getD i Ld.zero).hasNext (d.starts.getD i false) = true := by
  unfold Pb.whichs; rw [List.mem_filter, List.mem_range]
theorem Pb.whichs_sorted (p : Pb) (d : Dc) (k : Nat) : (p.whichs d k).Pairwise (· < ·) := List.pairwise_lt_range.filter _
theorem Pb.whichs_len (p : Pb) (d : Dc) (k : Nat) : (p.whichs d k).length ≤ k := by
  have := List.length_filter_le (fun i => (p.loads.getD i Ld.zero).hasNext (d.starts.getD i false)) (List.range k)
  rw [List.length_range] at this
  exact this
theorem holdTo_spec (p : Int → Bool) (n : Nat) : 0 ≤ holdTo p n ∧ holdTo p n ≤ (n : Int) ∧ (∀ x, 0 ≤ x → x < holdTo p n → p x = false) ∧ (holdTo p n = (n : Int) ∨ p (holdTo p n) = true) := by
  induction n with
  | zero => exact ⟨by simp [holdTo], by simp [holdTo], fun x h0 h1 => by simp [holdTo] at h1; omega, .inl (by simp [holdTo])⟩
  | succ n ih =>
    obtain ⟨h1, h2, h3, h4⟩ := ih
    rw [holdTo]
    by_cases ha : (upto n).any p = true
    · rw [if_pos ha]
      refine ⟨h1, by omega, h3, ?_⟩
      rcases h4 with h4 | h4
      · exfalso
        rw [List.any_eq_true] at ha
        obtain ⟨x, hx, hp⟩ := ha
        rw [mem_upto] at hx
        rw [h3 x hx.1 (by omega)] at hp
        cases hp
      · exact .inr h4
    · rw [if_neg ha]
      have hn : ∀ x, 0 ≤ x → x < (n : Int) → p x = false := by
        intro x g0 g1
        cases hp : p x
        · rfl
        · exact absurd (List.any_eq_true.2 ⟨x, mem_upto.2 ⟨g0, g1⟩, hp⟩) ha
      cases hp : p (n : Int)
      · rw [if_neg (by simp)]
        refine ⟨by omega, by omega, fun x g0 g1 => ?_, .inl (by omega)⟩
        by_cases e : x = (n : Int)
        · rw [e]; exact hp
        · exact hn x g0 (by omega)
      · rw [if_pos rfl]
        exact ⟨by omega, by omega, hn, .inr hp⟩
structure Pb.Able (p : Pb) (d : Dc) : Prop where
  len : d.starts.length = p.loads.length
  h0 : 0 ≤ d.heat
  h1 : d.heat ≤ p.room.steps
  st : ∀ i, i < p.loads.length → d.starts.getD i false = true → (p.loads.getD i Ld.zero).early = 0
  nx : ∀ i, i < p.loads.length → d.starts.getD i false = false → ((p.loads.getD i Ld.zero).prof.length : Int) < (p.loads.getD i Ld.zero).late
  sp : (stepZ p.bat p.level d.charge).2.2 = 0
theorem Pb.load_at {p : Pb} (g : p.Good) {i : Nat} (hi : i < p.loads.length) : (p.loads.getD i Ld.zero).chk p.n = 0 := by
  have h := Pb.load_ok g hi
  rwa [show p.loads.getD i Ld.zero = p.loads[i] by simp [List.getD, hi]]
theorem Ld.last_good {r : Ld} {n : Int} (h : r.chk n = 0) : r.last = r.late - (r.prof.length : Int) := by
  have g := Ld.good h
  have g1 := g.p; have g2 := g.l1; have g3 := g.n1; have g4 := g.e0
  unfold Ld.last
  rw [if_neg (by omega), if_neg (by omega)]
theorem Ld.fit_iff {r : Ld} {s n : Int} : r.fit s n = true ↔ r.chk n = 0 ∧ r.early ≤ s ∧ s ≤ r.late - (r.prof.length : Int) := by
  simp only [Ld.fit, Bool.and_eq_true, decide_eq_true_iff]
theorem getD_map {α β : Type} {l : List α} {f : α → β} {k : Nat} (hk : k < l.length) (a : α) (b : β) : (l.map f).getD k b = f (l.getD k a) := by simp [List.getD, hk]
theorem range_getD {n k : Nat} (h : k < n) : (List.range n).getD k 0 = k := by simp [List.getD, h]
theorem getD_at (l : List Int) {k : Nat} (h : k < l.length) : l.getD k 0 = l[k] := by simp [List.getD, h]
theorem bools_getD {α : Type} {l : List α} {f : α → Bool} {i : Nat} (hi : i < l.length) : (l.map f).getD i false = f l[i] := by simp [List.getD, hi]
theorem Pb.hold_bd {p : Pb} (g : p.Good) : 0 ≤ p.fallback.heat ∧ p.fallback.heat ≤ p.room.steps ∧ (∀ h, 0 ≤ h → h < p.fallback.heat → p.room.valid.step p.temp (p.outside.getD 0 0) h < p.room.low.getD 0 0) ∧
    (p.fallback.heat = p.room.steps ∨ p.room.low.getD 0 0 ≤ p.room.valid.step p.temp (p.outside.getD 0 0) p.fallback.heat) := by
  obtain ⟨hok, hl, hh, hv⟩ := Pb.room_ok g
  have gr := Rm.good hok
  have hs := gr.s0
  have hn := Pb.nbd g
  have hv2 := hv
  show 0 ≤ p.room.valid.hold 0 p.temp (p.outside.getD 0 0) ∧ p.room.valid.hold 0 p.temp (p.outside.getD 0 0) ≤ _ ∧ (∀ h, 0 ≤ h → h < p.room.valid.hold 0 p.temp (p.outside.getD 0 0) → _) ∧ (p.room.valid.hold 0 p.temp (p.outside.getD 0 0) = _ ∨ _ ≤ p.room.valid.step _ _ (p.room.valid.hold 0 p.temp (p.outside.getD 0 0)))
  rw [hv]
  have e : p.room.hold 0 p.temp (p.outside.getD 0 0) = holdTo (fun h => decide (p.room.low.getD 0 0 ≤ p.room.step p.temp (p.outside.getD 0 0) h)) p.room.steps.toNat := by
    unfold Rm.hold; rw [if_pos ⟨Int.le_refl _, by omega⟩]; rfl
  rw [e]
  obtain ⟨h1, h2, h3, h4⟩ := holdTo_spec (fun h => decide (p.room.low.getD 0 0 ≤ p.room.step p.temp (p.outside.getD 0 0) h)) p.room.steps.toNat
  refine ⟨h1, by omega, fun h g0 g1 => ?_, ?_⟩
  · have := h3 h g0 g1
    simp only [decide_eq_false_iff_not] at this
    omega
  · rcases h4 with h4 | h4
    · exact .inl (by omega)
    · exact .inr (by simpa using h4)
theorem Pb.fallback_able {p : Pb} (h : p.chk = 0) : p.Able p.fallback := by
  have g := Pb.good h
  have hb := Pb.hold_bd g
  have hst : ∀ i, i < p.loads.length → p.fallback.starts.getD i false = decide ((p.loads.getD i Ld.zero).last = 0) := fun i hi => by
    show (p.loads.map _).getD i false = _
    rw [bools_getD hi, show p.loads.getD i Ld.zero = p.loads[i] by simp [List.getD, hi]]
  refine ⟨by simp [Pb.fallback], hb.1, hb.2.1, fun i hi hs => ?_, fun i hi hs => ?_, ?_⟩
  · rw [hst i hi, decide_eq_true_iff, Ld.last_good (Pb.load_at g hi)] at hs
    have gl := Ld.good (Pb.load_at g hi)
    have g1 := gl.p; have g2 := gl.e0
    omega
  · rw [hst i hi, decide_eq_false_iff_not, Ld.last_good (Pb.load_at g hi)] at hs
    have gl := Ld.good (Pb.load_at g hi)
    have g1 := gl.p; have g2 := gl.e0
    omega
  · show (stepZ p.bat p.level 0).2.2 = 0
    rw [step_zero (Pb.bat_good g).1 g.l0 g.l1]
theorem Pb.first_able {p : Pb} {x : Pn} (h : p.err x = 0) : p.Able x.first := by
  obtain ⟨hc, hf, he⟩ := Pb.err_zero h
  have g := Pb.good hc
  have hn := Pb.nbd g
  obtain ⟨e1, e2, e3, e4⟩ := Pb.feasible h
  have hs := (Pb.slot_zero (Pb.errTo_each he (k := 0) (by omega)).2).1
  have h0 := e4 0 (by omega)
  have hst : ∀ i, i < p.loads.length → x.first.starts.getD i false = decide (x.start.getD i 0 = 0) := fun i hi => by
    show (x.start.map _).getD i false = _
    rw [bools_getD (by omega), show x.start.getD i 0 = x.start[i]'(by omega) by simp [List.getD, show i < x.start.length by omega]]
  refine ⟨by simp [Pn.first, e3], h0.2.2.1, h0.2.2.2, fun i hi h1 => ?_, fun i hi h1 => ?_, hs⟩
  · rw [hst i hi, decide_eq_true_iff] at h1
    obtain ⟨h2, h3, h4⟩ := Ld.fit_iff.1 (Pb.fit_each hf hi)
    have := (Ld.good h2).e0
    omega
  · rw [hst i hi, decide_eq_false_iff_not] at h1
    obtain ⟨h2, h3, h4⟩ := Ld.fit_iff.1 (Pb.fit_each hf hi)
    have := (Ld.good h2).e0
    omega
theorem Pb.dec_best {p : Pb} (h : p.bestE = 0) : p.dec = p.best.first := by
  unfold Pb.dec
  rw [if_neg (fun e => e (Pb.best_top h).1), if_pos h]
theorem Pb.dec_none {p : Pb} (hc : p.chk = 0) (h : p.bestE ≠ 0) : p.dec = p.fallback := by
  unfold Pb.dec
  rw [if_neg (fun e => e hc), if_neg h]
theorem Pb.dec_able {p : Pb} (h : p.chk = 0) : p.Able p.dec := by
  by_cases h2 : p.bestE = 0
  · rw [Pb.dec_best h2]; exact Pb.first_able (Pb.best_top h2).2.2.1
  · rw [Pb.dec_none h h2]; exact Pb.fallback_able h
theorem Pb.able_do {p : Pb} {d : Dc} (h : p.chk = 0) (a : p.Able d) : p.doE d = 0 := by
  have hc : p.canDo d = 0 := by
    unfold Pb.canDo
    have hcl : ¬ p.clash d p.loads.length = true := by
      intro hc
      simp only [Pb.clash, List.any_eq_true, List.mem_range, Bool.and_eq_true, decide_eq_true_iff] at hc
      obtain ⟨i, hi, h1, h2⟩ := hc
      exact h2 (a.st i hi h1)
    have h0 := a.h0; have h1 := a.h1
    rw [if_neg (fun e => e a.len), if_neg (by omega), if_neg hcl]
  unfold Pb.doE
  rw [if_neg (fun e => e h), if_neg (fun e => e hc)]
  exact a.sp
theorem Pb.able_ok {p : Pb} {d : Dc} (h : p.chk = 0) (a : p.Able d) : p.okTo d p.loads.length = true := by
  have g := Pb.good h
  simp only [Pb.okTo, List.all_eq_true, List.mem_range]
  intro i hi
  unfold Ld.okNext
  cases hb : d.starts.getD i false
  · rw [Bool.false_or]
    refine Ld.can_yes (Ld.chk96 (Pb.load_at g hi)) ?_
    have := a.nx i hi hb
    unfold clampK
    rw [if_neg (by omega), if_neg (by omega)]
    omega
  · rfl
theorem Pb.able_adv {p : Pb} {d : Dc} (h : p.chk = 0) (a : p.Able d) (hn : 1 < p.n) : p.advE d = 0 := by
  unfold Pb.advE
  rw [if_neg (fun e => e (Pb.able_do h a)), if_neg (by omega), if_neg (by rw [Pb.able_ok h a]; decide)]
theorem Ld.next_chk {r : Ld} {n : Int} {b : Bool} (h : r.chk n = 0) (n1 : 1 < n) (hs : b = true → r.early = 0) (hx : b = false → (r.prof.length : Int) < r.late) (hh : r.hasNext b = true) : (r.next b).chk (n - 1) = 0 := by
  have g := Ld.good h
  have g1 := g.n1; have g2 := g.p0; have g3 := g.p1; have g4 := g.l1; have g5 := g.e0; have g6 := g.p
  cases b
  · have h2 := hx rfl
    have hc : r.canShift 1 = true := by
      refine Ld.can_yes (Ld.chk96 h) ?_
      unfold clampK
      rw [if_neg (by omega), if_neg (by omega)]
      omega
    show (if false = true then _ else r.shift 1).chk (n - 1) = 0
    rw [if_neg (by decide), Ld.shift_yes hc]
    exact Ld.moved_chk h (by omega) n1 hc
  · have h2 := hs rfl
    have h3 : 1 < r.prof.length := by simpa [Ld.hasNext] using hh
    show (Ld.mk r.name (r.prof.drop 1) 0 ((r.prof.length : Int) - 1)).chk (n - 1) = 0
    rw [Ld.chk_iff]
    refine ⟨g.name, ?_, ?_, ?_⟩
    · simp only [Ld.lim, List.length_drop, decide_eq_true_iff]; omega
    · have hu := g.units
      rw [List.all_eq_true] at hu ⊢
      exact fun z hz => hu z (List.mem_of_mem_drop hz)
    · simp only [Ld.span, List.length_drop, decide_eq_true_iff]; omega
theorem Ld.next_name {r : Ld} {b : Bool} (h : r.okNext b = true) : (r.next b).name = r.name := by
  cases b
  · show (if false = true then _ else r.shift 1).name = _
    rw [if_neg (by decide), Ld.shift_yes (by simpa [Ld.okNext] using h)]; rfl
  · rfl
theorem Pb.nexts_names {p : Pb} {d : Dc} (h : p.okTo d p.loads.length = true) {j : Nat} (hj : j ≤ p.loads.length) : ((p.nexts d j).map Ld.name).Sublist ((p.loads.take j).map Ld.name) := by
  simp only [Pb.okTo, List.all_eq_true, List.mem_range] at h
  induction j with
  | zero => simp [Pb.nexts, Pb.whichs]
  | succ j ih =>
    have ih := ih (by omega)
    rw [Pb.nexts_succ, List.take_succ_eq_append_getElem (show j < p.loads.length by omega), List.map_append]
    have e : p.loads.getD j Ld.zero = p.loads[j] := by simp [List.getD, show j < p.loads.length by omega]
    split
    · rw [List.map_append]
      refine ih.append ?_
      simp only [List.map_cons, List.map_nil]
      rw [Ld.next_name (h j (by omega)), e]
      exact List.Sublist.refl _
    · exact ih.trans (List.sublist_append_left _ _)
theorem Pb.adv_n (p : Pb) (d : Dc) : (p.adv d).n = p.n - 1 := by simp [Pb.n, Pb.adv]
theorem Pb.adv_chk {p : Pb} {d : Dc} (h : p.chk = 0) (a : p.Able d) (hn : 1 < p.n) : (p.adv d).chk = 0 := by
  have g := Pb.good h
  obtain ⟨e1, e2, e3⟩ := g.lens
  have hl := step_ok_bd a.sp
  have ht : -1000 ≤ p.nextTm d ∧ p.nextTm d ≤ 2000 := stepT_bd _ _ _ _ _ _
  have hok := Pb.able_ok h a
  have hn2 : (((p.adv d).n : Nat) : Int) = (p.n : Int) - 1 := by rw [Pb.adv_n]; omega
  apply Pb.chk_of
  refine ⟨Tf.rest_chk g.t hn, ?_, allB_drop 1 g.so, allB_drop 1 g.de, allB_drop 1 g.ou, g.bat, ?_, ?_, hl.1, hl.2, ht.1, ht.2⟩
  · rw [Pb.adv_n]
    simp only [Pb.adv, List.length_drop]
    omega
  · rw [Pb.adv_n]; exact Rm.rest_chk g.room hn
  · rw [hn2]
    have g0 := allChk_iff.1 g.loads
    show allChk (p.nexts d p.loads.length) _ = 0
    rw [allChk_iff]
    refine ⟨?_, ?_, ?_⟩
    · rw [Pb.nexts_len]; exact Nat.le_trans (Pb.whichs_len _ _ _) g0.1
    · intro y hy
      unfold Pb.nexts at hy
      rw [List.mem_map] at hy
      obtain ⟨i, hi, rfl⟩ := hy
      rw [Pb.whichs_mem] at hi
      exact Ld.next_chk (Pb.load_at g hi.1) (by omega) (a.st i hi.1) (a.nx i hi.1) hi.2
    · have hs := Pb.nexts_names hok (Nat.le_refl p.loads.length)
      rw [List.take_length] at hs
      exact List.Nodup.sublist hs g0.2.2
end Go.Proofs.Ytnppngaabfhkpaa
namespace Go.Proofs.Ytnppngaabfhkpaa
theorem Pn.first_start {p : Pb} {x : Pn} (hf : p.form x = 0) {j : Nat} (hj : j < p.loads.length) : x.first.starts.getD j false = decide (x.start.getD j 0 = 0) := by
  have e3 := (Pb.sized_yes (Pb.form_good hf).1).2.2
  show (x.start.map _).getD j false = _
  rw [bools_getD (by omega), show x.start.getD j 0 = x.start[j]'(by omega) by simp [List.getD, show j < x.start.length by omega]]
theorem Ld.left_next {r : Ld} {s n : Int} (hf : r.fit s n = true) (n1 : 1 < n) : r.hasNext (decide (s = 0)) = r.isLeft s 1 ∧ (r.isLeft s 1 = true → r.next (decide (s = 0)) = r.left s 1) := by
  obtain ⟨h1, h2, h3⟩ := Ld.fit_iff.1 hf
  have g := Ld.good h1
  have g1 := g.e0; have g2 := g.p0
  have hi := Ld.left_iff hf (k := 1) (by omega) n1
  by_cases h : s = 0
  · subst h
    rw [hi]
    constructor
    · unfold Ld.hasNext
      rw [Bool.eq_iff_iff]
      simp
      omega
    · intro hb
      have hb2 : (1 : Int) < (r.prof.length : Int) := by simpa using hb
      unfold Ld.next Ld.left
      rw [if_pos (by simp), if_neg (by omega), if_neg (by omega)]
      congr 1
  · rw [hi, decide_eq_false h]
    refine ⟨?_, fun _ => ?_⟩
    · unfold Ld.hasNext
      rw [Bool.eq_iff_iff]
      simp
      omega
    · unfold Ld.next Ld.left
      rw [if_neg (by simp), if_pos (by omega)]
theorem Pb.first_lefts {p : Pb} {x : Pn} (hf : p.form x = 0) (hn : 1 < p.n) {j : Nat} (hj : j ≤ p.loads.length) :
    p.lefts x 1 j = p.nexts x.first j ∧ p.later x 1 j = (p.whichs x.first j).map fun i => laterZ (x.start.getD i 0) 1 := by
  induction j with
  | zero => exact ⟨rfl, rfl⟩
  | succ j ih =>
    obtain ⟨h1, h2⟩ := ih (by omega)
    have hfit := Pb.fit_each hf (j := j) (by omega)
    obtain ⟨h3, h4⟩ := Ld.left_next hfit (by omega)
    have hi := Ld.left_iff hfit (k := 1) (by omega) (by omega)
    rw [← Pn.first_start hf (by omega)] at h3 h4
    rw [Pb.nexts_succ, Pb.whichs_succ, Pb.lefts, Pb.later, h3]
    rw [hi] at h4 ⊢
    by_cases hc : (1 : Int) < x.start.getD j 0 + ((p.loads.getD j Ld.zero).prof.length : Int)
    · rw [if_pos (by simpa using hc), if_pos (by simpa using hc), if_pos hc, if_pos (by simpa using hc), h1, h2, h4 (by simpa using hc), List.map_append]
      exact ⟨rfl, rfl⟩
    · rw [if_neg (by simpa using hc), if_neg (by simpa using hc), if_neg hc, if_neg (by simpa using hc)]
      exact ⟨h1, h2⟩
theorem Pb.adv_first {p : Pb} {x : Pn} (hf : p.form x = 0) (hn : 1 < p.n) : p.adv x.first = p.rest x 1 := by
  unfold Pb.adv Pb.rest
  rw [show p.lefts x ((1 : Nat) : Int) p.loads.length = p.nexts x.first p.loads.length from (Pb.first_lefts hf hn (Nat.le_refl _)).1]
  rfl
theorem Pb.later_map {p : Pb} {x : Pn} (hf : p.form x = 0) (hn : 1 < p.n) : (x.rest p 1).start = (p.whichs x.first p.loads.length).map fun i => laterZ (x.start.getD i 0) 1 := (Pb.first_lefts hf hn (Nat.le_refl _)).2
theorem Pb.first_use {p : Pb} {x : Pn} (hf : p.form x = 0) {k : Nat} (hk : k ≤ p.loads.length) : useTo p.loads x.start 0 k = p.firstUse x.first k := by
  have e3 := (Pb.sized_yes (Pb.form_good hf).1).2.2
  induction k with
  | zero => rw [useTo_zero]; rfl
  | succ k ih =>
    have hfit := Pb.fit_each hf (j := k) (by omega)
    obtain ⟨h1, h2, h3⟩ := Ld.fit_iff.1 hfit
    have gl := Ld.good h1
    have g1 := gl.e0; have g2 := gl.p0
    rw [useTo_succ (by omega) (by omega), ih (by omega), Pb.firstUse, Pn.first_start hf (by omega)]
    have e1 : p.loads.getD k Ld.zero = p.loads[k] := by simp [List.getD, show k < p.loads.length by omega]
    have e2 : x.start.getD k 0 = x.start[k] := by simp [List.getD, show k < x.start.length by omega]
    rw [← e1, ← e2]
    congr 1
    unfold Ld.use
    by_cases h : x.start.getD k 0 = 0
    · rw [h, if_neg (by omega), if_neg (by omega), if_pos (by simp), show ((0 : Int) - 0).toNat = 0 by omega]
      have h4 := List.all_eq_true.1 gl.units ((p.loads.getD k Ld.zero).prof[0]) (List.getElem_mem g2)
      rw [unitOk_true] at h4
      rw [getD_at _ (show 0 < (p.loads.getD k Ld.zero).prof.length from g2)]
      unfold unitZ
      rw [if_neg (by omega), if_neg (by omega)]
    · rw [if_pos (by omega), if_neg (by simpa using h)]
theorem Pb.first_net {p : Pb} {x : Pn} (g : p.Good) (hf : p.form x = 0) : p.net x 0 = p.nextNet x.first := by
  have hn := Pb.nbd g
  have e3 := (Pb.sized_yes (Pb.form_good hf).1).2.2
  unfold Pb.net Pb.nextNet
  rw [Pb.uses_in g x (by omega), e3, Nat.min_self, show ((0 : Nat) : Int) = 0 from rfl, Pb.first_use hf (Nat.le_refl _)]
  show _ + (stepZ p.bat p.level (x.charge.getD 0 0)).2.1 + x.heat.getD 0 0 * _ + _ - _ = _ + (stepZ p.bat p.level (x.charge.getD 0 0)).2.1 + x.heat.getD 0 0 * _ - _ + _
  omega
theorem Pb.first_slot {p : Pb} {x z : Pn} (g : p.Good) (hf : p.form x = 0) (hz : p.form z = 0) (h : x.first = z.first) : p.slotErr x 0 = p.slotErr z 0 ∧ p.costTo x 1 = p.costTo z 1 := by
  have e1 : x.charge.getD 0 0 = z.charge.getD 0 0 := congrArg Dc.charge h
  have e2 : x.heat.getD 0 0 = z.heat.getD 0 0 := congrArg Dc.heat h
  have e3 : p.net x 0 = p.net z 0 := by rw [Pb.first_net g hf, Pb.first_net g hz, h]
  refine ⟨?_, ?_⟩
  · unfold Pb.slotErr Pb.slotOk
    rw [e3]
    show (if (stepZ p.bat p.level (x.charge.getD 0 0)).2.2 ≠ 0 then (stepZ p.bat p.level (x.charge.getD 0 0)).2.2 else if (p.room.valid.okAt ((0 : Nat) : Int) (p.room.valid.step p.temp (p.outside.getD 0 0) (x.heat.getD 0 0)) && _) = true then 0 else 20) = _
    rw [e1, e2]
    rfl
  · rw [Pb.costTo_succ, Pb.costTo_succ, Pb.costTo_zero, Pb.costTo_zero, e3]
theorem Pb.whichs_pre (p : Pb) (d : Dc) {a b : Nat} (h : a ≤ b) : p.whichs d a <+: p.whichs d b := by
  induction b with
  | zero => rw [show a = 0 by omega]; exact List.prefix_refl _
  | succ b ih =>
    by_cases e : a = b + 1
    · rw [e]; exact List.prefix_refl _
    · have ih := ih (by omega)
      rw [Pb.whichs_succ]
      split
      · exact ih.trans (List.prefix_append _ _)
      · exact ih
theorem Pb.whichs_at {p : Pb} {d : Dc} {j m : Nat} (hj : j ∈ p.whichs d m) : (p.whichs d j).length < (p.whichs d m).length ∧ (p.whichs d m).getD (p.whichs d j).length 0 = j := by
  have h := Pb.whichs_mem.1 hj
  have h2 := Pb.whichs_pre p d (show j + 1 ≤ m by omega)
  rw [Pb.whichs_succ, if_pos h.2] at h2
  obtain ⟨r, hr⟩ := h2
  rw [← hr]
  exact ⟨by simp, by simp [List.getD]⟩
theorem Pb.whichs_idx {p : Pb} {d : Dc} {m k : Nat} (hk : k < (p.whichs d m).length) : (p.whichs d ((p.whichs d m).getD k 0)).length = k := by
  have e : (p.whichs d m).getD k 0 = (p.whichs d m)[k] := by simp [List.getD, hk]
  have hm : (p.whichs d m)[k] ∈ p.whichs d m := List.getElem_mem hk
  obtain ⟨h1, h2⟩ := Pb.whichs_at hm
  have hs := Pb.whichs_sorted p d m
  rw [e]
  generalize (p.whichs d (p.whichs d m)[k]).length = a at *
  rw [show (p.whichs d m).getD a 0 = (p.whichs d m)[a] by simp [List.getD, h1]] at h2
  have := List.pairwise_iff_getElem.1 hs
  rcases Nat.lt_trichotomy a k with h3 | h3 | h3
  · have := this a k h1 hk h3; omega
  · exact h3
  · have := this k a hk h1 h3; omega
theorem Pb.nexts_get {p : Pb} {d : Dc} {m k : Nat} (hk : k < (p.whichs d m).length) : (p.nexts d m).getD k Ld.zero = (p.loads.getD ((p.whichs d m).getD k 0) Ld.zero).next (d.starts.getD ((p.whichs d m).getD k 0) false) := by
  unfold Pb.nexts
  simp [List.getD, hk]
def Pb.extS (p : Pb) (b : Pn) (y : List Int) : List Int := (List.range p.loads.length).map fun j => if b.start.getD j 0 = 0 then 0 else 1 + y.getD (p.whichs b.first j).length 0
def Pb.ext (p : Pb) (b y : Pn) : Pn := ⟨b.charge.getD 0 0 :: y.charge, b.heat.getD 0 0 :: y.heat, p.extS b y.start⟩
theorem Pb.extS_get (p : Pb) (b : Pn) (y : List Int) {j : Nat} (hj : j < p.loads.length) : (p.extS b y).getD j 0 = if b.start.getD j 0 = 0 then 0 else 1 + y.getD (p.whichs b.first j).length 0 := by
  unfold Pb.extS
  rw [getD_map (by simpa using hj) 0 0, range_getD hj]
theorem Pb.ext_start {p : Pb} {b y : Pn} (h : p.err b = 0) (hn : 1 < p.n) (hy : (p.rest b 1).err y = 0) {j : Nat} (hj : j < p.loads.length) :
    (b.start.getD j 0 ≠ 0 → 0 ≤ y.start.getD (p.whichs b.first j).length 0 ∧ (p.loads.getD j Ld.zero).fit (1 + y.start.getD (p.whichs b.first j).length 0) p.n = true) ∧
    (b.start.getD j 0 = 0 → j ∈ p.whichs b.first p.loads.length → y.start.getD (p.whichs b.first j).length 0 = 0) ∧ (j ∉ p.whichs b.first p.loads.length → b.start.getD j 0 = 0) ∧ 0 ≤ b.start.getD j 0 := by
  obtain ⟨hc, hf, he⟩ := Pb.err_zero h
  have g := Pb.good hc
  obtain ⟨hqc, hqf, hqe⟩ := Pb.err_zero hy
  have hqn : (((p.rest b 1).n : Nat) : Int) = (p.n : Int) - 1 := by rw [Pb.rest_n]; omega
  have hfit := Pb.fit_each hf hj
  obtain ⟨h1, h2, h3⟩ := Ld.fit_iff.1 hfit
  have gl := Ld.good h1
  have g1 := gl.e0
  have hql : (p.rest b 1).loads = p.nexts b.first p.loads.length := by rw [← Pb.adv_first hf hn]; rfl
  have hst := Pn.first_start hf hj
  have key : j ∈ p.whichs b.first p.loads.length → ((p.loads.getD j Ld.zero).next (decide (b.start.getD j 0 = 0))).fit (y.start.getD (p.whichs b.first j).length 0) ((p.n : Int) - 1) = true := by
    intro hm
    obtain ⟨k1, k2⟩ := Pb.whichs_at hm
    have k3 := Pb.fit_each hqf (j := (p.whichs b.first j).length) (by rw [hql, Pb.nexts_len]; exact k1)
    rw [hql, Pb.nexts_get k1, k2, hst, hqn] at k3
    exact k3
  have hmem : b.start.getD j 0 ≠ 0 → j ∈ p.whichs b.first p.loads.length := fun hne => by
    rw [Pb.whichs_mem, hst, decide_eq_false hne]
    exact ⟨hj, rfl⟩
  refine ⟨fun hne => ?_, fun h0 hm => ?_, fun hm => ?_, by omega⟩
  · have k := key (hmem hne)
    rw [decide_eq_false hne] at k
    have hcan : (p.loads.getD j Ld.zero).canShift 1 = true := by
      refine Ld.can_yes (Ld.chk96 h1) ?_
      unfold clampK
      rw [if_neg (by omega), if_neg (by omega)]
      omega
    have e : (p.loads.getD j Ld.zero).next false = (p.loads.getD j Ld.zero).moved 1 := by
      unfold Ld.next; rw [if_neg (by decide), Ld.shift_yes hcan]
    rw [e] at k
    have k0 := Ld.fit_iff.1 k
    have k1 := (Ld.good k0.1).e0
    have hy0 : 0 ≤ y.start.getD (p.whichs b.first j).length 0 := by omega
    refine ⟨hy0, ?_⟩
    rw [← Ld.moved_fit h1 (show (0 : Int) ≤ 1 by omega) (by omega) (show (1 : Int) ≤ 1 + y.start.getD (p.whichs b.first j).length 0 by omega) hcan]
    rw [show 1 + y.start.getD (p.whichs b.first j).length 0 - 1 = y.start.getD (p.whichs b.first j).length 0 by omega]
    exact k
  · have k := key hm
    rw [decide_eq_true h0] at k
    obtain ⟨k1, k2, k3⟩ := Ld.fit_iff.1 k
    have hl : 1 < (p.loads.getD j Ld.zero).prof.length := by
      have := (Pb.whichs_mem.1 hm).2
      rw [hst, decide_eq_true h0] at this
      simpa [Ld.hasNext] using this
    have k2 : (0 : Int) ≤ y.start.getD (p.whichs b.first j).length 0 := k2
    have k3 : y.start.getD (p.whichs b.first j).length 0 ≤ ((p.loads.getD j Ld.zero).prof.length : Int) - 1 - (((p.loads.getD j Ld.zero).prof.drop 1).length : Int) := k3
    rw [List.length_drop] at k3
    omega
  · exact Classical.byContradiction fun hne => hm (hmem hne)
theorem Pb.ext_form {p : Pb} {b y : Pn} (h : p.err b = 0) (hn : 1 < p.n) (hy : (p.rest b 1).err y = 0) : p.form (p.ext b y) = 0 := by
  obtain ⟨e1, e2, e3, e4⟩ := Pb.feasible h
  obtain ⟨q1, q2, q3, q4⟩ := Pb.feasible hy
  obtain ⟨hc, hf, he⟩ := Pb.err_zero h
  obtain ⟨hqc, hqf, hqe⟩ := Pb.err_zero hy
  rw [Pb.rest_n] at q1 q2
  refine Pb.form_ok ?_ ?_ ?_
  · simp only [Pb.sized, Pb.ext, Pb.extS, List.length_cons, List.length_map, List.length_range, decide_eq_true_iff]
    exact ⟨by omega, by omega, trivial⟩
  · unfold Pb.fitsTo
    rw [List.all_eq_true]
    intro j hj
    rw [List.mem_range] at hj
    show (p.loads.getD j Ld.zero).fit ((p.extS b y.start).getD j 0) p.n = true
    rw [Pb.extS_get _ _ _ hj]
    by_cases h0 : b.start.getD j 0 = 0
    · rw [if_pos h0, ← h0]; exact Pb.fit_each hf hj
    · rw [if_neg h0]; exact ((Pb.ext_start h hn hy hj).1 h0).2
  · have hh := (Pb.form_good hqf).2.2
    have h0 := e4 0 (by omega)
    have hh : allB y.heat 0 p.room.steps = true := hh
    unfold allB at hh ⊢
    show (b.heat.getD 0 0 :: y.heat).all _ = true
    rw [List.all_cons, hh, Bool.and_true, wB_true]
    exact h0.2.2
theorem Pb.ext_first {p : Pb} {b y : Pn} (h : p.err b = 0) (hn : 1 < p.n) (hy : (p.rest b 1).err y = 0) : (p.ext b y).first = b.first := by
  obtain ⟨e1, e2, e3, e4⟩ := Pb.feasible h
  have es : ((p.extS b y.start).map fun s => decide (s = 0)) = b.start.map fun s => decide (s = 0) := by
    apply List.ext_getElem
    · simp [Pb.extS, e3]
    · intro j h1 h2
      rw [List.length_map] at h1 h2
      have hj : j < p.loads.length := by omega
      rw [List.getElem_map, List.getElem_map]
      have a1 : (p.extS b y.start)[j] = (p.extS b y.start).getD j 0 := by simp [List.getD, h1]
      have a2 : b.start[j] = b.start.getD j 0 := by simp [List.getD, h2]
      rw [a1, a2, Pb.extS_get _ _ _ hj]
      by_cases h0 : b.start.getD j 0 = 0
      · rw [if_pos h0, h0]
      · rw [if_neg h0, decide_eq_false h0, decide_eq_false]
        have := ((Pb.ext_start h hn hy hj).1 h0).1
        omega
  unfold Pn.first
  show Dc.mk ((b.charge.getD 0 0 :: y.charge).getD 0 0) ((b.heat.getD 0 0 :: y.heat).getD 0 0) ((p.extS b y.start).map _) = _
  rw [es]
  simp
theorem Pb.ext_rest {p : Pb} {b y : Pn} (h : p.err b = 0) (hn : 1 < p.n) (hy : (p.rest b 1).err y = 0) : p.rest (p.ext b y) 1 = p.rest b 1 ∧ (p.ext b y).rest p 1 = y := by
  obtain ⟨hc, hf, he⟩ := Pb.err_zero h
  have hxf := Pb.ext_form h hn hy
  have hfi := Pb.ext_first h hn hy
  have hq : p.rest (p.ext b y) 1 = p.rest b 1 := by rw [← Pb.adv_first hxf hn, hfi, Pb.adv_first hf hn]
  refine ⟨hq, ?_⟩
  have hlen : y.start.length = (p.whichs b.first p.loads.length).length := by
    obtain ⟨_, _, q3, _⟩ := Pb.feasible hy
    rw [q3, ← Pb.nexts_len, ← Pb.adv_first hf hn]
    rfl
  have hs := Pb.later_map hxf hn
  have hs2 : ((p.ext b y).rest p 1).start = y.start := by
    rw [hs, hfi]
    apply List.ext_getElem
    · rw [List.length_map, hlen]
    · intro k h1 h2
      rw [List.length_map] at h1
      rw [List.getElem_map]
      have hm : (p.whichs b.first p.loads.length)[k] ∈ p.whichs b.first p.loads.length := List.getElem_mem h1
      have hj := (Pb.whichs_mem.1 hm).1
      have hidx := Pb.whichs_idx h1
      rw [show (p.whichs b.first p.loads.length).getD k 0 = (p.whichs b.first p.loads.length)[k] by simp [List.getD, h1]] at hidx
      have hx := Pb.ext_start h hn hy hj
      rw [hidx] at hx
      show laterZ ((p.extS b y.start).getD (p.whichs b.first p.loads.length)[k] 0) 1 = _
      rw [Pb.extS_get _ _ _ hj, hidx, show y.start[k] = y.start.getD k 0 by simp [List.getD, h2]]
      unfold laterZ
      by_cases h0 : b.start.getD (p.whichs b.first p.loads.length)[k] 0 = 0
      · rw [if_pos h0, if_pos (by omega), hx.2.1 h0 hm]
      · have := (hx.1 h0).1
        rw [if_neg h0, if_neg (by omega)]
        omega
  have e : (p.ext b y).rest p 1 = ⟨y.charge, y.heat, ((p.ext b y).rest p 1).start⟩ := rfl
  rw [e, hs2]
theorem Pb.ext_err {p : Pb} {b y : Pn} (h : p.err b = 0) (hn : 1 < p.n) (hy : (p.rest b 1).err y = 0) : p.err (p.ext b y) = 0 := by
  obtain ⟨hc, hf, he⟩ := Pb.err_zero h
  have hxf := Pb.ext_form h hn hy
  obtain ⟨h1, h2⟩ := Pb.ext_rest h hn hy
  have h3 := (Pb.first_slot (Pb.good hc) hxf hf (Pb.ext_first h hn hy)).1
  have h4 := (Pb.errTo_each he (k := 0) (by omega)).2
  have hC : p.Cut (p.ext b y) 1 := ⟨hc, hxf, Pb.errTo_go rfl (by rw [h3, h4]), hn⟩
  rw [Pb.rest_err hC, h1, h2]
  exact hy
theorem ltL_app {l m : List Int} (h : l.length = m.length) (a b : List Int) : ltL (l ++ a) (m ++ b) = (ltL l m || (decide (l = m) && ltL a b)) := by
  induction l generalizing m with
  | nil => cases m with
    | nil => simp [ltL]
    | cons y m => cases h
  | cons x l ih => cases m with
    | nil => cases h
    | cons y m =>
      rw [List.cons_append, List.cons_append, ltL, ltL]
      by_cases h1 : x < y
      · rw [if_pos h1, if_pos h1]; rfl
      · rw [if_neg h1, if_neg h1]
        by_cases h2 : y < x
        · rw [if_pos h2, if_pos h2, decide_eq_false (by intro e; injection e with e; omega)]; rfl
        · have e : x = y := by omega
          rw [if_neg h2, if_neg h2, ih (by simpa using h)]
          subst e
          simp
theorem ltL_one (a b : Int) : ltL [a] [b] = decide (a < b) := by
  rw [ltL]
  by_cases h : a < b
  · rw [if_pos h, decide_eq_true h]
  · rw [if_neg h, decide_eq_false h]
    split <;> rfl
theorem Pb.order_later {p : Pb} {x z : Pn} (hf : p.form x = 0) (hz : p.form z = 0) (hn : 1 < p.n) (h : x.first = z.first) {j : Nat} (hj : j ≤ p.loads.length) :
    (p.later x 1 j).length = (p.later z 1 j).length ∧ ltL (p.later x 1 j) (p.later z 1 j) = ltL (x.start.take j) (z.start.take j) ∧ (p.later x 1 j = p.later z 1 j ↔ x.start.take j = z.start.take j) := by
  have e3 := (Pb.sized_yes (Pb.form_good hf).1).2.2
  have e4 := (Pb.sized_yes (Pb.form_good hz).1).2.2
  have hlen : ∀ i, i ≤ p.loads.length → (p.later x 1 i).length = (p.later z 1 i).length := fun i hi => by
    rw [(Pb.first_lefts hf hn hi).2, (Pb.first_lefts hz hn hi).2, List.length_map, List.length_map, h]
  induction j with
  | zero => exact ⟨rfl, rfl, by simp [Pb.later]⟩
  | succ j ih =>
    obtain ⟨h1, h2, h3⟩ := ih (by omega)
    refine ⟨hlen _ hj, ?_⟩
    have s1 := Pn.first_start hf (j := j) (by omega)
    have s2 := Pn.first_start hz (j := j) (by omega)
    rw [h, s2] at s1
    have s1 : (z.start.getD j 0 = 0) ↔ (x.start.getD j 0 = 0) := by simpa using s1
    obtain ⟨f1, f2, _⟩ := Ld.fit_iff.1 (Pb.fit_each hf (j := j) (by omega))
    obtain ⟨_, f3, _⟩ := Ld.fit_iff.1 (Pb.fit_each hz (j := j) (by omega))
    have g1 := (Ld.good f1).e0; have g2 := (Ld.good f1).p0
    have a1 : x.start.take (j + 1) = x.start.take j ++ [x.start.getD j 0] := by
      rw [List.take_succ_eq_append_getElem (show j < x.start.length by omega)]; simp [List.getD, show j < x.start.length by omega]
    have a2 : z.start.take (j + 1) = z.start.take j ++ [z.start.getD j 0] := by
      rw [List.take_succ_eq_append_getElem (show j < z.start.length by omega)]; simp [List.getD, show j < z.start.length by omega]
    have tl : (x.start.take j).length = (z.start.take j).length := by simp; omega
    rw [a1, a2, ltL_app tl, ltL_one, Pb.later, Pb.later]
    have hinj : ∀ {l m : List Int} {a b : Int}, l ++ [a] = m ++ [b] ↔ l = m ∧ a = b := by
      intro l m a b
      constructor
      · intro e
        have := List.append_inj' e rfl
        exact ⟨this.1, by simpa using this.2⟩
      · rintro ⟨rfl, rfl⟩; rfl
    by_cases hx : (1 : Int) < x.start.getD j 0 + ((p.loads.getD j Ld.zero).prof.length : Int)
    · have hzz : (1 : Int) < z.start.getD j 0 + ((p.loads.getD j Ld.zero).prof.length : Int) := by omega
      rw [if_pos hx, if_pos hzz]
      have d1 : decide (p.later x 1 j = p.later z 1 j) = decide (x.start.take j = z.start.take j) := by rw [decide_eq_decide]; exact h3
      have d2 : decide (laterZ (x.start.getD j 0) 1 < laterZ (z.start.getD j 0) 1) = decide (x.start.getD j 0 < z.start.getD j 0) := by
        rw [decide_eq_decide]; unfold laterZ; split <;> split <;> omega
      have d3 : laterZ (x.start.getD j 0) 1 = laterZ (z.start.getD j 0) 1 ↔ x.start.getD j 0 = z.start.getD j 0 := by
        unfold laterZ; split <;> split <;> omega
      exact ⟨by rw [ltL_app h1, ltL_one, h2, d1, d2], by rw [hinj, hinj, h3, d3]⟩
    · have hzz : ¬ (1 : Int) < z.start.getD j 0 + ((p.loads.getD j Ld.zero).prof.length : Int) := by omega
      have ez : x.start.getD j 0 = z.start.getD j 0 := by omega
      rw [if_neg hx, if_neg hzz, h2, hinj, h3, ez]
      simp
theorem Pn.ways_cons {x : Pn} {n : Nat} (h1 : x.charge.length = n + 1) (h2 : x.heat.length = n + 1) : x.ways = (x.first.charge, x.first.heat) :: (x.charge.drop 1).zip (x.heat.drop 1) := by
  obtain ⟨c, h, s⟩ := x
  cases c with
  | nil => cases h1
  | cons a c => cases h with
    | nil => cases h2
    | cons b h => rfl
theorem Pb.order_rest {p : Pb} {x z : Pn} (hf : p.form x = 0) (hz : p.form z = 0) (hn : 1 < p.n) (h : x.first = z.first) (hl : ltL (x.rest p 1).list (z.rest p 1).list = true) : ltL x.list z.list = true := by
  obtain ⟨e1, e2, e3⟩ := Pb.sized_yes (Pb.form_good hf).1
  obtain ⟨d1, d2, d3⟩ := Pb.sized_yes (Pb.form_good hz).1
  obtain ⟨h1, h2, h3⟩ := Pb.order_later hf hz hn h (Nat.le_refl _)
  rw [List.take_of_length_le (by omega), List.take_of_length_le (by omega)] at h2 h3
  obtain ⟨m, hm⟩ : ∃ m, p.n = m + 1 := ⟨p.n - 1, by omega⟩
  have w1 := Pn.ways_cons (x := x) (n := m) (by omega) (by omega)
  have w2 := Pn.ways_cons (x := z) (n := m) (by omega) (by omega)
  have hl : ltL (p.later x 1 p.loads.length ++ flatM ((x.charge.drop 1).zip (x.heat.drop 1))) (p.later z 1 p.loads.length ++ flatM ((z.charge.drop 1).zip (z.heat.drop 1))) = true := hl
  unfold Pn.list
  rw [ltL_app h1, h2] at hl
  rw [ltL_app (by omega), w1, w2, flatM_cons, flatM_cons, ← h]
  have e : decide (p.later x 1 p.loads.length = p.later z 1 p.loads.length) = decide (x.start = z.start) := by rw [decide_eq_decide]; exact h3
  rw [e] at hl
  rw [ltL, if_neg (Int.lt_irrefl _), if_neg (Int.lt_irrefl _), ltL, if_neg (Int.lt_irrefl _), if_neg (Int.lt_irrefl _)]
  exact hl
theorem Pb.best_rest {p : Pb} (h : p.bestE = 0) (hn : 1 < p.n) : (p.adv p.dec).bestE = 0 ∧ (p.adv p.dec).best = p.best.rest p 1 := by
  obtain ⟨hc, hl, hb, _, hmin⟩ := Pb.best_top h
  obtain ⟨_, hf, _⟩ := Pb.err_zero hb
  have hC := Pb.cut_of hb hn
  rw [Pb.dec_best h, Pb.adv_first hf hn]
  have hq : (p.rest p.best 1).err (p.best.rest p 1) = 0 := by rw [← Pb.rest_err hC]; exact hb
  have hqc := (Pb.err_zero hq).1
  have hql : (p.rest p.best 1).lim = true := by
    unfold Pb.lim at hl ⊢
    simp only [Bool.and_eq_true, decide_eq_true_iff] at hl ⊢
    refine ⟨by rw [Pb.rest_n]; omega, hl.2.1, hl.2.2.1, ?_⟩
    have := Pb.lefts_len p p.best ((1 : Nat) : Int) p.loads.length
    exact Nat.le_trans this hl.2.2.2
  have hqb : (p.rest p.best 1).bestE = 0 := by
    rcases Pb.bestE_cases hqc hql with e | e
    · exact e
    · exact absurd hq (Pb.best_none e hqc _)
  refine ⟨hqb, ?_⟩
  obtain ⟨_, _, hy, _, hqmin⟩ := Pb.best_top hqb
  generalize (p.rest p.best 1).best = y at *
  have hx := Pb.ext_err hb hn hy
  obtain ⟨r1, r2⟩ := Pb.ext_rest hb hn hy
  have hxf := Pb.ext_form hb hn hy
  have hfi := Pb.ext_first hb hn hy
  have c1 := Pb.rest_cost hb hn
  have c2 := Pb.rest_cost hx hn
  rw [r1, r2] at c2
  have c3 := (Pb.first_slot (Pb.good hc) hxf hf hfi).2
  have m1 := hmin _ hx
  have m2 := hqmin _ hq
  rcases m2 with m2 | ⟨m2, m3 | m3⟩
  · exfalso
    rcases m1 with m1 | ⟨m1, _⟩ <;> omega
  · exact m3
  · exfalso
    rw [show y = (p.ext p.best y).rest p 1 from r2.symm] at m3
    have m4 := Pb.order_rest hxf hf hn hfi m3
    rcases m1 with m1 | ⟨m1, m5 | m5⟩
    · omega
    · rw [← m5] at m4
      rw [ltL_irrefl] at m4
      cases m4
    · rw [ltL_asymm m5] at m4
      cases m4
end Go.Proofs.Ytnppngaabfhkpaa
namespace Go.Proofs.Ytnppngaabfhkpaa
def setStart (st : List Int) (ids : List Nat) (bs : List Bool) (slot : Int) : Nat → List Int
  | 0 => st
  | k + 1 => if bs.getD k false = true ∧ (setStart st ids bs slot k).getD (ids.getD k 0) 0 < 0 then (setStart st ids bs slot k).set (ids.getD k 0) slot else setStart st ids bs slot k
structure Sim where
  q : Pb
  ids : List Nat
  start : List Int
def Sim.next (s : Sim) (i : Nat) : Sim :=
  ⟨s.q.adv s.q.dec, (s.q.whichs s.q.dec s.q.loads.length).map fun k => s.ids.getD k 0, setStart s.start s.ids s.q.dec.starts i s.q.dec.starts.length⟩
def Pb.sim (p : Pb) : Nat → Sim
  | 0 => ⟨p, List.range p.loads.length, List.replicate p.loads.length (-1)⟩
  | i + 1 => (p.sim i).next i
def Pb.simC (p : Pb) (k : Nat) : List Int := (List.range k).map fun i => (p.sim i).q.dec.charge
def Pb.simH (p : Pb) (k : Nat) : List Int := (List.range k).map fun i => (p.sim i).q.dec.heat
def Pb.simP (p : Pb) : Pn := if p.chk ≠ 0 then Pn.zero else ⟨p.simC p.n, p.simH p.n, (p.sim p.n).start⟩
theorem Pb.simC_succ (p : Pb) (k : Nat) : p.simC (k + 1) = p.simC k ++ [(p.sim k).q.dec.charge] := by simp [Pb.simC, List.range_succ]
theorem Pb.simH_succ (p : Pb) (k : Nat) : p.simH (k + 1) = p.simH k ++ [(p.sim k).q.dec.heat] := by simp [Pb.simH, List.range_succ]
theorem setStart_len (st : List Int) (ids : List Nat) (bs : List Bool) (slot : Int) (m : Nat) : (setStart st ids bs slot m).length = st.length := by
  induction m with
  | zero => rfl
  | succ m ih => rw [setStart]; split <;> simp [ih]
theorem set_getD (l : List Int) (i j : Nat) (v : Int) (hj : j < l.length) : (l.set i v).getD j 0 = if i = j then v else l.getD j 0 := by
  simp only [List.getD, List.getElem?_set]
  split
  · rename_i h; subst h; simp [hj]
  · rfl
theorem setStart_get {st : List Int} {ids : List Nat} {bs : List Bool} {slot : Int} (m : Nat) {j : Nat} (hj : j < st.length) :
    ((∃ k, k < m ∧ bs.getD k false = true ∧ ids.getD k 0 = j) → st.getD j 0 < 0 → (setStart st ids bs slot m).getD j 0 = slot) ∧
    (¬ (∃ k, k < m ∧ bs.getD k false = true ∧ ids.getD k 0 = j) → (setStart st ids bs slot m).getD j 0 = st.getD j 0) ∧
    (0 ≤ st.getD j 0 → (setStart st ids bs slot m).getD j 0 = st.getD j 0) := by
  induction m with
  | zero => exact ⟨fun ⟨k, hk, _⟩ => by omega, fun _ => rfl, fun _ => rfl⟩
  | succ m ih =>
    obtain ⟨h1, h2, h3⟩ := ih
    have hl : j < (setStart st ids bs slot m).length := by rw [setStart_len]; exact hj
    rw [setStart]
    refine ⟨?_, ?_, ?_⟩
    · rintro ⟨k, hk, hb, he⟩ hneg
      by_cases hex : ∃ k, k < m ∧ bs.getD k false = true ∧ ids.getD k 0 = j
      · have h4 := h1 hex hneg
        split
        · rw [set_getD _ _ _ _ hl]
          split
          · rfl
          · exact h4
        · exact h4
      · have hkm : k = m := by
          by_cases e : k = m
          · exact e
          · exact absurd ⟨k, by omega, hb, he⟩ hex
        subst hkm
        have h4 := h2 hex
        rw [if_pos ⟨hb, by rw [he, h4]; exact hneg⟩, set_getD _ _ _ _ hl, if_pos he]
    · intro hno
      have h4 := h2 fun ⟨k, hk, hb, he⟩ => hno ⟨k, by omega, hb, he⟩
      split
      · rename_i hc
        rw [set_getD _ _ _ _ hl, if_neg (fun e => hno ⟨m, by omega, hc.1, e⟩)]
        exact h4
      · exact h4
    · intro hp
      have h4 := h3 hp
      split
      · rename_i hc
        rw [set_getD _ _ _ _ hl]
        split
        · rename_i e
          rw [e, h4] at hc
          omega
        · exact h4
      · exact h4
structure SimOk (p : Pb) (i : Nat) (s : Sim) : Prop where
  pc : p.chk = 0
  chk : s.q.chk = 0
  n : s.q.n = p.n - i
  lim : i < p.n
  steps : s.q.room.steps = p.room.steps
  len : s.ids.length = s.q.loads.length
  lt : ∀ k, k < s.ids.length → s.ids.getD k 0 < p.loads.length
  inj : s.ids.Pairwise (· < ·)
  name : ∀ k, k < s.ids.length → (s.q.loads.getD k Ld.zero).name = (p.loads.getD (s.ids.getD k 0) Ld.zero).name
  sl : s.start.length = p.loads.length
  st : ∀ j, j < p.loads.length → 0 ≤ s.start.getD j 0 → (p.loads.getD j Ld.zero).fit (s.start.getD j 0) p.n = true
  un : ∀ j, j < p.loads.length → s.start.getD j 0 < 0 → ∃ k, k < s.ids.length ∧ s.ids.getD k 0 = j ∧ (s.q.loads.getD k Ld.zero).prof = (p.loads.getD j Ld.zero).prof ∧
    (s.q.loads.getD k Ld.zero).late = (p.loads.getD j Ld.zero).late - i ∧ (s.q.loads.getD k Ld.zero).early = if (p.loads.getD j Ld.zero).early - i < 0 then 0 else (p.loads.getD j Ld.zero).early - i
theorem Pb.sim_zero {p : Pb} (h : p.chk = 0) : SimOk p 0 (p.sim 0) := by
  have g := Pb.good h
  have hn := Pb.nbd g
  refine ⟨h, h, rfl, by omega, rfl, by simp [Pb.sim], fun k hk => ?_, List.pairwise_lt_range, fun k hk => ?_, by simp [Pb.sim], fun j hj h0 => ?_, fun j hj h0 => ?_⟩
  · have hk : k < p.loads.length := by simpa [Pb.sim] using hk
    show (List.range p.loads.length).getD k 0 < _
    rw [range_getD hk]; exact hk
  · have hk : k < p.loads.length := by simpa [Pb.sim] using hk
    show (p.loads.getD k Ld.zero).name = (p.loads.getD ((List.range p.loads.length).getD k 0) Ld.zero).name
    rw [range_getD hk]
  · have h0 : 0 ≤ (List.replicate p.loads.length (-1 : Int)).getD j 0 := h0
    rw [show (List.replicate p.loads.length (-1 : Int)).getD j 0 = -1 by simp [List.getD, hj]] at h0
    omega
  · have g1 := (Ld.good (Pb.load_at g hj)).e0
    refine ⟨j, by simpa [Pb.sim] using hj, range_getD hj, rfl, ?_, ?_⟩
    · show (p.loads.getD j Ld.zero).late = _
      omega
    · show (p.loads.getD j Ld.zero).early = _
      rw [if_neg (by omega)]
      omega
theorem SimOk.inj' {p : Pb} {i : Nat} {s : Sim} (h : SimOk p i s) {a b : Nat} (ha : a < s.ids.length) (hb : b < s.ids.length) (e : s.ids.getD a 0 = s.ids.getD b 0) : a = b := by
  have hp := List.pairwise_iff_getElem.1 h.inj
  rw [show s.ids.getD a 0 = s.ids[a] by simp [List.getD, ha], show s.ids.getD b 0 = s.ids[b] by simp [List.getD, hb]] at e
  rcases Nat.lt_trichotomy a b with h1 | h1 | h1
  · have := hp a b ha hb h1; omega
  · exact h1
  · have := hp b a hb ha h1; omega
theorem SimOk.able {p : Pb} {i : Nat} {s : Sim} (h : SimOk p i s) : s.q.Able s.q.dec := Pb.dec_able h.chk
theorem SimOk.starts {p : Pb} {i : Nat} {s : Sim} (h : SimOk p i s) {j : Nat} (hj : j < p.loads.length) :
    (0 ≤ (s.next i).start.getD j 0 → (p.loads.getD j Ld.zero).fit ((s.next i).start.getD j 0) p.n = true) ∧
    ((s.next i).start.getD j 0 < 0 → s.start.getD j 0 < 0 ∧ ∀ k, k < s.ids.length → s.ids.getD k 0 = j → s.q.dec.starts.getD k false = false) := by
  have a := h.able
  have g := Pb.good h.chk
  have hb := a.len
  have hl := h.len
  have hs := setStart_get (ids := s.ids) (bs := s.q.dec.starts) (slot := (i : Int)) s.q.dec.starts.length (st := s.start) (j := j) (by rw [h.sl]; exact hj)
  show (0 ≤ (setStart s.start s.ids s.q.dec.starts i s.q.dec.starts.length).getD j 0 → (p.loads.getD j Ld.zero).fit ((setStart s.start s.ids s.q.dec.starts i s.q.dec.starts.length).getD j 0) p.n = true) ∧ ((setStart s.start s.ids s.q.dec.starts i s.q.dec.starts.length).getD j 0 < 0 → _)
  generalize setStart s.start s.ids s.q.dec.starts i s.q.dec.starts.length = T at *
  by_cases h0 : 0 ≤ s.start.getD j 0
  · rw [hs.2.2 h0]
    exact ⟨fun _ => h.st j hj h0, fun h1 => by omega⟩
  · obtain ⟨k, hk, he, e1, e2, e3⟩ := h.un j hj (by omega)
    by_cases hbk : s.q.dec.starts.getD k false = true
    · rw [hs.1 ⟨k, by omega, hbk, he⟩ (by omega)]
      refine ⟨fun _ => ?_, fun h1 => by omega⟩
      have h4 := a.st k (by omega) hbk
      rw [e3] at h4
      have hq := Ld.good (Pb.load_at g (i := k) (by omega))
      have q1 := hq.p; have q2 := hq.l1; have q3 := hq.p0
      rw [e1, e2, e3] at q1
      rw [e2, h.n] at q2
      have hi := h.lim
      rw [Ld.fit_iff]
      refine ⟨?_, ?_, ?_⟩
      · exact Pb.load_at (Pb.good h.pc) hj
      · split at h4 <;> omega
      · rw [h4] at q1; omega
    · rw [hs.2.1 (fun ⟨k2, hk2, hb2, he2⟩ => by
        have := h.inj' (a := k2) (b := k) (by omega) hk (by rw [he2, he])
        subst this
        exact hbk hb2)]
      refine ⟨fun h1 => by omega, fun _ => ⟨by omega, fun k2 hk2 he2 => ?_⟩⟩
      have := h.inj' hk2 hk (by rw [he2, he])
      subst this
      simpa using hbk
theorem SimOk.next {p : Pb} {i : Nat} {s : Sim} (h : SimOk p i s) (hi : i + 1 < p.n) : SimOk p (i + 1) (s.next i) := by
  have a := h.able
  have g := Pb.good h.chk
  have hn : 1 < s.q.n := by rw [h.n]; omega
  have hqc := Pb.adv_chk h.chk a hn
  have hok := Pb.able_ok h.chk a
  have hl := h.len
  have hidn : (s.next i).ids.length = (s.q.whichs s.q.dec s.q.loads.length).length := by simp [Sim.next]
  have hid : ∀ k, k < (s.next i).ids.length → (s.next i).ids.getD k 0 = s.ids.getD ((s.q.whichs s.q.dec s.q.loads.length).getD k 0) 0 ∧ (s.q.whichs s.q.dec s.q.loads.length).getD k 0 < s.ids.length := fun k hk => by
    rw [hidn] at hk
    refine ⟨getD_map hk 0 0, ?_⟩
    have hm : (s.q.whichs s.q.dec s.q.loads.length)[k] ∈ s.q.whichs s.q.dec s.q.loads.length := List.getElem_mem hk
    rw [show (s.q.whichs s.q.dec s.q.loads.length).getD k 0 = (s.q.whichs s.q.dec s.q.loads.length)[k] by simp [List.getD, hk]]
    have := (Pb.whichs_mem.1 hm).1
    omega
  have hld : ∀ k, k < (s.next i).ids.length → (s.next i).q.loads.getD k Ld.zero = (s.q.loads.getD ((s.q.whichs s.q.dec s.q.loads.length).getD k 0) Ld.zero).next (s.q.dec.starts.getD ((s.q.whichs s.q.dec s.q.loads.length).getD k 0) false) := fun k hk => by
    rw [hidn] at hk
    exact Pb.nexts_get hk
  have hokk : ∀ k, k < s.q.loads.length → (s.q.loads.getD k Ld.zero).okNext (s.q.dec.starts.getD k false) = true := by
    simp only [Pb.okTo, List.all_eq_true, List.mem_range] at hok
    exact hok
  refine ⟨h.pc, hqc, ?_, hi, h.steps, ?_, ?_, ?_, ?_, ?_, ?_, ?_⟩
  · show (s.q.adv s.q.dec).n = _
    rw [Pb.adv_n, h.n]; omega
  · rw [hidn]
    show _ = (s.q.nexts s.q.dec s.q.loads.length).length
    rw [Pb.nexts_len]
  · intro k hk
    rw [(hid k hk).1]
    exact h.lt _ (hid k hk).2
  · show ((s.q.whichs s.q.dec s.q.loads.length).map fun k => s.ids.getD k 0).Pairwise (· < ·)
    rw [List.pairwise_map]
    refine (List.Pairwise.and_mem.1 (Pb.whichs_sorted s.q s.q.dec s.q.loads.length)).imp ?_
    rintro x y ⟨hx, hy, hxy⟩
    have hx := (Pb.whichs_mem.1 hx).1
    have hy := (Pb.whichs_mem.1 hy).1
    have := List.pairwise_iff_getElem.1 h.inj x y (by omega) (by omega) hxy
    rwa [show s.ids.getD x 0 = s.ids[x]'(by omega) by simp [List.getD, show x < s.ids.length by omega], show s.ids.getD y 0 = s.ids[y]'(by omega) by simp [List.getD, show y < s.ids.length by omega]]
  · intro k hk
    rw [(hid k hk).1, hld k hk, Ld.next_name (hokk _ (by have := (hid k hk).2; omega))]
    exact h.name _ (hid k hk).2
  · show (setStart _ _ _ _ _).length = _
    rw [setStart_len]; exact h.sl
  · exact fun j hj h0 => (h.starts hj).1 h0
  · intro j hj h0
    obtain ⟨h1, h2⟩ := (h.starts hj).2 h0
    obtain ⟨k, hk, he, e1, e2, e3⟩ := h.un j hj h1
    have hb := h2 k hk he
    have hm : k ∈ s.q.whichs s.q.dec s.q.loads.length := by
      rw [Pb.whichs_mem, hb]
      exact ⟨by omega, rfl⟩
    obtain ⟨k1, k2⟩ := Pb.whichs_at hm
    have hk1 : (s.q.whichs s.q.dec k).length < (s.next i).ids.length := by rw [hidn]; exact k1
    have hc := hokk k (by omega)
    rw [hb] at hc
    have hsh : (s.q.loads.getD k Ld.zero).next false = (s.q.loads.getD k Ld.zero).moved 1 := by
      unfold Ld.next; rw [if_neg (by decide), Ld.shift_yes (by simpa [Ld.okNext] using hc)]
    refine ⟨(s.q.whichs s.q.dec k).length, hk1, ?_, ?_, ?_, ?_⟩
    · rw [(hid _ hk1).1, k2, he]
    · rw [hld _ hk1, k2, hb, hsh]; exact e1
    · rw [hld _ hk1, k2, hb, hsh]
      show (s.q.loads.getD k Ld.zero).late - clampK 1 = _
      rw [e2]
      unfold clampK
      rw [if_neg (by omega), if_neg (by omega)]
      omega
    · rw [hld _ hk1, k2, hb, hsh]
      show (if (s.q.loads.getD k Ld.zero).early - clampK 1 < 0 then 0 else (s.q.loads.getD k Ld.zero).early - clampK 1) = _
      rw [e3]
      unfold clampK
      rw [if_neg (show ¬ (1 : Int) < 0 by omega), if_neg (show ¬ (96 : Int) < 1 by omega)]
      split <;> split <;> split <;> omega
theorem Pb.sim_ok {p : Pb} (h : p.chk = 0) {i : Nat} (hi : i < p.n) : SimOk p i (p.sim i) := by
  induction i with
  | zero => exact Pb.sim_zero h
  | succ i ih => exact (ih (by omega)).next hi
theorem Pb.sim_plan {p : Pb} (h : p.chk = 0) : p.simP = ⟨p.simC p.n, p.simH p.n, (p.sim p.n).start⟩ := by unfold Pb.simP; rw [if_neg (fun e => e h)]
structure SimBest (p : Pb) (i : Nat) (s : Sim) : Prop where
  ok : SimOk p i s
  e : s.q.bestE = 0
  c : s.q.best.charge = p.best.charge.drop i
  h : s.q.best.heat = p.best.heat.drop i
  ss : ∀ k, k < s.ids.length → s.q.best.start.getD k 0 = laterZ (p.best.start.getD (s.ids.getD k 0) 0) i
  st : ∀ j, j < p.loads.length → s.start.getD j 0 = if p.best.start.getD j 0 < i then p.best.start.getD j 0 else -1
theorem Pb.best_start0 {p : Pb} (h : p.bestE = 0) {j : Nat} (hj : j < p.loads.length) : 0 ≤ p.best.start.getD j 0 ∧ p.best.start.getD j 0 < p.n := by
  obtain ⟨hc, _, hb, _, _⟩ := Pb.best_top h
  obtain ⟨_, hf, _⟩ := Pb.err_zero hb
  obtain ⟨h1, h2, h3⟩ := Ld.fit_iff.1 (Pb.fit_each hf hj)
  have g := Ld.good h1
  have g1 := g.e0; have g2 := g.l1; have g3 := g.p0
  omega
theorem SimBest.starts {p : Pb} {i : Nat} {s : Sim} (h : SimBest p i s) (hp : p.bestE = 0) {j : Nat} (hj : j < p.loads.length) : (s.next i).start.getD j 0 = if p.best.start.getD j 0 < ((i + 1 : Nat) : Int) then p.best.start.getD j 0 else -1 := by
  have hb0 := Pb.best_start0 hp hj
  have hd : s.q.dec = s.q.best.first := Pb.dec_best h.e
  have hqf := (Pb.err_zero (Pb.best_top h.e).2.2.1).2.1
  have hl := h.ok.len
  have hal := h.ok.able.len
  have hst := h.st j hj
  have hs := setStart_get (ids := s.ids) (bs := s.q.dec.starts) (slot := (i : Int)) s.q.dec.starts.length (st := s.start) (j := j) (by rw [h.ok.sl]; exact hj)
  show (setStart s.start s.ids s.q.dec.starts i s.q.dec.starts.length).getD j 0 = _
  have hbk : ∀ k, k < s.ids.length → s.q.dec.starts.getD k false = decide (laterZ (p.best.start.getD (s.ids.getD k 0) 0) i = 0) := fun k hk => by
    rw [hd, Pn.first_start hqf (by omega), h.ss k hk]
  generalize setStart s.start s.ids s.q.dec.starts i s.q.dec.starts.length = T at *
  by_cases h1 : p.best.start.getD j 0 < (i : Int)
  · rw [if_pos h1] at hst
    rw [hs.2.2 (by omega), hst, if_pos (by omega)]
  · rw [if_neg h1] at hst
    obtain ⟨k, hk, he, -⟩ := h.ok.un j hj (by omega)
    by_cases h2 : p.best.start.getD j 0 = (i : Int)
    · rw [hs.1 ⟨k, by omega, by rw [hbk k hk, he, h2, decide_eq_true_iff]; unfold laterZ; rw [if_neg (by omega)]; omega, he⟩ (by omega), if_pos (by omega), h2]
    · rw [hs.2.1, hst, if_neg (by omega)]
      rintro ⟨k2, hk2, hb2, he2⟩
      rw [hbk k2 (by omega), he2, decide_eq_true_iff] at hb2
      unfold laterZ at hb2
      rw [if_neg (by omega)] at hb2
      omega
theorem SimBest.next {p : Pb} {i : Nat} {s : Sim} (h : SimBest p i s) (hp : p.bestE = 0) (hi : i + 1 < p.n) : SimBest p (i + 1) (s.next i) := by
  have hn : 1 < s.q.n := by rw [h.ok.n]; omega
  obtain ⟨b1, b2⟩ := Pb.best_rest h.e hn
  have hd : s.q.dec = s.q.best.first := Pb.dec_best h.e
  have hqf := (Pb.err_zero (Pb.best_top h.e).2.2.1).2.1
  have hl := h.ok.len
  have hlat := Pb.later_map hqf hn
  rw [← b2] at hlat
  refine ⟨h.ok.next hi, b1, ?_, ?_, fun k hk => ?_, fun j hj => h.starts hp hj⟩
  · show (s.q.adv s.q.dec).best.charge = _
    rw [b2]
    show s.q.best.charge.drop 1 = _
    rw [h.c, List.drop_drop]
  · show (s.q.adv s.q.dec).best.heat = _
    rw [b2]
    show s.q.best.heat.drop 1 = _
    rw [h.h, List.drop_drop]
  · have hk2 : k < (s.q.whichs s.q.best.first s.q.loads.length).length := by rw [← hd]; simpa [Sim.next] using hk
    have hm : (s.q.whichs s.q.best.first s.q.loads.length)[k] ∈ s.q.whichs s.q.best.first s.q.loads.length := List.getElem_mem hk2
    have hm1 := (Pb.whichs_mem.1 hm).1
    have e1 : (s.q.whichs s.q.best.first s.q.loads.length).getD k 0 = (s.q.whichs s.q.best.first s.q.loads.length)[k] := by simp [List.getD, hk2]
    have e2 : (s.next i).ids.getD k 0 = s.ids.getD (s.q.whichs s.q.best.first s.q.loads.length)[k] 0 := by
      show ((s.q.whichs s.q.dec s.q.loads.length).map fun k => s.ids.getD k 0).getD k 0 = _
      rw [hd, getD_map hk2 0 0, e1]
    show (s.q.adv s.q.dec).best.start.getD k 0 = _
    rw [hlat, getD_map hk2 0 0, e1, e2, h.ss _ (by omega)]
    have := Pb.best_start0 hp (h.ok.lt (s.q.whichs s.q.best.first s.q.loads.length)[k] (by omega))
    unfold laterZ
    split <;> split <;> (try split) <;> omega
end Go.Proofs.Ytnppngaabfhkpaa
namespace Go.Proofs.Ytnppngaabfhkpaa
end Go.Proofs.Ytnppngaabfhkpaa
