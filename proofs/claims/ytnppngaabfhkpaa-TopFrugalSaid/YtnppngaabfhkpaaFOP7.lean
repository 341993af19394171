/-
  The plain mathematics of the top law: a plan keeps all limits, slot by slot, just if it is feasible.
-/
import Derived.Test.YtnppngaabfhkpaaFOP6
namespace Go.Proofs.Ytnppngaabfhkpaa

def rawT (r : Rm) (t o h : Int) : Int := t + r.gain * h - r.loss * (t - o) / 1000
theorem raw_ok {p : Pb} (g : p.Good) {k : Nat} (hk : k < p.n) {t h : Int} (ht0 : -1000 ≤ t) (ht1 : t ≤ 2000) (h0 : 0 ≤ h) (h1 : h ≤ p.room.steps) :
    p.room.valid.step t (p.outside.getD k 0) h = limT (rawT p.room t (p.outside.getD k 0) h) ∧
    p.room.valid.okAt (k : Int) (limT (rawT p.room t (p.outside.getD k 0) h)) = wT (rawT p.room t (p.outside.getD k 0) h) (p.room.low.getD k 0) (p.room.high.getD k 0) ∧
    (wT (rawT p.room t (p.outside.getD k 0) h) (p.room.low.getD k 0) (p.room.high.getD k 0) = true → limT (rawT p.room t (p.outside.getD k 0) h) = rawT p.room t (p.outside.getD k 0) h) := by
  obtain ⟨hok, hl, hh, hv⟩ := Pb.room_ok g
  have r := Rm.good hok
  have ho := allB_getD g.ou (by omega) (by omega) k
  have hs := r.slots k (by omega)
  have hkl : (k : Int) < (p.room.low.length : Int) := by omega
  rw [hv]
  refine ⟨?_, ?_, ?_⟩
  · unfold Rm.step stepT rawT
    rw [limT_id ht0 ht1, limT_id ho.1 (by omega), heatT_id h0 h1]
  · generalize rawT p.room t (p.outside.getD k 0) h = z
    unfold Rm.okAt
    rw [decide_eq_true (show (0 : Int) ≤ (k : Int) by omega), decide_eq_true hkl, Bool.true_and, Bool.true_and, Int.toNat_natCast]
    rw [Bool.eq_iff_iff, wT_true, wT_true]
    unfold limT
    split
    · omega
    · split <;> omega
  · generalize rawT p.room t (p.outside.getD k 0) h = z
    rw [wT_true]
    intro hz
    exact limT_id (by omega) (by omega)
theorem win_step {b : Bat} (hok : b.ok = true) {l c : Int} (l0 : 0 ≤ l) (l1 : l ≤ b.cap) (c0 : -b.discharge ≤ c) (c1 : c ≤ b.charge) :
    ((b.cap < l + c ∨ (c < 0 ∧ l + c < b.reserve)) → (stepZ b l c).2.2 ≠ 0) ∧ (¬ (b.cap < l + c ∨ (c < 0 ∧ l + c < b.reserve)) → stepZ b l c = (l + c, drawnZ b c, 0)) := by
  unfold stepZ
  rw [if_neg (by simp [hok]), if_neg (by omega)]
  refine ⟨fun h => ?_, fun h => ?_⟩
  · rw [if_pos h]; decide
  · rw [if_neg h]
theorem win_charge {b : Bat} {l c : Int} (h : c < -b.discharge ∨ b.charge < c) : (stepZ b l c).2.2 ≠ 0 := by
  unfold stepZ
  split
  · decide
  · rw [if_pos (by omega)]; decide
theorem Pb.slot_ne {p : Pb} {x : Pn} {k : Nat} (hk : k < p.n) (h : p.slotErr x k ≠ 0) : p.err x ≠ 0 := fun he => h (Pb.errTo_each (Pb.err_zero he).2.2 hk).2
theorem Pb.slot_bad_step {p : Pb} {x : Pn} {k : Nat} (h : (stepZ p.bat (p.lv x k) (x.charge.getD k 0)).2.2 ≠ 0) : p.slotErr x k ≠ 0 := by unfold Pb.slotErr; rw [if_pos h]; exact h
theorem Pb.slot_bad_ok {p : Pb} {x : Pn} {k : Nat} (h : p.slotOk x k = false) : p.slotErr x k ≠ 0 := by
  unfold Pb.slotErr
  split
  · assumption
  · rw [if_neg (by simp [h])]; decide
theorem Pb.slot_fine {p : Pb} {x : Pn} {k : Nat} (h : (stepZ p.bat (p.lv x k) (x.charge.getD k 0)).2.2 = 0) (h2 : p.slotOk x k = true) : p.slotErr x k = 0 := by
  unfold Pb.slotErr; rw [if_neg (fun e => e h), if_pos h2]
theorem Pb.lv_bd {p : Pb} {x : Pn} (g : p.Good) {k : Nat} (h : p.errTo x k = 0) : 0 ≤ p.lv x k ∧ p.lv x k ≤ p.bat.cap := by
  cases k with
  | zero => exact ⟨g.l0, g.l1⟩
  | succ k => exact step_ok_bd (Pb.slot_zero (Pb.errTo_each h (Nat.lt_succ_self k)).2).1
theorem Pb.tm_bd {p : Pb} (x : Pn) (g : p.Good) (k : Nat) : -1000 ≤ p.tm x k ∧ p.tm x k ≤ 2000 := by
  cases k with
  | zero => exact ⟨g.t0, g.t1⟩
  | succ k => exact stepT_bd _ _ _ _ _ _
theorem Pb.sized_ne {p : Pb} {x : Pn} (h : p.sized x = false) : p.err x ≠ 0 := fun he => by
  have := (Pb.form_good (Pb.err_zero he).2.1).1
  rw [h] at this; cases this
theorem Pb.fits_ne {p : Pb} {x : Pn} {k : Nat} (hk : k < p.loads.length) (h : (p.loads.getD k Ld.zero).fit (x.start.getD k 0) p.n = false) : p.err x ≠ 0 := fun he => by
  have h1 := (Pb.form_good (Pb.err_zero he).2.1).2.1
  simp only [Pb.fitsTo, List.all_eq_true, List.mem_range] at h1
  rw [h1 k hk] at h; cases h
theorem Pb.heat_ne {p : Pb} {x : Pn} {k : Nat} (hk : k < p.n) (h : x.heat.getD k 0 < 0 ∨ p.room.steps < x.heat.getD k 0) : p.err x ≠ 0 := fun he => by
  obtain ⟨hc, hf, _⟩ := Pb.err_zero he
  obtain ⟨h1, _, h2⟩ := Pb.form_good hf
  simp only [Pb.sized, decide_eq_true_eq] at h1
  have h3 := allB_bd h2 (i := k) (by omega)
  have e : x.heat.getD k 0 = x.heat[k]'(by omega) := by simp [List.getD, show k < x.heat.length by omega]
  rw [e] at h
  omega
theorem Pb.win_end {p : Pb} {x : Pn} (hc : p.chk = 0) (h1 : p.sized x = true) (h2 : p.fitsTo x p.loads.length = true) (h3 : ∀ i, i < p.n → 0 ≤ x.heat.getD i 0 ∧ x.heat.getD i 0 ≤ p.room.steps) (h4 : p.errTo x p.n = 0) :
    p.err x = 0 ∧ (p.trace x).cost = p.t.totalTo (p.nets x p.n) p.n := by
  have hf : p.form x = 0 := by
    unfold Pb.form
    have hb : allB x.heat 0 p.room.steps = true := by
      simp only [allB, List.all_eq_true, wB_true]
      intro y hy
      obtain ⟨i, hi, rfl⟩ := List.mem_iff_getElem.1 hy
      simp only [Pb.sized, decide_eq_true_eq] at h1
      have := h3 i (by omega)
      rw [show x.heat.getD i 0 = x.heat[i] by simp [List.getD, hi]] at this
      exact this
    rw [if_neg (by simp [h1]), if_neg (by simp [h2]), if_neg (by simp [hb])]
  have he : p.err x = 0 := by rw [Pb.err_run hc hf]; exact h4
  exact ⟨he, Pb.cost_total he⟩
/-- What within hands back. -/
def Pb.win (p : Pb) (x : Pn) : Int := if p.err x = 0 then (p.trace x).cost else 0
theorem Pb.win_no {p : Pb} {x : Pn} (h : p.err x ≠ 0) : p.win x = 0 ∧ (p.err x == 0) = false := ⟨by unfold Pb.win; rw [if_neg h], by simp [h]⟩
theorem Pb.win_yes {p : Pb} {x : Pn} (h : p.err x = 0) : p.win x = (p.trace x).cost ∧ (p.err x == 0) = true := ⟨by unfold Pb.win; rw [if_pos h], by simp [h]⟩
/-- The cost of the first k slots. -/
def Pb.costTo (p : Pb) (x : Pn) (k : Nat) : Int := p.t.totalTo (p.nets x k) k
theorem Pb.costTo_zero (p : Pb) (x : Pn) : p.costTo x 0 = 0 := Tf.totalTo_zero _ _
theorem totalTo_congr (t : Tf) (l m : List Int) (k : Nat) (h : ∀ i, i < k → l.getD i 0 = m.getD i 0) : t.totalTo l k = t.totalTo m k := by
  induction k with
  | zero => rw [Tf.totalTo_zero, Tf.totalTo_zero]
  | succ k ih => rw [Tf.totalTo_succ, Tf.totalTo_succ, ih fun i hi => h i (by omega), h k (by omega)]
theorem Pb.costTo_succ (p : Pb) (x : Pn) (k : Nat) : p.costTo x (k + 1) = p.costTo x k + p.t.cost k (p.net x k) := by
  unfold Pb.costTo
  rw [Tf.totalTo_succ]
  have e : ∀ (j : Nat), k ≤ j → ∀ i, i < j → (p.nets x j).getD i 0 = p.net x i := fun j _ i hi => by simp [Pb.nets, List.getD, hi]
  rw [e (k + 1) (by omega) k (by omega), totalTo_congr p.t (p.nets x (k + 1)) (p.nets x k) k fun i hi => by rw [e (k + 1) (by omega) i (by omega), e k (by omega) i hi]]
theorem win_cost {t : Tf} (h : t.Good) {n : Int} {i : Nat} (h1 : -t.fuse ≤ n) (h2 : n ≤ t.fuse) : t.cost i n = if 0 ≤ n then n * t.buy.getD i 0 else n * t.sell.getD i 0 := by
  have := h.f1
  unfold Tf.cost amountZ
  rw [limP_id (by omega) (by omega)]
  by_cases h0 : 0 ≤ n
  · rw [if_neg (by omega), if_pos h0]
  · rw [if_pos (by omega), if_neg h0]
theorem win_use {r : Ld} {n : Int} (g : r.Good n) (s i : Int) : r.use s i = if s ≤ i ∧ i - s < (r.prof.length : Int) then r.prof.getD (i - s).toNat 0 else 0 := by
  unfold Ld.use
  by_cases h1 : i < s
  · rw [if_pos h1, if_neg (by omega)]
  · rw [if_neg h1]
    by_cases h2 : (r.prof.length : Int) ≤ i - s
    · rw [if_pos h2, if_neg (by omega)]
    · rw [if_neg h2, if_pos (by omega)]
      have h3 : (i - s).toNat < r.prof.length := by omega
      have h4 := List.all_eq_true.1 g.units (r.prof[(i - s).toNat]) (List.getElem_mem h3)
      rw [unitOk_true] at h4
      rw [show r.prof.getD (i - s).toNat 0 = r.prof[(i - s).toNat] by simp [List.getD, h3]]
      unfold unitZ
      rw [if_neg (by omega), if_neg (by omega)]
end Go.Proofs.Ytnppngaabfhkpaa

/-
  The plain mathematics of the top law, part 2: what a slot asks.
-/
namespace Go.Proofs.Ytnppngaabfhkpaa

structure WinSlot (p : Pb) (x : Pn) (i : Nat) : Prop where
  c0 : x.charge.getD i 0 < -p.bat.discharge → p.err x ≠ 0
  c1 : p.bat.charge < x.charge.getD i 0 → p.err x ≠ 0
  h0 : x.heat.getD i 0 < 0 → p.err x ≠ 0
  h1 : p.room.steps < x.heat.getD i 0 → p.err x ≠ 0
  l : -p.bat.discharge ≤ x.charge.getD i 0 → x.charge.getD i 0 ≤ p.bat.charge → (p.bat.cap < p.lv x i + x.charge.getD i 0 ∨ (x.charge.getD i 0 < 0 ∧ p.lv x i + x.charge.getD i 0 < p.bat.reserve)) → p.err x ≠ 0
  l' : -p.bat.discharge ≤ x.charge.getD i 0 → x.charge.getD i 0 ≤ p.bat.charge → ¬ (p.bat.cap < p.lv x i + x.charge.getD i 0 ∨ (x.charge.getD i 0 < 0 ∧ p.lv x i + x.charge.getD i 0 < p.bat.reserve)) →
    p.lv x (i + 1) = p.lv x i + x.charge.getD i 0 ∧ p.net x i = p.demand.getD i 0 + drawnZ p.bat (x.charge.getD i 0) + x.heat.getD i 0 * p.room.power + useTo p.loads x.start i p.loads.length - p.solar.getD i 0
  t : 0 ≤ x.heat.getD i 0 → x.heat.getD i 0 ≤ p.room.steps → wT (rawT p.room (p.tm x i) (p.outside.getD i 0) (x.heat.getD i 0)) (p.room.low.getD i 0) (p.room.high.getD i 0) = false → p.err x ≠ 0
  t' : 0 ≤ x.heat.getD i 0 → x.heat.getD i 0 ≤ p.room.steps → wT (rawT p.room (p.tm x i) (p.outside.getD i 0) (x.heat.getD i 0)) (p.room.low.getD i 0) (p.room.high.getD i 0) = true → p.tm x (i + 1) = rawT p.room (p.tm x i) (p.outside.getD i 0) (x.heat.getD i 0)
  n : wB (p.net x i) (-p.t.fuse) p.t.fuse = false → p.err x ≠ 0
  good : -p.bat.discharge ≤ x.charge.getD i 0 → x.charge.getD i 0 ≤ p.bat.charge → ¬ (p.bat.cap < p.lv x i + x.charge.getD i 0 ∨ (x.charge.getD i 0 < 0 ∧ p.lv x i + x.charge.getD i 0 < p.bat.reserve)) →
    0 ≤ x.heat.getD i 0 → x.heat.getD i 0 ≤ p.room.steps → wT (rawT p.room (p.tm x i) (p.outside.getD i 0) (x.heat.getD i 0)) (p.room.low.getD i 0) (p.room.high.getD i 0) = true → wB (p.net x i) (-p.t.fuse) p.t.fuse = true → p.errTo x (i + 1) = 0
  cost : wB (p.net x i) (-p.t.fuse) p.t.fuse = true → p.costTo x (i + 1) = p.costTo x i + (if 0 ≤ p.net x i then p.net x i * p.t.buy.getD i 0 else p.net x i * p.t.sell.getD i 0)
theorem Pb.uses_at {p : Pb} {x : Pn} (g : p.Good) (hx : x.start.length = p.loads.length) {i : Nat} (hi : i < p.n) : (p.uses x).getD i 0 = useTo p.loads x.start i p.loads.length := by
  have h : i < (p.uses x).length := by rw [Pb.uses_len g]; exact hi
  have e : (p.uses x).getD i 0 = useTo p.loads x.start i (min p.loads.length x.start.length) := by
    simp only [List.getD, List.getElem?_eq_getElem h, Option.getD_some]
    simp [Pb.uses, usesL]
  rw [e, hx, Nat.min_self]
theorem Pb.win_slot {p : Pb} {x : Pn} (g : p.Good) (hx : x.start.length = p.loads.length) {i : Nat} (hi : i < p.n) (he : p.errTo x i = 0) : WinSlot p x i := by
  have hb := Pb.bat_good g
  have hl := Pb.lv_bd g he
  have ht := Pb.tm_bd x g i
  have hs := fun q0 q1 => win_step hb.1 hl.1 hl.2 (c := x.charge.getD i 0) q0 q1
  have hr := fun q0 q1 => raw_ok g hi ht.1 ht.2 (h := x.heat.getD i 0) q0 q1
  have hok : ∀ q0 q1, p.slotOk x i = (wT (rawT p.room (p.tm x i) (p.outside.getD i 0) (x.heat.getD i 0)) (p.room.low.getD i 0) (p.room.high.getD i 0) && wB (p.net x i) (-p.t.fuse) p.t.fuse) := fun (q0 : 0 ≤ x.heat.getD i 0) (q1 : x.heat.getD i 0 ≤ p.room.steps) => by
    unfold Pb.slotOk
    rw [show p.tm x (i + 1) = p.room.valid.step (p.tm x i) (p.outside.getD i 0) (x.heat.getD i 0) from rfl, (hr q0 q1).1, (hr q0 q1).2.1]
  refine ⟨fun h => ?_, fun h => ?_, fun h => ?_, fun h => ?_, fun q0 q1 h => ?_, fun q0 q1 h => ?_, fun q0 q1 h => ?_, fun q0 q1 h => ?_, fun h => ?_, fun q0 q1 h r0 r1 h2 h3 => ?_, fun h => ?_⟩
  · exact Pb.slot_ne hi (Pb.slot_bad_step (win_charge (.inl h)))
  · exact Pb.slot_ne hi (Pb.slot_bad_step (win_charge (.inr h)))
  · exact Pb.heat_ne hi (.inl h)
  · exact Pb.heat_ne hi (.inr h)
  · exact Pb.slot_ne hi (Pb.slot_bad_step ((hs q0 q1).1 h))
  · have h1 := (hs q0 q1).2 h
    refine ⟨?_, ?_⟩
    · show (stepZ p.bat (p.lv x i) (x.charge.getD i 0)).1 = _
      rw [h1]
    · unfold Pb.net
      rw [h1, Pb.uses_at g hx hi]
  · refine Pb.slot_ne hi (Pb.slot_bad_ok ?_)
    rw [hok q0 q1, h, Bool.false_and]
  · rw [show p.tm x (i + 1) = p.room.valid.step (p.tm x i) (p.outside.getD i 0) (x.heat.getD i 0) from rfl, (hr q0 q1).1]
    exact (hr q0 q1).2.2 h
  · refine Pb.slot_ne hi (Pb.slot_bad_ok ?_)
    unfold Pb.slotOk
    rw [h, Bool.and_false]
  · refine Pb.errTo_go he (Pb.slot_fine ?_ ?_)
    · rw [(hs q0 q1).2 h]
    · rw [hok r0 r1, h2, h3]; rfl
  · rw [Pb.costTo_succ, win_cost (Tf.good g.t) (wB_true.1 h).1 (wB_true.1 h).2]
end Go.Proofs.Ytnppngaabfhkpaa
