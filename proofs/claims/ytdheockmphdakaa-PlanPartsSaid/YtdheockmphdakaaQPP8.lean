/-
  The plain mathematics of plans (layer 42), part 8: the rest of a feasible plan is feasible for the rest of the problem, with the rest of the trace.
-/
import Derived.Test.YtdheockmphdakaaQPP7
namespace Go.Proofs.Ytdheockmphdakaa

theorem getD_dropZ (l : List Int) (k i : Nat) : (l.drop k).getD i 0 = l.getD (k + i) 0 := by simp [List.getD]
theorem allB_drop {l : List Int} {lo hi : Int} (k : Nat) (h : allB l lo hi = true) : allB (l.drop k) lo hi = true := by
  unfold allB at *
  rw [List.all_eq_true] at *
  exact fun z hz => h z (List.mem_of_mem_drop hz)
theorem Tf.rest_chk {t : Tf} {k : Nat} (h : t.chk = 0) (hk : k < t.buy.length) : (Tf.mk (t.buy.drop k) (t.sell.drop k) t.fuse).chk = 0 := by
  have g := Tf.good h
  have h1 := g.n1; have h2 := g.len
  have ho : t.orderTo t.buy.length = true := by
    cases h3 : t.orderTo t.buy.length
    · unfold Tf.chk at h
      split at h
      · split at h
        · rw [h3] at h; simp at h
        · cases h
      · cases h
    · rfl
  have hn : t.nums = true := by
    cases h3 : t.nums
    · unfold Tf.chk at h
      split at h
      · rw [h3] at h; simp at h
      · cases h
    · rfl
  refine Tf.chk_ok ?_ ?_ ?_
  · simp only [Tf.lim, List.length_drop, decide_eq_true_iff]; omega
  · simp only [Tf.nums, Bool.and_eq_true] at hn ⊢
    exact ⟨allB_drop k hn.1, allB_drop k hn.2.1, hn.2.2⟩
  · simp only [Tf.orderTo, List.all_eq_true, List.mem_range, decide_eq_true_iff, List.length_drop, getD_dropZ] at ho ⊢
    exact fun i hi => ho (k + i) (by omega)
theorem Rm.rest_chk {r : Rm} {n k : Nat} (h : r.chk n = 0) (hk : k < n) : (Rm.mk r.gain r.loss r.steps r.power (r.low.drop k) (r.high.drop k)).chk ((n - k : Nat) : Int) = 0 := by
  unfold Rm.chk at h
  split at h
  · rename_i hs
    split at h
    · rename_i hn
      split at h
      · rename_i hsl
        simp only [Rm.sizeOk, decide_eq_true_eq] at hs
        refine Rm.chk_ok ?_ hn ?_
        · simp only [Rm.sizeOk, List.length_drop, decide_eq_true_iff]; omega
        · simp only [Rm.slotsTo, List.all_eq_true, List.mem_range, List.length_drop, getD_dropZ] at hsl ⊢
          exact fun i hi => hsl (k + i) (by omega)
      · cases h
    · cases h
  · cases h

/-- What the walk needs of the loads: each fits at its start. -/
theorem Pb.fit_each {p : Pb} {x : Pn} (h : p.form x = 0) {j : Nat} (hj : j < p.loads.length) : (p.loads.getD j Ld.zero).fit (x.start.getD j 0) p.n = true := by
  have hf := (Pb.form_good h).2.1
  unfold Pb.fitsTo at hf
  rw [List.all_eq_true] at hf
  exact hf j (List.mem_range.2 hj)
theorem Pb.later_len {p : Pb} {x : Pn} {k : Nat} (h : p.form x = 0) (hk : k < p.n) {j : Nat} (hj : j ≤ p.loads.length) : (p.later x k j).length = (p.lefts x k j).length := by
  induction j with
  | zero => rfl
  | succ j ih =>
    rw [Pb.later, Pb.lefts, Ld.left_iff (Pb.fit_each h (by omega)) (by omega) (by omega)]
    by_cases hc : (k : Int) < x.start.getD j 0 + ((p.loads.getD j Ld.zero).prof.length : Int)
    · rw [if_pos hc, if_pos (by simpa using hc), List.length_append, List.length_append, ih (by omega)]
      rfl
    · rw [if_neg hc, if_neg (by simpa using hc), ih (by omega)]
theorem Pb.later_fits {p : Pb} {x : Pn} {k : Nat} (h : p.form x = 0) (hk : k < p.n) {j : Nat} (hj : j ≤ p.loads.length) : ∀ i, i < (p.lefts x k j).length → ((p.lefts x k j).getD i Ld.zero).fit ((p.later x k j).getD i 0) ((p.n : Int) - k) = true := by
  induction j with
  | zero => intro i hi; simp [Pb.lefts] at hi
  | succ j ih =>
    have ih := ih (by omega)
    have hl := Pb.later_len h hk (j := j) (by omega)
    have hf := Pb.fit_each h (j := j) (by omega)
    have hi2 := Ld.left_iff hf (k := k) (by omega) (by omega)
    intro i hi
    rw [Pb.lefts, hi2] at hi ⊢
    rw [Pb.later]
    by_cases hc : (k : Int) < x.start.getD j 0 + ((p.loads.getD j Ld.zero).prof.length : Int)
    · rw [if_pos (by simpa using hc)] at hi ⊢
      rw [if_pos hc]
      rw [List.length_append, List.length_singleton] at hi
      by_cases he : i < (p.lefts x k j).length
      · have e1 : (p.lefts x k j ++ [(p.loads.getD j Ld.zero).left (x.start.getD j 0) k]).getD i Ld.zero = (p.lefts x k j).getD i Ld.zero := by
          simp only [List.getD, List.getElem?_append_left he]
        have e2 : (p.later x k j ++ [laterZ (x.start.getD j 0) k]).getD i 0 = (p.later x k j).getD i 0 := by
          simp only [List.getD, List.getElem?_append_left (show i < (p.later x k j).length by omega)]
        rw [e1, e2]
        exact ih i he
      · have ei : i = (p.lefts x k j).length := by omega
        have e1 : (p.lefts x k j ++ [(p.loads.getD j Ld.zero).left (x.start.getD j 0) k]).getD i Ld.zero = (p.loads.getD j Ld.zero).left (x.start.getD j 0) k := by
          rw [ei]; simp [List.getD]
        have e2 : (p.later x k j ++ [laterZ (x.start.getD j 0) k]).getD i 0 = laterZ (x.start.getD j 0) k := by
          rw [ei, ← hl]; simp [List.getD]
        rw [e1, e2]
        exact Ld.left_fit hf (by omega) (by omega) (by rw [hi2]; simpa using hc)
    · rw [if_neg (by simpa using hc)] at hi ⊢
      rw [if_neg hc]
      exact ih i hi
theorem Pb.lefts_names {p : Pb} (x : Pn) (k : Nat) {j : Nat} (hj : j ≤ p.loads.length) : ((p.lefts x k j).map Ld.name).Sublist ((p.loads.take j).map Ld.name) := by
  induction j with
  | zero => simp [Pb.lefts]
  | succ j ih =>
    have ih := ih (by omega)
    rw [Pb.lefts, List.take_succ_eq_append_getElem (show j < p.loads.length by omega), List.map_append]
    have e : p.loads.getD j Ld.zero = p.loads[j] := by simp [List.getD, show j < p.loads.length by omega]
    split
    · rename_i hb
      rw [List.map_append]
      refine ih.append ?_
      simp only [List.map_cons, List.map_nil]
      rw [Ld.left_name hb, e]
      exact List.Sublist.refl _
    · exact ih.trans (List.sublist_append_left _ _)
theorem Pb.lefts_chk {p : Pb} {x : Pn} {k : Nat} (g : p.Good) (h : p.form x = 0) (hk : k < p.n) : allChk (p.lefts x k p.loads.length) ((p.n : Int) - k) = 0 := by
  have g0 := (allChk_iff.1 g.loads)
  rw [allChk_iff]
  refine ⟨Nat.le_trans (Pb.lefts_len _ _ _ _) g0.1, ?_, ?_⟩
  · intro y hy
    rw [List.mem_iff_getElem] at hy
    obtain ⟨i, hi, rfl⟩ := hy
    have hf := Pb.later_fits h hk (Nat.le_refl p.loads.length) i hi
    rw [show (p.lefts x k p.loads.length).getD i Ld.zero = (p.lefts x k p.loads.length)[i] by simp [List.getD, hi]] at hf
    simp only [Ld.fit, Bool.and_eq_true, decide_eq_true_iff] at hf
    exact hf.1
  · have hs := Pb.lefts_names (p := p) x k (Nat.le_refl p.loads.length)
    rw [List.take_length] at hs
    exact List.Nodup.sublist hs g0.2.2
theorem Pb.left_uses {p : Pb} {x : Pn} {k : Nat} (h : p.form x = 0) (hk : k < p.n) {j : Nat} (hj : j ≤ p.loads.length) {i : Int} (i0 : 0 ≤ i) : useAll (p.lefts x k j) (p.later x k j) i = useTo p.loads x.start (i + k) j := by
  have hst := (Pb.sized_yes (Pb.form_good h).1).2.2
  induction j with
  | zero => simp [Pb.lefts, Pb.later, useAll, useTo, sumZ]
  | succ j ih =>
    have ih := ih (by omega)
    have hl := Pb.later_len h hk (j := j) (by omega)
    have hf := Pb.fit_each h (j := j) (by omega)
    have hi2 := Ld.left_iff hf (k := k) (by omega) (by omega)
    have e1 : p.loads.getD j Ld.zero = p.loads[j] := by simp [List.getD, show j < p.loads.length by omega]
    have e2 : x.start.getD j 0 = x.start[j] := by simp [List.getD, show j < x.start.length by omega]
    rw [useTo_succ (by omega) (by omega), ← ih, ← e1, ← e2, Pb.lefts, Pb.later]
    by_cases hc : (k : Int) < x.start.getD j 0 + ((p.loads.getD j Ld.zero).prof.length : Int)
    · have hb : (p.loads.getD j Ld.zero).isLeft (x.start.getD j 0) k = true := by rw [hi2]; simpa using hc
      rw [if_pos hb, if_pos hc, useAll_push hl.symm, Ld.left_use i0 hb]
    · have hb : (p.loads.getD j Ld.zero).isLeft (x.start.getD j 0) k = false := by rw [hi2]; simpa using hc
      rw [if_neg (show ¬ (p.loads.getD j Ld.zero).isLeft (x.start.getD j 0) k = true from fun e => by rw [hb] at e; cases e), if_neg hc, Ld.left_none hf (by omega) (by omega) i0 hb]
      omega
theorem Pb.rest_n (p : Pb) (x : Pn) (k : Nat) : (p.rest x k).n = p.n - k := by simp [Pb.n, Pb.rest]
theorem Pb.lv_bd {p : Pb} {x : Pn} (h : p.err x = 0) {k : Nat} (hk : k ≤ p.n) : 0 ≤ p.lv x k ∧ p.lv x k ≤ p.bat.cap := by
  cases k with
  | zero => have g := Pb.good (Pb.err_zero h).1; exact ⟨g.l0, g.l1⟩
  | succ k => have := Pb.limits h (k := k) (by omega); exact ⟨this.1, this.2.1⟩
theorem Pb.tm_bd {p : Pb} {x : Pn} (h : p.err x = 0) (k : Nat) : -1000 ≤ p.tm x k ∧ p.tm x k ≤ 2000 := by
  cases k with
  | zero => have g := Pb.good (Pb.err_zero h).1; exact ⟨g.t0, g.t1⟩
  | succ k => exact stepT_bd _ _ _ _ _ _
/-- The rest is a valid problem. -/
theorem Pb.rest_chk {p : Pb} {x : Pn} {k : Nat} (h : p.err x = 0) (hk : k < p.n) : (p.rest x k).chk = 0 := by
  obtain ⟨hc, hf, -⟩ := Pb.err_zero h
  have g := Pb.good hc
  obtain ⟨e1, e2, e3⟩ := g.lens
  have hl := Pb.lv_bd h (Nat.le_of_lt hk)
  have ht := Pb.tm_bd h k
  have hn : (((p.rest x k).n : Nat) : Int) = (p.n : Int) - k := by rw [Pb.rest_n]; omega
  apply Pb.chk_of
  refine ⟨Tf.rest_chk g.t hk, ?_, allB_drop k g.so, allB_drop k g.de, allB_drop k g.ou, g.bat, ?_, ?_, hl.1, hl.2, ht.1, ht.2⟩
  · rw [Pb.rest_n]
    simp only [Pb.rest, List.length_drop]
    omega
  · rw [Pb.rest_n]; exact Rm.rest_chk g.room hk
  · rw [hn]; exact Pb.lefts_chk g hf hk
/-- The rest of the plan has the form that the rest of the problem wants. -/
theorem Pb.rest_form {p : Pb} {x : Pn} {k : Nat} (h : p.err x = 0) (hk : k < p.n) : (p.rest x k).form (x.rest p k) = 0 := by
  obtain ⟨hc, hf, -⟩ := Pb.err_zero h
  obtain ⟨h1, h2, h3⟩ := Pb.form_good hf
  obtain ⟨e1, e2, e3⟩ := Pb.sized_yes h1
  refine Pb.form_ok ?_ ?_ (allB_drop k h3)
  · simp only [Pb.sized, Pb.rest_n, Pn.rest, List.length_drop, decide_eq_true_iff]
    exact ⟨by omega, by omega, Pb.later_len hf hk (Nat.le_refl _)⟩
  · unfold Pb.fitsTo
    rw [List.all_eq_true]
    intro i hi
    rw [List.mem_range] at hi
    have hn : (((p.rest x k).n : Nat) : Int) = (p.n : Int) - k := by rw [Pb.rest_n]; omega
    rw [hn]
    exact Pb.later_fits hf hk (Nat.le_refl _) i hi
theorem Pb.uses_at {p : Pb} (g : p.Good) (x : Pn) {i : Nat} (hi : i < p.n) : (p.uses x).getD i 0 = useTo p.loads x.start i (min p.loads.length x.start.length) := by
  have h : i < (p.uses x).length := by rw [Pb.uses_len g]; exact hi
  simp only [List.getD, List.getElem?_eq_getElem h, Option.getD_some]
  simp [Pb.uses, usesL]
theorem Pb.rest_uses {p : Pb} {x : Pn} {k i : Nat} (h : p.err x = 0) (hk : k < p.n) (hi : k + i < p.n) : ((p.rest x k).uses (x.rest p k)).getD i 0 = (p.uses x).getD (k + i) 0 := by
  obtain ⟨hc, hf, -⟩ := Pb.err_zero h
  have hst := (Pb.sized_yes (Pb.form_good hf).1).2.2
  rw [Pb.uses_at (Pb.good hc) x hi, Pb.uses_at (Pb.good (Pb.rest_chk h hk)) _ (by rw [Pb.rest_n]; omega)]
  have e := Pb.left_uses hf hk (Nat.le_refl p.loads.length) (i := (i : Int)) (by omega)
  have e2 := useTo_all (p.lefts x k p.loads.length) (p.later x k p.loads.length) (i : Int)
  show useTo (p.lefts x k p.loads.length) (p.later x k p.loads.length) (i : Int) (min (p.lefts x k p.loads.length).length (p.later x k p.loads.length).length) = _
  rw [e2, e, hst, Nat.min_self, show ((k + i : Nat) : Int) = (i : Int) + k by omega]
theorem Pb.rest_lv {p : Pb} (x : Pn) (k : Nat) (i : Nat) : (p.rest x k).lv (x.rest p k) i = p.lv x (k + i) := by
  induction i with
  | zero => rfl
  | succ i ih =>
    show (stepZ p.bat ((p.rest x k).lv (x.rest p k) i) ((x.charge.drop k).getD i 0)).1 = (stepZ p.bat (p.lv x (k + i)) (x.charge.getD (k + i) 0)).1
    rw [ih, getD_dropZ]
theorem Pb.rest_valid {p : Pb} {x : Pn} {k : Nat} (h : p.err x = 0) (hk : k < p.n) : (p.rest x k).room.valid = (p.rest x k).room ∧ p.room.valid = p.room :=
  ⟨(Pb.room_ok (Pb.good (Pb.rest_chk h hk))).2.2.2, (Pb.room_ok (Pb.good (Pb.err_zero h).1)).2.2.2⟩
theorem Pb.rest_tm {p : Pb} {x : Pn} {k : Nat} (h : p.err x = 0) (hk : k < p.n) (i : Nat) : (p.rest x k).tm (x.rest p k) i = p.tm x (k + i) := by
  obtain ⟨v1, v2⟩ := Pb.rest_valid h hk
  induction i with
  | zero => rfl
  | succ i ih =>
    show (p.rest x k).room.valid.step ((p.rest x k).tm (x.rest p k) i) ((p.outside.drop k).getD i 0) ((x.heat.drop k).getD i 0) = p.room.valid.step (p.tm x (k + i)) (p.outside.getD (k + i) 0) (x.heat.getD (k + i) 0)
    rw [ih, getD_dropZ, getD_dropZ, v1, v2]
    rfl
theorem Pb.rest_net {p : Pb} {x : Pn} {k i : Nat} (h : p.err x = 0) (hk : k < p.n) (hi : k + i < p.n) : (p.rest x k).net (x.rest p k) i = p.net x (k + i) := by
  unfold Pb.net
  rw [Pb.rest_uses h hk hi, Pb.rest_lv]
  show (p.demand.drop k).getD i 0 + (stepZ p.bat (p.lv x (k + i)) ((x.charge.drop k).getD i 0)).2.1 + (x.heat.drop k).getD i 0 * p.room.power + (p.uses x).getD (k + i) 0 - (p.solar.drop k).getD i 0 = _
  rw [getD_dropZ, getD_dropZ, getD_dropZ, getD_dropZ]
theorem Pb.rest_slot {p : Pb} {x : Pn} {k i : Nat} (h : p.err x = 0) (hk : k < p.n) (hi : k + i < p.n) : (p.rest x k).slotErr (x.rest p k) i = p.slotErr x (k + i) := by
  obtain ⟨v1, v2⟩ := Pb.rest_valid h hk
  have e1 : (p.rest x k).slotOk (x.rest p k) i = p.slotOk x (k + i) := by
    unfold Pb.slotOk
    rw [Pb.rest_net h hk hi, Pb.rest_tm h hk, v1, v2]
    show (Rm.okAt ⟨p.room.gain, p.room.loss, p.room.steps, p.room.power, p.room.low.drop k, p.room.high.drop k⟩ (i : Int) (p.tm x (k + (i + 1))) && wB (p.net x (k + i)) (-p.t.fuse) p.t.fuse) = _
    congr 1
    unfold Rm.okAt
    simp only [List.length_drop, Int.toNat_natCast, getD_dropZ]
    rw [show k + (i + 1) = k + i + 1 from rfl]
    have hlow := (Pb.room_ok (Pb.good (Pb.err_zero h).1)).2.1
    rw [decide_eq_true (show (0 : Int) ≤ (i : Int) by omega), decide_eq_true (show (0 : Int) ≤ ((k + i : Nat) : Int) by omega), decide_eq_true (show (i : Int) < ((p.room.low.length - k : Nat) : Int) by omega), decide_eq_true (show ((k + i : Nat) : Int) < (p.room.low.length : Int) by omega)]
  unfold Pb.slotErr
  rw [e1, Pb.rest_lv]
  show (if (stepZ p.bat (p.lv x (k + i)) ((x.charge.drop k).getD i 0)).2.2 ≠ 0 then (stepZ p.bat (p.lv x (k + i)) ((x.charge.drop k).getD i 0)).2.2 else _) = _
  rw [getD_dropZ]
theorem Pb.rest_errTo {p : Pb} {x : Pn} {k : Nat} (h : p.err x = 0) (hk : k < p.n) (i : Nat) (hi : k + i ≤ p.n) : (p.rest x k).errTo (x.rest p k) i = 0 := by
  induction i with
  | zero => rfl
  | succ i ih =>
    have := ih (by omega)
    exact Pb.errTo_go this (by rw [Pb.rest_slot h hk (by omega)]; exact (Pb.errTo_each (Pb.err_zero h).2.2 (by omega)).2)
/-- The rest of the plan is feasible. -/
theorem Pb.rest_err {p : Pb} {x : Pn} {k : Nat} (h : p.err x = 0) (hk : k < p.n) : (p.rest x k).err (x.rest p k) = 0 := by
  rw [Pb.err_run (Pb.rest_chk h hk) (Pb.rest_form h hk)]
  exact Pb.rest_errTo h hk _ (by rw [Pb.rest_n]; omega)
theorem Tf.rest_total {t : Tf} (k : Nat) (l : List Int) (m : Nat) : (Tf.mk (t.buy.drop k) (t.sell.drop k) t.fuse).totalTo (l.drop k) m + t.totalTo l k = t.totalTo l (k + m) := by
  induction m with
  | zero => rw [Tf.totalTo_zero]; simp
  | succ m ih =>
    rw [Tf.totalTo_succ, show k + (m + 1) = (k + m) + 1 from rfl, Tf.totalTo_succ, ← ih]
    have e : (Tf.mk (t.buy.drop k) (t.sell.drop k) t.fuse).cost m ((l.drop k).getD m 0) = t.cost (k + m) (l.getD (k + m) 0) := by
      unfold Tf.cost
      rw [getD_dropZ, getD_dropZ, getD_dropZ]
    rw [e]
    omega
theorem Tf.totalTo_take {t : Tf} (l : List Int) (k : Nat) (m : Nat) (hm : m ≤ k) : t.totalTo (l.take k) m = t.totalTo l m := by
  induction m with
  | zero => rw [Tf.totalTo_zero, Tf.totalTo_zero]
  | succ m ih =>
    rw [Tf.totalTo_succ, Tf.totalTo_succ, ih (by omega)]
    congr 2
    simp only [List.getD, List.getElem?_take]
    rw [if_pos (by omega)]
theorem Pb.map_shift (f g : Nat → Int) (n k : Nat) (hk : k ≤ n) (h : ∀ i, k + i < n → g i = f (k + i)) : (List.range (n - k)).map g = ((List.range n).map f).drop k := by
  apply List.ext_getElem
  · simp
  · intro i h1 h2
    simp only [List.length_map, List.length_range] at h1
    simp only [List.getElem_map, List.getElem_range, List.getElem_drop]
    exact h i (by omega)
/-- The trace of the rest is the rest of the trace; the costs add up. -/
theorem Pb.rest_trace {p : Pb} {x : Pn} {k : Nat} (h : p.err x = 0) (hk : k < p.n) :
    (p.rest x k).trace (x.rest p k) = ⟨(p.trace x).net.drop k, (p.trace x).level.drop k, (p.trace x).temp.drop k, (p.trace x).cost - p.t.total ((p.trace x).net.take k)⟩ := by
  rw [Pb.trace_ok (Pb.rest_err h hk), Pb.trace_ok h, Pb.rest_n]
  have en : (p.rest x k).nets (x.rest p k) (p.n - k) = (p.nets x p.n).drop k := Pb.map_shift _ _ _ _ (Nat.le_of_lt hk) fun i hi => Pb.rest_net h hk hi
  have el : (p.rest x k).levels (x.rest p k) (p.n - k) = (p.levels x p.n).drop k := Pb.map_shift _ _ _ _ (Nat.le_of_lt hk) fun i hi => Pb.rest_lv x k (i + 1)
  have et : (p.rest x k).temps (x.rest p k) (p.n - k) = (p.temps x p.n).drop k := Pb.map_shift _ _ _ _ (Nat.le_of_lt hk) fun i hi => Pb.rest_tm h hk (i + 1)
  rw [en, el, et]
  congr 1
  have g := Pb.good (Pb.err_zero h).1
  have hnl := Pb.nets_len p x p.n
  generalize p.nets x p.n = l at hnl ⊢
  have h1 : p.t.chk = 0 := g.t
  have h2 : (p.rest x k).t.chk = 0 := (Pb.good (Pb.rest_chk h hk)).t
  have e0 : p.n = p.t.buy.length := rfl
  unfold Tf.total
  rw [if_pos h1, if_pos h1, if_pos h2]
  show (Tf.mk (p.t.buy.drop k) (p.t.sell.drop k) p.t.fuse).totalTo (l.drop k) (min (l.drop k).length (p.t.buy.drop k).length) = _
  rw [List.length_drop, List.length_drop, List.length_take, hnl, ← e0, Nat.min_self, Nat.min_self, Nat.min_eq_left (Nat.le_of_lt hk), Nat.min_eq_left (Nat.le_of_lt hk), Tf.totalTo_take _ _ _ (Nat.le_refl k)]
  have := Tf.rest_total (t := p.t) k l (p.n - k)
  rw [show k + (p.n - k) = p.n by omega] at this
  show _ = p.t.totalTo l p.n - p.t.totalTo l k
  omega
end Go.Proofs.Ytdheockmphdakaa
