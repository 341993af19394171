/-
  Rest of the program and of the reference: every case (layer 42).
-/
import Derived.Test.YtdheockmphdakaaQP32
import Derived.Test.YtdheockmphdakaaQP25
namespace Go.Proofs.Ytdheockmphdakaa
open Go.RowKit

/-- What Rest returns: the problem and the error. -/
def Pb.restR (p : Pb) (x : Pn) (k : Int) : Pb := if p.err x = 0 ∧ 0 ≤ k ∧ k < (p.n : Int) then p.rest x k.toNat else Pb.zero
def Pb.restE (p : Pb) (x : Pn) (k : Int) : Int := if p.err x ≠ 0 then p.err x else if 0 ≤ k ∧ k < (p.n : Int) then 0 else 2
theorem Pb.rest_bad {p : Pb} {x : Pn} {k : Int} (h : p.err x ≠ 0) : p.restR x k = Pb.zero ∧ p.restE x k = p.err x := by
  unfold Pb.restR Pb.restE
  rw [if_neg (fun g => h g.1), if_pos h]
  exact ⟨rfl, rfl⟩
theorem Pb.rest_out {p : Pb} {x : Pn} {k : Int} (h : p.err x = 0) (hk : k < 0 ∨ (p.n : Int) ≤ k) : p.restR x k = Pb.zero ∧ p.restE x k = 2 := by
  unfold Pb.restR Pb.restE
  rw [if_neg (fun g => by omega), if_neg (by simp [h]), if_neg (by omega)]
  exact ⟨rfl, rfl⟩
theorem Pb.rest_in {p : Pb} {x : Pn} {k : Nat} (h : p.err x = 0) (hk : k < p.n) : p.restR x k = p.rest x k ∧ p.restE x k = 0 := by
  unfold Pb.restR Pb.restE
  rw [if_pos ⟨h, by omega, by omega⟩, if_neg (by simp [h]), if_pos (by omega)]
  exact ⟨rfl, rfl⟩
theorem prest_any (x : PbM) (y : PnM) (k : Int) (w : World) (hP : RPb w x) (hQ : RPn w y) (hF : x.Fit) (hG : y.Fit) (hC : x.Cap) :
    Calls Try.prog 27 #[x.v, y.v, .int .i64 k] w (RestOut (x.p.restR y.x k) (x.p.restE y.x k) w) := by
  by_cases he : x.p.err y.x = 0
  · by_cases hk : 0 ≤ k ∧ k < (x.p.n : Int)
    · obtain ⟨m, rfl⟩ : ∃ m : Nat, k = (m : Int) := ⟨k.toNat, by omega⟩
      have hm : m < x.p.n := by omega
      rw [(Pb.rest_in he hm).1, (Pb.rest_in he hm).2]
      exact prest_ok x y m w hP hQ hF hG hC he hm
    · have hk' : k < 0 ∨ (x.p.n : Int) ≤ k := by omega
      rw [(Pb.rest_out he hk').1, (Pb.rest_out he hk').2]
      exact prest_range x y k w hP hQ hF hG he hk'
  · rw [(Pb.rest_bad he).1, (Pb.rest_bad he).2]
    exact prest_err x y k w hP hQ hF hG he
theorem rrest_any (x : PbM) (y : PnM) (k : Int) (w : World) (hP : RPb w x) (hQ : RPn w y) (hF : x.Fit) (hG : y.Fit) (hC : x.Cap) :
    Calls Try.prog 28 #[x.v, y.v, .int .i64 k] w (RestOut (x.p.restR y.x k) (x.p.restE y.x k) w) := by
  by_cases he : x.p.err y.x = 0
  · by_cases hk : 0 ≤ k ∧ k < (x.p.n : Int)
    · obtain ⟨m, rfl⟩ : ∃ m : Nat, k = (m : Int) := ⟨k.toNat, by omega⟩
      have hm : m < x.p.n := by omega
      rw [(Pb.rest_in he hm).1, (Pb.rest_in he hm).2]
      exact rrest_ok x y m w hP hQ hF hG hC he hm
    · have hk' : k < 0 ∨ (x.p.n : Int) ≤ k := by omega
      rw [(Pb.rest_out he hk').1, (Pb.rest_out he hk').2]
      exact rrest_range x y k w hP hQ hF hG he hk'
  · rw [(Pb.rest_bad he).1, (Pb.rest_bad he).2]
    exact rrest_err x y k w hP hQ hF hG he

/-- All lists of a problem are short. -/
structure Pb.Short (q : Pb) : Prop where
  buy : q.t.buy.length ≤ 1000
  sell : q.t.sell.length ≤ 1000
  solar : q.solar.length ≤ 1000
  demand : q.demand.length ≤ 1000
  outside : q.outside.length ≤ 1000
  low : q.room.low.length ≤ 1000
  high : q.room.high.length ≤ 1000
  loads : q.loads.length ≤ 1000
  profs : ∀ y ∈ q.loads, y.prof.length ≤ 1000
theorem Pb.Short.zero : Pb.zero.Short := ⟨by simp [Pb.zero], by simp [Pb.zero], by simp [Pb.zero], by simp [Pb.zero], by simp [Pb.zero], by simp [Pb.zero], by simp [Pb.zero], by simp [Pb.zero], by simp [Pb.zero]⟩
theorem Ld.left_len (r : Ld) (s k : Int) : (r.left s k).prof.length ≤ r.prof.length := by
  unfold Ld.left
  split
  · unfold Ld.shift
    split
    · exact Nat.le_refl _
    · simp [Ld.zero]
  · split
    · simp [Ld.zero]
    · show (r.prof.drop _).length ≤ _
      rw [List.length_drop]; omega
theorem Pb.lefts_prof {p : Pb} {b : Nat} (h : ∀ y ∈ p.loads, y.prof.length ≤ b) (x : Pn) (k : Int) (j : Nat) : ∀ y ∈ p.lefts x k j, y.prof.length ≤ b := by
  induction j with
  | zero => intro y hy; simp [Pb.lefts] at hy
  | succ j ih =>
    intro y hy
    rw [Pb.lefts] at hy
    split at hy
    · rw [List.mem_append, List.mem_singleton] at hy
      rcases hy with hy | rfl
      · exact ih y hy
      · refine Nat.le_trans (Ld.left_len _ _ _) ?_
        by_cases hj : j < p.loads.length
        · rw [show p.loads.getD j Ld.zero = p.loads[j] by simp [List.getD, hj]]
          exact h _ (List.getElem_mem hj)
        · rw [show p.loads.getD j Ld.zero = Ld.zero by simp [List.getD, List.getElem?_eq_none (Nat.le_of_not_lt hj)]]
          simp [Ld.zero]
    · exact ih y hy
theorem Pb.Short.rest {p : Pb} (h : p.Short) (x : Pn) (k : Nat) : (p.rest x k).Short :=
  ⟨by have := h.buy; simp [Pb.rest]; omega, by have := h.sell; simp [Pb.rest]; omega, by have := h.solar; simp [Pb.rest]; omega, by have := h.demand; simp [Pb.rest]; omega, by have := h.outside; simp [Pb.rest]; omega, by have := h.low; simp [Pb.rest]; omega, by have := h.high; simp [Pb.rest]; omega,
   Nat.le_trans (Pb.lefts_len _ _ _ _) h.loads, Pb.lefts_prof h.profs x k _⟩
theorem Pb.Short.restR {p : Pb} (h : p.Short) (x : Pn) (k : Int) : (p.restR x k).Short := by
  unfold Pb.restR
  split
  · exact h.rest x _
  · exact Pb.Short.zero
theorem PbM.short {x : PbM} (h : smallM x = true) : x.p.Short := by
  obtain ⟨h1, h2, h3, h4, h5, h6, h7, h8, h9⟩ := smallM_true h
  refine ⟨?_, ?_, ?_, ?_, ?_, ?_, ?_, ?_, ?_⟩
  · show x.buy.l.length ≤ _; omega
  · show x.sell.l.length ≤ _; omega
  · show x.solar.l.length ≤ _; omega
  · show x.demand.l.length ≤ _; omega
  · show x.outside.l.length ≤ _; omega
  · show x.low.l.length ≤ _; omega
  · show x.high.l.length ≤ _; omega
  · show (x.loads.map LdM.r).length ≤ _; rw [List.length_map]; omega
  · intro y hy
    have hy : y ∈ x.loads.map LdM.r := hy
    rw [List.mem_map] at hy
    obtain ⟨z, hz, rfl⟩ := hy
    have := (h2 z hz).1
    omega
/-- Same of two problems in memory that are equal. -/
theorem probsame_short (x z : PbM) (w : World) (hA : RPb w x) (hB : RPb w z) {q : Pb} (h1 : x.p = q) (h2 : z.p = q) (hs : q.Short) :
    Calls Try.prog 30 #[x.v, z.v] w fun e w' => e = .returned (.bool true) ∧ Below w.heap.size w w' := by
  rw [← h1] at hs
  refine probsame_true x z w hA hB (h1.trans h2.symm) ?_ ?_ ?_
  · intro l hl
    simp only [List.mem_cons, List.not_mem_nil, or_false] at hl
    rcases hl with rfl | rfl | rfl | rfl | rfl | rfl | rfl
    · have : x.buy.l.length ≤ 1000 := hs.buy; omega
    · have : x.sell.l.length ≤ 1000 := hs.sell; omega
    · have : x.solar.l.length ≤ 1000 := hs.solar; omega
    · have : x.demand.l.length ≤ 1000 := hs.demand; omega
    · have : x.outside.l.length ≤ 1000 := hs.outside; omega
    · have : x.low.l.length ≤ 1000 := hs.low; omega
    · have : x.high.l.length ≤ 1000 := hs.high; omega
  · have : (x.loads.map LdM.r).length ≤ 1000 := hs.loads
    rw [List.length_map] at this
    exact this
  · intro y hy
    have := hs.profs y.r (List.mem_map.2 ⟨y, hy, rfl⟩)
    omega
theorem Pb.idle_len {p : Pb} (h : p.Short) : p.idle.charge.length ≤ 1000 ∧ p.idle.heat.length ≤ 1000 ∧ p.idle.start.length ≤ 1000 := by
  have h1 := h.buy; have h2 := h.loads
  unfold Pb.idle
  split
  · simp [Pn.zero]
  · simp only [List.length_replicate, List.length_map, Pb.n]
    omega
theorem sameidle_short (m m2 : PnM) (w : World) (hA : RPn w m) (hB : RPn w m2) {p : Pb} (h1 : m.x = p.idle) (h2 : m2.x = p.idle) (hs : p.Short) :
    Calls Try.prog 21 #[m.v, m2.v] w fun e w' => e = .returned (.bool true) ∧ Below w.heap.size w w' := by
  have h := Pb.idle_len hs
  rw [← h1] at h
  obtain ⟨a, b, c⟩ := h
  have a : m.charge.l.length ≤ 1000 := a
  have b : m.heat.l.length ≤ 1000 := b
  have c : m.start.l.length ≤ 1000 := c
  exact sameplan_true m m2 w hA hB (h1.trans h2.symm) (by omega) (by omega) (by omega)
end Go.Proofs.Ytdheockmphdakaa
