/-
  The plain mathematics of the top law: a plan keeps all limits, slot by slot, just if it is feasible.
-/
import Derived.Test.YtnppngaabfhkpaaROP6
import Derived.Test.YtnppngaabfhkpaaRU19
namespace Go.Proofs.Ytnppngaabfhkpaa

theorem win_charge {b : Bat} {l c : Int} (h : c < -b.discharge ∨ b.charge < c) : (stepZ b l c).2.2 ≠ 0 := by
  unfold stepZ
  split
  · decide
  · rw [if_pos (by omega)]; decide
theorem Pb.slot_ne {p : Pb} {x : Pn} {k : Nat} (hk : k < p.n) (h : p.slotErr x k ≠ 0) : p.err x ≠ 0 := fun he => h (Pb.errTo_each (Pb.err_zero he).2.2 hk).2
theorem Pb.heat_ne {p : Pb} {x : Pn} {k : Nat} (hk : k < p.n) (h : x.heat.getD k 0 < 0 ∨ p.room.steps < x.heat.getD k 0) : p.err x ≠ 0 := fun he => by
  obtain ⟨hc, hf, _⟩ := Pb.err_zero he
  obtain ⟨h1, _, h2⟩ := Pb.form_good hf
  simp only [Pb.sized, decide_eq_true_eq] at h1
  have h3 := allB_bd h2 (i := k) (by omega)
  have e : x.heat.getD k 0 = x.heat[k]'(by omega) := by simp [List.getD, show k < x.heat.length by omega]
  rw [e] at h
  omega
end Go.Proofs.Ytnppngaabfhkpaa

/-
  The plain mathematics of the reference's search: what has been seen so far.
-/
namespace Go.Proofs.Ytnppngaabfhkpaa

/-- The state of a search that has seen the plans of V. -/
def Pb.seen (p : Pb) (V : Pn → Prop) (f : Bool) (b : Pn) : Prop := (f = false ∧ ∀ y, V y → p.err y ≠ 0) ∨ (f = true ∧ p.err b = 0 ∧ ∀ y, V y → p.better y b = false)
theorem Pb.better_bad {p : Pb} {a b : Pn} (h : p.err a ≠ 0) : p.better a b = false := by unfold Pb.better; rw [if_pos h]
theorem Pb.better_iff {p : Pb} {a b : Pn} (ha : p.err a = 0) (hb : p.err b = 0) : p.better a b = true ↔ (p.trace a).cost < (p.trace b).cost ∨ ((p.trace a).cost = (p.trace b).cost ∧ ltL a.list b.list = true) := by
  unfold Pb.better
  rw [if_neg (by simp [ha]), if_neg (by simp [hb])]
  by_cases h1 : (p.trace a).cost < (p.trace b).cost
  · rw [if_pos h1]; exact ⟨fun _ => .inl h1, fun _ => rfl⟩
  · rw [if_neg h1]
    by_cases h2 : (p.trace b).cost < (p.trace a).cost
    · rw [if_pos h2]
      exact ⟨(fun h => by cases h), fun h => by omega⟩
    · rw [if_neg h2]
      exact ⟨fun h => .inr ⟨by omega, h⟩, fun h => by rcases h with h | h; · omega
                                                      · exact h.2⟩
theorem Pb.better_trans {p : Pb} {a b c : Pn} (ha : p.err a = 0) (hb : p.err b = 0) (hc : p.err c = 0) (h : p.better a b = true) (h2 : p.better b c = true) : p.better a c = true := by
  rw [Pb.better_iff ha hb] at h
  rw [Pb.better_iff hb hc] at h2
  rw [Pb.better_iff ha hc]
  rcases h with h | ⟨h, h3⟩ <;> rcases h2 with h2 | ⟨h2, h4⟩
  · left; omega
  · left; omega
  · left; omega
  · exact .inr ⟨by omega, ltL_trans h3 h4⟩
theorem Pb.seen_mono {p : Pb} {V V' : Pn → Prop} {f : Bool} {b : Pn} (h : p.seen V f b) (hv : ∀ y, V' y → V y ∨ p.err y ≠ 0) : p.seen V' f b := by
  rcases h with ⟨h1, h2⟩ | ⟨h1, h2, h3⟩
  · refine .inl ⟨h1, fun y hy => ?_⟩
    rcases hv y hy with h | h
    · exact h2 y h
    · exact h
  · refine .inr ⟨h1, h2, fun y hy => ?_⟩
    rcases hv y hy with h | h
    · exact h3 y h
    · exact Pb.better_bad h
theorem Pb.seen_none (p : Pb) (b : Pn) : p.seen (fun _ => False) false b := .inl ⟨rfl, fun _ h => h.elim⟩
theorem Pb.seen_take {p : Pb} {V : Pn → Prop} {f : Bool} {b x : Pn} (h : p.seen V f b) (hx : p.err x = 0) (hn : f = false ∨ p.better x b = true) : p.seen (fun y => V y ∨ y = x) true x := by
  refine .inr ⟨rfl, hx, fun y hy => ?_⟩
  by_cases he : p.err y = 0
  · rcases hy with hy | rfl
    · rcases h with ⟨h1, h2⟩ | ⟨h1, h2, h3⟩
      · exact absurd he (h2 y hy)
      · have hb : p.better x b = true := by
          rcases hn with hn | hn
          · rw [h1] at hn; cases hn
          · exact hn
        cases hc : p.better y x with
        | false => rfl
        | true =>
          have := Pb.better_trans he hx h2 hc hb
          rw [h3 y hy] at this; cases this
    · exact Pb.better_irrefl _ _
  · exact Pb.better_bad he
theorem Pb.seen_leave {p : Pb} {V : Pn → Prop} {f : Bool} {b x : Pn} (h : p.seen V f b) (hx : p.err x ≠ 0 ∨ (f = true ∧ p.better x b = false)) : p.seen (fun y => V y ∨ y = x) f b := by
  rcases h with ⟨h1, h2⟩ | ⟨h1, h2, h3⟩
  · refine .inl ⟨h1, fun y hy => ?_⟩
    rcases hy with hy | rfl
    · exact h2 y hy
    · rcases hx with hx | ⟨hx, _⟩
      · exact hx
      · rw [h1] at hx; cases hx
  · refine .inr ⟨h1, h2, fun y hy => ?_⟩
    rcases hy with hy | rfl
    · exact h3 y hy
    · rcases hx with hx | ⟨_, hx⟩
      · exact Pb.better_bad hx
      · exact hx
theorem Pb.seen_end {p : Pb} {V : Pn → Prop} {f : Bool} {b : Pn} (hc : p.chk = 0) (hl : p.lim = true) (h : p.seen V f b) (hV : ∀ y, p.err y = 0 → V y) :
    (f = true ∧ b = p.best ∧ p.bestE = 0) ∨ (f = false ∧ p.bestE = 20) := by
  rcases h with ⟨h1, h2⟩ | ⟨h1, h2, h3⟩
  · refine .inr ⟨h1, ?_⟩
    rcases Pb.bestE_cases hc hl with h | h
    · have h4 := (Pb.best_top h).2.2.1
      exact absurd h4 (h2 _ (hV _ h4))
    · exact h
  · have hE : p.bestE = 0 := by
      rcases Pb.bestE_cases hc hl with h | h
      · exact h
      · exact absurd h2 (Pb.best_none h hc b)
    obtain ⟨_, _, h5, _, h6⟩ := Pb.best_top hE
    refine .inl ⟨h1, ?_, hE⟩
    have h7 := h3 _ (hV _ h5)
    rcases h6 b h2 with h8 | ⟨h8, h9 | h9⟩
    · have := (Pb.better_iff h5 h2).2 (.inl h8)
      rw [h7] at this; cases this
    · exact h9.symm
    · have := (Pb.better_iff h5 h2).2 (.inr ⟨h8, h9⟩)
      rw [h7] at this; cases this
/-- A plan goes on with another one. -/
def Pn.ext (x y : Pn) : Prop := y.start = x.start ∧ x.charge <+: y.charge ∧ x.heat <+: y.heat
def Pn.push (x : Pn) (c h : Int) : Pn := ⟨x.charge ++ [c], x.heat ++ [h], x.start⟩
theorem prefix_push {l m : List Int} (h : l <+: m) (hk : l.length < m.length) : l ++ [m.getD l.length 0] <+: m := by
  obtain ⟨r, rfl⟩ := h
  cases r with
  | nil => simp at hk
  | cons a r =>
    rw [show (l ++ a :: r).getD l.length 0 = a by simp [List.getD]]
    exact ⟨r, by simp⟩
theorem Pn.ext_push {x y : Pn} (h : x.ext y) (h1 : x.charge.length < y.charge.length) (h2 : x.heat.length < y.heat.length) : (x.push (y.charge.getD x.charge.length 0) (y.heat.getD x.heat.length 0)).ext y :=
  ⟨h.1, prefix_push h.2.1 h1, prefix_push h.2.2 h2⟩
theorem Pn.ext_end {x y : Pn} (h : x.ext y) (h1 : x.charge.length = y.charge.length) (h2 : x.heat.length = y.heat.length) : y = x := by
  obtain ⟨e1, e2, e3⟩ := h
  have e2 := List.IsPrefix.eq_of_length e2 h1
  have e3 := List.IsPrefix.eq_of_length e3 h2
  obtain ⟨a, b, c⟩ := x
  obtain ⟨a', b', c'⟩ := y
  simp only at e1 e2 e3
  rw [e1, e2, e3]
/-- A feasible plan has possible charges and heats. -/
theorem Pb.feasible {p : Pb} {y : Pn} (h : p.err y = 0) : y.charge.length = p.n ∧ y.heat.length = p.n ∧ y.start.length = p.loads.length ∧
    (∀ k, k < p.n → -p.bat.discharge ≤ y.charge.getD k 0 ∧ y.charge.getD k 0 ≤ p.bat.charge ∧ 0 ≤ y.heat.getD k 0 ∧ y.heat.getD k 0 ≤ p.room.steps) := by
  obtain ⟨hc, hf, he⟩ := Pb.err_zero h
  obtain ⟨hs, _, _⟩ := Pb.form_good hf
  simp only [Pb.sized, decide_eq_true_eq] at hs
  refine ⟨hs.1, hs.2.1, hs.2.2, fun k hk => ?_⟩
  have h1 := (Pb.slot_zero (Pb.errTo_each he hk).2).1
  refine ⟨?_, ?_, ?_, ?_⟩
  · exact Int.not_lt.1 fun g => win_charge (.inl g) h1
  · exact Int.not_lt.1 fun g => win_charge (.inr g) h1
  · exact Int.not_lt.1 fun g => Pb.heat_ne hk (.inl g) h
  · exact Int.not_lt.1 fun g => Pb.heat_ne hk (.inr g) h
end Go.Proofs.Ytnppngaabfhkpaa

/-
  The plain mathematics of the reference's search, part 2: the sets of plans that its loops have seen.
-/
namespace Go.Proofs.Ytnppngaabfhkpaa

theorem prefix_getD {l m : List Int} (h : l <+: m) {i : Nat} (hi : i < l.length) : m.getD i 0 = l.getD i 0 := by
  obtain ⟨r, rfl⟩ := h
  simp [List.getD, List.getElem?_append_left hi]
theorem Pn.ext_state {p : Pb} {x z : Pn} (h : x.ext z) (he : x.heat.length = x.charge.length) (i : Nat) (hi : i ≤ x.charge.length) : p.lv z i = p.lv x i ∧ p.tm z i = p.tm x i := by
  induction i with
  | zero => exact ⟨rfl, rfl⟩
  | succ i ih =>
    obtain ⟨h1, h2⟩ := ih (by omega)
    have e1 := prefix_getD h.2.1 (show i < x.charge.length by omega)
    have e2 := prefix_getD h.2.2 (show i < x.heat.length by omega)
    refine ⟨?_, ?_⟩
    · show (stepZ p.bat (p.lv z i) (z.charge.getD i 0)).1 = (stepZ p.bat (p.lv x i) (x.charge.getD i 0)).1
      rw [h1, e1]
    · show p.room.valid.step (p.tm z i) (p.outside.getD i 0) (z.heat.getD i 0) = p.room.valid.step (p.tm x i) (p.outside.getD i 0) (x.heat.getD i 0)
      rw [h2, e2]
theorem Pn.ext_slot {p : Pb} {x z : Pn} (h : x.ext z) (he : x.heat.length = x.charge.length) {i : Nat} (hi : i < x.charge.length) : p.slotErr z i = p.slotErr x i := by
  obtain ⟨h1, h2⟩ := Pn.ext_state (p := p) h he i (by omega)
  obtain ⟨_, h3⟩ := Pn.ext_state (p := p) h he (i + 1) (by omega)
  have e1 := prefix_getD h.2.1 hi
  have e2 := prefix_getD h.2.2 (show i < x.heat.length by omega)
  unfold Pb.slotErr Pb.slotOk Pb.net Pb.uses
  rw [h1, h3, e1, e2, h.1]
theorem Pn.ext_bad {p : Pb} {x z : Pn} (h : x.ext z) (he : x.heat.length = x.charge.length) (hn : x.charge.length ≤ p.n) (hb : ∃ i, i < x.charge.length ∧ p.slotErr x i ≠ 0) : p.err z ≠ 0 := by
  obtain ⟨i, hi, hb⟩ := hb
  rw [← Pn.ext_slot h he hi] at hb
  exact Pb.slot_ne (by omega) hb
def Vc (V : Pn → Prop) (x : Pn) (c : Int) (z : Pn) : Prop := V z ∨ (x.ext z ∧ z.charge.getD x.charge.length 0 < c)
def Vh (V : Pn → Prop) (x : Pn) (c h : Int) (z : Pn) : Prop := V z ∨ (x.ext z ∧ (z.charge.getD x.charge.length 0 < c ∨ (z.charge.getD x.charge.length 0 = c ∧ z.heat.getD x.charge.length 0 < h)))
def Ve (V : Pn → Prop) (x : Pn) (z : Pn) : Prop := V z ∨ x.ext z
section
variable {p : Pb} {V : Pn → Prop} {f : Bool} {b x : Pn} {c h : Int}
theorem see_start (hk : x.charge.length < p.n) (hs : p.seen V f b) : p.seen (Vc V x (-p.bat.discharge)) f b :=
  Pb.seen_mono hs fun z hz => by
    rcases hz with hz | ⟨h1, h2⟩
    · exact .inl hz
    · refine .inr fun he => ?_
      have := ((Pb.feasible he).2.2.2 _ hk).1
      omega
theorem see_in (hk : x.charge.length < p.n) (hs : p.seen (Vc V x c) f b) : p.seen (Vh V x c 0) f b :=
  Pb.seen_mono hs fun z hz => by
    rcases hz with hz | ⟨h1, h2 | ⟨h2, h3⟩⟩
    · exact .inl (.inl hz)
    · exact .inl (.inr ⟨h1, h2⟩)
    · refine .inr fun he => ?_
      have := ((Pb.feasible he).2.2.2 _ hk).2.2.1
      omega
theorem see_push (hk : x.charge.length < p.n) (hl : x.heat.length = x.charge.length) {z : Pn} (h1 : x.ext z) (he : p.err z = 0) (hc : z.charge.getD x.charge.length 0 = c) (hh : z.heat.getD x.charge.length 0 = h) : (x.push c h).ext z := by
  obtain ⟨e1, e2, _⟩ := Pb.feasible he
  have h2 := Pn.ext_push h1 (by omega) (by omega)
  rw [hl, hc, hh] at h2
  exact h2
theorem see_bad (hk : x.charge.length < p.n) (hl : x.heat.length = x.charge.length) (hb : ∀ z, (x.push c h).ext z → p.err z ≠ 0) (hs : p.seen (Vh V x c h) f b) : p.seen (Vh V x c (h + 1)) f b :=
  Pb.seen_mono hs fun z hz => by
    rcases hz with hz | ⟨h1, h2 | ⟨h2, h3⟩⟩
    · exact .inl (.inl hz)
    · exact .inl (.inr ⟨h1, .inl h2⟩)
    · by_cases h4 : z.heat.getD x.charge.length 0 < h
      · exact .inl (.inr ⟨h1, .inr ⟨h2, h4⟩⟩)
      · by_cases he : p.err z = 0
        · exact absurd he (hb z (see_push hk hl h1 he h2 (by omega)))
        · exact .inr he
theorem see_more (hk : x.charge.length < p.n) (hl : x.heat.length = x.charge.length) (hs : p.seen (Ve (Vh V x c h) (x.push c h)) f b) : p.seen (Vh V x c (h + 1)) f b :=
  Pb.seen_mono hs fun z hz => by
    rcases hz with hz | ⟨h1, h2 | ⟨h2, h3⟩⟩
    · exact .inl (.inl (.inl hz))
    · exact .inl (.inl (.inr ⟨h1, .inl h2⟩))
    · by_cases h4 : z.heat.getD x.charge.length 0 < h
      · exact .inl (.inl (.inr ⟨h1, .inr ⟨h2, h4⟩⟩))
      · by_cases he : p.err z = 0
        · exact .inl (.inr (see_push hk hl h1 he h2 (by omega)))
        · exact .inr he
theorem see_out (hk : x.charge.length < p.n) (hh : p.room.steps < h) (hs : p.seen (Vh V x c h) f b) : p.seen (Vc V x (c + 1)) f b :=
  Pb.seen_mono hs fun z hz => by
    rcases hz with hz | ⟨h1, h2⟩
    · exact .inl (.inl hz)
    · by_cases he : p.err z = 0
      · have := ((Pb.feasible he).2.2.2 _ hk).2.2.2
        by_cases h3 : z.charge.getD x.charge.length 0 < c
        · exact .inl (.inr ⟨h1, .inl h3⟩)
        · exact .inl (.inr ⟨h1, .inr ⟨by omega, by omega⟩⟩)
      · exact .inr he
theorem see_end (hk : x.charge.length < p.n) (hc : p.bat.charge < c) (hs : p.seen (Vc V x c) f b) : p.seen (Ve V x) f b :=
  Pb.seen_mono hs fun z hz => by
    rcases hz with hz | h1
    · exact .inl (.inl hz)
    · by_cases he : p.err z = 0
      · have := ((Pb.feasible he).2.2.2 _ hk).2.1
        exact .inl (.inr ⟨h1, by omega⟩)
      · exact .inr he
theorem see_leaf (hk : x.charge.length = p.n) (hl : x.heat.length = p.n) {f' : Bool} {b' : Pn} (hs : p.seen (fun z => V z ∨ z = x) f' b') : p.seen (Ve V x) f' b' :=
  Pb.seen_mono hs fun z hz => by
    rcases hz with hz | h1
    · exact .inl (.inl hz)
    · by_cases he : p.err z = 0
      · obtain ⟨e1, e2, _⟩ := Pb.feasible he
        exact .inl (.inr (Pn.ext_end h1 (by omega) (by omega)))
      · exact .inr he
end
/-- What the starts' loops have seen. -/
def Vs (V : Pn → Prop) (s : List Int) (z : Pn) : Prop := V z ∨ s <+: z.start
def Vi (V : Pn → Prop) (s l : List Int) (z : Pn) : Prop := V z ∨ (s <+: z.start ∧ z.start.getD s.length 0 ∈ l)
section
variable {p : Pb} {V : Pn → Prop} {f : Bool} {b x : Pn}
theorem see_s0 {s : List Int} (hs : p.seen V f b) : p.seen (Vi V s []) f b :=
  Pb.seen_mono hs fun z hz => by
    rcases hz with hz | ⟨_, h2⟩
    · exact .inl hz
    · cases h2
theorem see_s1 {s l : List Int} {a : Int} (hk : s.length < p.loads.length) (hs : p.seen (Vs (Vi V s l) (s ++ [a])) f b) : p.seen (Vi V s (l ++ [a])) f b :=
  Pb.seen_mono hs fun z hz => by
    rcases hz with hz | ⟨h1, h2⟩
    · exact .inl (.inl (.inl hz))
    · rw [List.mem_append, List.mem_singleton] at h2
      rcases h2 with h2 | h2
      · exact .inl (.inl (.inr ⟨h1, h2⟩))
      · by_cases he : p.err z = 0
        · obtain ⟨_, _, e3, _⟩ := Pb.feasible he
          have h3 := prefix_push h1 (by omega)
          rw [h2] at h3
          exact .inl (.inr h3)
        · exact .inr he
theorem see_s2 {s : List Int} (hk : s.length < p.loads.length) (hs : p.seen (Vi V s ((p.loads.getD s.length Ld.zero).starts p.n)) f b) : p.seen (Vs V s) f b :=
  Pb.seen_mono hs fun z hz => by
    rcases hz with hz | h1
    · exact .inl (.inl hz)
    · by_cases he : p.err z = 0
      · have hf := (Pb.form_good (Pb.err_zero he).2.1).2.1
        simp only [Pb.fitsTo, List.all_eq_true, List.mem_range] at hf
        have hm := hf _ hk
        rw [Ld.fit_mem, decide_eq_true_iff] at hm
        exact .inl (.inr ⟨h1, hm⟩)
      · exact .inr he
theorem see_s3 (hk : x.start.length = p.loads.length) (h1 : x.charge = []) (h2 : x.heat = []) (hs : p.seen (Ve V x) f b) : p.seen (Vs V x.start) f b :=
  Pb.seen_mono hs fun z hz => by
    rcases hz with hz | h3
    · exact .inl (.inl hz)
    · by_cases he : p.err z = 0
      · obtain ⟨_, _, e3, _⟩ := Pb.feasible he
        have := List.IsPrefix.eq_of_length h3 (by omega)
        exact .inl (.inr ⟨this.symm, by rw [h1]; exact List.nil_prefix, by rw [h2]; exact List.nil_prefix⟩)
      · exact .inr he
end
end Go.Proofs.Ytnppngaabfhkpaa

/-
  The walks of layer 43 (optimum), part 23: a list with one more number.
-/
namespace Go.Proofs.Ytnppngaabfhkpaa
open Go.RowKit
attribute [local go_sem ↓] Go.wp_at_zero Go.wp_at_succ

/-- A new list, and its capacity. -/
def IntsCap (l : List Int) (w : World) (e : Ending) (w' : World) : Prop := ∃ A c, e = .returned (.slice A l.length c) ∧ RInts w' A l ∧ l.length ≤ c ∧ (∀ ad, A = some ad → w.heap.size ≤ ad.block) ∧ Below w.heap.size w w'

set_option maxRecDepth 100000 in
set_option maxHeartbeats 16000000 in
theorem with_any (A : Option Addr) (c : Nat) (l : List Int) (n : Int) (w : World) (hR : RInts w A l) (h1 : l.length ≤ 1000) :
    Calls Try.prog 109 #[.slice A l.length c, .int .i64 n] w (IntsCap (l ++ [n]) w) := by
  obtain ⟨i0, hi, hz0, hz1, hz2⟩ := info_parts Try.infoInt
  have HO := Lib.hid (World.ownsRow_lit (base := w.heap.size) (e := 3) (size := 1) w #[] 0 (by omega) (by unfold maxLen; omega) rfl)
  have HRS : Hid (Reads (w.alloc (.cells #[] 3)) w.heap.size 1 A l.length (ints l)) := Reads.alloc hR (Nat.le_refl _) _
  have HON := Lib.hid (ints_one l)
  obtain ⟨sl, hsl⟩ : ∃ z, z = l.length := ⟨_, rfl⟩
  have HSL := Lib.hid hsl
  rw [← hsl] at HRS h1
  rw [← hsl]
  clear hR hsl
  go_enter Try.func109, Try.ntmps109
  go_wp2_with (at_builtin; refine wpList_append_any _ rfl _ _ 22 rfl w.heap.size 3 i0 (.int .i64 0) 1 8 Try.underlying22 hi hz0 hz1 hz2 rfl (by decide) _ _ _ rfl HO.out _ _ _ _ (ints l) rfl HRS.out HON.out (by unfold maxLen; omega) (by omega) (by simp) ?_)
  intro v5 w5 hown5 hg5 hv5
  have hB5 : Below w.heap.size w w5 := ((Below.refl w.heap.size w).alloc (Nat.le_refl _) (.cells #[] 3)).grown hg5 (by simp) (fun k hk => (HO.out.lt k hk).1)
  have HB5 := Lib.hid hB5
  have HO5 : Hid (w5.ownsRow w.heap.size 3 1 v5 sl (ints l)) := by
    show World.ownsRow _ _ _ _ _ _ _
    simpa using hown5
  have HZ5 := Lib.hid hB5.size
  have HLT := Lib.hid (fun k hk => (hown5.lt k hk).1)
  clear hown5 hg5 hv5 hB5 HO HRS
  go_wp2_with (at_builtin; refine wpList_append_newGH _ w5 w5.heap.size rfl rfl _ _ 22 rfl w.heap.size 3 i0 (.int .i64 0) 1 8 Try.underlying22 hi hz0 hz1 hz2 rfl (by decide) (by decide) _ sl (ints l) rfl HO5.out #[.int .i64 n] rfl (one_int _ _) rfl rfl (by omega) HZ5.out ?_)
  intro v6 w6 hown6 hg6 hv6
  have hB6 : Below w.heap.size w w6 := HB5.out.grown hg6 HZ5.out (fun k hk => HLT.out k hk)
  obtain ⟨A4, c4, rfl⟩ := own_form hown6
  have hlen : (l ++ [n]).length = sl + 1 := by rw [List.length_append, ← HSL.out]; rfl
  have hr : RInts w6 A4 (l ++ [n]) := by
    unfold RInts
    rw [hlen, ints_append]
    exact Reads.of_own hown6
  have hc : sl + 1 ≤ c4 := own_cap hown6
  have hfr : ∀ ad, A4 = some ad → w.heap.size ≤ ad.block := fun ad e => (hown6.lt ad.block (by rw [e]; rfl)).1
  have HFR := Lib.hid hfr
  have HR := Lib.hid hr
  have HC := Lib.hid hc
  have HLE := Lib.hid hlen
  have HB := Lib.hid hB6
  clear hown6 hg6 hv6 hB6 hr hc hlen hfr
  go_wp2_with fail
  go_ret
  exact ⟨A4, c4, by rw [HLE.out]; rfl, HR.out, by rw [HLE.out]; exact HC.out, HFR.out, HB.out⟩
end Go.Proofs.Ytnppngaabfhkpaa

/-
  The walks of layer 43 (optimum), part 24: possible of the reference.
-/
namespace Go.Proofs.Ytnppngaabfhkpaa
open Go.RowKit
attribute [local go_sem ↓] Go.wp_at_zero Go.wp_at_succ

theorem Pb.slot_at {p : Pb} {x : Pn} (g : p.Good) (k : Nat) (h0 : 0 ≤ x.heat.getD k 0) (h1 : x.heat.getD k 0 ≤ p.room.steps) : Pb.Slot p x k (x.charge.getD k 0) (x.heat.getD k 0) (p.outside.getD k 0) (p.demand.getD k 0) (p.solar.getD k 0) ((p.uses x).getD k 0) (p.lv x k) (p.tm x k) := by
  have hd := allB_getD g.de (by omega) (by omega) k
  have hs := allB_getD g.so (by omega) (by omega) k
  have hb := step_drawn_bd (Pb.bat_good g).2 (p.lv x k) (x.charge.getD k 0)
  have hr := Rm.good (Pb.room_ok g).1
  have hu := Pb.uses_bd g x k
  have hs40 := hr.s1
  refine ⟨rfl, rfl, rfl, rfl, hd.1, hd.2, hs.1, hs.2, hb.1, hb.2, Int.mul_nonneg h0 hr.p0, ?_, hu.1, hu.2⟩
  have : x.heat.getD k 0 * p.room.power ≤ 40 * 1000 := Int.mul_le_mul (by omega) hr.p1 hr.p0 (by omega)
  omega

set_option maxRecDepth 100000 in
set_option maxHeartbeats 64000000 in
theorem possible_any (x : PbM) (y : PnM) (w : World) (hP0 : RPb w x) (hQ0 : RPn w y) (hG0 : y.Fit) (hc : x.p.chk = 0) (hk0 : y.charge.l.length ≤ x.buy.l.length) (hh : y.heat.l.length = y.charge.l.length) (hhb : ∀ k, k < y.charge.l.length → 0 ≤ y.heat.l.getD k 0 ∧ y.heat.l.getD k 0 ≤ x.steps) :
    Calls Try.prog 140 #[x.v, y.v] w (GuardOut (∃ i, i < y.charge.l.length ∧ x.p.slotErr y.x i ≠ 0) w) := by
  have hP := Lib.hid hP0
  have hQ := Lib.hid hQ0
  have hgood := Pb.good hc
  have hgd := Lib.hid hgood
  have hld4 := Pb.loads4 hgood
  have hel : x.p.loads.length = x.loads.length := by simp [PbM.p]
  have hnb := (Pb.nbd hgood)
  obtain ⟨e4, e5, e6⟩ := hgood.lens
  have e4 : x.solar.l.length = x.buy.l.length := e4
  have e5 : x.demand.l.length = x.buy.l.length := e5
  have e6 : x.outside.l.length = x.buy.l.length := e6
  have hU0 : (x.p.uses y.x).length = x.buy.l.length := Pb.uses_len hgood y.x
  have hus0 := fun W (h : RPb W x) (h2 : RPn W y) => rluses_any x.LA y.start.A x.lc y.start.c x.loads y.start.l x.buy.l.length W h.loads h2.start (PbM.prof_short hgood) hG0.ss (by omega)
  have hU1 : usesL (x.loads.map LdM.r) y.start.l x.buy.l.length = x.p.uses y.x := rfl
  rw [hU1] at hus0
  have hSL := Lib.hid (fun k (hk : k < y.charge.l.length) => Pb.slot_at (x := y.x) hgood k (hhb k hk).1 (hhb k hk).2)
  obtain ⟨U, hU⟩ : ∃ U, U = x.p.uses y.x := ⟨_, rfl⟩
  have HU := Lib.hid hU
  rw [← hU] at hus0 hU0
  have hus := Lib.hid hus0
  have E2 := Lib.hid hh
  have E4 := Lib.hid e4
  have E5 := Lib.hid e5
  have E6 := Lib.hid e6
  have EU := Lib.hid hU0
  have HN : Hid (1 ≤ x.buy.l.length ∧ x.buy.l.length ≤ 96) := hnb
  have HK0 := Lib.hid hk0
  have hst0 := PX.start x y w
  simp only [PbM.v, PnM.v]
  obtain ⟨W, hW⟩ : ∃ W, W = (w.alloc (.cells #[.slice x.buy.A x.buy.l.length x.buy.c, .slice x.sell.A x.sell.l.length x.sell.c, .int .i64 x.fuse, .slice x.solar.A x.solar.l.length x.solar.c, .slice x.demand.A x.demand.l.length x.demand.c, .slice x.outside.A x.outside.l.length x.outside.c, .int .i64 x.bat.cap, .int .i64 x.bat.reserve, .int .i64 x.bat.charge, .int .i64 x.bat.discharge, .int .i64 x.bat.eff, .int .i64 x.gain, .int .i64 x.loss, .int .i64 x.steps, .int .i64 x.power, .slice x.low.A x.low.l.length x.low.c, .slice x.high.A x.high.l.length x.high.c, .slice x.LA x.loads.length x.lc, .int .i64 x.level, .int .i64 x.temp] 31)).alloc (.cells #[.slice y.charge.A y.charge.l.length y.charge.c, .slice y.heat.A y.heat.l.length y.heat.c, .slice y.start.A y.start.l.length y.start.c] 33) := ⟨_, rfl⟩
  rw [show (w.alloc (.cells x.cs 31)).alloc (.cells y.cs 33) = W from hW.symm] at hst0
  have hst := Lib.hid hst0
  have hWH := Lib.hid hW
  clear hst0 hW hP0 hQ0 hG0 hc hh hhb hgood hld4 hel hnb e4 e5 e6 hU0 hus0 hU1 hU
  go_enter Try.func140, Try.ntmps140
  go_upto_region 1 with fail
  rw [← hWH.out]
  clear hWH
  obtain ⟨c0, -, -, -, -, -, -, -, -, -, -, -, -, -, -, -, -, c17, c18, c19⟩ := hst.out.pc
  obtain ⟨-, -, d2⟩ := hst.out.qc
  go_quiet (fail)
  go_wp2_with fail
  refine (hus.out _ ((hst.out.drewN nq).pr hP.out) ((hst.out.drewN nq).qr hQ.out)).mono ?_
  rintro e w6 ⟨AU, cU, rfl, hRU, hfU, hb6⟩
  have HX6 := Lib.hid ((hst.out.drewN nq).below hb6)
  have HRU6 := Lib.hid hRU
  clear c0 c17 c18 c19 d2 hb6 hfU hRU hst hus
  go_wp2_with fail
  go_loopw [5, 6, 8] (fun s5 s6 s8 wr => ∃ k : Nat, k ≤ y.charge.l.length ∧ s5 = .int .i64 (x.p.lv y.x k) ∧ s6 = .int .i64 (x.p.tm y.x k) ∧ s8 = .int .i64 k ∧ Hid (PX x y w wr) ∧ Hid (RInts wr AU U))
    (fun _ _ s8 _ => y.charge.l.length - (intOf s8).toNat)
  case atStart => exact ⟨0, by omega, rfl, rfl, rfl, HX6.out, HRU6.out⟩
  case round =>
    obtain ⟨k, hk, rfl, rfl, rfl, hRX, hRU⟩ := hrel
    obtain ⟨wo, hwo⟩ : ∃ wo : World, wo = wr := ⟨_, rfl⟩
    subst hwo
    have hk9 := HK0.out
    have hn9 := HN.out
    by_cases hlt : k < y.charge.l.length
    · have hkc : k < y.charge.l.length := hlt
      have hkh : k < y.heat.l.length := by have := E2.out; omega
      have hks : k < x.solar.l.length := by have := E4.out; omega
      have hkd : k < x.demand.l.length := by have := E5.out; omega
      have hko : k < x.outside.l.length := by have := E6.out; omega
      have hku : k < U.length := by have := EU.out; omega
      have hsl := hSL.out k hlt
      obtain ⟨bc, oc, hCe, _, x0⟩ := (hRX.out.qr hQ.out).charge.at' hkc
      obtain ⟨bu, ou, hUe, _, _⟩ := hRU.out.at' hku
      rw [show y.x.charge.getD k 0 = y.charge.l[k] from (getD_eq hkc).symm, show y.x.heat.getD k 0 = y.heat.l[k] from (getD_eq hkh).symm, show x.p.solar.getD k 0 = x.solar.l[k] from (getD_eq hks).symm,
        show x.p.demand.getD k 0 = x.demand.l[k] from (getD_eq hkd).symm, show x.p.outside.getD k 0 = x.outside.l[k] from (getD_eq hko).symm, ← HU.out, ← getD_eq hku] at hsl
      have HSL0 := Lib.hid hsl
      clear hsl
      subst hUe
      have hst0 := fun W => rstep_any x.bat (x.p.lv y.x k) y.charge.l[k] W
      obtain ⟨-, -, -, -, -, -, c6, c7, c8, c9, c10, -, -, -, -, -, -, -, -, -⟩ := hRX.out.pc
      have d0 := hRX.out.q.cell 0
      simp [PnM.cs] at d0
      rw [hCe] at d0
      clear hCe
      generalize y.charge.l[k] = c at *
      generalize x.p.lv y.x k = lv at *
      obtain ⟨st, hst⟩ : ∃ st, st = stepZ x.bat lv c := ⟨_, rfl⟩
      rw [← hst] at hst0
      have HST := Lib.hid hst
      obtain ⟨l1, dr, er⟩ := st
      have hst1 : ∀ W, Calls Try.prog 71 #[.agg #[.int .i64 x.bat.cap, .int .i64 x.bat.reserve, .int .i64 x.bat.charge, .int .i64 x.bat.discharge, .int .i64 x.bat.eff], .int .i64 lv, .int .i64 c] W (fun e w' => e = .returned (.tuple #[.int .i64 l1, .int .i64 dr, .int .i64 er]) ∧ Below W.heap.size W w') := fun W => hst0 W
      have hstep := Lib.hid hst1
      have i1 : (0 : Int) ≤ (k : Int) := by omega
      have i2 : (k : Int) < (y.charge.l.length : Int) := by omega
      have HK : Hid (∀ W, Below wo.heap.size wo W → Below wo.heap.size wo W ∧ W.cell? ⟨w.heap.size, 6, none⟩ = some (.int .i64 x.bat.cap) ∧ W.cell? ⟨w.heap.size, 7, none⟩ = some (.int .i64 x.bat.reserve) ∧ W.cell? ⟨w.heap.size, 8, none⟩ = some (.int .i64 x.bat.charge) ∧ W.cell? ⟨w.heap.size, 9, none⟩ = some (.int .i64 x.bat.discharge) ∧ W.cell? ⟨w.heap.size, 10, none⟩ = some (.int .i64 x.bat.eff) ∧ W.cell? ⟨w.heap.size + 1, 0, none⟩ = some (.slice (some ⟨bc, oc, none⟩) y.charge.l.length y.charge.c) ∧ W.cell? ⟨bc, oc + k, none⟩ = some (.int .i64 c)) := fun W hb => ⟨hb, cell_below c6 hb, cell_below c7 hb, cell_below c8 hb, cell_below c9 hb, cell_below c10 hb, cell_below d0 hb, cell_below x0 hb⟩
      have d0' := d0
      clear hst hst0 hst1 c6 c7 c8 c9 c10 x0
      go_wp2_with fail
      clear d0 d0'
      go_region_held3 (fun w' => Below wo.heap.size wo w' ∧ w'.cell? ⟨w.heap.size, 6, none⟩ = some (.int .i64 x.bat.cap) ∧ w'.cell? ⟨w.heap.size, 7, none⟩ = some (.int .i64 x.bat.reserve) ∧ w'.cell? ⟨w.heap.size, 8, none⟩ = some (.int .i64 x.bat.charge) ∧ w'.cell? ⟨w.heap.size, 9, none⟩ = some (.int .i64 x.bat.discharge) ∧ w'.cell? ⟨w.heap.size, 10, none⟩ = some (.int .i64 x.bat.eff) ∧ w'.cell? ⟨w.heap.size + 1, 0, none⟩ = some (.slice (some ⟨bc, oc, none⟩) y.charge.l.length y.charge.c) ∧ w'.cell? ⟨bc, oc + k, none⟩ = some (.int .i64 c))
        (first | exact HK.out _ (Below.refl _ _) | exact HK.out _ (Below.drew (Below.refl _ _)) | exact HK.out _ (Below.drew (by assumption)) | exact HK.out _ (Below.drew (And.left (by assumption))) | exact HK.out _ (Below.trans (by first | assumption | exact And.left (by assumption) | exact Below.refl _ _ | exact Below.drew (Below.refl _ _) | exact Below.drew (by assumption) | exact Below.drew (And.left (by assumption))) (Below.mono (by assumption) (Below.size (by first | assumption | exact And.left (by assumption) | exact Below.refl _ _ | exact Below.drew (Below.refl _ _) | exact Below.drew (by assumption) | exact Below.drew (And.left (by assumption)))))))
        (first | (go_at_call 71; refine (hstep.out _).mono ?_; rintro e' w7 ⟨rfl, hb7⟩))
      rename_i hHeld
      have hb7' := hHeld.1
      have HX7 := Lib.hid (hRX.out.below hb7')
      have HRU7 := Lib.hid (hRU.out.below hb7')
      clear hb7 hb7' hHeld hstep i2 HK hRX hRU
      have HSL : Hid (Pb.Slot x.p y.x k c _ _ _ _ _ lv (x.p.tm y.x k)) := HSL0
      obtain ⟨bo, oo, hOe, _, o0⟩ := (HX7.out.pr hP.out).outside.at' hko
      obtain ⟨bh, oh, hHe, _, h0⟩ := (HX7.out.qr hQ.out).heat.at' hkh
      obtain ⟨-, -, -, -, -, c5, -, -, -, -, -, c11, c12, c13, c14, c15, c16, -, -, -⟩ := HX7.out.pc
      obtain ⟨-, d1, -⟩ := HX7.out.qc
      rw [hOe] at c5
      rw [hHe] at d1
      clear hOe hHe
      generalize x.outside.l[k] = o at *
      generalize y.heat.l[k] = h at *
      obtain ⟨tz, htz⟩ : ∃ tz, tz = x.room.valid.step (x.p.tm y.x k) o h := ⟨_, rfl⟩
      have HTZ := Lib.hid htz
      have ht1 : ∀ W, RPb W x → Calls Try.prog 72 #[.agg #[.int .i64 x.gain, .int .i64 x.loss, .int .i64 x.steps, .int .i64 x.power, .slice x.low.A x.low.l.length x.low.c, .slice x.high.A x.high.l.length x.high.c], .int .i64 (x.p.tm y.x k), .int .i64 o, .int .i64 h] W (fun e w' => e = .returned (.int .i64 tz) ∧ Below W.heap.size W w') := fun W hp => by
        rw [htz]; exact rtstep_any x.room x.low.A x.high.A x.low.c x.high.c (x.p.tm y.x k) o h W hp.low hp.high
      have HT := Lib.hid ht1
      clear htz ht1
      generalize x.p.tm y.x k = tm at *
      have i3 : (k : Int) < (x.outside.l.length : Int) := by omega
      have i4 : (k : Int) < (y.heat.l.length : Int) := by omega
      have HK : Hid (∀ W, Below w7.heap.size w7 W → Below w7.heap.size w7 W ∧ W.cell? ⟨w.heap.size, 11, none⟩ = some (.int .i64 x.gain) ∧ W.cell? ⟨w.heap.size, 12, none⟩ = some (.int .i64 x.loss) ∧ W.cell? ⟨w.heap.size, 13, none⟩ = some (.int .i64 x.steps) ∧ W.cell? ⟨w.heap.size, 14, none⟩ = some (.int .i64 x.power) ∧ W.cell? ⟨w.heap.size, 15, none⟩ = some (.slice x.low.A x.low.l.length x.low.c) ∧ W.cell? ⟨w.heap.size, 16, none⟩ = some (.slice x.high.A x.high.l.length x.high.c) ∧ W.cell? ⟨w.heap.size, 5, none⟩ = some (.slice (some ⟨bo, oo, none⟩) x.outside.l.length x.outside.c) ∧ W.cell? ⟨w.heap.size + 1, 1, none⟩ = some (.slice (some ⟨bh, oh, none⟩) y.heat.l.length y.heat.c) ∧ W.cell? ⟨bo, oo + k, none⟩ = some (.int .i64 o) ∧ W.cell? ⟨bh, oh + k, none⟩ = some (.int .i64 h)) := fun W hb => ⟨hb, cell_below c11 hb, cell_below c12 hb, cell_below c13 hb, cell_below c14 hb, cell_below c15 hb, cell_below c16 hb, cell_below c5 hb, cell_below d1 hb, cell_below o0 hb, cell_below h0 hb⟩
      clear c5 c11 c12 c13 c14 c15 c16 d1 o0 h0
      go_wp2_with fail
      go_region_held3 (fun w' => Below w7.heap.size w7 w' ∧ w'.cell? ⟨w.heap.size, 11, none⟩ = some (.int .i64 x.gain) ∧ w'.cell? ⟨w.heap.size, 12, none⟩ = some (.int .i64 x.loss) ∧ w'.cell? ⟨w.heap.size, 13, none⟩ = some (.int .i64 x.steps) ∧ w'.cell? ⟨w.heap.size, 14, none⟩ = some (.int .i64 x.power) ∧ w'.cell? ⟨w.heap.size, 15, none⟩ = some (.slice x.low.A x.low.l.length x.low.c) ∧ w'.cell? ⟨w.heap.size, 16, none⟩ = some (.slice x.high.A x.high.l.length x.high.c) ∧ w'.cell? ⟨w.heap.size, 5, none⟩ = some (.slice (some ⟨bo, oo, none⟩) x.outside.l.length x.outside.c) ∧ w'.cell? ⟨w.heap.size + 1, 1, none⟩ = some (.slice (some ⟨bh, oh, none⟩) y.heat.l.length y.heat.c) ∧ w'.cell? ⟨bo, oo + k, none⟩ = some (.int .i64 o) ∧ w'.cell? ⟨bh, oh + k, none⟩ = some (.int .i64 h))
        (first | exact HK.out _ (Below.refl _ _) | exact HK.out _ (Below.drew (Below.refl _ _)) | exact HK.out _ (Below.drew (by assumption)) | exact HK.out _ (Below.drew (And.left (by assumption))) | exact HK.out _ (Below.trans (by first | assumption | exact And.left (by assumption) | exact Below.refl _ _ | exact Below.drew (Below.refl _ _) | exact Below.drew (by assumption) | exact Below.drew (And.left (by assumption))) (Below.mono (by assumption) (Below.size (by first | assumption | exact And.left (by assumption) | exact Below.refl _ _ | exact Below.drew (Below.refl _ _) | exact Below.drew (by assumption) | exact Below.drew (And.left (by assumption)))))))
        (first | (go_at_call 72; refine (HT.out _ ((HX7.out.below (by first | assumption | exact And.left (by assumption) | exact Below.refl _ _ | exact Below.drew (Below.refl _ _) | exact Below.drew (by assumption) | exact Below.drew (And.left (by assumption)))).pr hP.out)).mono ?_; rintro e' w8 ⟨rfl, hb8⟩))
      rename_i hHeld
      obtain ⟨hb8', c11, c12, c13, c14, c15, c16, -, d1, -, h0⟩ := hHeld
      have HX8 := Lib.hid (HX7.out.below hb8')
      have HRU8 := Lib.hid (HRU7.out.below hb8')
      clear hb8 hb8' HK HT i3 HX7 HRU7
      obtain ⟨bd, od, hDe, _, e0⟩ := (HX8.out.pr hP.out).demand.at' hkd
      obtain ⟨bs, os, hSe, _, s0⟩ := (HX8.out.pr hP.out).solar.at' hks
      obtain ⟨bu', ou', hUe, _, u0⟩ := HRU8.out.at' hku
      cases hUe
      obtain ⟨-, -, f2, s3, c4, -, -, -, -, -, -, -, -, -, -, -, -, -, -, -⟩ := HX8.out.pc
      rw [hDe] at c4
      rw [hSe] at s3
      clear f2 hDe hSe
      generalize x.demand.l[k] = dd at *
      generalize x.solar.l[k] = so at *
      generalize U[k] = uu at *
      have hsl2 := HSL.out
      have hd0 := hsl2.d0; have hd1 := hsl2.d1; have hs0 := hsl2.s0; have hs1 := hsl2.s1; have hr0 := hsl2.r0; have hr1 := hsl2.r1; have hm0 := hsl2.m0; have hm1 := hsl2.m1; have hu0 := hsl2.u0; have hu1 := hsl2.u1
      have hnet := hsl2.net
      have hse := hsl2.err
      have HTM : Hid (x.p.tm y.x (k + 1) = tz) := by show _ = _; rw [hsl2.tm', HTZ.out]; rfl
      have HLV : Hid (x.p.lv y.x (k + 1) = l1) := by show _ = _; rw [hsl2.lv', show stepZ x.p.bat lv c = (l1, dr, er) from HST.out.symm]
      rw [show stepZ x.p.bat lv c = (l1, dr, er) from HST.out.symm] at hr0 hr1 hnet hse
      have hm0 : 0 ≤ h * x.power := hm0
      have hm1 : h * x.power ≤ 40000 := hm1
      have hnet : x.p.net y.x k = dd + dr + h * x.power + uu - so := hnet
      simp only [] at hr0 hr1
      have a1 : IntKind.i64.wrap (dd + dr) = dd + dr := IntWalk.i64_in _ (by omega)
      have a2 : IntKind.i64.wrap (h * x.power) = h * x.power := IntWalk.i64_in _ (by omega)
      have a3 : IntKind.i64.wrap (dd + dr + h * x.power) = dd + dr + h * x.power := IntWalk.i64_in _ (by omega)
      have a4 : IntKind.i64.wrap (dd + dr + h * x.power + uu) = dd + dr + h * x.power + uu := IntWalk.i64_in _ (by omega)
      have hfb := Pb.fuse_bd hgd.out
      have hfb : 1 ≤ x.fuse ∧ x.fuse ≤ 1000 := hfb
      have a6 : IntKind.i64.wrap (-x.fuse) = -x.fuse := IntWalk.i64_in _ (by omega)
      have A6 := Lib.hid a6
      have HFB := Lib.hid hfb
      have i3 : (k : Int) < (x.demand.l.length : Int) := by omega
      have i5 : (k : Int) < (x.solar.l.length : Int) := by omega
      have i6 : (k : Int) < (U.length : Int) := by omega
      obtain ⟨nz, hnz⟩ : ∃ nz, nz = dd + dr + h * x.power + uu - so := ⟨_, rfl⟩
      have hNZ : x.p.net y.x k = nz := by rw [hnz]; exact hnet
      have a5 : IntKind.i64.wrap (dd + dr + h * x.power + uu - so) = nz := by rw [hnz]; exact IntWalk.i64_in _ (by omega)
      rw [HTM.out, hNZ] at hse
      have hse : x.p.slotErr y.x k = if er ≠ 0 then er else if (x.room.valid.okAt k tz && wB nz (-x.fuse) x.fuse) = true then 0 else 20 := hse
      have HSE := Lib.hid hse
      clear hsl2 hd0 hd1 hs0 hs1 hr0 hr1 hm0 hm1 hu0 hu1 hnet hfb a6 hnz hse hNZ
      have C16 := Lib.hid (And.intro c11 (And.intro c12 (And.intro c13 (And.intro c14 (And.intro c15 c16)))))
      clear c11 c12 c13 c15 c16
      go_wp2_with fail
      go_quiet (fail)
      clear a1 a2 a3 a4 a5 s3 c4 d1 h0 e0 s0 u0 i3 i4 i5 i6 c14
      have ho1 : ∀ W, RPb W x → Calls Try.prog 73 #[.agg #[.int .i64 x.gain, .int .i64 x.loss, .int .i64 x.steps, .int .i64 x.power, .slice x.low.A x.low.l.length x.low.c, .slice x.high.A x.high.l.length x.high.c], .int .i64 k, .int .i64 tz] W (fun e w' => e = .returned (.bool (x.room.valid.okAt k tz)) ∧ Below W.heap.size W w') := fun W hp =>
        rtok_any x.room x.low.A x.high.A x.low.c x.high.c k tz W hp.low hp.high
      by_cases her : er = 0
      · have hen : (er != 0) = false := by simp [her]
        have HER := Lib.hid her
        clear her
        obtain ⟨c11, c12, c13, c14, c15, c16⟩ := C16.out
        cases hok : x.room.valid.okAt k tz
        all_goals
          rw [hok] at ho1
          have HOK := Lib.hid hok
          have HO := Lib.hid ho1
          clear ho1 hok
          go_wp2_with fail
          refine (HO.out _ ((HX8.out.drewN _).pr hP.out)).mono ?_
          rintro e wa ⟨rfl, hba⟩
          have HXa := Lib.hid ((HX8.out.drewN _).below hba)
          have HRUa := Lib.hid ((HRU8.out.drewN _).below hba)
          clear hba c11 c12 c13 c14 c15 c16
        · go_wp2_with fail
          go_ret
          exact ⟨false, rfl, fun _ => ⟨k, hlt, by rw [HSE.out, HER.out, HOK.out]; simp⟩, HXa.out.bel⟩
        · have f2c := HXa.out.pc.2.2.1
          have a6 := A6.out
          rcases (show (nz < -x.fuse) ∨ (¬ nz < -x.fuse ∧ x.fuse < nz) ∨ (¬ nz < -x.fuse ∧ ¬ x.fuse < nz) by omega) with g1 | ⟨g1, g2⟩ | ⟨g1, g2⟩
          · have HW := Lib.hid (wB_false.2 (.inl g1) : wB nz (-x.fuse) x.fuse = false)
            go_wp2_with fail
            go_ret
            exact ⟨false, rfl, fun _ => ⟨k, hlt, by rw [HSE.out, HER.out, HW.out]; simp⟩, HXa.out.bel⟩
          · have HW := Lib.hid (wB_false.2 (.inr g2) : wB nz (-x.fuse) x.fuse = false)
            go_wp2_with fail
            go_ret
            exact ⟨false, rfl, fun _ => ⟨k, hlt, by rw [HSE.out, HER.out, HW.out]; simp⟩, HXa.out.bel⟩
          · go_wp2_with fail
            go_roundw
            case rel => exact ⟨k + 1, by omega, by rw [HLV.out], by rw [HTM.out], by go_num, HXa.out, HRUa.out⟩
            case measure => simp [intOf]; omega
      · have hen : (er != 0) = true := by simpa using her
        have HER := Lib.hid her
        clear her ho1
        go_wp2_with fail
        go_ret
        exact ⟨false, rfl, fun _ => ⟨k, hlt, by rw [HSE.out, if_pos HER.out]; exact HER.out⟩, (HX8.out.drewN _).bel⟩
    · have j2 : ¬ (k : Int) < (y.charge.l.length : Int) := by omega
      have d0 := hRX.out.q.cell 0
      simp [PnM.cs] at d0
      go_wp2_with fail
      go_ret
      exact ⟨true, rfl, fun h => (by first | cases h | trivial), hRX.out.bel⟩
end Go.Proofs.Ytnppngaabfhkpaa
