/-
  The arguments of the laws of layer 42 (plan) opened: a problem, a plan.
-/
import Derived.Test.YtnppngaabfhkpaaF2Lift
import Derived.Test.YtnppngaabfhkpaaFP17
namespace Go.Proofs.Ytnppngaabfhkpaa
open Go.Joins Go.ChangeShapes Go.WideShapes Go.RowKit Go.Deep

theorem Try.cellsLoadP : Try.prog.cellsOf 70 = 4 := by kernel_rfl
theorem Try.cellsProblem : Try.prog.cellsOf 31 = 20 := by kernel_rfl
theorem Try.cellsPlan : Try.prog.cellsOf 33 = 3 := by kernel_rfl

theorem open_loadsP {H : Type} {enc : TypeId × Value → H} {w : World} {base : Nat} {held : Bool} {n : Nat} {v : Value} {y : DataW H × List MemPlace}
    (h : DataW.trod enc Try.prog w base (fun _ => true) held n 29 [v] = some y) :
    ∃ A c l, v = .slice A l.length c ∧ RLoads w A l ∧ l.length ≤ c ∧ (∀ x ∈ l, x.r.prof.length ≤ maxLen ∧ x.r.name.size ≤ maxLen ∧ -9223372036854775808 ≤ x.r.late ∧ x.r.late ≤ 9223372036854775807) := by
  rcases open_slice_fields Try.underlying29 Try.underlying70 (by kernel_rfl) Try.cellsLoadP h with ⟨hcs, _⟩ | ⟨a, len, cap, m, D, Pl, hcs, _, hl, hm, hmm, _, hf⟩
  · simp at hcs
    exact ⟨none, 0, [], hcs, ⟨⟨by simp [ldCells], fun h => absurd h (by simp)⟩, by simp⟩, by simp, by simp⟩
  · simp at hcs
    simp only [if_true] at hmm
    subst hmm
    have hx : ∀ i, i < len → ∃ x : LdM, (∀ j, j < 4 → w.cell? (a.add (i * 4 + j)) = x.cells[j]?) ∧ RInts w x.A x.r.prof ∧ (x.r.prof.length ≤ maxLen ∧ x.r.name.size ≤ maxLen ∧ -9223372036854775808 ≤ x.r.late ∧ x.r.late ≤ 9223372036854775807) := by
      intro i hi
      obtain ⟨ys, n', _, _, _, hj⟩ := hf i (by omega)
      obtain ⟨v0, y0, c0, _, t0⟩ := hj 0 _ rfl
      obtain ⟨v1, y1, c1, _, t1⟩ := hj 1 _ rfl
      obtain ⟨v2, y2, c2, _, t2⟩ := hj 2 _ rfl
      obtain ⟨v3, y3, c3, _, t3⟩ := hj 3 _ rfl
      obtain ⟨x0, rfl, hs⟩ := open_str1 t0
      obtain ⟨A, c, xs, rfl, hA, hmx, _⟩ := open_rints1 t1
      obtain ⟨x2, rfl, _⟩ := open_int1 t2
      obtain ⟨x3, rfl, w3⟩ := open_int1 t3
      refine ⟨⟨⟨x0, xs, x2, x3⟩, A, c⟩, fun j hj4 => ?_, hA, hmx, hs, (int_bd w3).1, (int_bd w3).2⟩
      match j, hj4 with
      | 0, _ => exact c0
      | 1, _ => exact c1
      | 2, _ => exact c2
      | 3, _ => exact c3
    obtain ⟨l, hlen, hl2⟩ := list_of hx
    subst hlen
    refine ⟨some a, m, l, hcs, ⟨⟨by rw [ldCells_length], fun hn => ⟨a, rfl, ?_, fun j u hu => ?_⟩⟩, fun x hx => ?_⟩, hl, fun x hx => ?_⟩
    · have := (hl2 0 hn).1 0 (by omega)
      have h1 := World.block_lt_of_cell? _ _ (this.trans (show _ = some (.string (l[0]'hn).r.name) from rfl))
      rwa [block_of_add] at h1
    · have hjl : j < (ldCells l).length := by
        rcases Nat.lt_or_ge j (ldCells l).length with h | h
        · exact h
        · rw [List.getElem?_eq_none h] at hu; cases hu
      rw [ldCells_length] at hjl
      have e : j = j / 4 * 4 + j % 4 := by omega
      have h1 := (hl2 (j / 4) (by omega)).1 (j % 4) (Nat.mod_lt _ (by omega))
      rw [← ldCells_get (by omega) (Nat.mod_lt _ (by omega)), ← e, hu] at h1
      exact h1
    · obtain ⟨i, hi, rfl⟩ := List.mem_iff_getElem.1 hx
      exact (hl2 i hi).2.1
    · obtain ⟨i, hi, rfl⟩ := List.mem_iff_getElem.1 hx
      exact (hl2 i hi).2.2
/-- As open_rints1, with the capacity. -/
theorem open_rintsD {H : Type} {enc : TypeId × Value → H} {w : World} {base : Nat} {held : Bool} {n : Nat} {v : Value} {y : DataW H × List MemPlace}
    (h : DataW.trod enc Try.prog w base (fun _ => true) held n 22 [v] = some y) :
    ∃ x : IntsM, v = .slice x.A x.l.length x.c ∧ RInts w x.A x.l ∧ x.l.length ≤ x.c ∧ x.l.length ≤ maxLen ∧ ∀ s ∈ x.l, -9223372036854775808 ≤ s ∧ s ≤ 9223372036854775807 := by
  have hcap : ∀ a len cap, v = .slice a len cap → len ≤ cap := by
    intro a len cap e
    subst e
    rcases open_ints Try.underlying22 Try.underlying3 Try.cellsInt h with ⟨hcs, _⟩ | ⟨a', len', cap', zs, hcs, _, hl, hm, _⟩
    · simp at hcs
      simp [hcs]
    · simp at hcs
      omega
  obtain ⟨A, c, xs, rfl, hr, hm, hw⟩ := open_rints1 h
  exact ⟨⟨A, c, xs⟩, rfl, hr, hcap _ _ _ rfl, hm, fun s hs => int_bd (hw s hs)⟩
set_option maxRecDepth 100000 in
set_option maxHeartbeats 4000000 in
theorem open_problem {H : Type} {enc : TypeId × Value → H} {w : World} {base : Nat} {held : Bool} {r : Reach} {b0 : Nat} {v : Value} {d : DataW H} {p : List MemPlace}
    (hv : Value.okWide Try.prog w r b0 31 v) (h : DataW.Trod enc Try.prog w base (fun _ => true) held 31 v d p) :
    ∃ x : PbM, v = x.v ∧ RPb w x ∧ (∀ y ∈ x.loads, y.r.prof.length ≤ maxLen ∧ y.r.name.size ≤ maxLen ∧ -9223372036854775808 ≤ y.r.late ∧ y.r.late ≤ 9223372036854775807) ∧ x.loads.length ≤ x.lc ∧ x.buy.l.length ≤ maxLen := by
  obtain ⟨cs, rfl, hsz⟩ := okWide_struct Try.underlying31 hv
  rw [Try.cellsProblem] at hsz
  obtain ⟨l⟩ := cs
  match l, hsz with
  | [c0, c1, c2, c3, c4, c5, c6, c7, c8, c9, c10, c11, c12, c13, c14, c15, c16, c17, c18, c19], _ =>
    obtain ⟨fuel, hf⟩ := h
    obtain ⟨xs, n, _, _, _, hl, hel⟩ := DataW.trod_struct Try.underlying31 hf
    match xs, hl with
    | [y0, y1, y2, y3, y4, y5, y6, y7, y8], _ =>
      have t0 : DataW.trod enc Try.prog w base (fun _ => true) held n 24 [c0, c1, c2] = some y0 := hel 0 _ rfl
      have t1 := hel 1 _ rfl
      have t2 := hel 2 _ rfl
      have t3 := hel 3 _ rfl
      have t4 : DataW.trod enc Try.prog w base (fun _ => true) held n 26 [c6, c7, c8, c9, c10] = some y4 := hel 4 _ rfl
      have t5 : DataW.trod enc Try.prog w base (fun _ => true) held n 28 [c11, c12, c13, c14, c15, c16] = some y5 := hel 5 _ rfl
      have t6 := hel 6 _ rfl
      have t7 := hel 7 _ rfl
      have t8 := hel 8 _ rfl
      obtain ⟨zs, n0, _, _, _, hla, hea⟩ := DataW.trod_struct Try.underlying24 t0
      obtain ⟨bs, n1, _, _, _, hlb, heb⟩ := DataW.trod_struct Try.underlying26 t4
      obtain ⟨rs, n2, _, _, _, hlr, her⟩ := DataW.trod_struct Try.underlying28 t5
      match zs, hla with
      | [a0, a1, a2], _ =>
        match bs, hlb with
        | [e0, e1, e2, e3, e4], _ =>
          match rs, hlr with
          | [r0, r1, r2, r3, r4, r5], _ =>
            have u0 := hea 0 _ rfl
            have u1 := hea 1 _ rfl
            have u2 := hea 2 _ rfl
            have v0 := heb 0 _ rfl
            have v1 := heb 1 _ rfl
            have v2 := heb 2 _ rfl
            have v3 := heb 3 _ rfl
            have v4 := heb 4 _ rfl
            have w0 := her 0 _ rfl
            have w1 := her 1 _ rfl
            have w2 := her 2 _ rfl
            have w3 := her 3 _ rfl
            have w4 := her 4 _ rfl
            have w5 := her 5 _ rfl
            obtain ⟨mb, rfl, hb1, _, hb3, _⟩ := open_rintsD u0
            obtain ⟨ms, rfl, hs1, _⟩ := open_rintsD u1
            obtain ⟨fu, rfl, _⟩ := open_int1 u2
            obtain ⟨so, rfl, ho1, _⟩ := open_rintsD t1
            obtain ⟨de, rfl, hd1, _⟩ := open_rintsD t2
            obtain ⟨ou, rfl, hu1, _⟩ := open_rintsD t3
            obtain ⟨g0, rfl, _⟩ := open_int1 v0
            obtain ⟨g1, rfl, _⟩ := open_int1 v1
            obtain ⟨g2, rfl, _⟩ := open_int1 v2
            obtain ⟨g3, rfl, _⟩ := open_int1 v3
            obtain ⟨g4, rfl, _⟩ := open_int1 v4
            obtain ⟨k0, rfl, _⟩ := open_int1 w0
            obtain ⟨k1, rfl, _⟩ := open_int1 w1
            obtain ⟨k2, rfl, _⟩ := open_int1 w2
            obtain ⟨k3, rfl, _⟩ := open_int1 w3
            obtain ⟨lo, rfl, hlo, _⟩ := open_rintsD w4
            obtain ⟨hi, rfl, hhi, _⟩ := open_rintsD w5
            obtain ⟨LA, lc, ll, rfl, hll, hlc, hlw⟩ := open_loadsP t6
            obtain ⟨lv, rfl, _⟩ := open_int1 t7
            obtain ⟨tm, rfl, _⟩ := open_int1 t8
            exact ⟨⟨mb, ms, fu, so, de, ou, ⟨g0, g1, g2, g3, g4⟩, k0, k1, k2, k3, lo, hi, LA, lc, ll, lv, tm⟩, rfl, ⟨hb1, hs1, ho1, hd1, hu1, hlo, hhi, hll⟩, hlw, hlc, hb3⟩
set_option maxRecDepth 100000 in
theorem open_plan {H : Type} {enc : TypeId × Value → H} {w : World} {base : Nat} {held : Bool} {r : Reach} {b0 : Nat} {v : Value} {d : DataW H} {p : List MemPlace}
    (hv : Value.okWide Try.prog w r b0 33 v) (h : DataW.Trod enc Try.prog w base (fun _ => true) held 33 v d p) :
    ∃ y : PnM, v = y.v ∧ RPn w y ∧ y.Fit ∧ y.heat.l.length ≤ y.heat.c := by
  obtain ⟨cs, rfl, hsz⟩ := okWide_struct Try.underlying33 hv
  rw [Try.cellsPlan] at hsz
  obtain ⟨l⟩ := cs
  match l, hsz with
  | [c0, c1, c2], _ =>
    obtain ⟨fuel, hf⟩ := h
    obtain ⟨xs, n, _, _, _, hl, hel⟩ := DataW.trod_struct Try.underlying33 hf
    match xs, hl with
    | [y0, y1, y2], _ =>
      have t0 := hel 0 _ rfl
      have t1 := hel 1 _ rfl
      have t2 := hel 2 _ rfl
      obtain ⟨ch, rfl, h1, h2, _, h3⟩ := open_rintsD t0
      obtain ⟨he, rfl, h4, h5, _⟩ := open_rintsD t1
      obtain ⟨st, rfl, h6, h7, _, h8⟩ := open_rintsD t2
      exact ⟨⟨ch, he, st⟩, rfl, ⟨h1, h4, h6⟩, ⟨h2, h7, h8, h3⟩, h5⟩
end Go.Proofs.Ytnppngaabfhkpaa
