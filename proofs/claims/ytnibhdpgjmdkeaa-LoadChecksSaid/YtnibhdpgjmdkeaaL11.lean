/-
  Words on lists of loads in memory (layer 41).
-/
import Derived.Test.YtnibhdpgjmdkeaaL10
namespace Go.Proofs.Ytnibhdpgjmdkeaa
open Go.RowKit

/-- A load as it lies in memory: what it is, where its profile lies, the profile's capacity. -/
structure LdM where
  r : Ld
  A : Option Addr
  c : Nat
def LdM.cells (x : LdM) : List Value := [.string x.r.name, .slice x.A x.r.prof.length x.c, .int .i64 x.r.early, .int .i64 x.r.late]
def ldCells (l : List LdM) : List Value := l.flatMap LdM.cells
theorem LdM.cells_length (x : LdM) : x.cells.length = 4 := rfl
theorem ldCells_length (l : List LdM) : (ldCells l).length = l.length * 4 := by
  induction l with
  | nil => rfl
  | cons x l ih => simp only [ldCells, List.flatMap_cons, List.length_append, LdM.cells_length, List.length_cons] at ih ⊢; omega
theorem ldCells_get {l : List LdM} {k j : Nat} (hk : k < l.length) (hj : j < 4) : (ldCells l)[k * 4 + j]? = l[k].cells[j]? := by
  induction l generalizing k with
  | nil => simp at hk
  | cons x l ih =>
    cases k with
    | zero =>
      simp only [ldCells, List.flatMap_cons, List.getElem_cons_zero]
      rw [List.getElem?_append_left (by rw [LdM.cells_length]; omega)]
      congr 1; omega
    | succ k =>
      simp only [ldCells, List.flatMap_cons, List.getElem_cons_succ]
      rw [List.getElem?_append_right (by rw [LdM.cells_length]; omega), LdM.cells_length, show (k + 1) * 4 + j - 4 = k * 4 + j by omega]
      exact ih (by simpa using hk)
theorem ldCells_append (l m : List LdM) : ldCells (l ++ m) = ldCells l ++ ldCells m := by simp [ldCells]
theorem ldCells_one (l : List LdM) : ∀ u ∈ ldCells l, u.oneCell' = true := by
  intro u hu
  simp only [ldCells, List.mem_flatMap, LdM.cells, List.mem_cons, List.not_mem_nil, or_false] at hu
  obtain ⟨x, _, rfl | rfl | rfl | rfl⟩ := hu <;> rfl

/-- A slice value that reads as a list of loads. -/
structure RLoads (w : World) (A : Option Addr) (l : List LdM) : Prop where
  cells : Reads w w.heap.size 4 A l.length (ldCells l)
  profs : ∀ x ∈ l, RInts w x.A x.r.prof
section
variable {w w' : World} {A : Option Addr} {l : List LdM}
theorem RLoads.below (h : RLoads w A l) (hb : Below w.heap.size w w') : RLoads w' A l := ⟨(Reads.below h.cells hb).more hb.size, fun x hx => (h.profs x hx).below hb⟩
theorem RLoads.alloc (h : RLoads w A l) (o : Obj) : RLoads (w.alloc o) A l := ⟨(Reads.alloc h.cells (Nat.le_refl _) o).more (by simp), fun x hx => (h.profs x hx).alloc o⟩
theorem RLoads.drewN (h : RLoads w A l) (n : Nat) : RLoads (w.drewN n) A l := ⟨h.cells.drewN n, fun x hx => (h.profs x hx).drewN n⟩
theorem RLoads.prof {k : Nat} (h : RLoads w A l) (hk : k < l.length) : RInts w l[k].A l[k].r.prof := h.profs _ (List.getElem_mem hk)
theorem RLoads.at' {k : Nat} (h : RLoads w A l) (hk : k < l.length) : ∃ b o, A = some ⟨b, o, none⟩ ∧ b < w.heap.size ∧ w.cell? ⟨b, o + k * 4, none⟩ = some (.string l[k].r.name) ∧
    w.cell? ⟨b, o + k * 4 + 1, none⟩ = some (.slice l[k].A l[k].r.prof.length l[k].c) ∧ w.cell? ⟨b, o + k * 4 + 2, none⟩ = some (.int .i64 l[k].r.early) ∧ w.cell? ⟨b, o + k * 4 + 3, none⟩ = some (.int .i64 l[k].r.late) := by
  obtain ⟨ad, e, hb, hc⟩ := h.cells.2 (by omega)
  have hc0 := hc 0 (.string (l[0]'(by omega)).r.name) (ldCells_get (k := 0) (j := 0) (by omega) (by omega))
  obtain ⟨b, o, sp⟩ := ad
  have hsp : sp = none := by
    cases sp with
    | none => rfl
    | some x =>
      simp only [Addr.add, if_pos, World.cell?] at hc0
      split at hc0 <;> simp at hc0
  subst hsp
  have hg : ∀ j u, j < 4 → l[k].cells[j]? = some u → w.cell? ⟨b, o + k * 4 + j, none⟩ = some u := by
    intro j u hj hu
    have := hc (k * 4 + j) u ((ldCells_get hk hj).trans hu)
    rw [addr_add] at this
    rwa [Nat.add_assoc]
  exact ⟨b, o, e, hb, hg 0 _ (by omega) rfl, hg 1 _ (by omega) rfl, hg 2 _ (by omega) rfl, hg 3 _ (by omega) rfl⟩
end

/-- Are loads few and short enough? -/
def fewM (l : List LdM) : Bool := decide (l.length ≤ 8) && l.all fun x => decide (x.r.name.size ≤ 100) && decide (x.r.prof.length ≤ 60)
theorem fewM_true {l : List LdM} (h : fewM l = true) : l.length ≤ 8 ∧ ∀ x ∈ l, x.r.name.size ≤ 100 ∧ x.r.prof.length ≤ 60 := by
  simpa [fewM, List.all_eq_true] using h
theorem fewM_long {l : List LdM} (h : 8 < l.length) : fewM l = false := by unfold fewM; rw [decide_eq_false (by omega)]; rfl
theorem fewM_bad {l : List LdM} {k : Nat} (hk : k < l.length) (h : 100 < l[k].r.name.size ∨ 60 < l[k].r.prof.length) : fewM l = false := by
  rw [← Bool.not_eq_true]
  intro hh
  have := (fewM_true hh).2 _ (List.getElem_mem hk)
  omega
def fewTo (l : List LdM) (k : Nat) : Prop := ∀ x ∈ l.take k, x.r.name.size ≤ 100 ∧ x.r.prof.length ≤ 60
theorem fewTo_succ {l : List LdM} {k : Nat} (hk : k < l.length) (h : fewTo l k) (h1 : l[k].r.name.size ≤ 100) (h2 : l[k].r.prof.length ≤ 60) : fewTo l (k + 1) := by
  unfold fewTo at *
  intro x hx
  rw [List.take_succ_eq_append_getElem hk, List.mem_append] at hx
  rcases hx with hx | hx
  · exact h x hx
  · rw [List.mem_singleton] at hx; subst hx; exact ⟨h1, h2⟩
theorem fewTo_all {l : List LdM} (h : fewTo l l.length) (h8 : l.length ≤ 8) : fewM l = true := by
  unfold fewTo at h
  rw [List.take_of_length_le (by omega)] at h
  simpa [fewM, List.all_eq_true, h8] using h

set_option maxHeartbeats 2000000 in
theorem few_any (A : Option Addr) (c : Nat) (l : List LdM) (w : World) (hA0 : RLoads w A l) (hp : ∀ x ∈ l, x.r.prof.length ≤ maxLen) :
    Calls Try.prog 9 #[.slice A l.length c] w fun e w' => e = .returned (.bool (fewM l)) ∧ w = w' := by
  have hA := Lib.hid hA0
  clear hA0
  obtain ⟨n, hn⟩ : ∃ n, n = l.length := ⟨_, rfl⟩
  have HN := Lib.hid hn
  rw [← hn]
  by_cases h8 : (8 : Int) < (n : Int)
  · have hz : Hid (fewM l = false) := fewM_long (by omega)
    clear hn
    go_enter Try.func9, Try.ntmps9
    go_wp2_with fail
    go_ret
    exact ⟨ret_bool hz.out.symm, rfl⟩
  · clear hn
    go_enter Try.func9, Try.ntmps9
    go_wp2_with fail
    go_loopw [3] (fun i' wr => ∃ k : Nat, k ≤ n ∧ i' = .int .i64 k ∧ Hid (fewTo l k) ∧ w = wr)
      (fun i' _ => n - (intOf i').toNat)
    case atStart => exact ⟨0, by omega, rfl, by show fewTo l 0; simp [fewTo], rfl⟩
    case round =>
      obtain ⟨k, hkm, rfl, hto, rfl⟩ := hrel
      by_cases hlt : k < n
      · have hkl : k < l.length := by rw [← HN.out]; exact hlt
        obtain ⟨b, of, hAe, hb, z0, z1, z2, z3⟩ := hA.out.at' hkl
        subst hAe
        have hpl := hp _ (List.getElem_mem hkl)
        have hs := Lib.hid (fewTo_succ hkl hto.out)
        have hbad := Lib.hid (fewM_bad hkl)
        generalize l[k].r.name = nm at *
        generalize l[k].r.prof.length = m at *
        by_cases h1 : (100 : Int) < (nm.size : Int)
        · have hz : Hid (fewM l = false) := hbad.out (.inl (by omega))
          go_wp2_with fail
          go_ret
          exact ⟨ret_bool hz.out.symm, rfl⟩
        · by_cases h2 : (60 : Int) < (m : Int)
          · have hz : Hid (fewM l = false) := hbad.out (.inr (by omega))
            go_wp2_with fail
            go_ret
            exact ⟨ret_bool hz.out.symm, rfl⟩
          · have hto' : Hid (fewTo l (k + 1)) := hs.out (by omega) (by omega)
            go_wp2_with fail
            go_roundw
            case rel => exact ⟨k + 1, by omega, by go_num, hto', trivial⟩
            case measure => simp [intOf]; omega
      · have hz : Hid (fewM l = true) := by
          refine fewTo_all ?_ (by rw [← HN.out]; omega)
          rw [← HN.out, show n = k by omega]; exact hto.out
        go_wp2_with fail
        go_ret
        exact ⟨ret_bool hz.out.symm, rfl⟩
end Go.Proofs.Ytnibhdpgjmdkeaa
