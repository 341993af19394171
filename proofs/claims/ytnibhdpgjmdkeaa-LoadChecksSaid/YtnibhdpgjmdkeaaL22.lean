/-
  Pieces of the laws of layer 41 (load) on one load that lies in a variable.
-/
import Derived.Test.YtnibhdpgjmdkeaaL21
namespace Go.Proofs.Ytnibhdpgjmdkeaa
open Go.RowKit

/-- A load that lies in the first new block; its name and profile are short. -/
structure LdX (r : Ld) (A : Option Addr) (c : Nat) (w W : World) : Prop where
  s : LdS r A c w W
  p : RInts w A r.prof
  n1 : r.name.size ≤ 100
  l1 : r.prof.length ≤ 60
section
variable {r : Ld} {A : Option Addr} {c : Nat} {w W W' : World}
theorem LdX.prof (h : LdX r A c w W) : RInts W A r.prof := h.p.below h.s.out
theorem LdX.cells (h : LdX r A c w W) : W.cell? ⟨w.heap.size, 0, none⟩ = some (.string r.name) ∧ W.cell? ⟨w.heap.size, 1, none⟩ = some (.slice A r.prof.length c) ∧ W.cell? ⟨w.heap.size, 2, none⟩ = some (.int .i64 r.early) ∧ W.cell? ⟨w.heap.size, 3, none⟩ = some (.int .i64 r.late) := h.s.cells
theorem LdX.mk' (h : LdX r A c w W) (hb : Below W.heap.size W W') : LdX r A c w W' := ⟨h.s.mk' hb, h.p, h.n1, h.l1⟩
theorem LdX.out (h : LdX r A c w W) : Below w.heap.size w W := h.s.out
theorem LdX.name (h : LdX r A c w W) : r.name.size ≤ maxLen := by have := h.n1; unfold maxLen; omega
theorem LdX.len (h : LdX r A c w W) : r.prof.length < 1000000000 := by have := h.l1; omega
theorem LdX.keep (h : LdX r A c w W) (hb : Below W.heap.size W W') : Below W.heap.size W W' ∧ W'.cell? ⟨w.heap.size, 0, none⟩ = some (.string r.name) ∧ W'.cell? ⟨w.heap.size, 1, none⟩ = some (.slice A r.prof.length c) ∧ W'.cell? ⟨w.heap.size, 2, none⟩ = some (.int .i64 r.early) ∧ W'.cell? ⟨w.heap.size, 3, none⟩ = some (.int .i64 r.late) := ⟨hb, (h.mk' hb).cells⟩
theorem LdX.first (p : RInts w A r.prof) (n1 : r.name.size ≤ 100) (l1 : r.prof.length ≤ 60) : LdX r A c w (w.alloc (.cells #[.string r.name, .slice A r.prof.length c, .int .i64 r.early, .int .i64 r.late] 24)) := ⟨by have h := Below.refl (w.heap.size + 1) (ldW r A c w); exact h, p, n1, l1⟩
theorem LdX.cCheck (h : LdX r A c w W) (n : Int) : Calls Try.prog 27 #[.agg #[.string r.name, .slice A r.prof.length c, .int .i64 r.early, .int .i64 r.late], .int .i64 n] W (fun e w' => e = .returned (.int .i64 (r.chk n)) ∧ Below W.heap.size W w') := lcheck_any r A c n W h.prof h.name h.len
theorem LdX.cRCheck (h : LdX r A c w W) (n : Int) : Calls Try.prog 28 #[.agg #[.string r.name, .slice A r.prof.length c, .int .i64 r.early, .int .i64 r.late], .int .i64 n] W (fun e w' => e = .returned (.int .i64 (r.chk n)) ∧ Below W.heap.size W w') := rlcheck_any r A c n W h.prof h.name
theorem LdX.cStarts (h : LdX r A c w W) (n : Int) : Calls Try.prog 12 #[.agg #[.string r.name, .slice A r.prof.length c, .int .i64 r.early, .int .i64 r.late], .int .i64 n] W (IntsOut (r.starts n) W) := lstarts_any r A c n W h.prof h.name h.len
theorem LdX.cRStarts (h : LdX r A c w W) (n : Int) : Calls Try.prog 13 #[.agg #[.string r.name, .slice A r.prof.length c, .int .i64 r.early, .int .i64 r.late], .int .i64 n] W (IntsOut (r.starts n) W) := rlstarts_any r A c n W h.prof h.name
theorem LdX.cFit (h : LdX r A c w W) (s n : Int) : Calls Try.prog 14 #[.agg #[.string r.name, .slice A r.prof.length c, .int .i64 r.early, .int .i64 r.late], .int .i64 s, .int .i64 n] W (fun e w' => e = .returned (.bool (r.fit s n)) ∧ Below W.heap.size W w') := lfit_any r A c s n W h.prof h.name h.len
theorem LdX.cRFit (h : LdX r A c w W) (s n : Int) : Calls Try.prog 15 #[.agg #[.string r.name, .slice A r.prof.length c, .int .i64 r.early, .int .i64 r.late], .int .i64 s, .int .i64 n] W (fun e w' => e = .returned (.bool (r.fit s n)) ∧ Below W.heap.size W w') := rlfit_any r A c s n W h.prof h.name
theorem LdX.cLast (_h : LdX r A c w W) : Calls Try.prog 16 #[.agg #[.string r.name, .slice A r.prof.length c, .int .i64 r.early, .int .i64 r.late]] W (fun e w' => e = .returned (.int .i64 r.last) ∧ Below W.heap.size W w') := llast_any r A c W
theorem LdX.cRLast (_h : LdX r A c w W) : Calls Try.prog 17 #[.agg #[.string r.name, .slice A r.prof.length c, .int .i64 r.early, .int .i64 r.late]] W (fun e w' => e = .returned (.int .i64 r.last) ∧ Below W.heap.size W w') := rllast_any r A c W
theorem LdX.cUse (h : LdX r A c w W) (s i : Int) (s0 : -9223372036854775808 ≤ s) (s1 : s ≤ 9223372036854775807) (i0 : -9223372036854775808 ≤ i) (i1 : i ≤ 9223372036854775807) : Calls Try.prog 18 #[.agg #[.string r.name, .slice A r.prof.length c, .int .i64 r.early, .int .i64 r.late], .int .i64 s, .int .i64 i] W (fun e w' => e = .returned (.int .i64 (r.use s i)) ∧ Below W.heap.size W w') := luse_any r A c s i W h.prof h.len s0 s1 i0 i1
theorem LdX.cEnergy (h : LdX r A c w W) : Calls Try.prog 20 #[.agg #[.string r.name, .slice A r.prof.length c, .int .i64 r.early, .int .i64 r.late]] W (fun e w' => e = .returned (.int .i64 r.energy) ∧ Below W.heap.size W w') := lenergy_any r A c W h.prof h.len
theorem LdX.cShift (h : LdX r A c w W) (k : Int) : Calls Try.prog 24 #[.agg #[.string r.name, .slice A r.prof.length c, .int .i64 r.early, .int .i64 r.late], .int .i64 k] W (LdOut (r.shift k) (r.canShift k) W) := lshift_any r A c k W h.prof h.name h.len
theorem LdX.cRShift (h : LdX r A c w W) (k : Int) : Calls Try.prog 25 #[.agg #[.string r.name, .slice A r.prof.length c, .int .i64 r.early, .int .i64 r.late], .int .i64 k] W (LdOut (r.shift k) (r.canShift k) W) := rlshift_any r A c k W h.prof h.name h.len
end
/-- few of one load. -/
def Ld.few1 (r : Ld) : Bool := decide (r.name.size ≤ 100) && decide (r.prof.length ≤ 60)
theorem few1_any {r : Ld} {A : Option Addr} {c : Nat} {w W : World} (p : RInts w A r.prof) (hm : r.prof.length ≤ maxLen) (hW : W = w.alloc (.cells #[.string r.name, .slice A r.prof.length c, .int .i64 r.early, .int .i64 r.late] 24)) :
    Calls Try.prog 9 #[.slice (some ⟨W.heap.size, 0, none⟩) 1 1] (W.alloc (.cells #[.string r.name, .slice A r.prof.length c, .int .i64 r.early, .int .i64 r.late] 24)) (fun e w' => e = .returned (.bool r.few1) ∧ W.alloc (.cells #[.string r.name, .slice A r.prof.length c, .int .i64 r.early, .int .i64 r.late] 24) = w') := by
  subst hW
  have hl := rloads_lit (W := w.alloc (.cells #[.string r.name, .slice A r.prof.length c, .int .i64 r.early, .int .i64 r.late] 24)) #[.string r.name, .slice A r.prof.length c, .int .i64 r.early, .int .i64 r.late] 24 (l := [⟨r, A, c⟩]) (by intro x hx; simp at hx; subst hx; exact p.alloc _) rfl
  have h := few_any _ 1 _ _ hl (by intro x hx; simp at hx; subst hx; exact hm)
  have e : fewM [⟨r, A, c⟩] = r.few1 := by simp [fewM, Ld.few1]
  rw [e] at h
  exact h
theorem Ld.few1_true {r : Ld} (h : r.few1 = true) : r.name.size ≤ 100 ∧ r.prof.length ≤ 60 := by simpa [Ld.few1] using h
end Go.Proofs.Ytnibhdpgjmdkeaa
