/-
  Words on lists of lists in memory; the walk of add (layer 41).
-/
import Derived.Test.YtnibhdpgjmdkeaaL13
import Derived.Test.YtnibhdpgjmdkeaaLP6
namespace Go.Proofs.Ytnibhdpgjmdkeaa
open Go.RowKit

theorem rowInts {w : World} {g n : Nat} {t : TypeId} {f : Nat → Int} (h : w.rowIs g t n (fun j => .int .i64 (f j))) : RInts w (some ⟨g, 0, none⟩) ((List.range n).map f) := by
  refine ⟨by rw [ints_length, Nat.mul_one], fun _ => ⟨_, rfl, h.lt, fun j u hu => ?_⟩⟩
  obtain ⟨x, hx, rfl⟩ := ints_get hu
  rw [addr_add, Nat.zero_add]
  simp only [List.getElem?_map, Option.map_eq_some_iff] at hx
  obtain ⟨i, hi, rfl⟩ := hx
  obtain ⟨h1, h2⟩ := List.getElem?_eq_some_iff.1 hi
  rw [List.getElem_range] at h2
  rw [List.length_range] at h1
  subst h2
  exact h.cell h1
theorem rowOut {w0 w : World} {g n : Nat} {t : TypeId} {f : Nat → Int} (h : w.rowIs g t n (fun j => .int .i64 (f j))) (hg : w0.heap.size ≤ g) (hB : Below w0.heap.size w0 w) : IntsOut ((List.range n).map f) w0 (.returned (.slice (some ⟨g, 0, none⟩) n n)) w :=
  ⟨some ⟨g, 0, none⟩, n, by simp, rowInts h, fun ad e => by injection e with e; subst e; exact hg, hB⟩

/-- A list of numbers as it lies in memory. -/
structure IntsM where
  A : Option Addr
  c : Nat
  l : List Int
def IntsM.v (x : IntsM) : Value := .slice x.A x.l.length x.c
def rowCells (l : List IntsM) : List Value := l.map IntsM.v
theorem rowCells_length (l : List IntsM) : (rowCells l).length = l.length := by simp [rowCells]
/-- A slice value that reads as a list of lists of numbers. -/
structure RRows (w : World) (A : Option Addr) (l : List IntsM) : Prop where
  cells : Reads w w.heap.size 1 A l.length (rowCells l)
  rows : ∀ x ∈ l, RInts w x.A x.l
section
variable {w w' : World} {A : Option Addr} {l : List IntsM}
theorem RRows.below (h : RRows w A l) (hb : Below w.heap.size w w') : RRows w' A l := ⟨(Reads.below h.cells hb).more hb.size, fun x hx => (h.rows x hx).below hb⟩
theorem RRows.row {k : Nat} (h : RRows w A l) (hk : k < l.length) : RInts w l[k].A l[k].l := h.rows _ (List.getElem_mem hk)
theorem RRows.at' {k : Nat} (h : RRows w A l) (hk : k < l.length) : ∃ b o, A = some ⟨b, o, none⟩ ∧ b < w.heap.size ∧ w.cell? ⟨b, o + k, none⟩ = some (.slice l[k].A l[k].l.length l[k].c) := by
  obtain ⟨ad, e, hb, hc⟩ := h.cells.2 (by omega)
  have hc0 := hc 0 (l[0]'(by omega)).v (by rw [rowCells, List.getElem?_map, List.getElem?_eq_getElem (by omega)]; rfl)
  obtain ⟨b, o, sp⟩ := ad
  have hsp : sp = none := by
    cases sp with
    | none => rfl
    | some x =>
      simp only [Addr.add, if_pos, World.cell?] at hc0
      split at hc0 <;> simp [IntsM.v] at hc0
  subst hsp
  have := hc k l[k].v (by simp [rowCells, hk])
  rw [addr_add] at this
  exact ⟨b, o, e, hb, this⟩
end

set_option maxHeartbeats 4000000 in
theorem add_any (N : Nat) (A : Option Addr) (c : Nat) (l : List IntsM) (w : World) (hA0 : RRows w A l) (hN : N ≤ 1000000) (hlen0 : ∀ x ∈ l, x.l.length = N) (hbd0 : ∀ x ∈ l.map IntsM.l, ∀ v ∈ x, 0 ≤ v ∧ v ≤ 1000) (hm : l.length ≤ 1000000) :
    Calls Try.prog 33 #[.int .i64 (N : Int), .slice A l.length c] w (IntsOut (addL (l.map IntsM.l) N) w) := by
  have hA := Lib.hid hA0
  have hlen := Lib.hid hlen0
  have hbd := Lib.hid hbd0
  clear hA0 hlen0 hbd0
  obtain ⟨m, hn⟩ : ∃ m, m = l.length := ⟨_, rfl⟩
  have HN := Lib.hid hn
  rw [← hn] at hm ⊢
  have hout : Hid (addL (l.map IntsM.l) N = (List.range N).map (addTo (l.map IntsM.l) m)) := by show _ = _; unfold addL; rw [List.length_map, ← hn]
  rw [hout.out]
  clear hn hout
  have hmk := run_make_row' (P := Try.prog) 22 3 (.int .i64 0) 8 Try.underlying22 Try.infoInt rfl .i64 .i64 N (by omega) (by omega)
  go_enter Try.func33, Try.ntmps33
  go_wp2_with fail
  have hrow0 : (w.alloc (.cells (madeCells #[.int .i64 0] N) 3)).rowIs w.heap.size 3 N (fun i => .int .i64 (addTo (l.map IntsM.l) 0 i)) := by
    simp only [addTo_zero]
    exact World.rowIs_made _ _ _ _
  have hB0 : Below w.heap.size w (w.alloc (.cells (madeCells #[.int .i64 0] N) 3)) := (Below.refl _ _).alloc (Nat.le_refl _) _
  clear hmk
  go_loopw [14] (fun i' wr => ∃ k : Nat, k ≤ m ∧ i' = .int .i64 k ∧ wr.rowIs w.heap.size 3 N (fun i => .int .i64 (addTo (l.map IntsM.l) k i)) ∧ Below w.heap.size w wr)
    (fun i' _ => m - (intOf i').toNat)
  case atStart => exact ⟨0, by omega, rfl, hrow0, hB0⟩
  case round =>
    clear hrow0 hB0
    obtain ⟨k, hkm, rfl, hrow1, hB⟩ := hrel
    have hrow := Lib.hid hrow1
    clear hrow1
    by_cases hlt : k < m
    · have hkl : k < l.length := by rw [← HN.out]; exact hlt
      have hkR : k < (l.map IntsM.l).length := by rw [List.length_map]; exact hkl
      have HL := Lib.hid (hA.out.below hB)
      obtain ⟨b, of, hAe, hb, z0⟩ := HL.out.at' hkl
      subst hAe
      have HR : Hid ((l.map IntsM.l)[k] = l[k].l) := by show _ = _; simp
      have hrw := Lib.hid (hA.out.row hkl)
      have hl := hlen.out _ (List.getElem_mem hkl)
      have HS := Lib.hid (fun i => addTo_succ hkR i)
      generalize l[k] = x at *
      rw [hl] at z0
      have HLx := Lib.hid hl
      clear hl
      obtain ⟨wo, hwo⟩ : ∃ wo : World, wo = wr := ⟨_, rfl⟩
      subst hwo
      go_wp2_with fail
      clear z0
      go_loopw [20] (fun i' wr => ∃ j : Nat, j ≤ N ∧ i' = .int .i64 j ∧ wr.rowIs w.heap.size 3 N (fun i => .int .i64 (addMid (l.map IntsM.l) k j i)) ∧ Below w.heap.size w wr)
        (fun i' _ => N - (intOf i').toNat)
      case atStart => exact ⟨0, by omega, rfl, by simp only [addMid_zero]; exact hrow.out, hB⟩
      case round =>
        obtain ⟨j, hjN, rfl, hr1, hBj⟩ := hrel
        have hr := Lib.hid hr1
        clear hr1
        by_cases hlj : j < N
        · have hRj := hrw.out.below hBj
          have hjl : j < x.l.length := by rw [HLx.out]; exact hlj
          obtain ⟨b3, o3, hAe, hb3, y0⟩ := hRj.at' hjl
          rw [hAe]
          have c1 := hr.out.cell hlj
          have c2 := hr.out.frozen j
          have m0 : Hid (addMid (l.map IntsM.l) k j j = addTo (l.map IntsM.l) k j) := by show _ = _; simp [addMid]
          rw [m0.out] at c1
          have hbd1 := addTo_bd hbd.out k j
          have hvb := hbd.out x.l (by rw [← HR.out]; exact List.getElem_mem hkR) _ (List.getElem_mem hjl)
          have hnx : Hid (addTo (l.map IntsM.l) (k + 1) j = addTo (l.map IntsM.l) k j + x.l[j]) := by
            show _ = _
            rw [HS.out, HR.out]
            simp [List.getD, hjl]
          generalize x.l[j] = v at *
          generalize addTo (l.map IntsM.l) k j = a at *
          go_wp2_with fail
          go_roundw
          case rel =>
            refine ⟨j + 1, by omega, by go_num, ?_, hBj.setCell (by simp) _⟩
            refine (hr.out.set j _).congr fun i hi => ?_
            rw [addMid_succ]
            by_cases e : i = j
            · rw [if_pos e, if_pos e, hnx.out]
            · rw [if_neg e, if_neg e]
          case measure => simp [intOf]; omega
        · have hfin : Hid (wr.rowIs w.heap.size 3 N (fun i => .int .i64 (addTo (l.map IntsM.l) (k + 1) i))) := by
            show World.rowIs _ _ _ _ _
            refine hr.out.congr fun i hi => ?_
            rw [show j = N by omega, addMid_full hi]
          go_wp2_with fail
          go_roundw
          case rel => exact ⟨k + 1, by omega, by go_num, hfin.out, hBj⟩
          case measure => simp [intOf]; omega
    · have hfin : Hid (IntsOut ((List.range N).map (addTo (l.map IntsM.l) m)) w (.returned (.slice (some ⟨w.heap.size, 0, none⟩) N N)) wr) := by
        have h := hrow.out
        rw [show k = m by omega] at h
        exact rowOut h (Nat.le_refl _) hB
      go_wp2_with fail
      go_ret
      exact hfin.out
end Go.Proofs.Ytnibhdpgjmdkeaa
