/-
  The walk of Uses of the program (layer 41).
-/
import Derived.Test.YtnibhdpgjmdkeaaL14
import Derived.Deep.DeepCutAuto
namespace Go.Proofs.Ytnibhdpgjmdkeaa
open Go.RowKit

theorem Try.infoInts : (Try.prog.info? 22).map (fun i => (i.zero, i.size, i.bytes)) = some (some (.slice none 0 0), 1, 24) := by kernel_rfl

/-- Append of one new element, which lies in a block of its own: what is written is the row's own block. -/
theorem wpList_append_newG {P : Program} {ops : Array Oper} {rest : List Oper} {o : Oper} {a : Act} {Q : Exit → Act → World → Prop} (w w0 : World) (hgd : o.guard = none) (s x : Operand) (t : TypeId)
    (ho : o.op = .call { callee := .builtin .append, args := #[s, x], argTypes := #[t, t] })
    (base : Nat) (e : TypeId) (i : TypeInfo) (z : Value) (size bytes : Nat) (ht : P.underlying t = some (.slice e)) (hi : P.info? e = some i) (hz : i.zero = some z)
    (hsize : i.size = size) (hby : i.bytes = bytes) (hzs : z.cells.size = size) (hsz : 0 < size) (hb4 : bytes ≤ 4096)
    (v : Value) (n : Nat) (xs : List Value) (hs : a.eval s = v) (hown : w0.ownsRow base e size v n xs)
    (cs : Array Value) (hcs : cs.size = size) (h1 : ∀ u ∈ cs.toList, u.oneCell' = true) (hx : a.eval x = .slice (some ⟨w0.heap.size, 0, none⟩) 1 1)
    (hw : w = w0.alloc (.cells cs e)) (hn : n ≤ 1000000000) (hbase : base ≤ w0.heap.size)
    (h : ∀ v' w', w'.ownsRow base e size v' (n + 1) (xs ++ cs.toList) → w0.grownBy w' v.ownBlock → (v'.ownBlock = v.ownBlock ∨ v'.ownBlock = some (w0.heap.size + 1)) → wpList P ops Q rest (a.put o.dst v') w') : wpList P ops Q (o :: rest) a w := by
  subst hw
  refine wpList_append_own_at (w0.alloc (.cells cs e)) hgd s x t ho base e i z size bytes ht hi hz hsize hby hzs hsz v n xs hs (hown.alloc _) ⟨w0.heap.size, 0, none⟩ 1 1 cs.toList hx (by simp [hcs]) ?_ h1 (by unfold maxLen; omega) ?_ (by simp; omega) ?_
  · intro j u hu
    have hadd : (⟨w0.heap.size, 0, none⟩ : Addr).add j = ⟨w0.heap.size, j, none⟩ := by unfold Addr.add; split <;> simp_all
    rw [hadd, (Blk.new w0 e cs).cell j]
    simpa using hu
  · have : (n + 1) * bytes ≤ 1000000001 * 4096 := Nat.mul_le_mul (by omega) hb4
    omega
  · intro v' w' h2 h3 _ h5
    refine h v' w' h2 ((World.grownBy_alloc w0 _ v.ownBlock).trans h3) ?_
    simpa using h5

/-- The rows made so far: fresh, apart from the list of rows itself, each reading as its list. -/
structure Made (w : World) (base : Nat) (v : Value) (rows : List IntsM) : Prop where
  own : w.ownsRow base 22 1 v rows.length (rowCells rows)
  rows : ∀ x ∈ rows, RInts w x.A x.l ∧ ∀ ad, x.A = some ad → base ≤ ad.block ∧ some ad.block ≠ v.ownBlock ∧ ad.block < w.heap.size
theorem Made.nil (w : World) (base : Nat) : Made w base (.slice none 0 0) [] := ⟨World.ownsRow_nil _ _ _ _, by simp⟩
theorem Made.below {w w' : World} {base : Nat} {v : Value} {rows : List IntsM} (h : Made w base v rows) (hb : Below w.heap.size w w') : Made w' base v rows :=
  ⟨own_below h.own hb, fun x hx => ⟨(h.rows x hx).1.below hb, fun ad e => ⟨((h.rows x hx).2 ad e).1, ((h.rows x hx).2 ad e).2.1, Nat.lt_of_lt_of_le ((h.rows x hx).2 ad e).2.2 hb.size⟩⟩⟩
theorem grownBy_size {w w' : World} {r : Option Nat} (h : w.grownBy w' r) : w.heap.size ≤ w'.heap.size := h.size
theorem RInts.lt {w : World} {A : Option Addr} {l : List Int} (h : RInts w A l) (hl : l ≠ []) : ∀ ad, A = some ad → ad.block < w.heap.size := by
  intro ad e
  obtain ⟨ad', e', hb, _⟩ := h.2 (List.length_pos_iff.2 hl)
  rw [e] at e'; injection e' with e'; subst e'; exact hb
theorem RInts.other {w w' : World} {A : Option Addr} {l : List Int} {r : Option Nat} (h : RInts w A l) (hg : w.grownBy w' r) (hne : ∀ ad, A = some ad → some ad.block ≠ r) : RInts w' A l := by
  refine ⟨h.1, fun hn => ?_⟩
  obtain ⟨ad, e, hb, hc⟩ := h.2 hn
  refine ⟨ad, e, Nat.lt_of_lt_of_le hb hg.size, fun j u hu => ?_⟩
  rw [World.cell?_of_block (hg.block (ad.add j).block (by rw [block_of_add]; exact hb) (by rw [block_of_add]; exact hne ad e))]
  exact hc j u hu
theorem Made.push {w w' : World} {base : Nat} {v v' : Value} {rows : List IntsM} {x : IntsM} (h : Made w base v rows) (hx : RInts w x.A x.l) (hf : ∀ ad, x.A = some ad → base ≤ ad.block ∧ some ad.block ≠ v.ownBlock ∧ ad.block < w.heap.size)
    (hown : w'.ownsRow base 22 1 v' (rows.length + 1) (rowCells rows ++ [x.v])) (hg : w.grownBy w' v.ownBlock) (hv : v'.ownBlock = v.ownBlock ∨ v'.ownBlock = some (w.heap.size + 1)) : Made w' base v' (rows ++ [x]) := by
  refine ⟨by simpa [rowCells] using hown, ?_⟩
  intro y hy
  rw [List.mem_append, List.mem_singleton] at hy
  rcases hy with hy | rfl
  · obtain ⟨h1, h2⟩ := h.rows y hy
    refine ⟨h1.other hg fun ad e => (h2 ad e).2.1, fun ad e => ⟨(h2 ad e).1, ?_, Nat.lt_of_lt_of_le (h2 ad e).2.2 hg.size⟩⟩
    rcases hv with hv | hv
    · rw [hv]; exact (h2 ad e).2.1
    · rw [hv]; intro hh; injection hh with hh; have := (h2 ad e).2.2; omega
  · refine ⟨hx.other hg fun ad e => (hf ad e).2.1, fun ad e => ⟨(hf ad e).1, ?_, Nat.lt_of_lt_of_le (hf ad e).2.2 hg.size⟩⟩
    rcases hv with hv | hv
    · rw [hv]; exact (hf ad e).2.1
    · rw [hv]; intro hh; injection hh with hh; have := (hf ad e).2.2; omega
theorem Made.rrows {w : World} {base : Nat} {v : Value} {rows : List IntsM} (h : Made w base v rows) : ∃ A c, v = .slice A rows.length c ∧ RRows w A rows := by
  obtain ⟨A, c, rfl⟩ := own_form h.own
  exact ⟨A, c, rfl, Reads.of_own h.own, fun x hx => (h.rows x hx).1⟩
end Go.Proofs.Ytnibhdpgjmdkeaa
