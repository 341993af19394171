/-
  Words on maps with integer keys that the call itself makes: what stands at a key, as a function.
-/
import Derived.Test.Ytgflklgjjpokaaa1Words
import Derived.Maps.Own
import Derived.Maps.OwnSet
import Derived.Maps.Views
namespace Go.Proofs.Ytgflklgjjpokaaa
open Go.RowKit Go.Maps Go.WideShapes

/-- Block b is a map of at most n entries, its keys of the kind q; f says what a look-up of a key gives, z where there is none; g says which keys are there. -/
def MapD (P : Program) (kt et : TypeId) (q : IntKind) (z : Lit) (w : World) (b n : Nat) (f : Int → Lit) (g : Int → Bool) : Prop :=
  ∃ D : DataW Unit, w.ownsMap P kt (plainElem P et) b n D ∧ IsMap D ∧ ∀ x, (Lit.int q x).wf = true → D.atKey (.int q x) (.lit z) = .lit (f x) ∧ Maps.has D (.int q x) = g x
section
variable {P : Program} {kt et : TypeId} {q : IntKind} {z : Lit} {w w' : World} {b n : Nat} {f : Int → Lit} {g : Int → Bool}
theorem MapD.new (w : World) : MapD P kt et q z (w.alloc (.map #[] 0)) w.heap.size 0 (fun _ => z) (fun _ => false) :=
  ⟨.map [], World.ownsMap_made w P kt _, isMap_empty, fun _ _ => ⟨rfl, rfl⟩⟩
theorem MapD.lt (h : MapD P kt et q z w b n f g) : b < w.heap.size := by obtain ⟨D, h1, _⟩ := h; exact h1.lt
theorem MapD.kept {row : Option Nat} (h : MapD P kt et q z w b n f g) (hg : w.grownBy w' row) (hne : some b ≠ row) : MapD P kt et q z w' b n f g := by
  obtain ⟨D, h1, h2, h3⟩ := h
  exact ⟨D, h1.kept hg hne, h2, h3⟩
theorem MapD.below {B : Nat} (h : MapD P kt et q z w b n f g) (hb : Below B w w') (hB : b < B) : MapD P kt et q z w' b n f g := by
  obtain ⟨D, ⟨es, clock, h1, F, hs, hD⟩, h2, h3⟩ := h
  exact ⟨D, ⟨es, clock, (hb.block b hB).trans h1, F, hs, hD⟩, h2, h3⟩
theorem MapD.congr {f' : Int → Lit} {g' : Int → Bool} (h : MapD P kt et q z w b n f g) (e : ∀ x, f x = f' x) (e' : ∀ x, g x = g' x) : MapD P kt et q z w b n f' g' := by
  obtain ⟨D, h1, h2, h3⟩ := h
  exact ⟨D, h1, h2, fun x hx => by rw [← e, ← e']; exact h3 x hx⟩
theorem MapD.mono (h : MapD P kt et q z w b n f g) {n' : Nat} (hn : n ≤ n') : MapD P kt et q z w b n' f g := by
  obtain ⟨D, h1, h2, h3⟩ := h
  exact ⟨D, h1.mono hn, h2, h3⟩
theorem plainElem_bool_inv {e : TypeId} (he : P.underlying e = some .bool) {v : Value} {y : DataW Unit × List MemPlace} (h : plainElem P e v = some y) : ∃ a, v = .bool a ∧ y = (.lit (.bool a), []) := by
  unfold plainElem at h
  rw [he] at h
  split at h
  · cases h; exact ⟨_, rfl, rfl⟩
  · rename_i hq; cases hq
  · rename_i hq; cases hq
  · cases h
/-- A look-up of bools. -/
theorem MapD.look_bool {t : TypeId} (h : MapD P kt et q (.bool false) w b n f g) (hk : P.underlying kt = some (.int q)) (ht : P.underlying t = some (.map kt et)) (he : P.underlying et = some .bool) (hz : (zeroValue et).run P w = .ok (.bool false) w)
    {x : Int} (hx : (Lit.int q x).wf = true) {v : Bool} (hf : f x = .bool v) : (Instr.lookup t (.map (some b)) (.int q x) false).run P w = .ok (.bool v) w := by
  obtain ⟨D, h1, _, h3⟩ := h
  obtain ⟨u, ps, hrun, hu⟩ := h1.lookup (int_keyed hk) ht hz (plainElem_bool he false) (keyOf_int_mk hk hx)
  obtain ⟨a, rfl, ha⟩ := plainElem_bool_inv he hu
  simp only [Prod.mk.injEq] at ha
  rw [(h3 x hx).1, hf] at ha
  have e : v = a := by simpa using ha.1
  rw [hrun, e]
/-- A look-up of numbers. -/
theorem MapD.look_int {t : TypeId} {r : IntKind} (h : MapD P kt et q (.int r 0) w b n f g) (hk : P.underlying kt = some (.int q)) (ht : P.underlying t = some (.map kt et)) (he : P.underlying et = some (.int r)) (hz : (zeroValue et).run P w = .ok (.int r 0) w)
    {x : Int} (hx : (Lit.int q x).wf = true) {v : Int} (hf : f x = .int r v) : (Instr.lookup t (.map (some b)) (.int q x) false).run P w = .ok (.int r v) w := by
  obtain ⟨D, h1, _, h3⟩ := h
  obtain ⟨c, hrun, hat, _⟩ := h1.lookup_int (int_keyed hk) ht he hz (keyOf_int_mk hk hx)
  rw [(h3 x hx).1, hf] at hat
  have e : v = c := by simpa using hat
  rw [hrun, e]
/-- A look-up of numbers, with the word whether there is one. -/
theorem MapD.look_int_ok {t : TypeId} {r : IntKind} (h : MapD P kt et q (.int r 0) w b n f g) (hk : P.underlying kt = some (.int q)) (ht : P.underlying t = some (.map kt et)) (he : P.underlying et = some (.int r)) (hz : (zeroValue et).run P w = .ok (.int r 0) w)
    {x : Int} (hx : (Lit.int q x).wf = true) {v : Int} (hf : f x = .int r v) : (Instr.lookup t (.map (some b)) (.int q x) true).run P w = .ok (.tuple #[.int r v, .bool (g x)]) w := by
  obtain ⟨D, h1, _, h3⟩ := h
  have hw0 : (Lit.int r 0).wf = true := by cases r <;> decide
  obtain ⟨u, ps, hrun, hu⟩ := h1.look_ok (int_keyed hk) ht hz (plainElem_int he hw0) (keyOf_int_mk hk hx)
  obtain ⟨c, rfl, hc, _⟩ := plainElem_int_inv he hu
  simp only [Prod.mk.injEq] at hc
  rw [(h3 x hx).1, hf] at hc
  have e : v = c := by simpa using hc.1
  rw [hrun, (h3 x hx).2, e]
end

/-- A store, at the operation. -/
theorem wpList_mapSet {P : Program} (w : World) {ops : Array Oper} {rest : List Oper} {o : Oper} {a : Act} {Q : Exit → Act → World → Prop}
    (hg : o.guard = none) (m x v : Operand) (t : TypeId) (hop : o.op = Op.mapUpdate t m x v) (kt et : TypeId) (q : IntKind) (hk : P.underlying kt = some (.int q)) (ht : P.underlying t = some (.map kt et)) (z : Lit) (b n : Nat) (f : Int → Lit) (g : Int → Bool)
    (hm : a.eval m = .map (some b)) (hown : MapD P kt et q z w b n f g) (hn : n < maxLen) (key : Int) (val : Value) (l : Lit) (hx : a.eval x = .int q key) (hv : a.eval v = val) (hkey : (Lit.int q key).wf = true) (hval : plainElem (H := Unit) P et val = some (.lit l, []))
    (hK : ∀ w', MapD P kt et q z w' b (n + 1) (fun y => if y = key then l else f y) (fun y => if y = key then true else g y) → w.grownBy w' (some b) → wpList P ops Q rest (a.put o.dst undef) w') :
    wpList P ops Q (o :: rest) a w := by
  obtain ⟨D, h1, h2, h3⟩ := hown
  refine wpList_mapUpdate_own w hg m x v t hop kt et (int_keyed hk) ht (plainElem P et) b n D hm h1 hn (.int q key) val (.int q key) hx hv (keyOf_int_mk hk hkey) (.lit l) [] hval ?_
  intro w' h1' hgr
  refine hK w' ⟨_, h1', h2.put _ _, fun y hy => ?_⟩ hgr
  have hkl : WideAt.IsKeyLit (.int q key) := trivial
  by_cases e : y = key
  · subst e
    show (D.put (Lit.int q y) (DataW.lit l)).atKey (Lit.int q y) (DataW.lit z) = DataW.lit (if y = y then l else f y) ∧ Maps.has (D.put (Lit.int q y) (DataW.lit l)) (Lit.int q y) = (if y = y then true else g y)
    rw [if_pos rfl, if_pos rfl]
    exact ⟨atKey_put_same h2 hkl _ _, has_put_same h2 hkl _⟩
  · have hne : (Lit.int q y) ≠ (Lit.int q key) := fun hh => e (by injection hh)
    show (D.put (Lit.int q key) (DataW.lit l)).atKey (Lit.int q y) (DataW.lit z) = DataW.lit (if y = key then l else f y) ∧ Maps.has (D.put (Lit.int q key) (DataW.lit l)) (Lit.int q y) = (if y = key then true else g y)
    rw [if_neg e, if_neg e, atKey_put_other hne, has_put_other hne]
    exact h3 y hy
end Go.Proofs.Ytgflklgjjpokaaa
