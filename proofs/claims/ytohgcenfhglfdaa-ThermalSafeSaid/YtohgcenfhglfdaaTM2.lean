/-
  A slice of numbers among a law's arguments, with its capacity (layer 40, ThermalSafe).
-/
import Derived.Test.YtohgcenfhglfdaaTM
namespace Go.Proofs.Ytohgcenfhglfdaa
open Go.Joins Go.ChangeShapes Go.WideShapes Go.RowKit Go.Deep

theorem open_rintsC {H : Type} {enc : TypeId × Value → H} {w : World} {base : Nat} {held : Bool} {r : Reach} {b0 : Nat} {v : Value} {d : DataW H} {p : List MemPlace}
    (hv : Value.okWide Try.prog w r b0 22 v) (h : DataW.Trod enc Try.prog w base (fun _ => true) held 22 v d p) :
    ∃ A c xs, v = .slice A xs.length c ∧ RInts w A xs ∧ xs.length ≤ c ∧ c ≤ maxLen := by
  obtain ⟨a, len, cap, rfl⟩ := okWide_slice Try.underlying22 hv
  obtain ⟨n, hf⟩ := h
  have hcap : len ≤ cap ∧ cap ≤ maxLen := by
    rcases open_ints Try.underlying22 Try.underlying3 Try.cellsInt hf with ⟨hcs, _⟩ | ⟨a', len', cap', zs, hcs, _, hl, hm, _⟩
    · simp [Value.cells] at hcs
      simp [hcs, maxLen]
    · simp [Value.cells] at hcs
      omega
  obtain ⟨A, c, xs, he, hr, _, _⟩ := open_rints1 hf
  simp only [Value.slice.injEq] at he
  obtain ⟨h1, h2, h3⟩ := he
  subst h1 h2 h3
  exact ⟨_, _, xs, rfl, hr, hcap.1, hcap.2⟩
theorem RInts.take {w : World} {A : Option Addr} {l : List Int} (h : RInts w A l) (m : Nat) : RInts w A (l.take m) := by
  refine ⟨by rw [ints_length, Nat.mul_one], fun hn => ?_⟩
  rw [List.length_take] at hn
  obtain ⟨ad, e, hb, hc⟩ := h.2 (by omega)
  refine ⟨ad, e, hb, fun j u hu => hc j u ?_⟩
  obtain ⟨x, hx, rfl⟩ := ints_get hu
  rw [List.getElem?_take] at hx
  split at hx
  · simp [ints, hx]
  · cases hx
end Go.Proofs.Ytohgcenfhglfdaa
