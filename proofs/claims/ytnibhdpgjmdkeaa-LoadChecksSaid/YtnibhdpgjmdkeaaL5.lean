/-
  The walks of layer 41 (load), part 3: ContainsFunc with the test of an element.
-/
import Derived.Test.YtnibhdpgjmdkeaaL4
namespace Go.Proofs.Ytnibhdpgjmdkeaa
open Go.RowKit

theorem contains_any (A : Option Addr) (c : Nat) (l : List Int) (w : World) (hA : RInts w A l) (hl : l.length < 1000000000) :
    Calls Try.prog 36 #[.slice A l.length c, .func (.func 37) #[] #[]] w fun e w' => e = .returned (.bool (!(l.all unitOk))) ∧ w = w' := by
  have h := Lib.hid (index_any A c l w hA hl)
  generalize l.length = n at *
  clear hA hl
  go_enter Try.func36, Try.ntmps36
  go_wp2_with fail
  refine h.out.mono ?_
  rintro e w1 ⟨⟨x, rfl, hx⟩, rfl⟩
  have HX := Lib.hid hx
  clear hx
  go_wp2_with fail
  go_ret
  exact ⟨ret_bool HX.out, rfl⟩
end Go.Proofs.Ytnibhdpgjmdkeaa
