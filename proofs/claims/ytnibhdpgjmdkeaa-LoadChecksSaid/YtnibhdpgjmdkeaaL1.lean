/-
  The walks of layer 4's names, as layer 41 reaches them: Valid of the reference.
-/
import Derived.Test.YtnibhdpgjmdkeaaProg
import Derived.Test.YtnibhdpgjmdkeaaLPlain
import Derived.Test.Ytnibhdpgjmdkeaa1Words
import Derived.Lib.Hide
import Derived.Deep.QuietTactic
import Derived.BigQuiet
import Derived.Laws.RangeString
namespace Go.Proofs.Ytnibhdpgjmdkeaa
open Go.RowKit

theorem nameOk_size {s : ByteArray} (h : ¬ (1 ≤ s.size ∧ s.size ≤ 24)) : nameOk s = false := by
  unfold nameOk; rw [decide_eq_false h]; rfl

set_option maxHeartbeats 4000000 in
theorem rname_any (s : ByteArray) (w : World) (_hs : s.size ≤ maxLen) :
    Calls Try.prog 38 #[.string s] w fun e w' => e = .returned (.bool (nameOk s)) ∧ w = w' := by
  by_cases hl : 1 ≤ s.size ∧ s.size ≤ 24
  · obtain ⟨l1, l2⟩ := hl
    have hno : Hid (nameOk s = okTo s s.size) := by show _ = _; simp [nameOk, l1, l2]
    go_enter Try.func38, Try.ntmps38
    go_wp2_with fail
    go_loopw [3] (fun i' wr => ∃ k : Nat, k ≤ s.size ∧ i' = .int .i64 k ∧ Hid (okTo s k = true) ∧ w = wr)
      (fun i' _ => s.size - (intOf i').toNat)
    case atStart => exact ⟨0, by omega, rfl, rfl, rfl⟩
    case round =>
      obtain ⟨k, hk, rfl, hok, rfl⟩ := hrel
      by_cases hlt : k < s.size
      · have hb : (s[k]'hlt).toNat = byteN s k := (byteN_lt hlt).symm
        have hsc : Hid (okTo s (k + 1) = okByte k (byteN s k)) := by show _ = _; rw [okTo_succ, hok.out]; rfl
        have hle : Hid (okTo s (k + 1) = false → nameOk s = false) := fun h => by rw [hno.out]; exact okTo_le h (by omega)
        generalize byteN s k = c at *
        have hk0 : (k = 0 ∧ ((k : Int) == 0) = true) ∨ (k ≠ 0 ∧ ((k : Int) == 0) = false) := by
          by_cases h : k = 0
          · exact .inl ⟨h, by simp [h]⟩
          · exact .inr ⟨h, by simp [h]⟩
        have hcs := okByte_cases k c
        have h95 : (c = 95 ∧ ((c : Int) != 95) = false) ∨ (c ≠ 95 ∧ ((c : Int) != 95) = true) := by
          by_cases h : c = 95
          · exact .inl ⟨h, by simp [h]⟩
          · exact .inr ⟨h, by rw [bne_iff_ne]; omega⟩
        have h45 : (c = 45 ∧ ((c : Int) != 45) = false) ∨ (c ≠ 45 ∧ ((c : Int) != 45) = true) := by
          by_cases h : c = 45
          · exact .inl ⟨h, by simp [h]⟩
          · exact .inr ⟨h, by rw [bne_iff_ne]; omega⟩
        have hsm : ((97 ≤ c ∧ c ≤ 122) ∧ decide ((97 : Int) ≤ (c : Int)) = true ∧ decide ((c : Int) ≤ 122) = true) ∨ (c < 97 ∧ decide ((97 : Int) ≤ (c : Int)) = false) ∨ (122 < c ∧ decide ((97 : Int) ≤ (c : Int)) = true ∧ decide ((c : Int) ≤ 122) = false) := by
          simp only [decide_eq_true_iff, decide_eq_false_iff_not]; omega
        have hdg : (c < 48 ∧ decide ((c : Int) < 48) = true) ∨ (57 < c ∧ decide ((c : Int) < 48) = false ∧ decide ((57 : Int) < (c : Int)) = true) ∨ ((48 ≤ c ∧ c ≤ 57) ∧ decide ((c : Int) < 48) = false ∧ decide ((57 : Int) < (c : Int)) = false) := by
          simp only [decide_eq_true_iff, decide_eq_false_iff_not]; omega
        rcases hcs with ⟨hv, h1⟩ | ⟨hv, h1⟩
        · have hok' : Hid (okTo s (k + 1) = true) := by show _ = _; rw [hsc.out, hv]
          clear hv hle hsc hno hok
          have hgo : Hid (k + 1 ≤ s.size) := hlt
          rcases hsm with ⟨m1, m2, m3⟩ | ⟨m1, m2⟩ | ⟨m1, m2, m3⟩
          · clear h1 h95 h45 hdg hk0 m1
            go_wp2_with fail
            go_roundw
            case rel => exact ⟨k + 1, by omega, by go_num, hok', trivial⟩
            case measure => simp [intOf]; omega
          all_goals
            rcases hk0 with ⟨n1, n2⟩ | ⟨n1, n2⟩
            · omega
            rcases h95 with ⟨p1, p2⟩ | ⟨p1, p2⟩
            · clear h1 h45 hdg m1 n1 p1
              go_wp2_with fail
              go_roundw
              case rel => exact ⟨k + 1, by omega, by go_num, hok', trivial⟩
              case measure => simp [intOf]; omega
            rcases h45 with ⟨r1, r2⟩ | ⟨r1, r2⟩
            · clear h1 hdg m1 n1 p1 r1
              go_wp2_with fail
              go_roundw
              case rel => exact ⟨k + 1, by omega, by go_num, hok', trivial⟩
              case measure => simp [intOf]; omega
            rcases hdg with ⟨t1, t2⟩ | ⟨t1, t2, t3⟩ | ⟨t1, t2, t3⟩
            · omega
            · omega
            · clear h1 m1 n1 p1 r1 t1
              go_wp2_with fail
              go_roundw
              case rel => exact ⟨k + 1, by omega, by go_num, hok', trivial⟩
              case measure => simp [intOf]; omega
        · have hfin : Hid (false = nameOk s) := by show _ = _; rw [hle.out (by rw [hsc.out, hv])]
          clear hv hle hsc hno hok
          rcases hsm with ⟨m1, m2, m3⟩ | ⟨m1, m2⟩ | ⟨m1, m2, m3⟩
          · omega
          all_goals
            rcases hk0 with ⟨n1, n2⟩ | ⟨n1, n2⟩
            · clear h1 h95 h45 hdg m1 n1
              go_wp2_with fail
              go_ret
              exact ⟨ret_bool hfin.out, rfl⟩
            rcases h95 with ⟨p1, p2⟩ | ⟨p1, p2⟩
            · omega
            rcases h45 with ⟨r1, r2⟩ | ⟨r1, r2⟩
            · omega
            rcases hdg with ⟨t1, t2⟩ | ⟨t1, t2, t3⟩ | ⟨t1, t2, t3⟩
            · clear h1 m1 n1 p1 r1 t1
              go_wp2_with fail
              go_ret
              exact ⟨ret_bool hfin.out, rfl⟩
            · clear h1 m1 n1 p1 r1 t1
              go_wp2_with fail
              go_ret
              exact ⟨ret_bool hfin.out, rfl⟩
            · omega
      · have hfin : Hid (true = nameOk s) := by show _ = _; rw [hno.out, show s.size = k by omega, hok.out]
        clear hno hok
        go_wp2_with fail
        go_ret
        exact ⟨ret_bool hfin.out, rfl⟩
  · have hfin : Hid (false = nameOk s) := (nameOk_size hl).symm
    have hcs : (s.size : Int) < 1 ∨ (¬ (s.size : Int) < 1 ∧ (24 : Int) < (s.size : Int)) := by omega
    clear hl
    rcases hcs with h1 | ⟨h1, h2⟩
    all_goals
      go_enter Try.func38, Try.ntmps38
      go_wp2_with fail
      go_ret
      exact ⟨ret_bool hfin.out, rfl⟩
end Go.Proofs.Ytnibhdpgjmdkeaa
