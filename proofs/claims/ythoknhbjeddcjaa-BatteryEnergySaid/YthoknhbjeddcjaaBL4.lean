/-
  The walks of the laws of layer 39 (battery), part 4: BatteryEnergy.
-/
import Derived.Test.YthoknhbjeddcjaaBL2
namespace Go.Proofs.Ythoknhbjeddcjaa
open Go.RowKit

theorem drawnZ_full {b : Bat} {c : Int} (h : b.eff = 1000) : drawnZ b c = c := by
  unfold drawnZ
  split
  · rw [h]; omega
  · rfl

set_option maxHeartbeats 4000000 in
theorem energy_out (b : Bat) (l : Int) (A : Option Addr) (cp : Nat) (xs : List Int) (w : World) (h : 200 < xs.length ∨ b.ok = false ∨ l < 0 ∨ b.cap < l) :
    Calls Try.prog 6 #[b.v, .int .i64 l, .slice A xs.length cp] w fun e w' => e = .returned (.bool true) ∧ Below w.heap.size w w' := by
  have h3 := check_any b
  by_cases k1 : 200 < xs.length
  · clear h h3
    simp only [Bat.v]
    generalize xs.length = n at *
    have k1' : (200 : Int) < (n : Int) := by omega
    go_enter Try.func6, Try.ntmps6
    go_wp2_with fail
    refine (awake_any _).mono ?_
    rintro e w1 ⟨rfl, hb1⟩
    have B1 := bat_first hb1
    clear hb1
    go_wp2_with fail
    go_ret
    exact ⟨rfl, B1.out⟩
  · generalize xs.length = n at *
    have k1' : ¬ ((200 : Int) < (n : Int)) := by omega
    by_cases hok : b.ok = true
    · rw [chk_true hok] at h3
      have hcs : l < 0 ∨ (0 ≤ l ∧ b.cap < l) := by
        rcases h with h | h | h | h
        · omega
        · rw [hok] at h; cases h
        · omega
        · omega
      clear h hok
      simp only [Bat.v] at h3 ⊢
      have H3 := Lib.hid h3
      clear h3
      rcases hcs with k | ⟨k, k'⟩
      all_goals
        go_enter Try.func6, Try.ntmps6
        go_wp2_with fail
        refine (H3.out _).mono ?_
        rintro e w1 ⟨rfl, hb1⟩
        have B1 := bat_first hb1
        clear hb1
        obtain ⟨c0, c1, c2, c3, c4⟩ := B1.cells
        go_wp2_with fail
        refine (awake_any _).mono ?_
        rintro e w2 ⟨rfl, hb2⟩
        have B2 := B1.mk hb2
        go_wp2_with fail
        go_ret
        exact ⟨rfl, B2.out⟩
    · rw [chk_false (by simpa using hok)] at h3
      clear h hok
      simp only [Bat.v] at h3 ⊢
      have H3 := Lib.hid h3
      clear h3
      go_enter Try.func6, Try.ntmps6
      go_wp2_with fail
      refine (H3.out _).mono ?_
      rintro e w1 ⟨rfl, hb1⟩
      have B1 := bat_first hb1
      clear hb1
      go_wp2_with fail
      refine (awake_any _).mono ?_
      rintro e w2 ⟨rfl, hb2⟩
      have B2 := B1.mk hb2
      go_wp2_with fail
      go_ret
      exact ⟨rfl, B2.out⟩

set_option maxHeartbeats 8000000 in
theorem energy_in (b : Bat) (l : Int) (A : Option Addr) (cp : Nat) (xs : List Int) (w : World) (hx : RInts w A xs) (hl : xs.length ≤ 200) (hok : b.ok = true) (k1 : 0 ≤ l) (k2 : l ≤ b.cap) :
    Calls Try.prog 6 #[b.v, .int .i64 l, .slice A xs.length cp] w fun e w' => e = .returned (.bool true) ∧ Below w.heap.size w w' := by
  have h3 := check_any b
  have hst := step_any b
  rw [chk_true hok] at h3
  have hg := Bat.good hok
  have hx1 : RInts (batW b w) A xs := hx.alloc _
  have hlt : (xs.length : Int) ≤ 200 := by omega
  have hq : ¬ ((200 : Int) < (xs.length : Int)) := by omega
  have g1 := hg.cap1
  have hx2 : ∀ k, k < xs.length → ∃ (x : Int) (ad : Addr), A = some ad ∧ ad.block < w.heap.size ∧ w.cell? (ad.add k) = some (.int .i64 x) := fun k h => by
    obtain ⟨ad, h1, h2, h3⟩ := hx.at_ h
    exact ⟨_, ad, h1, h2, h3⟩
  clear hx hx1
  generalize xs.length = n at *
  simp only [Bat.v] at h3 hst ⊢
  have H3 := Lib.hid h3
  have HS := Lib.hid hst
  have HX := Lib.hid hx2
  have HG := Lib.hid hg
  clear h3 hst hx2 hg hok
  go_enter Try.func6, Try.ntmps6
  go_wp2_with fail
  refine (H3.out _).mono ?_
  rintro e w1 ⟨rfl, hb1⟩
  have B1 := bat_first hb1
  clear hb1
  obtain ⟨c0, c1, c2, c3, c4⟩ := B1.cells
  go_wp2_with fail
  clear c0 c1 c2 c3 c4
  go_loopw [7, 8, 36] (fun now sum i wr => ∃ (k : Nat) (nw sm : Int), k ≤ n ∧ i = .int .i64 k ∧ now = .int .i64 nw ∧ sum = .int .i64 sm ∧ 0 ≤ nw ∧ nw ≤ b.cap ∧ -1000 * (k : Int) ≤ sm ∧ sm ≤ 1000000 * (k : Int) ∧ nw - l ≤ sm ∧ (b.eff = 1000 → sm = nw - l) ∧ BatS b w wr)
    (fun _ _ i _ => n - (intOf i).toNat)
  case atStart => exact ⟨0, l, 0, by omega, rfl, rfl, rfl, by omega, by omega, by simp, by simp, by omega, by omega, B1⟩
  case round =>
    obtain ⟨k, nw, sm, hk, rfl, rfl, rfl, m1, m2, m3, m4, m5, m6, hB⟩ := hrel
    have M6 := Lib.hid m6
    clear m6 B1
    obtain ⟨c0, c1, c2, c3, c4⟩ := hB.cells
    by_cases hlt : k < n
    · obtain ⟨c, ad, rfl, hab, hac⟩ := HX.out k hlt
      have hac' : wr.cell? (ad.add k) = some (.int .i64 c) := by
        rw [hB.cell (by rw [block_of_add]; omega)]
        rw [show (batW b w).cell? (ad.add k) = w.cell? (ad.add k) from World.cell?_alloc_lt w _ _ (by rw [block_of_add]; exact hab)]
        exact hac
      clear hac
      have hst := HS.out nw c wr
      rcases stepZ_cases b nw c with ⟨_, _, z3⟩ | ⟨z, _, z1, z2, z3, z4, z5, z6⟩
      · generalize stepZ b nw c = r at *
        obtain ⟨r1, r2, r3⟩ := r
        simp only at z3
        have hne : (r3 != 0) = true := by rw [bne_iff_ne]; omega
        unfold stepPost at hst
        have HST := Lib.hid hst
        clear hst z3
        go_wp2_with fail
        refine HST.out.mono ?_
        rintro e w2 ⟨rfl, hb2⟩
        have B2 := hB.mk hb2
        clear c0 c1 c2 c3 c4 HST hb2
        go_wp2_with fail
        go_roundw
        case rel => exact ⟨k + 1, nw, sm, by omega, by go_num, rfl, rfl, by omega, by omega, by omega, by omega, by omega, M6.out, B2⟩
        case measure => simp [intOf]; omega
      · rw [z] at hst
        have hD := drawnZ_bd (b := b) (c := c) HG.out (by have := HG.out.ch1; omega)
        have hF : Hid (b.eff = 1000 → drawnZ b c = c) := fun h => drawnZ_full h
        generalize drawnZ b c = D at *
        obtain ⟨hD1, hD2⟩ := hD
        unfold stepPost at hst
        have HST := Lib.hid hst
        have y1 := HG.out.di1
        have y2 := HG.out.ch1
        have y3 : 0 ≤ nw + c := by have := HG.out.res0; omega
        clear hst z
        have hsum : nw + c - l ≤ sm + D := by omega
        by_cases he : nw + c = l
        · have hz : 0 ≤ sm + D := by omega
          by_cases hf : b.eff = 1000
          · have hz2 : Hid (sm + D = 0) := by
              show _ = _
              have := M6.out hf; have := hF.out hf; omega
            have hz3 : ((sm + D) != 0) = false := by rw [hz2.out]; rfl
            have e1 : (nw + c == l) = true := by simpa using he
            have e2 : (b.eff == 1000) = true := by simpa using hf
            have HE := Lib.hid he
            have HF := Lib.hid hf
            clear he hf
            go_wp2_with fail
            refine HST.out.mono ?_
            rintro e w2 ⟨rfl, hb2⟩
            have B2 := hB.mk hb2
            clear c0 c1 c2 c3 c4 HST hb2
            obtain ⟨c0, c1, c2, c3, c4⟩ := B2.cells
            go_wp2_with fail
            go_roundw
            case rel => exact ⟨k + 1, nw + c, sm + D, by omega, by go_num, rfl, rfl, by omega, by omega, by omega, by omega, by omega, fun h => by have := M6.out h; have := hF.out h; omega, B2⟩
            case measure => simp [intOf]; omega
          · have e1 : (nw + c == l) = true := by simpa using he
            have e2 : (b.eff == 1000) = false := by simpa using hf
            have HE := Lib.hid he
            have HF := Lib.hid hf
            clear he hf
            go_wp2_with fail
            refine HST.out.mono ?_
            rintro e w2 ⟨rfl, hb2⟩
            have B2 := hB.mk hb2
            clear c0 c1 c2 c3 c4 HST hb2
            obtain ⟨c0, c1, c2, c3, c4⟩ := B2.cells
            go_wp2_with fail
            go_roundw
            case rel => exact ⟨k + 1, nw + c, sm + D, by omega, by go_num, rfl, rfl, by omega, by omega, by omega, by omega, by omega, fun h => by have := M6.out h; have := hF.out h; omega, B2⟩
            case measure => simp [intOf]; omega
        · have e1 : (nw + c == l) = false := by simpa using he
          clear he
          go_wp2_with fail
          refine HST.out.mono ?_
          rintro e w2 ⟨rfl, hb2⟩
          have B2 := hB.mk hb2
          clear c0 c1 c2 c3 c4 HST hb2
          obtain ⟨c0, c1, c2, c3, c4⟩ := B2.cells
          go_wp2_with fail
          go_roundw
          case rel => exact ⟨k + 1, nw + c, sm + D, by omega, by go_num, rfl, rfl, by omega, by omega, by omega, by omega, by omega, fun h => by have := M6.out h; have := hF.out h; omega, B2⟩
          case measure => simp [intOf]; omega
    · go_wp2_with fail
      refine (awake_any _).mono ?_
      rintro e w2 ⟨rfl, hb2⟩
      have B2 := hB.mk hb2
      clear c0 c1 c2 c3 c4
      go_wp2_with fail
      go_ret
      exact ⟨rfl, B2.out⟩

theorem energy_law (b : Bat) (l : Int) (A : Option Addr) (cp : Nat) (xs : List Int) (w : World) (hx : RInts w A xs) :
    Calls Try.prog 6 #[b.v, .int .i64 l, .slice A xs.length cp] w fun e w' => e = .returned (.bool true) ∧ Below w.heap.size w w' := by
  by_cases h : 200 < xs.length ∨ b.ok = false ∨ l < 0 ∨ b.cap < l
  · exact energy_out b l A cp xs w h
  · have hok : b.ok = true := by
      by_cases k : b.ok = true
      · exact k
      · exact absurd (.inr (.inl (by simpa using k))) h
    exact energy_in b l A cp xs w hx (by omega) hok (by omega) (by omega)
end Go.Proofs.Ythoknhbjeddcjaa
