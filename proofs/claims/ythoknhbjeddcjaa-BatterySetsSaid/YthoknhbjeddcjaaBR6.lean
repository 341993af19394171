/-
  The walks of layer 39 (battery), the reference: Reach.
-/
import Derived.Test.YthoknhbjeddcjaaB4
import Derived.Test.YthoknhbjeddcjaaBR4
namespace Go.Proofs.Ythoknhbjeddcjaa
open Go.RowKit

theorem reachB_far {b : Bat} {l : Int} (hl : l ≤ b.cap) : ∀ (n : Nat) (y : Int), b.cap < y → reachB b l n y = false := by
  intro n y hy
  cases n with
  | zero => simp [reachB]; omega
  | succ n =>
    rw [reachB_succ, ← Bool.not_eq_true]
    intro h
    simp only [nextTo, List.any_eq_true, Bool.and_eq_true, canZ_iff] at h
    obtain ⟨x, _, _, h⟩ := h
    omega
theorem listTo_far {R : Int → Bool} {m : Nat} (h : ∀ y : Int, (m : Int) ≤ y → R y = false) : ∀ k : Nat, listTo R (m + k) = listTo R m := by
  intro k
  induction k with
  | zero => rfl
  | succ k ih => rw [← Nat.add_assoc, listTo_succ, ih, if_neg (by rw [h _ (by omega)]; simp), List.append_nil]

set_option maxHeartbeats 4000000 in
theorem rreach_bad (b : Bat) (l n : Int) (w : World) (h : ¬ (b.ok = true ∧ 0 ≤ l ∧ l ≤ b.cap ∧ 0 ≤ n ∧ n ≤ 96)) : Calls Try.prog 18 #[b.v, .int .i64 l, .int .i64 n] w (IntsOut [] w) := by
  have hc := rcheck_any b
  by_cases hok : b.ok = true
  · rw [chk_true hok] at hc
    have h' : ¬ (0 ≤ l ∧ l ≤ b.cap ∧ 0 ≤ n ∧ n ≤ 96) := fun g => h ⟨hok, g⟩
    simp only [Bat.v] at hc ⊢
    have HC := Lib.hid hc
    clear hc h hok
    by_cases kw : wB l 0 b.cap = true
    · have kn : wB n 0 96 = false := by
        rw [wB_false]; have := wB_true.1 kw; omega
      clear h'
      go_enter Try.func18, Try.ntmps18
      go_wp2_with fail
      refine (HC.out _).mono ?_
      rintro e w1 ⟨rfl, hb⟩
      obtain ⟨hc, hf⟩ := bcell hb
      go_wp2_with (first | (go_at_call 22; refine (between_any _ _ _ _).mono ?_; rintro e w' ⟨rfl, rfl⟩) | fail)
      go_ret
      exact nil_out (((Below.refl _ _).alloc (Nat.le_refl _) _).trans (hb.mono (by simp)))
    · simp only [Bool.not_eq_true] at kw
      clear h'
      go_enter Try.func18, Try.ntmps18
      go_wp2_with fail
      refine (HC.out _).mono ?_
      rintro e w1 ⟨rfl, hb⟩
      obtain ⟨hc, hf⟩ := bcell hb
      go_wp2_with (first | (go_at_call 22; refine (between_any _ _ _ _).mono ?_; rintro e w' ⟨rfl, rfl⟩) | fail)
      go_ret
      exact nil_out (((Below.refl _ _).alloc (Nat.le_refl _) _).trans (hb.mono (by simp)))
  · rw [chk_false (by simpa using hok)] at hc
    clear hok h
    simp only [Bat.v] at hc ⊢
    have HC := Lib.hid hc
    clear hc
    go_enter Try.func18, Try.ntmps18
    go_wp2_with fail
    refine (HC.out _).mono ?_
    rintro e w1 ⟨rfl, hb⟩
    go_wp2_with fail
    go_ret
    exact nil_out (((Below.refl _ _).alloc (Nat.le_refl _) _).trans (hb.mono (by simp)))

/-- The row of falses that the reference makes. -/
def made41 : Array Value := madeCells #[Value.bool false] 41
theorem made41_size : made41.size = 41 := size_madeCells _ _
theorem made41_get {i : Nat} (h : i < 41) : made41[i]? = some (.bool false) := by simp [made41, madeCells, h, Nat.mod_one]
theorem row41 (w : World) (t : TypeId) : (w.alloc (.cells made41 t)).rowIs w.heap.size t 41 (fun _ => .bool false) := World.rowIs_made w (.bool false) 41 t

set_option maxHeartbeats 4000000 in
theorem rreach_ok (b : Bat) (l n : Nat) (w : World) (hok : b.ok = true) (C : Nat) (hC : b.cap = C) (k1 : (l : Int) ≤ C) (k2 : (n : Int) ≤ 96) :
    Calls Try.prog 18 #[b.v, .int .i64 l, .int .i64 n] w (IntsOut (listTo (reachB b l n) (C + 1)) w) := by
  have hc := rcheck_any b
  rw [chk_true hok] at hc
  have hg := Bat.good hok
  have hCb : (C : Int) ≤ 40 := by have := hg.cap1; omega
  have hch := rchoices_any b
  clear hok hg
  have hmk : ∀ w : World, (Instr.makeSlice 38 (.int .i64 41) (.int .i64 41)).run Try.prog w = .ok (.slice (some ⟨w.heap.size, 0, none⟩) 41 41) (w.alloc (.cells made41 4)) :=
    run_make_row' (P := Try.prog) 38 4 (.bool false) 1 Try.underlying38 Try.infoBool rfl .i64 .i64 41 (by omega) (by omega)
  simp only [Bat.v, hC] at hc hch ⊢
  have HCAP := Lib.hid hC
  have HC := Lib.hid hc
  have HCH := Lib.hid hch
  clear hc hch hC
  have kw : wB l 0 C = true := wB_true.2 ⟨by omega, k1⟩
  have kn : wB n 0 96 = true := wB_true.2 ⟨by omega, k2⟩
  have hcell0 : ∀ w1 : World, (w1.alloc (.cells made41 4)).cell? ⟨w1.heap.size, l, none⟩ = some (.bool false) := fun w1 => (row41 w1 4).cell (by omega)
  obtain ⟨i0, hi, hz0, hz1, hz2⟩ := info_parts Try.infoInt
  go_enter Try.func18, Try.ntmps18
  go_wp2_with fail
  refine (HC.out _).mono ?_
  rintro e w1 ⟨rfl, hb⟩
  obtain ⟨hc, hf⟩ := bcell hb
  go_wp2_with (first | (go_at_call 22; refine (between_any _ _ _ _).mono ?_; rintro e w' ⟨rfl, rfl⟩) | fail)
  have hW : Below (w.heap.size + 1) (w.alloc (.cells #[.int .i64 ↑C, .int .i64 b.reserve, .int .i64 b.charge, .int .i64 b.discharge, .int .i64 b.eff] 23)) w1 := by simpa using hb
  have hs1 := hW.size
  simp only [World.size_alloc] at hs1
  have hrow0 : (w1.alloc (.cells (made41.setIfInBounds l (Value.bool true)) 4)).rowIs w1.heap.size 4 41 (fun j => .bool (reachB b l 0 j)) := by
    have h := World.rowIs_alloc w1 (made41.setIfInBounds l (Value.bool true)) 4 (fun j => .bool (reachB b l 0 j)) (by
      intro i hi
      rw [Array.size_setIfInBounds, made41_size] at hi
      rw [Array.getElem?_setIfInBounds]
      by_cases hli : l = i
      · subst hli
        rw [if_pos rfl, if_pos (by rw [made41_size]; exact hi)]
        simp [reachB]
      · rw [if_neg hli, made41_get hi]
        simp [reachB]; omega)
    rw [Array.size_setIfInBounds, made41_size] at h
    exact h
  clear hb hc hf hcell0
  go_loopw [7, 8] (fun now i wr => ∃ (k g : Nat), k ≤ n ∧ i = .int .i64 k ∧ now = .slice (some ⟨g, 0, none⟩) 41 41 ∧ w.heap.size + 1 ≤ g ∧ wr.rowIs g 4 41 (fun j => .bool (reachB b l k j)) ∧
      Below (w.heap.size + 1) (w.alloc (.cells #[.int .i64 ↑C, .int .i64 b.reserve, .int .i64 b.charge, .int .i64 b.discharge, .int .i64 b.eff] 23)) wr)
    (fun _ i _ => n - (intOf i).toNat)
  case atStart => exact ⟨0, w1.heap.size, by omega, rfl, rfl, hs1, hrow0, hW.alloc hs1 _⟩
  case round =>
    clear hW hs1 hrow0
    obtain ⟨k, g, hk, rfl, rfl, hg, hrow, hB⟩ := hrel
    obtain ⟨wo, rfl⟩ : ∃ wo : World, wo = wr := ⟨_, rfl⟩
    have hsz := hB.size
    simp only [World.size_alloc] at hsz
    have hglt := hrow.lt
    by_cases hlt : k < n
    · obtain ⟨hc, hf⟩ := bcell' hB
      go_wp2_with fail
      clear hc hf
      go_loopw [10] (fun i wr => ∃ j : Nat, j ≤ C + 1 ∧ i = .int .i64 j ∧ wr.rowIs wo.heap.size 4 41 (fun y => .bool (nextTo b (reachB b l k) j y)) ∧ Below wo.heap.size wo wr)
        (fun i _ => C + 1 - (intOf i).toNat)
      case atStart => exact ⟨0, by omega, rfl, row41 _ _, (Below.refl _ _).alloc (Nat.le_refl _) _⟩
      case round =>
        obtain ⟨j, hj, rfl, hnext, hBo⟩ := hrel
        obtain ⟨wj, rfl⟩ : ∃ wj : World, wj = wr := ⟨_, rfl⟩
        have hszj := hBo.size
        have hnlt := hnext.lt
        obtain ⟨hc, hf⟩ := bcell' (hB.trans (hBo.mono (by omega)))
        by_cases hltj : j < C + 1
        · have hcell := (row_below' hrow hBo hglt).cell (i := j) (by omega)
          have hns := Lib.hid (nextTo_succ b (reachB b l k) j)
          by_cases hR : reachB b l k ↑j = true
          · have HR := Lib.hid hR
            rw [hR] at hcell
            clear hR
            go_wp2_with fail
            refine (HCH.out _ _).mono ?_
            clear hc hf
            rintro e w3 ⟨A, cc, rfl, hcs, hfresh, hb3⟩
            have hn3 := row_below hnext hb3
            have hs3 := hb3.size
            have hmem : ∀ c ∈ choicesZ b ↑j, canZ b ↑j c = true := fun c h => mem_choicesZ.1 h
            have hits0 := hits_choices b j
            have hclen := choicesZ_length b ↑j
            generalize choicesZ b ↑j = cs at *
            have HM := Lib.hid hmem
            have HH := Lib.hid hits0
            clear hmem hits0
            go_wp2_with fail
            go_loopw [56] (fun i wr => ∃ m : Nat, m ≤ cs.length ∧ i = .int .i64 m ∧ wr.rowIs wo.heap.size 4 41 (fun y => .bool (nextTo b (reachB b l k) j y || hits j (cs.take m) y)) ∧ w3.grownBy wr (some wo.heap.size))
              (fun i _ => cs.length - (intOf i).toNat)
            case atStart => exact ⟨0, by omega, rfl, hn3.congr (fun y _ => by simp [hits]), World.grownBy.refl _ _⟩
            case round =>
              obtain ⟨m, hm, rfl, hrm, hgm⟩ := hrel
              by_cases hltm : m < cs.length
              · obtain ⟨ad, rfl, hadb, hadc⟩ := hcs.at_ hltm
                have hne := hfresh ad rfl
                have hadc' : wr.cell? (ad.add m) = some (.int .i64 cs[m]) := (World.cell?_of_block (hgm.block (ad.add m).block (by rw [block_of_add]; exact hadb) (by rw [block_of_add]; intro h; injection h with h; omega))).trans hadc
                have hcan := HM.out cs[m] (List.getElem_mem hltm)
                rw [canZ_iff] at hcan
                have hlo : 0 ≤ (j : Int) + cs[m] := by
                  have hgd := (Bat.good hcan.1).res0
                  omega
                have hhi : (j : Int) + cs[m] < (C : Int) + 1 := by have := HCAP.out; omega
                have hsn := Lib.hid (hits_snoc j (cs.take m) cs[m])
                have htk := Lib.hid (List.take_succ_eq_append_getElem hltm)
                clear hcan hadc
                generalize cs[m] = c at *
                have hst1 := hrm.cell (i := ((j : Int) + c).toNat) (by omega)
                have hst2 := hrm.frozen ((j : Int) + c).toNat
                go_wp2_with fail
                go_roundw
                case rel =>
                  refine ⟨m + 1, by omega, by go_num, ?_, only_setCell hgm (.inl rfl) _⟩
                  refine (hrm.set ((j : Int) + c).toNat (.bool true)).congr fun y hy => ?_
                  rw [htk.out, hsn.out]
                  by_cases hyy : y = ((j : Int) + c).toNat
                  · rw [if_pos hyy]; simp; right; right; omega
                  · rw [if_neg hyy]; congr 1
                    rw [show decide ((j : Int) + c = (y : Int)) = false by simp; omega, Bool.or_false]
                case measure => simp [intOf]; omega
              · obtain rfl : m = cs.length := by omega
                have hnew : Hid (wr.rowIs wo.heap.size 4 41 (fun y => .bool (nextTo b (reachB b l k) (j + 1) y))) := by
                  show World.rowIs _ _ _ _ _
                  refine hrm.congr fun y _ => ?_
                  rw [List.take_length, HH.out, hns.out, HR.out, Bool.true_and]
                have hbel : Below wo.heap.size wo wr := (hBo.trans (hb3.mono hszj)).grown hgm (by omega) (by intro g' hg'; injection hg' with hg'; omega)
                clear hrm hgm
                go_wp2_with fail
                go_roundw
                case rel => exact ⟨j + 1, by omega, by go_num, hnew.out, hbel⟩
                case measure => simp [intOf]; omega
          · have HR : Hid (reachB b l k ↑j = false) := by show _ = _; simpa using hR
            rw [HR.out] at hcell
            clear hR
            go_wp2_with fail
            go_roundw
            case rel =>
              refine ⟨j + 1, by omega, by go_num, hnext.congr fun y _ => ?_, hBo⟩
              rw [hns.out, HR.out, Bool.false_and, Bool.or_false]
            case measure => simp [intOf]; omega
        · obtain rfl : j = C + 1 := by omega
          have hnew : Hid (wj.rowIs wo.heap.size 4 41 (fun y => .bool (reachB b l (k + 1) y))) := by
            show World.rowIs _ _ _ _ _
            refine hnext.congr fun y _ => ?_
            rw [reachB_succ, HCAP.out, Int.toNat_natCast]
          go_wp2_with fail
          go_roundw
          case rel => exact ⟨k + 1, wo.heap.size, by omega, by go_num, rfl, by omega, hnew.out, hB.trans (hBo.mono (by omega))⟩
          case measure => simp [intOf]; omega
    · obtain rfl : k = n := by omega
      go_wp2_with fail
      go_loopw [13, 71] (fun out i wr => ∃ j : Nat, j ≤ 41 ∧ i = .int .i64 j ∧ wr.ownsRow wo.heap.size 3 1 out (listTo (reachB b l k) j).length (ints (listTo (reachB b l k) j)) ∧ Below wo.heap.size wo wr)
        (fun _ i _ => 41 - (intOf i).toNat)
      case atStart => exact ⟨0, by omega, rfl, World.ownsRow_nil _ _ _ _, Below.refl _ _⟩
      case round =>
        obtain ⟨j, hj, rfl, hown, hBo⟩ := hrel
        have hszj := hBo.size
        by_cases hltj : j < 41
        · have hcell := (row_below' hrow hBo hglt).cell (i := j) (by omega)
          have hns := Lib.hid (listTo_succ (reachB b l k) j)
          have hlen := listTo_len (reachB b l k) j
          by_cases hR : reachB b l k ↑j = true
          · have HR := Lib.hid hR
            rw [hR] at hcell
            clear hR
            go_wp2_with (at_builtin; go_loud (refine wpList_append_new _ _ rfl _ _ 31 rfl wo.heap.size 3 i0 (.int .i64 0) 1 8 Try.underlying31 hi hz0 hz1 hz2 rfl (by decide) (by decide) _ _ _ rfl hown #[.int .i64 ↑j] rfl (one_int _ _) rfl rfl (by omega) (by omega) ?_))
            intro v' w3 hown3 hb3
            clear hown
            go_wp2
            go_roundw
            case rel =>
              have hfin : w3.ownsRow wo.heap.size 3 1 v' (listTo (reachB b (↑l) k) (j + 1)).length (ints (listTo (reachB b (↑l) k) (j + 1))) := by
                rw [hns.out, if_pos HR.out, ints_append, List.length_append]
                exact hown3
              exact ⟨j + 1, by omega, by go_num, hfin, hBo.trans hb3⟩
            case measure => simp [intOf]; omega
          · have HR : Hid (reachB b l k ↑j = false) := by show _ = _; simpa using hR
            rw [HR.out] at hcell
            clear hR
            go_wp2_with fail
            go_roundw
            case rel =>
              refine ⟨j + 1, by omega, by go_num, ?_, hBo⟩
              rw [hns.out, if_neg (by rw [HR.out]; simp), List.append_nil]
              exact hown
            case measure => simp [intOf]; omega
        · obtain rfl : j = 41 := by omega
          go_wp2_with fail
          go_ret
          rw [show listTo (reachB b l k) (C + 1) = listTo (reachB b l k) 41 from by rw [show 41 = C + 1 + (40 - C) by omega]; exact (listTo_far (fun y hy => reachB_far (b := b) (by rw [HCAP.out]; exact k1) k y (by rw [HCAP.out]; omega)) _).symm]
          exact ints_out hown (by omega) (((Below.refl _ _).alloc (Nat.le_refl _) _).trans ((hB.trans (hBo.mono (by omega))).mono (by omega)))

theorem rreach_any (b : Bat) (l n : Int) (w : World) : Calls Try.prog 18 #[b.v, .int .i64 l, .int .i64 n] w (IntsOut (reachZ b l n) w) := by
  by_cases h : b.ok = true ∧ 0 ≤ l ∧ l ≤ b.cap ∧ 0 ≤ n ∧ n ≤ 96
  · rw [reach_is h]
    obtain ⟨hok, h1, h2, h3, h4⟩ := h
    obtain ⟨L, rfl⟩ := Int.eq_ofNat_of_zero_le h1
    obtain ⟨m, rfl⟩ := Int.eq_ofNat_of_zero_le h3
    have hC : b.cap = ((b.cap.toNat : Nat) : Int) := by have := (Bat.good hok).cap0; omega
    exact rreach_ok b L m w hok b.cap.toNat hC (by omega) (by omega)
  · rw [reach_not h]
    exact rreach_bad b l n w h
end Go.Proofs.Ythoknhbjeddcjaa
