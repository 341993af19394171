/-
  The walks of layer 39 (battery), part 4: Reach of the program.
-/
import Derived.Test.YthoknhbjeddcjaaB3
import Derived.Test.YthoknhbjeddcjaaBP2
import Derived.Test.YthoknhbjeddcjaaBR1
namespace Go.Proofs.Ythoknhbjeddcjaa
open Go.RowKit

theorem Try.infoBool : (Try.prog.info? 4).map (fun i => (i.zero, i.size, i.bytes)) = some (some (.bool false), 1, 1) := by kernel_rfl

/-- What the levels below j give for the next step. -/
def nextTo (b : Bat) (R : Int → Bool) (j : Nat) (y : Int) : Bool := (List.range j).any fun x => R (x : Int) && canZ b (x : Int) (y - (x : Int))
theorem nextTo_succ (b : Bat) (R : Int → Bool) (j : Nat) (y : Int) : nextTo b R (j + 1) y = (nextTo b R j y || (R (j : Int) && canZ b (j : Int) (y - (j : Int)))) := by
  simp [nextTo, List.range_succ, List.any_append]
theorem reachB_succ (b : Bat) (l : Int) (n : Nat) (y : Int) : reachB b l (n + 1) y = nextTo b (reachB b l n) (b.cap.toNat + 1) y := rfl
/-- The charges of a list lead from j to y. -/
def hits (j : Nat) (cs : List Int) (y : Int) : Bool := cs.any fun c => decide ((j : Int) + c = y)
theorem hits_snoc (j : Nat) (cs : List Int) (c y : Int) : hits j (cs ++ [c]) y = (hits j cs y || decide ((j : Int) + c = y)) := by simp [hits, List.any_append]
theorem hits_choices (b : Bat) (j : Nat) (y : Int) : hits j (choicesZ b (j : Int)) y = canZ b (j : Int) (y - (j : Int)) := by
  rw [Bool.eq_iff_iff]
  simp only [hits, List.any_eq_true, decide_eq_true_eq, mem_choicesZ]
  constructor
  · rintro ⟨c, hc, rfl⟩
    rwa [show (j : Int) + c - (j : Int) = c by omega]
  · intro h
    exact ⟨y - (j : Int), h, by omega⟩
def listTo (R : Int → Bool) (j : Nat) : List Int := ((List.range j).map fun (i : Nat) => (i : Int)).filter R
theorem listTo_succ (R : Int → Bool) (j : Nat) : listTo R (j + 1) = listTo R j ++ if R (j : Int) = true then [(j : Int)] else [] := by
  simp only [listTo, List.range_succ, List.map_append, List.filter_append, List.map_cons, List.map_nil, List.filter_cons, List.filter_nil]
theorem listTo_len (R : Int → Bool) (j : Nat) : (listTo R j).length ≤ j := by
  refine Nat.le_trans (List.length_filter_le _ _) ?_
  simp

theorem reach_not {b : Bat} {l n : Int} (h : ¬ (b.ok = true ∧ 0 ≤ l ∧ l ≤ b.cap ∧ 0 ≤ n ∧ n ≤ 96)) : reachZ b l n = [] := by unfold reachZ; rw [if_neg h]
theorem reach_is {b : Bat} {l n : Int} (h : b.ok = true ∧ 0 ≤ l ∧ l ≤ b.cap ∧ 0 ≤ n ∧ n ≤ 96) : reachZ b l n = listTo (reachB b l n.toNat) (b.cap.toNat + 1) := by unfold reachZ; rw [if_pos h]; rfl

set_option maxHeartbeats 4000000 in
theorem reach_bad (b : Bat) (l n : Int) (w : World) (h : ¬ (b.ok = true ∧ 0 ≤ l ∧ l ≤ b.cap ∧ 0 ≤ n ∧ n ≤ 96)) : Calls Try.prog 17 #[b.v, .int .i64 l, .int .i64 n] w (IntsOut [] w) := by
  have hc := check_any b
  by_cases hok : b.ok = true
  · rw [chk_true hok] at hc
    have h' : ¬ (0 ≤ l ∧ l ≤ b.cap ∧ 0 ≤ n ∧ n ≤ 96) := fun g => h ⟨hok, g⟩
    have hcs : l < 0 ∨ (0 ≤ l ∧ b.cap < l) ∨ (0 ≤ l ∧ l ≤ b.cap ∧ n < 0) ∨ (0 ≤ l ∧ l ≤ b.cap ∧ 0 ≤ n ∧ 96 < n) := by omega
    clear h hok h'
    simp only [Bat.v] at hc ⊢
    have HC := Lib.hid hc
    clear hc
    rcases hcs with m | ⟨m0, m1⟩ | ⟨m0, m1, m2⟩ | ⟨m0, m1, m2, m3⟩
    all_goals
      go_enter Try.func17, Try.ntmps17
      go_wp2_with fail
      refine (HC.out _).mono ?_
      rintro e w1 ⟨rfl, hb⟩
      obtain ⟨hc, hf⟩ := bcell hb
      go_wp2_with fail
      go_ret
      exact nil_out (((Below.refl _ _).alloc (Nat.le_refl _) _).trans (hb.mono (by simp)))
  · rw [chk_false (by simpa using hok)] at hc
    clear hok h
    simp only [Bat.v] at hc ⊢
    have HC := Lib.hid hc
    clear hc
    go_enter Try.func17, Try.ntmps17
    go_wp2_with fail
    refine (HC.out _).mono ?_
    rintro e w1 ⟨rfl, hb⟩
    go_wp2_with fail
    go_ret
    exact nil_out (((Below.refl _ _).alloc (Nat.le_refl _) _).trans (hb.mono (by simp)))

set_option maxHeartbeats 4000000 in
theorem reach_ok (b : Bat) (l n : Nat) (w : World) (hok : b.ok = true) (C : Nat) (hC : b.cap = C) (k1 : (l : Int) ≤ C) (k2 : (n : Int) ≤ 96) :
    Calls Try.prog 17 #[b.v, .int .i64 l, .int .i64 n] w (IntsOut (listTo (reachB b l n) (C + 1)) w) := by
  have hc := check_any b
  rw [chk_true hok] at hc
  have hg := Bat.good hok
  have hCb : (C : Int) ≤ 40 := by have := hg.cap1; omega
  have hch := choices_any b
  have hl : (l : Int) = ((l : Nat) : Int) := rfl
  clear hok hg hl
  have hmk := run_make_row' (P := Try.prog) 38 4 (.bool false) 1 Try.underlying38 Try.infoBool rfl .i64 .i64 (C + 1) (by omega) (by omega)
  have ec : ((C + 1 : Nat) : Int) = (C : Int) + 1 := by omega
  rw [ec] at hmk
  clear ec
  simp only [Bat.v, hC] at hc hch ⊢
  have HCAP := Lib.hid hC
  have HC := Lib.hid hc
  have HCH := Lib.hid hch
  clear hc hch hC
  have q1 : decide ((l : Int) < 0) = false := by rw [decide_eq_false_iff_not]; omega
  have q2 : decide ((n : Int) < 0) = false := by rw [decide_eq_false_iff_not]; omega
  have q3 : decide ((96 : Int) < (n : Int)) = false := by rw [decide_eq_false_iff_not]; omega
  have q4 : decide (C < l) = false := by rw [decide_eq_false_iff_not]; omega
  have hcell0 : ∀ w1 : World, (w1.alloc (.cells (madeCells #[Value.bool false] (C + 1)) 4)).cell? ⟨w1.heap.size, l, none⟩ = some (.bool false) := fun w1 => (World.rowIs_made w1 (.bool false) (C + 1) 4).cell (by omega)
  obtain ⟨i0, hi, hz0, hz1, hz2⟩ := info_parts Try.infoInt
  go_enter Try.func17, Try.ntmps17
  go_wp2_with fail
  refine (HC.out _).mono ?_
  rintro e w1 ⟨rfl, hb⟩
  obtain ⟨hc, hf⟩ := bcell hb
  go_wp2_with fail
  have hW : Below (w.heap.size + 1) (w.alloc (.cells #[.int .i64 ↑C, .int .i64 b.reserve, .int .i64 b.charge, .int .i64 b.discharge, .int .i64 b.eff] 23)) w1 := by simpa using hb
  have hs1 := hW.size
  simp only [World.size_alloc] at hs1
  have hrow0 : (w1.alloc (.cells ((madeCells #[Value.bool false] (C + 1)).setIfInBounds l (Value.bool true)) 4)).rowIs w1.heap.size 4 (C + 1) (fun j => .bool (reachB b l 0 j)) := by
    have h := World.rowIs_alloc w1 ((madeCells #[Value.bool false] (C + 1)).setIfInBounds l (Value.bool true)) 4 (fun j => .bool (reachB b l 0 j)) (by
      intro i hi
      simp only [Array.size_setIfInBounds, size_madeCells] at hi
      rw [Array.getElem?_setIfInBounds]
      by_cases hli : l = i
      · subst hli
        rw [if_pos rfl, if_pos (by rw [size_madeCells]; exact hi)]
        simp [reachB]
      · rw [if_neg hli]
        simp [madeCells, hi, reachB, Nat.mod_one]; omega)
    rw [Array.size_setIfInBounds, size_madeCells] at h
    exact h
  clear hb hc hf hcell0
  go_loopw [7, 45] (fun now i wr => ∃ (k g : Nat), k ≤ n ∧ i = .int .i64 k ∧ now = .slice (some ⟨g, 0, none⟩) (C + 1) (C + 1) ∧ w.heap.size + 1 ≤ g ∧ wr.rowIs g 4 (C + 1) (fun j => .bool (reachB b l k j)) ∧
      Below (w.heap.size + 1) (w.alloc (.cells #[.int .i64 ↑C, .int .i64 b.reserve, .int .i64 b.charge, .int .i64 b.discharge, .int .i64 b.eff] 23)) wr)
    (fun _ i _ => n - (intOf i).toNat)
  case atStart => exact ⟨0, w1.heap.size, by omega, rfl, rfl, hs1, hrow0, hW.alloc hs1 _⟩
  case round =>
    clear hW hs1 hrow0
    obtain ⟨k, g, hk, rfl, rfl, hg, hrow, hB⟩ := hrel
    obtain ⟨wo, rfl⟩ : ∃ wo : World, wo = wr := ⟨_, rfl⟩
    have hsz := hB.size
    simp only [World.size_alloc] at hsz
    have hglt := hrow.lt
    by_cases hlt : k < n
    · obtain ⟨hc, hf⟩ := bcell' hB
      go_wp2_with fail
      clear hc hf
      go_loopw [53] (fun i wr => ∃ j : Nat, j ≤ C + 1 ∧ i = .int .i64 j ∧ wr.rowIs wo.heap.size 4 (C + 1) (fun y => .bool (nextTo b (reachB b l k) j y)) ∧ Below wo.heap.size wo wr)
        (fun i _ => C + 1 - (intOf i).toNat)
      case atStart => exact ⟨0, by omega, rfl, World.rowIs_made _ _ _ _, (Below.refl _ _).alloc (Nat.le_refl _) _⟩
      case round =>
        obtain ⟨j, hj, rfl, hnext, hBo⟩ := hrel
        obtain ⟨wj, rfl⟩ : ∃ wj : World, wj = wr := ⟨_, rfl⟩
        have hszj := hBo.size
        have hnlt := hnext.lt
        by_cases hltj : j < C + 1
        · have hcell := (row_below' hrow hBo hglt).cell hltj
          have hns := Lib.hid (nextTo_succ b (reachB b l k) j)
          by_cases hR : reachB b l k ↑j = true
          · have HR := Lib.hid hR
            rw [hR] at hcell
            clear hR
            obtain ⟨hc, hf⟩ := bcell' (hB.trans (hBo.mono (by omega)))
            go_wp2_with fail
            refine (HCH.out _ _).mono ?_
            clear hc hf
            rintro e w3 ⟨A, cc, rfl, hcs, hfresh, hb3⟩
            have hn3 := row_below hnext hb3
            have hs3 := hb3.size
            have hmem : ∀ c ∈ choicesZ b ↑j, canZ b ↑j c = true := fun c h => mem_choicesZ.1 h
            have hits0 := hits_choices b j
            have hclen := choicesZ_length b ↑j
            generalize choicesZ b ↑j = cs at *
            have HM := Lib.hid hmem
            have HH := Lib.hid hits0
            clear hmem hits0
            go_wp2_with fail
            go_loopw [64] (fun i wr => ∃ m : Nat, m ≤ cs.length ∧ i = .int .i64 m ∧ wr.rowIs wo.heap.size 4 (C + 1) (fun y => .bool (nextTo b (reachB b l k) j y || hits j (cs.take m) y)) ∧ w3.grownBy wr (some wo.heap.size))
              (fun i _ => cs.length - (intOf i).toNat)
            case atStart => exact ⟨0, by omega, rfl, hn3.congr (fun y _ => by simp [hits]), World.grownBy.refl _ _⟩
            case round =>
              obtain ⟨m, hm, rfl, hrm, hgm⟩ := hrel
              by_cases hltm : m < cs.length
              · obtain ⟨ad, rfl, hadb, hadc⟩ := hcs.at_ hltm
                have hne := hfresh ad rfl
                have hadc' : wr.cell? (ad.add m) = some (.int .i64 cs[m]) := (World.cell?_of_block (hgm.block (ad.add m).block (by rw [block_of_add]; exact hadb) (by rw [block_of_add]; intro h; injection h with h; omega))).trans hadc
                have hcan := HM.out cs[m] (List.getElem_mem hltm)
                rw [canZ_iff] at hcan
                have hlo : 0 ≤ (j : Int) + cs[m] := by
                  have hgd := (Bat.good hcan.1).res0
                  omega
                have hhi : (j : Int) + cs[m] < (C : Int) + 1 := by have := HCAP.out; omega
                have hsn := Lib.hid (hits_snoc j (cs.take m) cs[m])
                have htk := Lib.hid (List.take_succ_eq_append_getElem hltm)
                clear hcan hadc
                generalize cs[m] = c at *
                have hst1 := hrm.cell (i := ((j : Int) + c).toNat) (by omega)
                have hst2 := hrm.frozen ((j : Int) + c).toNat
                go_wp2_with fail
                go_roundw
                case rel =>
                  refine ⟨m + 1, by omega, by go_num, ?_, only_setCell hgm (.inl rfl) _⟩
                  refine (hrm.set ((j : Int) + c).toNat (.bool true)).congr fun y hy => ?_
                  rw [htk.out, hsn.out]
                  by_cases hyy : y = ((j : Int) + c).toNat
                  · rw [if_pos hyy]; simp; right; right; omega
                  · rw [if_neg hyy]; congr 1
                    rw [show decide ((j : Int) + c = (y : Int)) = false by simp; omega, Bool.or_false]
                case measure => simp [intOf]; omega
              · obtain rfl : m = cs.length := by omega
                have hnew : Hid (wr.rowIs wo.heap.size 4 (C + 1) (fun y => .bool (nextTo b (reachB b l k) (j + 1) y))) := by
                  show World.rowIs _ _ _ _ _
                  refine hrm.congr fun y _ => ?_
                  rw [List.take_length, HH.out, hns.out, HR.out, Bool.true_and]
                have hbel : Below wo.heap.size wo wr := (hBo.trans (hb3.mono hszj)).grown hgm (by omega) (by intro g' hg'; injection hg' with hg'; omega)
                clear hrm hgm
                go_wp2_with fail
                go_roundw
                case rel => exact ⟨j + 1, by omega, by go_num, hnew.out, hbel⟩
                case measure => simp [intOf]; omega
          · have HR : Hid (reachB b l k ↑j = false) := by show _ = _; simpa using hR
            rw [HR.out] at hcell
            clear hR
            go_wp2_with fail
            go_roundw
            case rel =>
              refine ⟨j + 1, by omega, by go_num, hnext.congr fun y _ => ?_, hBo⟩
              rw [hns.out, HR.out, Bool.false_and, Bool.or_false]
            case measure => simp [intOf]; omega
        · obtain rfl : j = C + 1 := by omega
          have hnew : Hid (wj.rowIs wo.heap.size 4 (C + 1) (fun y => .bool (reachB b l (k + 1) y))) := by
            show World.rowIs _ _ _ _ _
            refine hnext.congr fun y _ => ?_
            rw [reachB_succ, HCAP.out, Int.toNat_natCast]
          go_wp2_with fail
          go_roundw
          case rel => exact ⟨k + 1, wo.heap.size, by omega, by go_num, rfl, by omega, hnew.out, hB.trans (hBo.mono (by omega))⟩
          case measure => simp [intOf]; omega
    · obtain rfl : k = n := by omega
      go_wp2_with fail
      go_loopw [13, 79] (fun out i wr => ∃ j : Nat, j ≤ C + 1 ∧ i = .int .i64 j ∧ wr.ownsRow wo.heap.size 3 1 out (listTo (reachB b l k) j).length (ints (listTo (reachB b l k) j)) ∧ Below wo.heap.size wo wr)
        (fun _ i _ => C + 1 - (intOf i).toNat)
      case atStart => exact ⟨0, by omega, rfl, World.ownsRow_nil _ _ _ _, Below.refl _ _⟩
      case round =>
        obtain ⟨j, hj, rfl, hown, hBo⟩ := hrel
        have hszj := hBo.size
        by_cases hltj : j < C + 1
        · have hcell := (row_below' hrow hBo hglt).cell hltj
          have hns := Lib.hid (listTo_succ (reachB b l k) j)
          have hlen := listTo_len (reachB b l k) j
          by_cases hR : reachB b l k ↑j = true
          · have HR := Lib.hid hR
            rw [hR] at hcell
            clear hR
            go_wp2_with (at_builtin; go_loud (refine wpList_append_new _ _ rfl _ _ 31 rfl wo.heap.size 3 i0 (.int .i64 0) 1 8 Try.underlying31 hi hz0 hz1 hz2 rfl (by decide) (by decide) _ _ _ rfl hown #[.int .i64 ↑j] rfl (one_int _ _) rfl rfl (by omega) (by omega) ?_))
            intro v' w3 hown3 hb3
            clear hown
            go_wp2
            go_roundw
            case rel =>
              have hfin : w3.ownsRow wo.heap.size 3 1 v' (listTo (reachB b (↑l) k) (j + 1)).length (ints (listTo (reachB b (↑l) k) (j + 1))) := by
                rw [hns.out, if_pos HR.out, ints_append, List.length_append]
                exact hown3
              exact ⟨j + 1, by omega, by go_num, hfin, hBo.trans hb3⟩
            case measure => simp [intOf]; omega
          · have HR : Hid (reachB b l k ↑j = false) := by show _ = _; simpa using hR
            rw [HR.out] at hcell
            clear hR
            go_wp2_with fail
            go_roundw
            case rel =>
              refine ⟨j + 1, by omega, by go_num, ?_, hBo⟩
              rw [hns.out, if_neg (by rw [HR.out]; simp), List.append_nil]
              exact hown
            case measure => simp [intOf]; omega
        · obtain rfl : j = C + 1 := by omega
          go_wp2_with fail
          go_ret
          exact ints_out hown (by omega) (((Below.refl _ _).alloc (Nat.le_refl _) _).trans ((hB.trans (hBo.mono (by omega))).mono (by omega)))

theorem reach_any (b : Bat) (l n : Int) (w : World) : Calls Try.prog 17 #[b.v, .int .i64 l, .int .i64 n] w (IntsOut (reachZ b l n) w) := by
  by_cases h : b.ok = true ∧ 0 ≤ l ∧ l ≤ b.cap ∧ 0 ≤ n ∧ n ≤ 96
  · rw [reach_is h]
    obtain ⟨hok, h1, h2, h3, h4⟩ := h
    obtain ⟨L, rfl⟩ := Int.eq_ofNat_of_zero_le h1
    obtain ⟨m, rfl⟩ := Int.eq_ofNat_of_zero_le h3
    have hC : b.cap = ((b.cap.toNat : Nat) : Int) := by have := (Bat.good hok).cap0; omega
    exact reach_ok b L m w hok b.cap.toNat hC (by omega) (by omega)
  · rw [reach_not h]
    exact reach_bad b l n w h
end Go.Proofs.Ythoknhbjeddcjaa
