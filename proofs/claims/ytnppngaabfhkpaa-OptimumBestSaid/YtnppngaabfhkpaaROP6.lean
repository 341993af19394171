/-
  The plain mathematics of layer 43 (optimum), part 6: the bound is at most the cost of a feasible plan; the example of the laws.
-/
import Derived.Test.YtnppngaabfhkpaaRU15
namespace Go.Proofs.Ytnppngaabfhkpaa

/-- The chapter's example. -/
def oneP (b s : Int) : Pb := ⟨⟨[b], [s], 10⟩, [0], [3], [200], ⟨2, 0, 1, 2, 1000⟩, ⟨5, 0, 1, 2, [190], [210]⟩, [], 2, 200⟩
theorem one_a1 : (oneP 10 4).bestE = 0 := by decide +kernel
theorem one_a2 : (oneP 10 4).best.charge = [-2] := by decide +kernel
theorem one_a3 : (oneP 10 4).best.heat = [0] := by decide +kernel
theorem one_a4 : (oneP 10 4).oc = 10 := by decide +kernel
theorem one_a5 : (oneP 10 4).bound = 10 := by decide +kernel
theorem one_b1 : (oneP 0 0).bestE = 0 := by decide +kernel
theorem one_b2 : (oneP 0 0).best.charge = [-2] := by decide +kernel
end Go.Proofs.Ytnppngaabfhkpaa

/-
  The walks of layer 43 (optimum), part 17: Same of lists, the example of the laws.
-/
namespace Go.Proofs.Ytnppngaabfhkpaa
open Go.RowKit
attribute [local go_sem ↓] Go.wp_at_zero Go.wp_at_succ

set_option maxRecDepth 100000 in
set_option maxHeartbeats 1000000 in
theorem same07_any (A B : Option Addr) (c d : Nat) (xs ys : List Int) (w : World) (hx : RInts w A xs) (hy : RInts w B ys) (h1 : xs.length < 1000000000) :
    Calls Try.prog 67 #[.slice A xs.length c, .slice B ys.length d] w fun e w' => e = .returned (.bool (decide (xs = ys))) ∧ Below w.heap.size w w' := by
  by_cases hl : xs.length = ys.length
  · generalize hn : ys.length = n at *
    have HL := Lib.hid hl
    have HN := Lib.hid hn
    rw [hl] at h1
    rw [hl]
    clear hl hn
    go_enter Try.func67, Try.ntmps67
    go_wp2_with fail
    go_loopw [5] (fun i wr => ∃ k : Nat, k ≤ n ∧ i = .int .i64 k ∧ xs.take k = ys.take k ∧ Below w.heap.size w wr)
      (fun i _ => n - (intOf i).toNat)
    case atStart => exact ⟨0, by omega, rfl, rfl, Below.refl _ _⟩
    case round =>
      obtain ⟨k, hk, rfl, hsame, hB⟩ := hrel
      have HSAME := Lib.hid hsame
      clear hsame
      by_cases hlt : k < n
      · have hkx : k < xs.length := by have := HL.out; omega
        have hky : k < ys.length := by have := HN.out; omega
        obtain ⟨a, rfl, hab, hac⟩ := hx.at_ hkx
        obtain ⟨b, rfl, hbb, hbc⟩ := hy.at_ hky
        have hac' : wr.cell? (a.add k) = some (.int .i64 xs[k]) := (hB.cell (by rw [block_of_add]; exact hab)).trans hac
        have hbc' : wr.cell? (b.add k) = some (.int .i64 ys[k]) := (hB.cell (by rw [block_of_add]; exact hbb)).trans hbc
        clear hac hbc
        by_cases he : xs[k] = ys[k]
        · have HT := Lib.hid (take_succ_eq hkx hky HSAME.out he)
          have hne : (xs[k] != ys[k]) = false := by simp [he]
          clear he
          generalize xs[k] = x at *
          generalize ys[k] = y at *
          go_wp2_with fail
          go_quiet (fail)
          go_wp2
          go_roundw
          case rel => exact ⟨k + 1, by omega, by go_num, HT.out, below_drewN hB _⟩
          case measure => simp [intOf]; omega
        · have HE : Hid (false = decide (xs = ys)) := by
            show _ = _
            symm
            rw [decide_eq_false_iff_not]
            intro h
            subst h
            exact he rfl
          have hne : (xs[k] != ys[k]) = true := by simp [he]
          clear he
          generalize xs[k] = x at *
          generalize ys[k] = y at *
          go_wp2_with fail
          go_quiet (fail)
          go_wp2
          go_ret
          exact ⟨ret_bool HE.out, below_drewN hB _⟩
      · have hkn : k = n := by omega
        have HE : Hid (true = decide (xs = ys)) := by
          show _ = _
          symm
          rw [decide_eq_true_iff]
          have h := HSAME.out
          rwa [List.take_of_length_le (by rw [HL.out]; omega), List.take_of_length_le (by rw [HN.out]; omega)] at h
        clear hkn
        go_wp2
        go_ret
        exact ⟨ret_bool HE.out, hB⟩
  · have hne : ((xs.length : Int) != (ys.length : Int)) = true := by rw [bne_iff_ne]; omega
    have HL := Lib.hid hl
    clear hl
    go_enter Try.func67, Try.ntmps67
    go_wp2_with fail
    go_ret
    exact ⟨ret_bool (by symm; rw [decide_eq_false_iff_not]; intro h; exact HL.out (by rw [h])), Below.refl _ _⟩

def oneM (b : Nat) (u s : Int) : PbM := ⟨⟨some ⟨b, 0, none⟩, 1, [u]⟩, ⟨some ⟨b + 1, 0, none⟩, 1, [s]⟩, 10, ⟨some ⟨b + 1 + 1, 0, none⟩, 1, [0]⟩, ⟨some ⟨b + 1 + 1 + 1, 0, none⟩, 1, [3]⟩, ⟨some ⟨b + 1 + 1 + 1 + 1, 0, none⟩, 1, [200]⟩, ⟨2, 0, 1, 2, 1000⟩, 5, 0, 1, 2, ⟨some ⟨b + 1 + 1 + 1 + 1 + 1, 0, none⟩, 1, [190]⟩, ⟨some ⟨b + 1 + 1 + 1 + 1 + 1 + 1, 0, none⟩, 1, [210]⟩, none, 0, [], 2, 200⟩
theorem oneM_fit (b : Nat) (u s : Int) : (oneM b u s).Fit := ⟨by simp [oneM], by simp [oneM], by simp [oneM], by simp [oneM, maxLen], by simp [oneM]⟩
theorem one_grown {u s : Int} {W W' : World} {g b : Nat} (h : RPb W (oneM b u s)) (hg : W.grownBy W' (some g)) (hn : g < b) : RPb W' (oneM b u s) := by
  have key : ∀ {k : Nat} {l : List Int}, RInts W (some ⟨b + k, 0, none⟩) l → RInts W' (some ⟨b + k, 0, none⟩) l := fun h => h.other hg fun ad e => by
    injection e with e; subst e; intro hh; injection hh with hh; simp at hh; omega
  exact ⟨key (k := 0) h.buy, key (k := 1) h.sell, key (k := 2) h.solar, key (k := 3) h.demand, key (k := 4) h.outside, key (k := 5) h.low, key (k := 6) h.high, RLoads.nil _⟩

set_option maxRecDepth 100000 in
set_option maxHeartbeats 8000000 in
theorem one_any (u s : Int) (w : World) :
    Calls Try.prog 66 #[.int .i64 u, .int .i64 s] w fun e w' => ∃ m : PbM, m.p = oneP u s ∧ m.Fit ∧ e = .returned m.v ∧ RPb w' m ∧ Below w.heap.size w w' := by
  obtain ⟨W, hW⟩ : ∃ W, W = w.alloc (.cells #[.slice none 0 0, .slice none 0 0, .int .i64 0, .slice none 0 0, .slice none 0 0, .slice none 0 0, .int .i64 0, .int .i64 0, .int .i64 0, .int .i64 0, .int .i64 0, .int .i64 0, .int .i64 0, .int .i64 0, .int .i64 0, .slice none 0 0, .slice none 0 0, .slice none 0 0, .int .i64 0, .int .i64 0] 31) := ⟨_, rfl⟩
  have hWs : W.heap.size = w.heap.size + 1 := by rw [hW]; simp
  have hb0 : Blk W w.heap.size 31 #[.slice none 0 0, .slice none 0 0, .int .i64 0, .slice none 0 0, .slice none 0 0, .slice none 0 0, .int .i64 0, .int .i64 0, .int .i64 0, .int .i64 0, .int .i64 0, .int .i64 0, .int .i64 0, .int .i64 0, .int .i64 0, .slice none 0 0, .slice none 0 0, .slice none 0 0, .int .i64 0, .int .i64 0] := by rw [hW]; exact Blk.new w _ _
  have hO : Below w.heap.size w W := by rw [hW]; exact (Below.refl _ _).alloc (Nat.le_refl _) _
  have hb : Hid (∀ o1 o2 o3 o4 o5 o6 o7 : Obj, Blk (((((((W.alloc o1).alloc o2).alloc o3).alloc o4).alloc o5).alloc o6).alloc o7) w.heap.size 31 #[.slice none 0 0, .slice none 0 0, .int .i64 0, .slice none 0 0, .slice none 0 0, .slice none 0 0, .int .i64 0, .int .i64 0, .int .i64 0, .int .i64 0, .int .i64 0, .int .i64 0, .int .i64 0, .int .i64 0, .int .i64 0, .slice none 0 0, .slice none 0 0, .slice none 0 0, .int .i64 0, .int .i64 0]) := fun o1 o2 o3 o4 o5 o6 o7 => ((((((hb0.alloc o1).alloc o2).alloc o3).alloc o4).alloc o5).alloc o6).alloc o7
  have hr : Hid (RPb ((((((((W).alloc (.cells #[.int .i64 u] 3)).alloc (.cells #[.int .i64 s] 3)).alloc (.cells #[.int .i64 0] 3)).alloc (.cells #[.int .i64 3] 3)).alloc (.cells #[.int .i64 200] 3)).alloc (.cells #[.int .i64 190] 3)).alloc (.cells #[.int .i64 210] 3)) (oneM W.heap.size u s) ∧ Below w.heap.size w ((((((((W).alloc (.cells #[.int .i64 u] 3)).alloc (.cells #[.int .i64 s] 3)).alloc (.cells #[.int .i64 0] 3)).alloc (.cells #[.int .i64 3] 3)).alloc (.cells #[.int .i64 200] 3)).alloc (.cells #[.int .i64 190] 3)).alloc (.cells #[.int .i64 210] 3)) ∧ w.heap.size < W.heap.size) := by
    show _ ∧ _ ∧ _
    have r0 : RInts ((W).alloc (.cells #[.int .i64 u] 3)) (some ⟨W.heap.size, 0, none⟩) [u] := by
      have h := rints_lit (W) #[.int .i64 u] 3 (l := [u]) rfl
      simpa using h
    have r1 : RInts (((W).alloc (.cells #[.int .i64 u] 3)).alloc (.cells #[.int .i64 s] 3)) (some ⟨W.heap.size + 1, 0, none⟩) [s] := by
      have h := rints_lit ((W).alloc (.cells #[.int .i64 u] 3)) #[.int .i64 s] 3 (l := [s]) rfl
      simpa using h
    have r2 : RInts ((((W).alloc (.cells #[.int .i64 u] 3)).alloc (.cells #[.int .i64 s] 3)).alloc (.cells #[.int .i64 0] 3)) (some ⟨W.heap.size + 1 + 1, 0, none⟩) [0] := by
      have h := rints_lit (((W).alloc (.cells #[.int .i64 u] 3)).alloc (.cells #[.int .i64 s] 3)) #[.int .i64 0] 3 (l := [0]) rfl
      simpa using h
    have r3 : RInts (((((W).alloc (.cells #[.int .i64 u] 3)).alloc (.cells #[.int .i64 s] 3)).alloc (.cells #[.int .i64 0] 3)).alloc (.cells #[.int .i64 3] 3)) (some ⟨W.heap.size + 1 + 1 + 1, 0, none⟩) [3] := by
      have h := rints_lit ((((W).alloc (.cells #[.int .i64 u] 3)).alloc (.cells #[.int .i64 s] 3)).alloc (.cells #[.int .i64 0] 3)) #[.int .i64 3] 3 (l := [3]) rfl
      simpa using h
    have r4 : RInts ((((((W).alloc (.cells #[.int .i64 u] 3)).alloc (.cells #[.int .i64 s] 3)).alloc (.cells #[.int .i64 0] 3)).alloc (.cells #[.int .i64 3] 3)).alloc (.cells #[.int .i64 200] 3)) (some ⟨W.heap.size + 1 + 1 + 1 + 1, 0, none⟩) [200] := by
      have h := rints_lit (((((W).alloc (.cells #[.int .i64 u] 3)).alloc (.cells #[.int .i64 s] 3)).alloc (.cells #[.int .i64 0] 3)).alloc (.cells #[.int .i64 3] 3)) #[.int .i64 200] 3 (l := [200]) rfl
      simpa using h
    have r5 : RInts (((((((W).alloc (.cells #[.int .i64 u] 3)).alloc (.cells #[.int .i64 s] 3)).alloc (.cells #[.int .i64 0] 3)).alloc (.cells #[.int .i64 3] 3)).alloc (.cells #[.int .i64 200] 3)).alloc (.cells #[.int .i64 190] 3)) (some ⟨W.heap.size + 1 + 1 + 1 + 1 + 1, 0, none⟩) [190] := by
      have h := rints_lit ((((((W).alloc (.cells #[.int .i64 u] 3)).alloc (.cells #[.int .i64 s] 3)).alloc (.cells #[.int .i64 0] 3)).alloc (.cells #[.int .i64 3] 3)).alloc (.cells #[.int .i64 200] 3)) #[.int .i64 190] 3 (l := [190]) rfl
      simpa using h
    have r6 : RInts ((((((((W).alloc (.cells #[.int .i64 u] 3)).alloc (.cells #[.int .i64 s] 3)).alloc (.cells #[.int .i64 0] 3)).alloc (.cells #[.int .i64 3] 3)).alloc (.cells #[.int .i64 200] 3)).alloc (.cells #[.int .i64 190] 3)).alloc (.cells #[.int .i64 210] 3)) (some ⟨W.heap.size + 1 + 1 + 1 + 1 + 1 + 1, 0, none⟩) [210] := by
      have h := rints_lit (((((((W).alloc (.cells #[.int .i64 u] 3)).alloc (.cells #[.int .i64 s] 3)).alloc (.cells #[.int .i64 0] 3)).alloc (.cells #[.int .i64 3] 3)).alloc (.cells #[.int .i64 200] 3)).alloc (.cells #[.int .i64 190] 3)) #[.int .i64 210] 3 (l := [210]) rfl
      simpa using h
    refine ⟨⟨((((((r0).alloc _).alloc _).alloc _).alloc _).alloc _).alloc _, (((((r1).alloc _).alloc _).alloc _).alloc _).alloc _, ((((r2).alloc _).alloc _).alloc _).alloc _, (((r3).alloc _).alloc _).alloc _, ((r4).alloc _).alloc _, (r5).alloc _, r6, RLoads.nil _⟩, ?_, by omega⟩
    exact (((((((hO.alloc (by omega) _).alloc (by simp; omega) _).alloc (by simp; omega) _).alloc (by simp; omega) _).alloc (by simp; omega) _).alloc (by simp; omega) _).alloc (by simp; omega) _)
  have HW := Lib.hid hW
  clear hW hb0 hO hWs
  go_enter Try.func66, Try.ntmps66
  go_upto_region 1 with fail
  rw [← HW.out]
  clear HW
  go_wp2_with (refine wpList_plain rfl (fun K hK => ?_); have HK := Lib.hid hK; clear hK)
  refine HK.out _ _ ?_
  clear HK
  go_wp2_with (refine wpList_plain rfl (fun K hK => ?_); have HK := Lib.hid hK; clear hK)
  refine HK.out _ _ ?_
  clear HK
  go_wp2_with (refine wpList_plain rfl (fun K hK => ?_); have HK := Lib.hid hK; clear hK)
  refine HK.out _ _ ?_
  clear HK
  go_wp2_with (refine wpList_plain rfl (fun K hK => ?_); have HK := Lib.hid hK; clear hK)
  refine HK.out _ _ ?_
  clear HK
  go_wp2_with (refine wpList_plain rfl (fun K hK => ?_); have HK := Lib.hid hK; clear hK)
  refine HK.out _ _ ?_
  clear HK
  go_wp2_with (refine wpList_plain rfl (fun K hK => ?_); have HK := Lib.hid hK; clear hK)
  refine HK.out _ _ ?_
  clear HK
  go_wp2_with (refine wpList_plain rfl (fun K hK => ?_); have HK := Lib.hid hK; clear hK)
  refine HK.out _ _ ?_
  clear HK
  go_wp2_with (refine wpList_plain rfl (fun K hK => ?_); have HK := Lib.hid hK; clear hK)
  refine HK.out _ _ ?_
  clear HK
  go_wp2_with (refine wpList_plain rfl (fun K hK => ?_); have HK := Lib.hid hK; clear hK)
  refine HK.out _ _ ?_
  clear HK
  go_wp2_with (refine wpList_plain rfl (fun K hK => ?_); have HK := Lib.hid hK; clear hK)
  refine HK.out _ _ ?_
  clear HK
  go_wp2_with (refine wpList_plain rfl (fun K hK => ?_); have HK := Lib.hid hK; clear hK)
  refine HK.out _ _ ?_
  clear HK
  refine wpList_store_blk rfl 31 _ _ rfl w.heap.size rfl (oneM W.heap.size u s).cs rfl (by kernel_rfl) (PbM.cs_one _) (hb.out _ _ _ _ _ _ _) rfl ?_
  intro w' hB hg
  go_wp2_with fail
  refine bodyPost_ret (v := (oneM W.heap.size u s).v) (results_cell rfl rfl (run_load_blk (by kernel_rfl) (by kernel_rfl) hB)) rfl ?_
  exact ⟨oneM W.heap.size u s, rfl, oneM_fit _ _ _, rfl, one_grown hr.out.1 hg hr.out.2.2, hr.out.2.1.grown hg (by have := hr.out.2.2; simp; omega) (fun k e => by injection e with e; omega)⟩
end Go.Proofs.Ytnppngaabfhkpaa

/-
  The walks of layer 43 (optimum), part 18: the laws' example.
-/
namespace Go.Proofs.Ytnppngaabfhkpaa
open Go.RowKit
attribute [local go_sem ↓] Go.wp_at_zero Go.wp_at_succ

theorem same_true {A B : Option Addr} {c d n m : Nat} (xs ys : List Int) {w : World} (hn : n = xs.length) (hm : m = ys.length) (hx : RInts w A xs) (hy : RInts w B ys) (h1 : xs.length < 1000000000) (he : xs = ys) :
    Calls Try.prog 67 #[.slice A n c, .slice B m d] w fun e w' => e = .returned (.bool true) ∧ Below w.heap.size w w' := by
  subst hn hm
  have h := same07_any A B c d xs ys w hx hy h1
  rw [decide_eq_true he] at h
  exact h
/-- The box of a problem that a function has made. -/
structure LV (m : PbM) (t : Nat) (w wr : World) : Prop where
  p : Blk wr t 31 m.cs
  r : RPb wr m
  bel : Below w.heap.size w wr
theorem LV.below {m : PbM} {t : Nat} {w wr w1 : World} (h : LV m t w wr) (hb : Below wr.heap.size wr w1) : LV m t w w1 := ⟨h.p.below hb h.p.lt, h.r.below hb, h.bel.trans (hb.mono h.bel.size)⟩
/-- The box of a plan that a function has made. -/
structure LY (y : PnM) (t : Nat) (wr : World) : Prop where
  p : Blk wr t 33 y.cs
  r : RPn wr y
theorem LY.below {y : PnM} {t : Nat} {wr w1 : World} (h : LY y t wr) (hb : Below wr.heap.size wr w1) : LY y t w1 := ⟨h.p.below hb h.p.lt, h.r.below hb⟩
theorem lv_store {m : PbM} {w w1 w2 : World} (hr : RPb w1 m) (hb : Below w.heap.size w w1) (hs : Below w1.heap.size w1 w2) (hB : Blk w2 w1.heap.size 31 m.cs) : LV m w1.heap.size w w2 :=
  ⟨hB, hr.below hs, hb.trans (hs.mono hb.size)⟩
theorem ly_store {y : PnM} {w1 w2 : World} (hr : RPn w1 y) (hs : Below w1.heap.size w1 w2) (hB : Blk w2 w1.heap.size 33 y.cs) : LY y w1.heap.size w2 := ⟨hB, hr.below hs⟩

section
variable {ops : Array Oper} {rest : List Oper} {o : Oper} {a : Act} {W : World} {Q : Exit → Act → World → Prop}
theorem wpList_load_problemG (hw : Region.wanted o (yielded ops a.tmps) = true) (s : Operand) (ho : o.op = .load 31 s) (g : Nat) (hx : a.eval s = .pointer (some ⟨g, 0, none⟩)) (x : PbM) (h : Blk W g 31 x.cs) (hk : wpList Try.prog ops Q rest (a.put o.dst x.v) W) :
    wpList Try.prog ops Q (o :: rest) a W := wpList_step fun _ hK => step_load_blk hw 31 (by kernel_rfl) (by kernel_rfl) s ho g hx h (hK _ _ hk)
end

set_option maxRecDepth 100000 in
set_option maxHeartbeats 64000000 in
theorem lives_any (w : World) : Calls Try.prog 26 #[] w fun e w' => e = .returned (.bool true) ∧ Below w.heap.size w w' := by
  have ho1 := Lib.hid (fun W => one_any 10 4 W)
  have ho2 := Lib.hid (fun W => one_any 0 0 W)
  have hbe := Lib.hid (fun (m : PbM) W (h : RPb W m) (hf : m.Fit) => best_any m W h hf)
  have hco := Lib.hid (fun (m : PbM) W (h : RPb W m) (hf : m.Fit) => ocost_any m W h hf)
  have hbo := Lib.hid (fun (m : PbM) W (h : RPb W m) (hf : m.Fit) => bound_any m W h hf)
  go_enter Try.func26, Try.ntmps26
  go_wp2_with fail
  refine (ho1.out _).mono ?_
  rintro e w1 ⟨m, hm, hmf, rfl, hr1, hb1⟩
  go_wp2_with (refine wpList_store_blk rfl 31 _ _ rfl w1.heap.size rfl m.cs rfl (by kernel_rfl) (PbM.cs_one _) (Blk.new w1 _ _) rfl ?_)
  intro w2 hBw2 hgw2
  have hsw2 : Below w1.heap.size w1 w2 := ((Below.refl w1.heap.size w1).alloc (Nat.le_refl _) (.cells #[.slice none 0 0, .slice none 0 0, .int .i64 0, .slice none 0 0, .slice none 0 0, .slice none 0 0, .int .i64 0, .int .i64 0, .int .i64 0, .int .i64 0, .int .i64 0, .int .i64 0, .int .i64 0, .int .i64 0, .int .i64 0, .slice none 0 0, .slice none 0 0, .slice none 0 0, .int .i64 0, .int .i64 0] 31)).grown hgw2 (by simp) (fun k e => by injection e with e; omega)
  clear hgw2
  obtain ⟨t1, ht⟩ : ∃ t, t = w1.heap.size := ⟨_, rfl⟩
  have HV2 := Lib.hid (lv_store hr1 hb1 hsw2 hBw2)
  rw [← ht] at HV2
  have HMF := Lib.hid hmf
  have HM := Lib.hid hm
  have HT := Lib.hid ht
  clear hr1 hb1 hsw2 hBw2 hmf hm ht
  have hbe1 := fun W (h : RPb W m) => hbe.out m W h HMF.out
  rw [HM.out, one_a1] at hbe1
  have HBE1 := Lib.hid hbe1
  have hco1 := fun W (h : RPb W m) => hco.out m W h HMF.out
  rw [HM.out, one_a1, one_a4] at hco1
  have HCO1 := Lib.hid hco1
  have hbo1 := fun W (h : RPb W m) => hbo.out m W h HMF.out
  rw [HM.out, one_a5] at hbo1
  have HBO1 := Lib.hid hbo1
  clear hbe1 hco1 hbo1
  go_upto_region 2 with fail
  rw [← HT.out]
  go_wp2_with (refine wpList_load_problem rfl _ rfl t1 rfl m HV2.out.p ?_)
  refine (HBE1.out _ HV2.out.r).mono ?_
  rintro e w3 ⟨x, hx, rfl, hrx, hfx, _, hb3⟩
  have HV3 := Lib.hid (HV2.out.below hb3)
  clear hb3 HV2 HT
  go_wp2_with (refine wpList_store_blk rfl 33 _ _ rfl w3.heap.size rfl x.cs rfl (by kernel_rfl) (PnM.cs_one _) (Blk.new w3 _ _) rfl ?_)
  intro w4 hBw4 hgw4
  have hsw4 : Below w3.heap.size w3 w4 := ((Below.refl w3.heap.size w3).alloc (Nat.le_refl _) (.cells #[.slice none 0 0, .slice none 0 0, .slice none 0 0] 33)).grown hgw4 (by simp) (fun k e => by injection e with e; omega)
  clear hgw4
  obtain ⟨t2, ht⟩ : ∃ t, t = w3.heap.size := ⟨_, rfl⟩
  have HV4 := Lib.hid (HV3.out.below hsw4)
  have HY4 := Lib.hid (ly_store hrx hsw4 hBw4)
  rw [← ht] at HY4
  have HT := Lib.hid ht
  have HX : Hid (x.charge.l = [-2] ∧ x.heat.l = [0]) := by
    show _ ∧ _
    have h1 := congrArg Pn.charge hx
    have h2 := congrArg Pn.heat hx
    rw [one_a2] at h1
    rw [one_a3] at h2
    exact ⟨h1, h2⟩
  clear hrx hsw4 hBw4 ht hx hfx HV3
  go_upto_region 3 with fail
  rw [← HT.out]
  clear HT
  go_wp2_with (refine wpList_load_problem rfl _ rfl t1 rfl m HV4.out.p ?_)
  refine (HCO1.out _ HV4.out.r).mono ?_
  rintro e w5 ⟨rfl, hb5⟩
  have HV5 := Lib.hid (HV4.out.below hb5)
  have HY5 := Lib.hid (HY4.out.below hb5)
  clear hb5 HV4 HY4
  go_upto_region 4 with fail
  go_wp2_with fail
  refine (ho2.out _).mono ?_
  rintro e w6 ⟨m2, hm2, hmf2, rfl, hr2, hb6⟩
  have HV6 := Lib.hid (HV5.out.below hb6)
  have HY6 := Lib.hid (HY5.out.below hb6)
  have hbe2 := fun W (h : RPb W m2) => hbe.out m2 W h hmf2
  rw [hm2, one_b1] at hbe2
  have HBE2 := Lib.hid hbe2
  have HR2 := Lib.hid hr2
  clear hb6 HV5 HY5 hbe2 hm2 hmf2 hr2
  go_wp2_with fail
  refine (HBE2.out _ HR2.out).mono ?_
  rintro e w7 ⟨y, hy, rfl, hry, hfy, _, hb7⟩
  have HV7 := Lib.hid (HV6.out.below hb7)
  have HY7 := Lib.hid (HY6.out.below hb7)
  clear hb7 HV6 HY6 HR2
  go_wp2_with (refine wpList_store_blk rfl 33 _ _ rfl w7.heap.size rfl y.cs rfl (by kernel_rfl) (PnM.cs_one _) (Blk.new w7 _ _) rfl ?_)
  intro w8 hBw8 hgw8
  have hsw8 : Below w7.heap.size w7 w8 := ((Below.refl w7.heap.size w7).alloc (Nat.le_refl _) (.cells #[.slice none 0 0, .slice none 0 0, .slice none 0 0] 33)).grown hgw8 (by simp) (fun k e => by injection e with e; omega)
  clear hgw8
  obtain ⟨t6, ht⟩ : ∃ t, t = w7.heap.size := ⟨_, rfl⟩
  have HV8 := Lib.hid (HV7.out.below hsw8)
  have HY8 := Lib.hid (HY7.out.below hsw8)
  have HZ8 := Lib.hid (ly_store hry hsw8 hBw8)
  rw [← ht] at HZ8
  have HYE : Hid (y.charge.l = [-2]) := by
    show _
    have h1 := congrArg Pn.charge hy
    rw [one_b2] at h1
    exact h1
  have HT := Lib.hid ht
  clear hry hsw8 hBw8 ht hy hfy HV7 HY7 hbe hco hbo HBE1 HBE2 ho1 ho2 HCO1
  go_upto_region 5 with fail
  rw [← HT.out]
  clear HT
  have c0 := HY8.out.p.cell 0
  simp [PnM.cs] at c0
  go_wp2_with fail
  refine (same_true x.charge.l [-2] rfl rfl (HY8.out.r.charge.below (below_al (Below.refl _ _))) (by have h := rints_lit w8 #[.int .i64 (-2)] 3 (l := [-2]) rfl; simpa using h) (by rw [HX.out.1]; decide) HX.out.1).mono ?_
  rintro e w9 ⟨rfl, hb⟩
  have hb2 : Below w8.heap.size w8 w9 := (below_al (Below.refl _ _) : Below w8.heap.size w8 (w8.alloc _)).trans (hb.mono (by simp))
  have HV9 := Lib.hid (HV8.out.below hb2)
  have HY9 := Lib.hid (HY8.out.below hb2)
  have HZ9 := Lib.hid (HZ8.out.below hb2)
  clear hb hb2 HV8 HY8 HZ8
  have c1 := HY9.out.p.cell 1
  simp [PnM.cs] at c1
  go_wp2_with fail
  refine (same_true x.heat.l [0] rfl rfl (HY9.out.r.heat.below (below_al (Below.refl _ _))) (by have h := rints_lit w9 #[.int .i64 (0)] 3 (l := [0]) rfl; simpa using h) (by rw [HX.out.2]; decide) HX.out.2).mono ?_
  rintro e w10 ⟨rfl, hb⟩
  have hb2 : Below w9.heap.size w9 w10 := (below_al (Below.refl _ _) : Below w9.heap.size w9 (w9.alloc _)).trans (hb.mono (by simp))
  have HV10 := Lib.hid (HV9.out.below hb2)
  have HY10 := Lib.hid (HY9.out.below hb2)
  have HZ10 := Lib.hid (HZ9.out.below hb2)
  clear hb hb2 HV9 HY9 HZ9
  go_wp2_with (refine wpList_load_problemG (by rfl) _ rfl t1 rfl m HV10.out.p ?_)
  refine (HBO1.out _ HV10.out.r).mono ?_
  rintro e w11 ⟨rfl, hb11⟩
  have HV11 := Lib.hid (HV10.out.below hb11)
  have HZ11 := Lib.hid (HZ10.out.below hb11)
  have c2 := HZ11.out.p.cell 0
  simp [PnM.cs] at c2
  go_wp2_with fail
  refine (same_true y.charge.l [-2] rfl rfl (HZ11.out.r.charge.below (below_al (Below.refl _ _))) (by have h := rints_lit w11 #[.int .i64 (-2)] 3 (l := [-2]) rfl; simpa using h) (by rw [HYE.out]; decide) HYE.out).mono ?_
  rintro e w12 ⟨rfl, hb12⟩
  go_wp2_with fail
  go_ret
  exact ⟨by simp, (HV11.out.bel.trans ((below_al (Below.refl _ _) : Below w11.heap.size w11 (w11.alloc _)).mono HV11.out.bel.size)).trans (hb12.mono (by have := HV11.out.bel.size; simp; omega))⟩
end Go.Proofs.Ytnppngaabfhkpaa
