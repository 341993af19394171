/-
  The walks of layer 43 (optimum), part 13: the list of a plan, the order of lists.
-/
import Derived.Test.YtnppngaabfhkpaaQU11
namespace Go.Proofs.Ytnppngaabfhkpaa
open Go.RowKit
attribute [local go_sem ↓] Go.wp_at_zero Go.wp_at_succ

/-- An append of two numbers that the operation ahead laid. -/
theorem wpList_append_pair {P : Program} {ops : Array Oper} {rest : List Oper} {o : Oper} {a : Act} {Q : Exit → Act → World → Prop} (w w0 : World) (H : Nat) (hH : w0.heap.size = H) (hgd : o.guard = none) (s x : Operand) (t : TypeId)
    (ho : o.op = .call { callee := .builtin .append, args := #[s, x], argTypes := #[t, t] })
    (base : Nat) (e : TypeId) (i : TypeInfo) (z : Value) (bytes : Nat) (ht : P.underlying t = some (.slice e)) (hi : P.info? e = some i) (hz : i.zero = some z)
    (hsize : i.size = 1) (hby : i.bytes = bytes) (hzs : z.cells.size = 1) (hb4 : bytes ≤ 4096)
    (v : Value) (n : Nat) (xs : List Value) (hs : a.eval s = v) (hown : w0.ownsRow base e 1 v n xs)
    (cs : Array Value) (hcs : cs.size = 2) (h1 : ∀ u ∈ cs.toList, u.oneCell' = true) (hx : a.eval x = .slice (some ⟨H, 0, none⟩) 2 2)
    (hw : w = w0.alloc (.cells cs e)) (hn : n ≤ 1000000000) (hbase : base ≤ w0.heap.size)
    (h : ∀ v' w', w'.ownsRow base e 1 v' (n + 2) (xs ++ cs.toList) → Below base w0 w' → wpList P ops Q rest (a.put o.dst v') w') : wpList P ops Q (o :: rest) a w := by
  subst hw
  subst hH
  refine wpList_append_own (w0.alloc (.cells cs e)) hgd s x t ho base e i z 1 bytes ht hi hz hsize hby hzs (by decide) v n xs hs (hown.alloc _) ⟨w0.heap.size, 0, none⟩ 2 2 cs.toList hx (by simp [hcs]) ?_ h1 (by unfold maxLen; omega) ?_ (by simp; omega) ?_
  · intro j u hu
    have hadd : (⟨w0.heap.size, 0, none⟩ : Addr).add j = ⟨w0.heap.size, j, none⟩ := by unfold Addr.add; split <;> simp_all
    rw [hadd, (Blk.new w0 e cs).cell j]
    simpa using hu
  · have : (n + 2) * bytes ≤ 1000000002 * 4096 := Nat.mul_le_mul (by omega) hb4
    omega
  · intro v' w' h2 h3 _
    exact h v' w' h2 (((Below.refl base w0).alloc hbase _).grown h3 (by simp; omega) (fun k hk => ((hown.alloc (.cells cs e)).lt k hk).1))
theorem two_ints (a b : Int) : ∀ u ∈ (#[Value.int .i64 a, Value.int .i64 b] : Array Value).toList, u.oneCell' = true := by
  intro u hu
  simp at hu
  rcases hu with rfl | rfl <;> rfl
/-- The box of a function of one plan. -/
structure QB (y : PnM) (w wr : World) : Prop where
  q : Blk wr w.heap.size 33 y.cs
  bel : Below w.heap.size w wr
theorem QB.start (y : PnM) (w : World) : QB y w (w.alloc (.cells y.cs 33)) := ⟨Blk.new _ _ _, below_al (Below.refl _ _)⟩
theorem QB.below {y : PnM} {w wr w1 : World} (h : QB y w wr) (hb : Below wr.heap.size wr w1) : QB y w w1 := ⟨h.q.below hb h.q.lt, h.bel.trans (hb.mono h.bel.size)⟩
theorem QB.up {y : PnM} {w wr w1 : World} (h : QB y w wr) (hb : Below (w.heap.size + 1) wr w1) : QB y w w1 := ⟨h.q.below hb (by omega), h.bel.trans (hb.mono (by omega))⟩
theorem Pn.zip_take {x : Pn} {k : Nat} (h : x.charge.length = x.heat.length) (hk : k < x.charge.length) : flatM (x.ways.take (k + 1)) = flatM (x.ways.take k) ++ [x.charge.getD k 0, x.heat.getD k 0] := by
  have hl : k < x.ways.length := by unfold Pn.ways; rw [List.length_zip]; omega
  rw [List.take_succ_eq_append_getElem hl]
  unfold flatM
  rw [List.flatMap_append]
  congr 1
  have hk2 : k < x.heat.length := by omega
  simp [Pn.ways, List.getD, hk, hk2]

set_option maxRecDepth 100000 in
set_option maxHeartbeats 16000000 in
theorem list_any (y : PnM) (w : World) (hQ : RPn w y) (heq : y.charge.l.length = y.heat.l.length) (h1 : y.charge.l.length ≤ 1000) (h3 : y.start.l.length ≤ 1000) :
    Calls Try.prog 79 #[y.v] w (IntsOut y.x.list w) := by
  have HQ := Lib.hid hQ
  obtain ⟨i0, hi, hz0, hz1, hz2⟩ := info_parts Try.infoInt
  have HCL := Lib.hid (fun W (h : RInts W y.start.A y.start.l) => clone_own y.start.A y.start.c y.start.l W h (by omega))
  have hst0 := QB.start y w
  have hzt := fun k (hk : k < y.charge.l.length) => Pn.zip_take (x := y.x) heq hk
  have HZT := Lib.hid hzt
  have hwl : y.x.ways.length = y.charge.l.length := by unfold Pn.ways; rw [List.length_zip]; show min y.charge.l.length y.heat.l.length = _; omega
  have HWL := Lib.hid hwl
  simp only [PnM.v]
  obtain ⟨W, hW⟩ : ∃ W, W = w.alloc (.cells #[.slice y.charge.A y.charge.l.length y.charge.c, .slice y.heat.A y.heat.l.length y.heat.c, .slice y.start.A y.start.l.length y.start.c] 33) := ⟨_, rfl⟩
  have hWz : W.heap.size = w.heap.size + 1 := by rw [hW]; simp
  rw [show w.alloc (.cells y.cs 33) = W from hW.symm] at hst0
  have hst := Lib.hid hst0
  have hWH := Lib.hid hW
  have HWZ := Lib.hid hWz
  have HEQ := Lib.hid heq
  clear hst0 hW hWz hQ hzt hwl heq
  go_enter Try.func79, Try.ntmps79
  go_upto_region 1 with fail
  rw [← hWH.out]
  clear hWH
  have c2 := hst.out.q.cell 2
  simp [PnM.cs] at c2
  go_wp2_with fail
  refine (HCL.out _ (HQ.out.start.below hst.out.bel)).mono ?_
  rintro e w1 ⟨v, rfl, hown, hb1⟩
  have HX1 := Lib.hid (hst.out.below hb1)
  rw [HWZ.out] at hown
  have HO1 := Lib.hid hown
  clear hown hb1 hst c2 HCL
  have c0 := HX1.out.q.cell 0
  simp [PnM.cs] at c0
  go_wp2_with fail
  clear c0
  go_loopw [12, 3] (fun s12 s3 wr => ∃ k : Nat, k ≤ y.charge.l.length ∧ s12 = .int .i64 k ∧ Hid (QB y w wr) ∧ Hid (wr.ownsRow (w.heap.size + 1) 3 1 s3 (y.start.l.length + 2 * k) (ints (y.start.l ++ flatM (y.x.ways.take k)))))
    (fun s12 _ _ => y.charge.l.length - (intOf s12).toNat)
  case atStart => exact ⟨0, by omega, rfl, HX1.out, (by have h := HO1.out; show World.ownsRow _ _ _ _ _ _ _; simpa [flatM] using h)⟩
  case round =>
    obtain ⟨k, hk, rfl, hQB, hOW⟩ := hrel
    rename_i s3
    obtain ⟨wo, hwo⟩ : ∃ wo : World, wo = wr := ⟨_, rfl⟩
    subst hwo
    by_cases hlt : k < y.charge.l.length
    · have heq := HEQ.out
      have j1 : (0 : Int) ≤ (k : Int) := by omega
      have j2 : (k : Int) < (y.charge.l.length : Int) := by omega
      have j3 : (k : Int) < (y.heat.l.length : Int) := by omega
      have hQW := HQ.out.below hQB.out.bel
      obtain ⟨bC, oC, hCA, _, eC⟩ := hQW.charge.at' hlt
      obtain ⟨bH, oH, hHA, _, eH⟩ := hQW.heat.at' (k := k) (by omega)
      have hzk := HZT.out k hlt
      rw [getD_eq hlt] at eC
      rw [getD_eq (k := k) (by omega)] at eH
      have g1 : y.x.charge.getD k 0 = y.charge.l.getD k 0 := rfl
      have g2 : y.x.heat.getD k 0 = y.heat.l.getD k 0 := rfl
      rw [g1, g2] at hzk
      generalize y.charge.l.getD k 0 = cz at *
      generalize y.heat.l.getD k 0 = hz at *
      have HZK : Hid (ints (y.start.l ++ flatM (y.x.ways.take (k + 1))) = ints (y.start.l ++ flatM (y.x.ways.take k)) ++ [.int .i64 cz, .int .i64 hz]) := by
        show _ = _
        rw [hzk, ← List.append_assoc, ints_append]
        rfl
      have c1 := hQB.out.q.cell 1
      simp [PnM.cs] at c1
      rw [hHA] at c1
      rw [hCA, hHA]
      have hsz : w.heap.size + 1 ≤ wo.heap.size := hQB.out.q.lt
      clear hzk g1 g2 heq hQW hCA hHA
      go_wp2_with (at_builtin; refine wpList_append_pair _ wo wo.heap.size rfl rfl _ _ 22 rfl (w.heap.size + 1) 3 i0 (.int .i64 0) 8 Try.underlying22 hi hz0 hz1 hz2 rfl (by decide) _ _ _ rfl hOW.out #[.int .i64 cz, .int .i64 hz] rfl (two_ints _ _) rfl rfl (by omega) hsz ?_)
      intro v' w5 hown5 hb5
      have HX5 := Lib.hid (hQB.out.up hb5)
      have HO5 : Hid (w5.ownsRow (w.heap.size + 1) 3 1 v' (y.start.l.length + 2 * (k + 1)) (ints (y.start.l ++ flatM (y.x.ways.take (k + 1))))) := by
        show World.ownsRow _ _ _ _ _ _ _
        rw [HZK.out]
        exact hown5
      clear hown5 hb5 c1 eC eH
      go_wp2_with fail
      go_roundw
      case rel => exact ⟨k + 1, by omega, by go_num, HX5.out, HO5.out⟩
      case measure => simp [intOf]; omega
    · have hke : k = y.charge.l.length := by omega
      have j2 : ¬ (k : Int) < (y.charge.l.length : Int) := by omega
      have hO2 := hOW.out
      have hwl := HWL.out
      rw [List.take_of_length_le (by omega)] at hO2
      have hfin := Lib.hid (ints_out hO2 (show w.heap.size ≤ w.heap.size + 1 by omega) hQB.out.bel)
      clear hO2 hke hwl
      go_wp2_with fail
      go_ret
      exact hfin.out

set_option maxHeartbeats 4000000 in
theorem isnan_int (a : Int) (w : World) : Calls Try.prog 143 #[.int .i64 a] w fun e w' => e = .returned (.bool false) ∧ w = w' := by
  have h : (a != a) = false := by simp
  go_enter Try.func143, Try.ntmps143
  go_wp2_with fail
  go_ret
  exact ⟨by rfl, rfl⟩
set_option maxHeartbeats 4000000 in
theorem cmp_int (a b : Int) (w : World) : Calls Try.prog 119 #[.int .i64 a, .int .i64 b] w fun e w' => e = .returned (.int .i64 (if a < b then -1 else if b < a then 1 else 0)) ∧ w = w' := by
  have h1 := Lib.hid (fun W => isnan_int a W)
  have h2 := Lib.hid (fun W => isnan_int b W)
  by_cases q1 : a < b
  · rw [if_pos q1]
    go_enter Try.func119, Try.ntmps119
    go_wp2_with fail
    refine (h1.out _).mono ?_
    rintro e w1 ⟨rfl, rfl⟩
    go_wp2_with fail
    refine (h2.out _).mono ?_
    rintro e w1 ⟨rfl, rfl⟩
    go_wp2_with fail
    go_ret
    exact ⟨rfl, rfl⟩
  · by_cases q2 : b < a
    · rw [if_neg q1, if_pos q2]
      go_enter Try.func119, Try.ntmps119
      go_wp2_with fail
      refine (h1.out _).mono ?_
      rintro e w1 ⟨rfl, rfl⟩
      go_wp2_with fail
      refine (h2.out _).mono ?_
      rintro e w1 ⟨rfl, rfl⟩
      go_wp2_with fail
      go_ret
      exact ⟨rfl, rfl⟩
    · rw [if_neg q1, if_neg q2]
      go_enter Try.func119, Try.ntmps119
      go_wp2_with fail
      refine (h1.out _).mono ?_
      rintro e w1 ⟨rfl, rfl⟩
      go_wp2_with fail
      refine (h2.out _).mono ?_
      rintro e w1 ⟨rfl, rfl⟩
      go_wp2_with fail
      go_ret
      exact ⟨rfl, rfl⟩
theorem ltL_nil_right (l : List Int) : ltL l [] = false := by cases l <;> rfl
theorem ltL_drop {a b : List Int} {i : Nat} (h1 : i < a.length) (h2 : i < b.length) : ltL (a.drop i) (b.drop i) = if a.getD i 0 < b.getD i 0 then true else if b.getD i 0 < a.getD i 0 then false else ltL (a.drop (i + 1)) (b.drop (i + 1)) := by
  rw [List.drop_eq_getElem_cons h1, List.drop_eq_getElem_cons h2, getD_eq h1, getD_eq h2]
  rfl
set_option maxRecDepth 100000 in
set_option maxHeartbeats 16000000 in
theorem compare_any (A B : Option Addr) (c d : Nat) (a b : List Int) (w : World) (hA : RInts w A a) (hB : RInts w B b) (h1 : a.length ≤ 1000000000) (h2 : b.length ≤ 1000000000) :
    Calls Try.prog 78 #[.slice A a.length c, .slice B b.length d] w fun e w' => ∃ r : Int, e = .returned (.int .i64 r) ∧ decide (r < 0) = ltL a b ∧ w = w' := by
  have HA := Lib.hid hA
  have HB := Lib.hid hB
  have HCM := Lib.hid (fun W x y => cmp_int x y W)
  have hdr := fun i (q1 : i < a.length) (q2 : i < b.length) => ltL_drop (a := a) (b := b) q1 q2
  have HDR := Lib.hid hdr
  clear hA hB hdr
  obtain ⟨T, hT⟩ : ∃ T, T = ltL a b := ⟨_, rfl⟩
  have HT0 : Hid (T = ltL (a.drop 0) (b.drop 0)) := hT
  rw [← hT]
  clear hT
  go_enter Try.func78, Try.ntmps78
  go_wp2_with fail
  go_loopw [11] (fun s11 wr => ∃ k : Nat, k ≤ a.length ∧ k ≤ b.length ∧ s11 = .int .i64 k ∧ w = wr ∧ Hid (T = ltL (a.drop k) (b.drop k)))
    (fun s11 _ => a.length - (intOf s11).toNat)
  case atStart => exact ⟨0, by omega, by omega, rfl, rfl, HT0.out⟩
  case round =>
    obtain ⟨k, hk, hk2, rfl, rfl, hTK⟩ := hrel
    by_cases hlt : k < a.length
    · obtain ⟨bA, oA, hAA, _, eA⟩ := HA.out.at' hlt
      rw [getD_eq hlt] at eA
      have j1 : (0 : Int) ≤ (k : Int) := by omega
      have j2 : (k : Int) < (a.length : Int) := by omega
      by_cases hlb : k < b.length
      · obtain ⟨bB, oB, hBA, _, eB⟩ := HB.out.at' hlb
        rw [getD_eq hlb] at eB
        have j3 : (k : Int) < (b.length : Int) := by omega
        have j4 : ¬ (b.length : Int) ≤ (k : Int) := by omega
        have hT2 := hTK.out
        rw [HDR.out k hlt hlb] at hT2
        rw [hAA, hBA]
        clear hAA hBA
        generalize a.getD k 0 = av at *
        generalize b.getD k 0 = bv at *
        by_cases q1 : av < bv
        · rw [if_pos q1] at hT2
          have hcm := HCM.out w av bv
          rw [if_pos q1] at hcm
          have HCM2 := Lib.hid hcm
          have HT2 := Lib.hid hT2
          clear hcm hT2
          go_wp2_with fail
          refine HCM2.out.mono ?_
          rintro e w1 ⟨rfl, rfl⟩
          go_wp2_with fail
          go_ret
          exact ⟨-1, rfl, by rw [HT2.out]; rfl, rfl⟩
        · rw [if_neg q1] at hT2
          by_cases q2 : bv < av
          · rw [if_pos q2] at hT2
            have hcm := HCM.out w av bv
            rw [if_neg q1, if_pos q2] at hcm
            have HCM2 := Lib.hid hcm
            have HT2 := Lib.hid hT2
            clear hcm hT2
            go_wp2_with fail
            refine HCM2.out.mono ?_
            rintro e w1 ⟨rfl, rfl⟩
            go_wp2_with fail
            go_ret
            exact ⟨1, rfl, by rw [HT2.out]; rfl, rfl⟩
          · rw [if_neg q2] at hT2
            have hcm := HCM.out w av bv
            rw [if_neg q1, if_neg q2] at hcm
            have HCM2 := Lib.hid hcm
            have HT2 := Lib.hid hT2
            clear hcm hT2
            go_wp2_with fail
            refine HCM2.out.mono ?_
            rintro e w1 ⟨rfl, rfl⟩
            go_wp2_with fail
            go_roundw
            case rel => exact ⟨k + 1, by omega, by omega, by go_num, by first | rfl | trivial, HT2.out⟩
            case measure => simp [intOf]; omega
      · have hke : k = b.length := by omega
        have j4 : (b.length : Int) ≤ (k : Int) := by omega
        have HT2 : Hid (T = false) := by
          show _ = _
          rw [hTK.out, (List.drop_eq_nil_of_le (by omega) : b.drop k = [])]
          exact ltL_nil_right _
        rw [hAA]
        clear hAA hke
        go_wp2_with fail
        go_ret
        exact ⟨1, rfl, by rw [HT2.out]; rfl, rfl⟩
    · have hke : k = a.length := by omega
      have j2 : ¬ (k : Int) < (a.length : Int) := by omega
      by_cases q : (a.length : Int) < (b.length : Int)
      · have HT2 : Hid (T = true) := by
          show _ = _
          rw [hTK.out, (List.drop_eq_nil_of_le (by omega) : a.drop k = []), List.drop_eq_getElem_cons (l := b) (i := k) (by omega)]
          rfl
        clear hke
        go_wp2_with fail
        go_ret
        exact ⟨-1, rfl, by rw [HT2.out]; rfl, rfl⟩
      · have HT2 : Hid (T = false) := by
          show _ = _
          rw [hTK.out, (List.drop_eq_nil_of_le (by omega) : a.drop k = []), (List.drop_eq_nil_of_le (by omega) : b.drop k = [])]
          rfl
        clear hke
        go_wp2_with fail
        go_ret
        exact ⟨0, rfl, by rw [HT2.out]; rfl, rfl⟩
end Go.Proofs.Ytnppngaabfhkpaa

/-
  The walks of layer 43 (optimum), part 14: Better of the program.
-/
namespace Go.Proofs.Ytnppngaabfhkpaa
open Go.RowKit
attribute [local go_sem ↓] Go.wp_at_zero Go.wp_at_succ

/-- The boxes of a function of a problem and two plans. -/
structure B3 (x : PbM) (a b : PnM) (w wr : World) : Prop where
  p : Blk wr w.heap.size 31 x.cs
  a : Blk wr (w.heap.size + 1) 33 a.cs
  b : Blk wr (w.heap.size + 2) 33 b.cs
  bel : Below w.heap.size w wr
theorem B3.start (x : PbM) (a b : PnM) (w : World) : B3 x a b w (((w.alloc (.cells x.cs 31)).alloc (.cells a.cs 33)).alloc (.cells b.cs 33)) := by
  obtain ⟨h1, h2, h3, h4⟩ := two_boxes (w := w) (cs := x.cs) (t := 31) (cs2 := a.cs) (t2 := 33) (Below.refl _ _)
  have h5 : Below w.heap.size w ((w.alloc (.cells x.cs 31)).alloc (.cells a.cs 33)) := h4
  generalize hW : (w.alloc (.cells x.cs 31)).alloc (.cells a.cs 33) = W at *
  have hs : W.heap.size = w.heap.size + 2 := by rw [← hW]; simp
  have h6 := Blk.new W 33 b.cs
  rw [hs] at h6
  have hb : Below W.heap.size W (W.alloc (.cells b.cs 33)) := below_al (Below.refl _ _)
  exact ⟨h1.below hb h1.lt, h2.below hb h2.lt, h6, h5.trans (hb.mono h5.size)⟩
theorem B3.below {x : PbM} {a b : PnM} {w wr w1 : World} (h : B3 x a b w wr) (hb : Below wr.heap.size wr w1) : B3 x a b w w1 := ⟨h.p.below hb h.p.lt, h.a.below hb h.a.lt, h.b.below hb h.b.lt, h.bel.trans (hb.mono h.bel.size)⟩
theorem B3.pr {x : PbM} {a b : PnM} {w wr : World} (h : B3 x a b w wr) (hP : RPb w x) : RPb wr x := hP.below h.bel
theorem Pb.err_sized {p : Pb} {x : Pn} (h : p.err x = 0) : p.chk = 0 ∧ x.charge.length = p.n ∧ x.heat.length = p.n ∧ x.start.length = p.loads.length := by
  have hc : p.chk = 0 := Classical.byContradiction fun q => by rw [(Pb.err_chk (x := x) q).1] at h; exact q h
  have hf : p.form x = 0 := Classical.byContradiction fun q => by rw [(Pb.err_form hc q).1] at h; exact q h
  have h3 := (Pb.form_good hf).1
  simp only [Pb.sized, decide_eq_true_eq] at h3
  exact ⟨hc, h3⟩

set_option maxRecDepth 100000 in
set_option maxHeartbeats 16000000 in
theorem better_any (x : PbM) (a b : PnM) (w : World) (hP0 : RPb w x) (hA0 : RPn w a) (hB0 : RPn w b) (hF : x.Fit) (hFa : a.Fit) (hFb : b.Fit) (hl : x.loads.length ≤ 1000) :
    Calls Try.prog 34 #[x.v, a.v, b.v] w fun e w' => e = .returned (.bool (x.p.better a.x b.x)) ∧ Below w.heap.size w w' := by
  have hP := Lib.hid hP0
  have hA := Lib.hid hA0
  have hB := Lib.hid hB0
  have hv := fun W (y : PnM) (h : RPb W x) (h2 : RPn W y) (h3 : y.Fit) => pvalue_any x y W h h2 hF h3
  have hva := fun W (h : RPb W x) (h2 : RPn W a) => hv W a h h2 hFa
  have hvb := fun W (h : RPb W x) (h2 : RPn W b) => hv W b h h2 hFb
  have hbt : x.p.better a.x b.x = if x.p.err a.x ≠ 0 then false else if x.p.err b.x ≠ 0 then true else if (x.p.trace a.x).cost < (x.p.trace b.x).cost then true else if (x.p.trace b.x).cost < (x.p.trace a.x).cost then false else ltL a.x.list b.x.list := rfl
  have hll : x.p.loads.length = x.loads.length := by simp [PbM.p]
  have hla : x.p.err a.x = 0 → a.charge.l.length = a.heat.l.length ∧ a.charge.l.length ≤ 1000 ∧ a.start.l.length ≤ 1000 := fun h => by
    obtain ⟨h1, h2, h3, h4⟩ := Pb.err_sized h
    have h5 := (Pb.nbd (Pb.good h1)).2
    have h2 : a.charge.l.length = x.p.n := h2
    have h3 : a.heat.l.length = x.p.n := h3
    have h4 : a.start.l.length = x.p.loads.length := h4
    omega
  have hlb : x.p.err b.x = 0 → b.charge.l.length = b.heat.l.length ∧ b.charge.l.length ≤ 1000 ∧ b.start.l.length ≤ 1000 := fun h => by
    obtain ⟨h1, h2, h3, h4⟩ := Pb.err_sized h
    have h5 := (Pb.nbd (Pb.good h1)).2
    have h2 : b.charge.l.length = x.p.n := h2
    have h3 : b.heat.l.length = x.p.n := h3
    have h4 : b.start.l.length = x.p.loads.length := h4
    omega
  have hLA := fun (h : x.p.err a.x = 0) W (q : RPn W a) => list_any a W q (hla h).1 (hla h).2.1 (hla h).2.2
  have hLB := fun (h : x.p.err b.x = 0) W (q : RPn W b) => list_any b W q (hlb h).1 (hlb h).2.1 (hlb h).2.2
  have hlenA : x.p.err a.x = 0 → a.x.list.length ≤ 3000 := fun h => by
    obtain ⟨h1, h2, h3⟩ := hla h
    unfold Pn.list
    rw [List.length_append, flatM_len]
    have h4 : a.x.ways.length ≤ a.charge.l.length := by unfold Pn.ways; rw [List.length_zip]; exact Nat.min_le_left _ _
    have h5 : a.x.start.length = a.start.l.length := rfl
    omega
  have hlenB : x.p.err b.x = 0 → b.x.list.length ≤ 3000 := fun h => by
    obtain ⟨h1, h2, h3⟩ := hlb h
    unfold Pn.list
    rw [List.length_append, flatM_len]
    have h4 : b.x.ways.length ≤ b.charge.l.length := by unfold Pn.ways; rw [List.length_zip]; exact Nat.min_le_left _ _
    have h5 : b.x.start.length = b.start.l.length := rfl
    omega
  rw [hbt]
  clear hv hbt hll hla hlb hP0 hA0 hB0 hF hFa hFb hl
  have hst0 := B3.start x a b w
  simp only [PbM.v, PnM.v]
  obtain ⟨W, hW⟩ : ∃ W, W = ((w.alloc (.cells #[.slice x.buy.A x.buy.l.length x.buy.c, .slice x.sell.A x.sell.l.length x.sell.c, .int .i64 x.fuse, .slice x.solar.A x.solar.l.length x.solar.c, .slice x.demand.A x.demand.l.length x.demand.c, .slice x.outside.A x.outside.l.length x.outside.c, .int .i64 x.bat.cap, .int .i64 x.bat.reserve, .int .i64 x.bat.charge, .int .i64 x.bat.discharge, .int .i64 x.bat.eff, .int .i64 x.gain, .int .i64 x.loss, .int .i64 x.steps, .int .i64 x.power, .slice x.low.A x.low.l.length x.low.c, .slice x.high.A x.high.l.length x.high.c, .slice x.LA x.loads.length x.lc, .int .i64 x.level, .int .i64 x.temp] 31)).alloc (.cells #[.slice a.charge.A a.charge.l.length a.charge.c, .slice a.heat.A a.heat.l.length a.heat.c, .slice a.start.A a.start.l.length a.start.c] 33)).alloc (.cells #[.slice b.charge.A b.charge.l.length b.charge.c, .slice b.heat.A b.heat.l.length b.heat.c, .slice b.start.A b.start.l.length b.start.c] 33) := ⟨_, rfl⟩
  rw [show ((w.alloc (.cells x.cs 31)).alloc (.cells a.cs 33)).alloc (.cells b.cs 33) = W from hW.symm] at hst0
  have hst := Lib.hid hst0
  have hWH := Lib.hid hW
  clear hst0 hW
  generalize x.p.err a.x = ea at *
  generalize x.p.err b.x = eb at *
  generalize (x.p.trace a.x).cost = ca at *
  generalize (x.p.trace b.x).cost = cb at *
  generalize a.x.list = la at *
  generalize b.x.list = lb at *
  by_cases ha : ea = 0
  · rw [if_neg (by simp [ha])]
    have hva2 : ∀ W, RPb W x → RPn W a → Calls Try.prog 47 #[x.v, a.v] W fun e w' => e = .returned (.tuple #[.int .i64 ca, .bool true]) ∧ Below W.heap.size W w' := fun W h h2 => by have := hva W h h2; rwa [show (ea == 0) = true by simp [ha]] at this
    have HLA := Lib.hid (hLA ha)
    have HNA := Lib.hid (hlenA ha)
    have HVA := Lib.hid hva2
    clear hva hva2 hLA hlenA
    by_cases hb : eb = 0
    · rw [if_neg (by simp [hb])]
      have hvb2 : ∀ W, RPb W x → RPn W b → Calls Try.prog 47 #[x.v, b.v] W fun e w' => e = .returned (.tuple #[.int .i64 cb, .bool true]) ∧ Below W.heap.size W w' := fun W h h2 => by have := hvb W h h2; rwa [show (eb == 0) = true by simp [hb]] at this
      have HLB := Lib.hid (hLB hb)
      have HNB := Lib.hid (hlenB hb)
      have HVB := Lib.hid hvb2
      clear hvb hvb2 hLB hlenB ha hb
      by_cases h1 : ca < cb
      · rw [if_pos h1]
        go_enter Try.func34, Try.ntmps34
        go_upto_region 1 with fail
        rw [← hWH.out]
        clear hWH
        go_wp2_with (first | refine wpList_load_problem rfl _ rfl w.heap.size rfl x hst.out.p ?_ | refine wpList_load_plan rfl _ rfl (w.heap.size + 1) rfl a hst.out.a ?_ | refine wpList_load_plan rfl _ rfl (w.heap.size + 2) rfl b hst.out.b ?_)
        refine (HVA.out _ (hst.out.pr hP.out) (hA.out.below hst.out.bel)).mono ?_
        rintro e w1 ⟨rfl, hb1⟩
        have HX1 := Lib.hid (hst.out.below hb1)
        clear hb1 hst
        go_wp2_with (first | refine wpList_load_problem rfl _ rfl w.heap.size rfl x HX1.out.p ?_ | refine wpList_load_plan rfl _ rfl (w.heap.size + 1) rfl a HX1.out.a ?_ | refine wpList_load_plan rfl _ rfl (w.heap.size + 2) rfl b HX1.out.b ?_)
        refine (HVB.out _ (HX1.out.pr hP.out) (hB.out.below HX1.out.bel)).mono ?_
        rintro e w2 ⟨rfl, hb2⟩
        have HX2 := Lib.hid (HX1.out.below hb2)
        clear hb2 HX1
        go_wp2_with fail
        go_ret
        exact ⟨rfl, HX2.out.bel⟩
      · rw [if_neg h1]
        by_cases h2 : cb < ca
        · rw [if_pos h2]
          have hne : (ca == cb) = false := by rw [beq_eq_false_iff_ne]; omega
          clear h2
          go_enter Try.func34, Try.ntmps34
          go_upto_region 1 with fail
          rw [← hWH.out]
          clear hWH
          go_wp2_with (first | refine wpList_load_problem rfl _ rfl w.heap.size rfl x hst.out.p ?_ | refine wpList_load_plan rfl _ rfl (w.heap.size + 1) rfl a hst.out.a ?_ | refine wpList_load_plan rfl _ rfl (w.heap.size + 2) rfl b hst.out.b ?_)
          refine (HVA.out _ (hst.out.pr hP.out) (hA.out.below hst.out.bel)).mono ?_
          rintro e w1 ⟨rfl, hb1⟩
          have HX1 := Lib.hid (hst.out.below hb1)
          clear hb1 hst
          go_wp2_with (first | refine wpList_load_problem rfl _ rfl w.heap.size rfl x HX1.out.p ?_ | refine wpList_load_plan rfl _ rfl (w.heap.size + 1) rfl a HX1.out.a ?_ | refine wpList_load_plan rfl _ rfl (w.heap.size + 2) rfl b HX1.out.b ?_)
          refine (HVB.out _ (HX1.out.pr hP.out) (hB.out.below HX1.out.bel)).mono ?_
          rintro e w2 ⟨rfl, hb2⟩
          have HX2 := Lib.hid (HX1.out.below hb2)
          clear hb2 HX1
          go_upto_region 7 with fail
          have a0 := HX2.out.a.cell 0
          have a1 := HX2.out.a.cell 1
          have a2 := HX2.out.a.cell 2
          have b0 := HX2.out.b.cell 0
          have b1 := HX2.out.b.cell 1
          have b2 := HX2.out.b.cell 2
          simp [PnM.cs] at a0 a1 a2 b0 b1 b2
          refine wp_region_held_drew (S := (fun w' => Below w2.heap.size w2 w' ∧ w'.cell? ⟨w.heap.size + 1, 0, none⟩ = some (.slice a.charge.A a.charge.l.length a.charge.c) ∧ w'.cell? ⟨w.heap.size + 1, 1, none⟩ = some (.slice a.heat.A a.heat.l.length a.heat.c) ∧ w'.cell? ⟨w.heap.size + 1, 2, none⟩ = some (.slice a.start.A a.start.l.length a.start.c) ∧ w'.cell? ⟨w.heap.size + 2, 0, none⟩ = some (.slice b.charge.A b.charge.l.length b.charge.c) ∧ w'.cell? ⟨w.heap.size + 2, 1, none⟩ = some (.slice b.heat.A b.heat.l.length b.heat.c) ∧ w'.cell? ⟨w.heap.size + 2, 2, none⟩ = some (.slice b.start.A b.start.l.length b.start.c))) (by kernel_rfl) (⟨(Below.drew (Below.refl _ _)), a0, a1, a2, b0, b1, b2⟩) (fun hHeld => ?_)
          refine wpAnyH_take (i := 0) (v := ?_) rfl (by kernel_rfl) (by kernel_rfl) (by kernel_rfl) (fun _ _ _ h => h) (Or.inl ⟨by rfl, ?_⟩) (by assumption) ?_
          rotate_left
          · (intro w' hSw; (try dsimp only at hSw); go_simp; try with_reducible rfl)
          (try simp only [List.getElem_toArray, List.getElem_cons_zero, Act.put, List.setIfInBounds_toArray, List.set_cons_zero, List.set_cons_succ])
          refine wpAnyH_take (i := 1) (v := ?_) rfl (by kernel_rfl) (by kernel_rfl) (by kernel_rfl) (fun _ _ _ h => h) (Or.inl ⟨by rfl, ?_⟩) (by assumption) ?_
          rotate_left
          · (intro w' hSw; (try dsimp only at hSw); go_simp; try with_reducible rfl)
          (try simp only [List.getElem_toArray, List.getElem_cons_zero, List.getElem_cons_succ, Act.put, List.setIfInBounds_toArray, List.set_cons_zero, List.set_cons_succ])
          refine wpAnyH_take (i := 2) (v := ?_) rfl (by kernel_rfl) (by kernel_rfl) (by kernel_rfl) (fun _ _ _ h => h) (Or.inl ⟨by rfl, ?_⟩) (by assumption) ?_
          rotate_left
          · (intro w' hSw; (try dsimp only at hSw); go_simp; try with_reducible rfl)
          (try simp only [List.getElem_toArray, List.getElem_cons_zero, List.getElem_cons_succ, Act.put, List.setIfInBounds_toArray, List.set_cons_zero, List.set_cons_succ])
          refine wpAnyH_take (i := 3) (v := ?_) rfl (by kernel_rfl) (by kernel_rfl) (by kernel_rfl) (fun _ _ _ h => h) (Or.inl ⟨by rfl, ?_⟩) (by assumption) ?_
          rotate_left
          · (intro w' hSw; (try dsimp only at hSw); go_simp; try with_reducible rfl)
          (try simp only [List.getElem_toArray, List.getElem_cons_zero, List.getElem_cons_succ, Act.put, List.setIfInBounds_toArray, List.set_cons_zero, List.set_cons_succ])
          refine wpAnyH_take (i := 4) (v := undef) rfl (by kernel_rfl) (by kernel_rfl) (by kernel_rfl) (fun _ _ _ h => h) (Or.inr ⟨by rfl, rfl⟩) (by assumption) ?_
          (try simp only [List.getElem_toArray, List.getElem_cons_zero, List.getElem_cons_succ, Act.put, List.setIfInBounds_toArray, List.set_cons_zero, List.set_cons_succ])
          refine wpAnyH_take (i := 5) (v := undef) rfl (by kernel_rfl) (by kernel_rfl) (by kernel_rfl) (fun _ _ _ h => h) (Or.inr ⟨by rfl, rfl⟩) (by assumption) ?_
          (try simp only [List.getElem_toArray, List.getElem_cons_zero, List.getElem_cons_succ, Act.put, List.setIfInBounds_toArray, List.set_cons_zero, List.set_cons_succ])
          refine wpAnyH_take (i := 6) (v := undef) rfl (by kernel_rfl) (by kernel_rfl) (by kernel_rfl) (fun _ _ _ h => h) (Or.inr ⟨by rfl, rfl⟩) (by assumption) ?_
          (try simp only [List.getElem_toArray, List.getElem_cons_zero, List.getElem_cons_succ, Act.put, List.setIfInBounds_toArray, List.set_cons_zero, List.set_cons_succ])
          refine wpAnyH_take (i := 7) (v := undef) rfl (by kernel_rfl) (by kernel_rfl) (by kernel_rfl) (fun _ _ _ h => h) (Or.inr ⟨by rfl, rfl⟩) (by assumption) ?_
          (try simp only [List.getElem_toArray, List.getElem_cons_zero, List.getElem_cons_succ, Act.put, List.setIfInBounds_toArray, List.set_cons_zero, List.set_cons_succ])
          refine wpAnyH_take (i := 8) (v := undef) rfl (by kernel_rfl) (by kernel_rfl) (by kernel_rfl) (fun _ _ _ h => h) (Or.inr ⟨by rfl, rfl⟩) (by assumption) ?_
          (try simp only [List.getElem_toArray, List.getElem_cons_zero, List.getElem_cons_succ, Act.put, List.setIfInBounds_toArray, List.set_cons_zero, List.set_cons_succ])
          refine wpAnyH_take (i := 9) (v := undef) rfl (by kernel_rfl) (by kernel_rfl) (by kernel_rfl) (fun _ _ _ h => h) (Or.inr ⟨by rfl, rfl⟩) (by assumption) ?_
          (try simp only [List.getElem_toArray, List.getElem_cons_zero, List.getElem_cons_succ, Act.put, List.setIfInBounds_toArray, List.set_cons_zero, List.set_cons_succ])
          refine wpAnyH_take (i := 10) (v := ?_) rfl (by kernel_rfl) (by kernel_rfl) (by kernel_rfl) (fun _ _ _ h => h) (Or.inl ⟨by rfl, ?_⟩) (by assumption) ?_
          rotate_left
          · (intro w' hSw; (try dsimp only at hSw); go_simp; try with_reducible rfl)
          (try simp only [List.getElem_toArray, List.getElem_cons_zero, List.getElem_cons_succ, Act.put, List.setIfInBounds_toArray, List.set_cons_zero, List.set_cons_succ])
          refine wpAnyH_take (i := 11) (v := ?_) rfl (by kernel_rfl) (by kernel_rfl) (by kernel_rfl) (fun _ _ _ h => h) (Or.inl ⟨by rfl, ?_⟩) (by assumption) ?_
          rotate_left
          · (intro w' hSw; (try dsimp only at hSw); go_simp; try with_reducible rfl)
          (try simp only [List.getElem_toArray, List.getElem_cons_zero, List.getElem_cons_succ, Act.put, List.setIfInBounds_toArray, List.set_cons_zero, List.set_cons_succ])
          refine wpAnyH_done (by kernel_rfl) ?_ _
          have hfin := Lib.hid (HX2.out.bel.trans ((Below.drew (Below.refl w2.heap.size w2)).mono HX2.out.bel.size))
          go_wp2_with fail
          go_ret
          exact ⟨rfl, hfin.out⟩
        · rw [if_neg h2]
          have hce : ca = cb := by omega
          subst hce
          have hne : (ca == ca) = true := by simp
          clear h1 h2
          go_enter Try.func34, Try.ntmps34
          go_upto_region 1 with fail
          rw [← hWH.out]
          clear hWH
          go_wp2_with (first | refine wpList_load_problem rfl _ rfl w.heap.size rfl x hst.out.p ?_ | refine wpList_load_plan rfl _ rfl (w.heap.size + 1) rfl a hst.out.a ?_ | refine wpList_load_plan rfl _ rfl (w.heap.size + 2) rfl b hst.out.b ?_)
          refine (HVA.out _ (hst.out.pr hP.out) (hA.out.below hst.out.bel)).mono ?_
          rintro e w1 ⟨rfl, hb1⟩
          have HX1 := Lib.hid (hst.out.below hb1)
          clear hb1 hst
          go_wp2_with (first | refine wpList_load_problem rfl _ rfl w.heap.size rfl x HX1.out.p ?_ | refine wpList_load_plan rfl _ rfl (w.heap.size + 1) rfl a HX1.out.a ?_ | refine wpList_load_plan rfl _ rfl (w.heap.size + 2) rfl b HX1.out.b ?_)
          refine (HVB.out _ (HX1.out.pr hP.out) (hB.out.below HX1.out.bel)).mono ?_
          rintro e w2 ⟨rfl, hb2⟩
          have HX2 := Lib.hid (HX1.out.below hb2)
          clear hb2 HX1
          go_upto_region 7 with fail
          have a0 := HX2.out.a.cell 0
          have a1 := HX2.out.a.cell 1
          have a2 := HX2.out.a.cell 2
          have b0 := HX2.out.b.cell 0
          have b1 := HX2.out.b.cell 1
          have b2 := HX2.out.b.cell 2
          simp [PnM.cs] at a0 a1 a2 b0 b1 b2
          refine wp_region_held_drew (S := (fun w' => Below w2.heap.size w2 w' ∧ w'.cell? ⟨w.heap.size + 1, 0, none⟩ = some (.slice a.charge.A a.charge.l.length a.charge.c) ∧ w'.cell? ⟨w.heap.size + 1, 1, none⟩ = some (.slice a.heat.A a.heat.l.length a.heat.c) ∧ w'.cell? ⟨w.heap.size + 1, 2, none⟩ = some (.slice a.start.A a.start.l.length a.start.c) ∧ w'.cell? ⟨w.heap.size + 2, 0, none⟩ = some (.slice b.charge.A b.charge.l.length b.charge.c) ∧ w'.cell? ⟨w.heap.size + 2, 1, none⟩ = some (.slice b.heat.A b.heat.l.length b.heat.c) ∧ w'.cell? ⟨w.heap.size + 2, 2, none⟩ = some (.slice b.start.A b.start.l.length b.start.c))) (by kernel_rfl) (⟨(Below.drew (Below.refl _ _)), a0, a1, a2, b0, b1, b2⟩) (fun hHeld => ?_)
          refine wpAnyH_take (i := 0) (v := ?_) rfl (by kernel_rfl) (by kernel_rfl) (by kernel_rfl) (fun _ _ _ h => h) (Or.inl ⟨by rfl, ?_⟩) (by assumption) ?_
          rotate_left
          · (intro w' hSw; (try dsimp only at hSw); go_simp; try with_reducible rfl)
          (try simp only [List.getElem_toArray, List.getElem_cons_zero, Act.put, List.setIfInBounds_toArray, List.set_cons_zero, List.set_cons_succ])
          refine wpAnyH_take (i := 1) (v := ?_) rfl (by kernel_rfl) (by kernel_rfl) (by kernel_rfl) (fun _ _ _ h => h) (Or.inl ⟨by rfl, ?_⟩) (by assumption) ?_
          rotate_left
          · (intro w' hSw; (try dsimp only at hSw); go_simp; try with_reducible rfl)
          (try simp only [List.getElem_toArray, List.getElem_cons_zero, List.getElem_cons_succ, Act.put, List.setIfInBounds_toArray, List.set_cons_zero, List.set_cons_succ])
          refine wpAnyH_take (i := 2) (v := ?_) rfl (by kernel_rfl) (by kernel_rfl) (by kernel_rfl) (fun _ _ _ h => h) (Or.inl ⟨by rfl, ?_⟩) (by assumption) ?_
          rotate_left
          · (intro w' hSw; (try dsimp only at hSw); go_simp; try with_reducible rfl)
          (try simp only [List.getElem_toArray, List.getElem_cons_zero, List.getElem_cons_succ, Act.put, List.setIfInBounds_toArray, List.set_cons_zero, List.set_cons_succ])
          refine wpAnyH_take (i := 3) (v := ?_) rfl (by kernel_rfl) (by kernel_rfl) (by kernel_rfl) (fun _ _ _ h => h) (Or.inl ⟨by rfl, ?_⟩) (by assumption) ?_
          rotate_left
          · (intro w' hSw; (try dsimp only at hSw); go_simp; try with_reducible rfl)
          (try simp only [List.getElem_toArray, List.getElem_cons_zero, List.getElem_cons_succ, Act.put, List.setIfInBounds_toArray, List.set_cons_zero, List.set_cons_succ])
          refine wpAnyH_take (i := 4) (v := ?_) rfl (by kernel_rfl) (by kernel_rfl) (by kernel_rfl) (fun _ _ _ h => h) (Or.inl ⟨by rfl, ?_⟩) (by assumption) ?_
          rotate_left
          · (intro w' hSw; (try dsimp only at hSw); go_simp; try with_reducible rfl)
          (try simp only [List.getElem_toArray, List.getElem_cons_zero, List.getElem_cons_succ, Act.put, List.setIfInBounds_toArray, List.set_cons_zero, List.set_cons_succ])
          refine wpAnyH_take (i := 6) (v := ?_) rfl (by kernel_rfl) (by kernel_rfl) (by kernel_rfl) (fun _ _ _ h => h) (Or.inl ⟨by rfl, ?_⟩) (by assumption) ?_
          rotate_left
          · (intro w' hSw; (try dsimp only at hSw); go_simp; try with_reducible rfl)
          (try simp only [List.getElem_toArray, List.getElem_cons_zero, List.getElem_cons_succ, Act.put, List.setIfInBounds_toArray, List.set_cons_zero, List.set_cons_succ])
          refine wpAnyH_ready (rs := [5]) (by kernel_rfl) (by simp) ?_
          refine AllReadyH.cons rfl (fun K hK => ?_) AllReadyH.nil
          have HKK := Lib.hid hK
          clear hK
          go_simp
          refine (HLA.out _ ((hA.out.below HX2.out.bel).below ((Below.drew (Below.refl w2.heap.size w2))))).mono ?_
          rintro e' w3 ⟨A1, c1, rfl, hr1, hf1, hbw3⟩
          have hBw3 := below_tr hHeld.1 hbw3
          go_wp2_with fail
          refine HKK.out _ _ (⟨hBw3, cell_below a0 hBw3, cell_below a1 hBw3, cell_below a2 hBw3, cell_below b0 hBw3, cell_below b1 hBw3, cell_below b2 hBw3⟩) (fun hH2 => ?_)
          clear HKK K
          replace hHeld := hH2
          clear hH2
          (try simp only [List.getElem_toArray, List.getElem_cons_zero, List.getElem_cons_succ, Act.put, List.setIfInBounds_toArray, List.set_cons_zero, List.set_cons_succ])
          have hr1w := hr1
          refine wpAnyH_ready (rs := [7]) (by kernel_rfl) (by simp) ?_
          refine AllReadyH.cons rfl (fun K hK => ?_) AllReadyH.nil
          have HKK := Lib.hid hK
          clear hK
          go_simp
          refine (HLB.out _ ((hB.out.below HX2.out.bel).below hBw3)).mono ?_
          rintro e' w4 ⟨A2, c2, rfl, hr2, hf2, hbw4⟩
          have hBw4 := below_tr hHeld.1 hbw4
          go_wp2_with fail
          refine HKK.out _ _ (⟨hBw4, cell_below a0 hBw4, cell_below a1 hBw4, cell_below a2 hBw4, cell_below b0 hBw4, cell_below b1 hBw4, cell_below b2 hBw4⟩) (fun hH2 => ?_)
          clear HKK K
          replace hHeld := hH2
          clear hH2
          (try simp only [List.getElem_toArray, List.getElem_cons_zero, List.getElem_cons_succ, Act.put, List.setIfInBounds_toArray, List.set_cons_zero, List.set_cons_succ])
          have hcm := compare_any A1 A2 c1 c2 la lb w4 (hr1w.below hbw4) hr2 (by have := HNA.out; omega) (by have := HNB.out; omega)
          refine wpAnyH_ready (rs := [8]) (by kernel_rfl) (by simp) ?_
          refine AllReadyH.cons rfl (fun K hK => ?_) AllReadyH.nil
          have HKK := Lib.hid hK
          clear hK
          go_simp
          refine (hcm).mono ?_
          rintro e' w5 ⟨r, rfl, hrl, rfl⟩
          have HRL := Lib.hid hrl
          clear hrl hcm
          go_wp2_with fail
          refine HKK.out _ _ (⟨hBw4, cell_below a0 hBw4, cell_below a1 hBw4, cell_below a2 hBw4, cell_below b0 hBw4, cell_below b1 hBw4, cell_below b2 hBw4⟩) (fun hH2 => ?_)
          clear HKK K
          replace hHeld := hH2
          clear hH2
          (try simp only [List.getElem_toArray, List.getElem_cons_zero, List.getElem_cons_succ, Act.put, List.setIfInBounds_toArray, List.set_cons_zero, List.set_cons_succ])
          refine wpAnyH_take (i := 9) (v := ?_) rfl (by kernel_rfl) (by kernel_rfl) (by kernel_rfl) (fun _ _ _ h => h) (Or.inl ⟨by rfl, ?_⟩) (by assumption) ?_
          rotate_left
          · (intro w' hSw; (try dsimp only at hSw); go_simp; try with_reducible rfl)
          (try simp only [List.getElem_toArray, List.getElem_cons_zero, List.getElem_cons_succ, Act.put, List.setIfInBounds_toArray, List.set_cons_zero, List.set_cons_succ])
          refine wpAnyH_take (i := 10) (v := ?_) rfl (by kernel_rfl) (by kernel_rfl) (by kernel_rfl) (fun _ _ _ h => h) (Or.inl ⟨by rfl, ?_⟩) (by assumption) ?_
          rotate_left
          · (intro w' hSw; (try dsimp only at hSw); go_simp; try with_reducible rfl)
          (try simp only [List.getElem_toArray, List.getElem_cons_zero, List.getElem_cons_succ, Act.put, List.setIfInBounds_toArray, List.set_cons_zero, List.set_cons_succ])
          refine wpAnyH_take (i := 11) (v := ?_) rfl (by kernel_rfl) (by kernel_rfl) (by kernel_rfl) (fun _ _ _ h => h) (Or.inl ⟨by rfl, ?_⟩) (by assumption) ?_
          rotate_left
          · (intro w' hSw; (try dsimp only at hSw); go_simp; try with_reducible rfl)
          (try simp only [List.getElem_toArray, List.getElem_cons_zero, List.getElem_cons_succ, Act.put, List.setIfInBounds_toArray, List.set_cons_zero, List.set_cons_succ])
          refine wpAnyH_done (by kernel_rfl) ?_ _
          have hfin := Lib.hid (HX2.out.bel.trans (hBw4.mono HX2.out.bel.size))
          clear hHeld hr1 hr1w hr2 hf1 hf2
          go_wp2_with fail
          go_ret
          exact ⟨by rw [← HRL.out]; rfl, hfin.out⟩
    · rw [if_pos hb]
      have hvb2 : ∀ W, RPb W x → RPn W b → Calls Try.prog 47 #[x.v, b.v] W fun e w' => e = .returned (.tuple #[.int .i64 cb, .bool false]) ∧ Below W.heap.size W w' := fun W h h2 => by have := hvb W h h2; rwa [show (eb == 0) = false by simp [hb]] at this
      have HVB := Lib.hid hvb2
      clear hvb hvb2 ha hb hLB hlenB
      go_enter Try.func34, Try.ntmps34
      go_upto_region 1 with fail
      rw [← hWH.out]
      clear hWH
      go_wp2_with (first | refine wpList_load_problem rfl _ rfl w.heap.size rfl x hst.out.p ?_ | refine wpList_load_plan rfl _ rfl (w.heap.size + 1) rfl a hst.out.a ?_ | refine wpList_load_plan rfl _ rfl (w.heap.size + 2) rfl b hst.out.b ?_)
      refine (HVA.out _ (hst.out.pr hP.out) (hA.out.below hst.out.bel)).mono ?_
      rintro e w1 ⟨rfl, hb1⟩
      have HX1 := Lib.hid (hst.out.below hb1)
      clear hb1 hst
      go_wp2_with (first | refine wpList_load_problem rfl _ rfl w.heap.size rfl x HX1.out.p ?_ | refine wpList_load_plan rfl _ rfl (w.heap.size + 1) rfl a HX1.out.a ?_ | refine wpList_load_plan rfl _ rfl (w.heap.size + 2) rfl b HX1.out.b ?_)
      refine (HVB.out _ (HX1.out.pr hP.out) (hB.out.below HX1.out.bel)).mono ?_
      rintro e w2 ⟨rfl, hb2⟩
      have HX2 := Lib.hid (HX1.out.below hb2)
      clear hb2 HX1
      go_wp2_with fail
      go_ret
      exact ⟨rfl, HX2.out.bel⟩
  · rw [if_pos ha]
    have hva2 : ∀ W, RPb W x → RPn W a → Calls Try.prog 47 #[x.v, a.v] W fun e w' => e = .returned (.tuple #[.int .i64 ca, .bool false]) ∧ Below W.heap.size W w' := fun W h h2 => by have := hva W h h2; rwa [show (ea == 0) = false by simp [ha]] at this
    have HVA := Lib.hid hva2
    have HVB := Lib.hid hvb
    clear hva hva2 hvb ha hLA hlenA hLB hlenB
    go_enter Try.func34, Try.ntmps34
    go_upto_region 1 with fail
    rw [← hWH.out]
    clear hWH
    go_wp2_with (first | refine wpList_load_problem rfl _ rfl w.heap.size rfl x hst.out.p ?_ | refine wpList_load_plan rfl _ rfl (w.heap.size + 1) rfl a hst.out.a ?_ | refine wpList_load_plan rfl _ rfl (w.heap.size + 2) rfl b hst.out.b ?_)
    refine (HVA.out _ (hst.out.pr hP.out) (hA.out.below hst.out.bel)).mono ?_
    rintro e w1 ⟨rfl, hb1⟩
    have HX1 := Lib.hid (hst.out.below hb1)
    clear hb1 hst
    go_wp2_with (first | refine wpList_load_problem rfl _ rfl w.heap.size rfl x HX1.out.p ?_ | refine wpList_load_plan rfl _ rfl (w.heap.size + 1) rfl a HX1.out.a ?_ | refine wpList_load_plan rfl _ rfl (w.heap.size + 2) rfl b HX1.out.b ?_)
    refine (HVB.out _ (HX1.out.pr hP.out) (hB.out.below HX1.out.bel)).mono ?_
    rintro e w2 ⟨rfl, hb2⟩
    have HX2 := Lib.hid (HX1.out.below hb2)
    clear hb2 HX1
    go_wp2_with fail
    go_ret
    exact ⟨rfl, HX2.out.bel⟩
end Go.Proofs.Ytnppngaabfhkpaa
