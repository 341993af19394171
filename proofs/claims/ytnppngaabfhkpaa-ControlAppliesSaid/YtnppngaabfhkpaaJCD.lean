/-
  The arguments of laws opened: a decision of the reference.
-/
import Derived.Test.YtnppngaabfhkpaaJC4
import Derived.Test.YtnppngaabfhkpaaJU20
import Derived.Deep.Grids
import Derived.Test.YtnppngaabfhkpaaJV4
import Derived.Test.YtnppngaabfhkpaaJRW4
import Derived.Test.YtnppngaabfhkpaaJP25
namespace Go.Proofs.Ytnppngaabfhkpaa
open Go.Joins Go.ChangeShapes Go.WideShapes Go.RowKit Go.Deep
theorem Try.cellsBool : Try.prog.cellsOf 4 = 1 := by kernel_rfl
theorem Try.cellsDecR : Try.prog.cellsOf 56 = 3 := by kernel_rfl
theorem open_rbools {H : Type} {enc : TypeId × Value → H} {w : World} {base : Nat} {held : Bool} {n : Nat} {v : Value} {y : DataW H × List MemPlace}
    (h : DataW.trod enc Try.prog w base (fun _ => true) held n 54 [v] = some y) :
    ∃ A c l, v = .slice A l.length c ∧ RBools w A l := by
  rcases open_bools Try.underlying54 Try.underlying4 Try.cellsBool h with ⟨hcs, _⟩ | ⟨a, len, cap, B, hcs, _, hl, hm, _, hcell⟩
  · simp at hcs
    exact ⟨none, 0, [], hcs, RBools.nil⟩
  · simp at hcs
    refine ⟨some a, cap, (List.range len).map B, by rw [List.length_map, List.length_range]; exact hcs, by rw [bools_length, Nat.mul_one], fun hn => ⟨a, rfl, ?_, fun j u hu => ?_⟩⟩
    · rw [List.length_map, List.length_range] at hn
      have := World.block_lt_of_cell? _ _ (hcell 0 (by omega))
      rwa [block_of_add] at this
    · simp only [bools, List.getElem?_map, Option.map_eq_some_iff] at hu
      obtain ⟨b, ⟨i, hi, rfl⟩, rfl⟩ := hu
      obtain ⟨h1, h2⟩ := List.getElem?_eq_some_iff.1 hi
      rw [List.getElem_range] at h2
      subst h2
      rw [List.length_range] at h1
      exact hcell j (by omega)
set_option maxRecDepth 100000 in
theorem open_decR {H : Type} {enc : TypeId × Value → H} {w : World} {base : Nat} {held : Bool} {r : Reach} {b0 : Nat} {v : Value} {d : DataW H} {p : List MemPlace}
    (hv : Value.okWide Try.prog w r b0 56 v) (h : DataW.Trod enc Try.prog w base (fun _ => true) held 56 v d p) :
    ∃ m : DcM, v = m.v ∧ RBools w m.A m.l := by
  obtain ⟨cs, rfl, hsz⟩ := okWide_struct Try.underlying56 hv
  rw [Try.cellsDecR] at hsz
  obtain ⟨l⟩ := cs
  match l, hsz with
  | [c0, c1, c2], _ =>
    obtain ⟨fuel, hf⟩ := h
    obtain ⟨xs, n, _, _, _, hl, hel⟩ := DataW.trod_struct Try.underlying56 hf
    match xs, hl with
    | [y0, y1, y2], _ =>
      have t0 := hel 0 _ rfl
      have t1 := hel 1 _ rfl
      have t2 := hel 2 _ rfl
      obtain ⟨ch, rfl, _⟩ := open_int1 t0
      obtain ⟨he, rfl, _⟩ := open_int1 t1
      obtain ⟨A, c, l, rfl, hr⟩ := open_rbools t2
      exact ⟨⟨ch, he, A, c, l⟩, rfl, hr⟩
end Go.Proofs.Ytnppngaabfhkpaa
namespace Go.Proofs.Ytnppngaabfhkpaa
open Go.RowKit
attribute [local go_sem ↓] Go.wp_at_zero Go.wp_at_succ
def Pb.advQ (p : Pb) (d : Dc) : Pb := if p.advE d = 0 then p.adv d else PbM.nil.p
def AdvBoth (p : Pb) (d : Dc) (w : World) (e : Ending) (w' : World) : Prop := ∃ m : PbM, e = .returned (.tuple #[m.v, .int .i64 (p.advE d)]) ∧ m.p = p.advQ d ∧ RPb w' m ∧ Below w.heap.size w w'
theorem AdvanceOut.one {p : Pb} {d : Dc} {w w' : World} {e : Ending} (h : AdvanceOut p d w e w') : AdvBoth p d w e w' := by
  rcases h with ⟨h0, m, he, hm, hr, _, _, hb⟩ | ⟨h0, he, hb⟩
  · exact ⟨m, by rw [h0]; exact he, by unfold Pb.advQ; rw [if_pos h0]; exact hm, hr, hb⟩
  · exact ⟨PbM.nil, he, by unfold Pb.advQ; rw [if_neg h0], RPb.nil _, hb⟩
theorem Pb.advQ_short {p : Pb} {d : Dc} {m : PbM} (hm : m.p = p.advQ d) : (∀ l ∈ [m.buy, m.sell, m.solar, m.demand, m.outside, m.low, m.high], l.l.length < 1000000000) ∧ m.loads.length ≤ 1000 ∧ ∀ y ∈ m.loads, y.r.prof.length < 1000000000 := by
  have e0 : m.buy.l = (p.advQ d).t.buy := by rw [← hm]; rfl
  have e1 : m.sell.l = (p.advQ d).t.sell := by rw [← hm]; rfl
  have e2 : m.solar.l = (p.advQ d).solar := by rw [← hm]; rfl
  have e3 : m.demand.l = (p.advQ d).demand := by rw [← hm]; rfl
  have e4 : m.outside.l = (p.advQ d).outside := by rw [← hm]; rfl
  have e5 : m.low.l = (p.advQ d).room.low := by rw [← hm]; rfl
  have e6 : m.high.l = (p.advQ d).room.high := by rw [← hm]; rfl
  have e7 : m.loads.map LdM.r = (p.advQ d).loads := by rw [← hm]; rfl
  have key : (p.advQ d).t.buy.length ≤ 96 ∧ (p.advQ d).t.sell.length ≤ 96 ∧ (p.advQ d).solar.length ≤ 96 ∧ (p.advQ d).demand.length ≤ 96 ∧ (p.advQ d).outside.length ≤ 96 ∧ (p.advQ d).room.low.length ≤ 96 ∧ (p.advQ d).room.high.length ≤ 96 ∧ (p.advQ d).loads.length ≤ 4 ∧ ∀ y ∈ (p.advQ d).loads, y.prof.length ≤ 24 := by
    unfold Pb.advQ
    by_cases h : p.advE d = 0
    · rw [if_pos h]
      have he : p.doE d = 0 := Classical.byContradiction fun h2 => by unfold Pb.advE at h; rw [if_pos h2] at h; exact h2 h
      have hc : p.chk = 0 := Classical.byContradiction fun h2 => by rw [Pb.do_chk h2] at he; exact h2 he
      have h2 : p.okTo d p.loads.length = false → False := fun hk => by
        unfold Pb.advE at h
        rw [if_neg (fun e => e he)] at h
        by_cases h1 : p.n = 1
        · rw [if_pos h1] at h; cases h
        · rw [if_neg h1, if_pos hk] at h; cases h
      have hok : p.okTo d p.loads.length = true := by
        cases hk : p.okTo d p.loads.length
        · exact (h2 hk).elim
        · rfl
      have g := Pb.good hc
      have hn := (Pb.nbd g).2
      have t0 : p.t.buy.length = p.n := rfl
      have t1 := (Tf.good g.t).len
      obtain ⟨t2, t3, t4⟩ := g.lens
      obtain ⟨_, t5, t6, _⟩ := Pb.room_ok g
      have t7 := Pb.loads4 g
      have t8 := Pb.nexts_len p d p.loads.length
      have t9 := Pb.whichs_len p d p.loads.length
      show (p.t.buy.drop 1).length ≤ 96 ∧ (p.t.sell.drop 1).length ≤ 96 ∧ (p.solar.drop 1).length ≤ 96 ∧ (p.demand.drop 1).length ≤ 96 ∧ (p.outside.drop 1).length ≤ 96 ∧ (p.room.low.drop 1).length ≤ 96 ∧ (p.room.high.drop 1).length ≤ 96 ∧ (p.nexts d p.loads.length).length ≤ 4 ∧ _
      refine ⟨?_, ?_, ?_, ?_, ?_, ?_, ?_, by omega, fun y hy => (Pb.nexts_fit g hok y hy).1⟩ <;> rw [List.length_drop] <;> omega
    · rw [if_neg h]
      exact ⟨by decide, by decide, by decide, by decide, by decide, by decide, by decide, by decide, fun y hy => by cases hy⟩
  obtain ⟨k0, k1, k2, k3, k4, k5, k6, k7, k8⟩ := key
  rw [← e0] at k0; rw [← e1] at k1; rw [← e2] at k2; rw [← e3] at k3; rw [← e4] at k4; rw [← e5] at k5; rw [← e6] at k6
  rw [← e7] at k7 k8
  rw [List.length_map] at k7
  refine ⟨fun l hl => ?_, by omega, fun y hy => by have := k8 y.r (List.mem_map.2 ⟨y, hy, rfl⟩); omega⟩
  simp only [List.mem_cons, List.not_mem_nil, or_false] at hl
  rcases hl with rfl | rfl | rfl | rfl | rfl | rfl | rfl <;> omega
set_option maxRecDepth 100000 in
set_option maxHeartbeats 64000000 in
theorem capplies_law (x : PbM) (d : DcM) (w : World) (hP0 : RPb w x) (hL0 : ∀ z ∈ x.loads, z.r.prof.length ≤ maxLen ∧ z.r.name.size ≤ maxLen ∧ -9223372036854775808 ≤ z.r.late ∧ z.r.late ≤ 9223372036854775807) (hc0 : x.loads.length ≤ x.lc) (hm0 : x.buy.l.length ≤ maxLen) (hC0 : x.Cap) (hD0 : RBools w d.A d.l) :
    Calls Try.prog 11 #[x.v, d.v] w fun e w' => e = .returned (.bool true) ∧ Below w.heap.size w w' := by
  have hF0 : x.Fit := ⟨fun y h => (hL0 y h).2.1, fun y h => (hL0 y h).1, hc0, hm0, fun y h => (hL0 y h).2.2⟩
  have hP := Lib.hid hP0
  have hD := Lib.hid hD0
  have haw := Lib.hid awake44_any
  have hlg := fun W (h : RPb W x) => large_any x W h
  have hap := fun W (h : RPb W x) (h2 : RBools W d.A d.l) => apply_any x d W h hF0 h2
  have hra := fun W (h : RPb W x) (h2 : RBools W d.A d.l) => rapply_any x d W h hF0 h2
  have had := fun W (h : RPb W x) (h2 : RBools W d.A d.l) => (advanceX_any x d W h hF0 hC0 h2).mono (fun e w' hh => hh.one)
  have hrd := fun W (h : RPb W x) (h2 : RBools W d.A d.l) => (radvance_any x d W h hF0 hC0 h2).mono (fun e w' hh => hh.one)
  have hsm := fun (m1 m2 : PbM) W (h1 : RPb W m1) (h2 : RPb W m2) (e1 : m1.p = x.p.advQ d.d) (e2 : m2.p = x.p.advQ d.d) => (by
    obtain ⟨k1, k2, k3⟩ := Pb.advQ_short e1
    exact probsame_true m1 m2 W h1 h2 (e1.trans e2.symm) k1 k2 k3 : Calls Try.prog 41 #[m1.v, m2.v] W (fun e w' => e = .returned (.bool true) ∧ Below W.heap.size W w'))
  unfold ApplyOut at hap hra
  unfold AdvBoth at had hrd
  have hst0 := PD.start x d 56 w
  simp only [PbM.v, DcM.v]
  obtain ⟨W, hW⟩ : ∃ W, W = (w.alloc (.cells #[.slice x.buy.A x.buy.l.length x.buy.c, .slice x.sell.A x.sell.l.length x.sell.c, .int .i64 x.fuse, .slice x.solar.A x.solar.l.length x.solar.c, .slice x.demand.A x.demand.l.length x.demand.c, .slice x.outside.A x.outside.l.length x.outside.c, .int .i64 x.bat.cap, .int .i64 x.bat.reserve, .int .i64 x.bat.charge, .int .i64 x.bat.discharge, .int .i64 x.bat.eff, .int .i64 x.gain, .int .i64 x.loss, .int .i64 x.steps, .int .i64 x.power, .slice x.low.A x.low.l.length x.low.c, .slice x.high.A x.high.l.length x.high.c, .slice x.LA x.loads.length x.lc, .int .i64 x.level, .int .i64 x.temp] 31)).alloc (.cells #[.int .i64 d.charge, .int .i64 d.heat, .slice d.A d.l.length d.c] 56) := ⟨_, rfl⟩
  rw [show (w.alloc (.cells x.cs 31)).alloc (.cells d.cs 56) = W from hW.symm] at hst0
  have hst := Lib.hid hst0
  have hWH := Lib.hid hW
  clear hst0 hW hP0 hL0 hc0 hm0 hF0 hC0 hD0
  generalize x.p.apL d.d = aL at *
  generalize x.p.apT d.d = aT at *
  generalize x.p.apN d.d = aN at *
  generalize x.p.doE d.d = aE at *
  generalize x.p.advE d.d = vE at *
  generalize x.p.advQ d.d = vQ at *
  have HLG := Lib.hid hlg
  have HAP := Lib.hid hap
  have HRA := Lib.hid hra
  have HAD := Lib.hid had
  have HRD := Lib.hid hrd
  have HSM := Lib.hid hsm
  clear hlg hap hra had hrd hsm
  go_enter Try.func11, Try.ntmps11
  go_upto_region 1 with fail
  rw [← hWH.out]
  clear hWH
  go_wp2_with (first | refine wpList_load_problemG (by rfl) _ rfl w.heap.size rfl x hst.out.p ?_ | refine wpList_load_decR (by rfl) _ rfl (w.heap.size + 1) rfl d hst.out.q ?_)
  refine (HLG.out _ (hP.out.below hst.out.bel)).mono ?_
  rintro e w1 ⟨g, rfl, _, hb1⟩
  have HX1 := Lib.hid (hst.out.below hb1)
  have d2 := HX1.out.q.cell 2
  simp [DcM.cs] at d2
  clear hb1 hst HLG
  cases g
  · by_cases h1 : (10 : Int) < (d.l.length : Int)
    · clear HAP HRA HAD HRD HSM
      go_wp2_with fail
      refine (haw.out _).mono ?_
      rintro e wl ⟨rfl, hbl⟩
      go_wp2_with fail
      go_ret
      exact ⟨rfl, HX1.out.bel.trans (hbl.mono HX1.out.bel.size)⟩
    · go_upto_region 3 with fail
      clear h1 d2
      have d0 := HX1.out.q.cell 0
      have d1 := HX1.out.q.cell 1
      have d2 := HX1.out.q.cell 2
      simp [DcM.cs] at d0 d1 d2
      go_upto_region 4 with fail
      clear d0 d1 d2
      obtain ⟨w2, hw2⟩ : ∃ W, W = w1.alloc (.cells #[.int .i64 d.charge, .int .i64 d.heat, .slice d.A d.l.length d.c] 57) := ⟨_, rfl⟩
      obtain ⟨t5, ht5⟩ : ∃ n, n = w1.heap.size := ⟨_, rfl⟩
      rw [← hw2, ← ht5]
      have HX2 : Hid (PD x d 56 w w2) := by show PD _ _ _ _ _; rw [hw2]; exact HX1.out.alloc _
      have HD2 : Hid (Blk w2 t5 57 d.cs) := by show Blk _ _ _ _; rw [hw2, ht5]; exact Blk.new _ _ _
      clear hw2 ht5 HX1
      go_wp2_with (first | refine wpList_load_problemG (by rfl) _ rfl w.heap.size rfl x HX2.out.p ?_ | refine wpList_load_decR (by rfl) _ rfl (w.heap.size + 1) rfl d HX2.out.q ?_ | refine wpList_load_decG (by rfl) _ rfl t5 rfl d HD2.out ?_)
      refine (HAP.out _ (hP.out.below HX2.out.bel) (hD.out.below HX2.out.bel)).mono ?_
      rintro e w3 ⟨rfl, hb3⟩
      have HX3 := Lib.hid (HX2.out.below hb3)
      have HD3 := Lib.hid (HD2.out.below hb3 HD2.out.lt)
      clear hb3 HX2 HD2 HAP
      go_upto_region 5 with fail
      go_wp2_with (first | refine wpList_load_problemG (by rfl) _ rfl w.heap.size rfl x HX3.out.p ?_ | refine wpList_load_decR (by rfl) _ rfl (w.heap.size + 1) rfl d HX3.out.q ?_)
      refine (HRA.out _ (hP.out.below HX3.out.bel) (hD.out.below HX3.out.bel)).mono ?_
      rintro e w4 ⟨rfl, hb4⟩
      have HX4 := Lib.hid (HX3.out.below hb4)
      have HD4 := Lib.hid (HD3.out.below hb4 HD3.out.lt)
      clear hb4 HX3 HD3 HRA
      go_upto_region 6 with fail
      go_wp2_with (first | refine wpList_load_problemG (by rfl) _ rfl w.heap.size rfl x HX4.out.p ?_ | refine wpList_load_decR (by rfl) _ rfl (w.heap.size + 1) rfl d HX4.out.q ?_ | refine wpList_load_decG (by rfl) _ rfl t5 rfl d HD4.out ?_)
      refine (HAD.out _ (hP.out.below HX4.out.bel) (hD.out.below HX4.out.bel)).mono ?_
      rintro e w5 ⟨m1, rfl, hm1, hr1, hb5⟩
      have HX5 := Lib.hid (HX4.out.below hb5)
      clear hb5 HX4 HD4 HAD
      simp only [PbM.v]
      go_wp2_with (refine wpList_store_blk rfl 31 _ _ rfl w5.heap.size rfl m1.cs rfl (by kernel_rfl) (PbM.cs_one _) (Blk.new w5 _ _) rfl ?_)
      intro w6 hBB hgg
      have hss : Below w5.heap.size w5 w6 := ((Below.refl w5.heap.size w5).alloc (Nat.le_refl _) (.cells #[.slice none 0 0, .slice none 0 0, .int .i64 0, .slice none 0 0, .slice none 0 0, .slice none 0 0, .int .i64 0, .int .i64 0, .int .i64 0, .int .i64 0, .int .i64 0, .int .i64 0, .int .i64 0, .int .i64 0, .int .i64 0, .slice none 0 0, .slice none 0 0, .slice none 0 0, .int .i64 0, .int .i64 0] 31)).grown hgg (by simp) (fun k e => by injection e with e; omega)
      obtain ⟨t14, ht⟩ : ∃ t, t = w5.heap.size := ⟨_, rfl⟩
      have HX6 := Lib.hid (HX5.out.below hss)
      have HB6 : Hid (Blk w6 t14 31 m1.cs) := by show Blk _ _ _ _; rw [ht]; exact hBB
      have HR6 := Lib.hid (hr1.below hss)
      have HM1 := Lib.hid hm1
      have HT := Lib.hid ht
      clear hss hgg hBB hr1 hm1 ht HX5
      go_upto_region 7 with fail
      rw [← HT.out]
      clear HT
      go_wp2_with (first | refine wpList_load_problemG (by rfl) _ rfl w.heap.size rfl x HX6.out.p ?_ | refine wpList_load_decR (by rfl) _ rfl (w.heap.size + 1) rfl d HX6.out.q ?_)
      refine (HRD.out _ (hP.out.below HX6.out.bel) (hD.out.below HX6.out.bel)).mono ?_
      rintro e w7 ⟨m2, rfl, hm2, hr2, hb7⟩
      have HX7 := Lib.hid (HX6.out.below hb7)
      have HB7 := Lib.hid (HB6.out.below hb7 HB6.out.lt)
      have HR7 := Lib.hid (HR6.out.below hb7)
      clear hb7 HX6 HB6 HR6 HRD
      simp only [PbM.v]
      go_wp2_with (refine wpList_store_blk rfl 31 _ _ rfl w7.heap.size rfl m2.cs rfl (by kernel_rfl) (PbM.cs_one _) (Blk.new w7 _ _) rfl ?_)
      intro w8 hBB hgg
      have hss : Below w7.heap.size w7 w8 := ((Below.refl w7.heap.size w7).alloc (Nat.le_refl _) (.cells #[.slice none 0 0, .slice none 0 0, .int .i64 0, .slice none 0 0, .slice none 0 0, .slice none 0 0, .int .i64 0, .int .i64 0, .int .i64 0, .int .i64 0, .int .i64 0, .int .i64 0, .int .i64 0, .int .i64 0, .int .i64 0, .slice none 0 0, .slice none 0 0, .slice none 0 0, .int .i64 0, .int .i64 0] 31)).grown hgg (by simp) (fun k e => by injection e with e; omega)
      obtain ⟨t16, ht⟩ : ∃ t, t = w7.heap.size := ⟨_, rfl⟩
      have HX8 := Lib.hid (HX7.out.below hss)
      have HB8 := Lib.hid (HB7.out.below hss HB7.out.lt)
      have HR8 := Lib.hid (HR7.out.below hss)
      have HC8 : Hid (Blk w8 t16 31 m2.cs) := by show Blk _ _ _ _; rw [ht]; exact hBB
      have HS8 := Lib.hid (hr2.below hss)
      have HM2 := Lib.hid hm2
      have HT := Lib.hid ht
      clear hss hgg hBB hr2 hm2 ht HX7 HB7 HR7
      go_upto_region 8 with fail
      rw [← HT.out]
      clear HT
      have q1 : (aL == aL) = true := by simp
      have q2 : (aT == aT) = true := by simp
      have q3 : (aN == aN) = true := by simp
      have q4 : (aE == aE) = true := by simp
      have q5 : (vE == vE) = true := by simp
      go_wp2_with (first | refine wpList_load_problemG (by rfl) _ rfl t14 rfl m1 HB8.out ?_ | refine wpList_load_problemG (by rfl) _ rfl t16 rfl m2 HC8.out ?_)
      refine (HSM.out m1 m2 _ HR8.out HS8.out HM1.out HM2.out).mono ?_
      rintro e w9 ⟨rfl, hb9⟩
      have HX9 := Lib.hid (HX8.out.below hb9)
      clear hb9 HX8 HB8 HR8 HC8 HS8 HSM
      go_wp2_with fail
      refine (haw.out _).mono ?_
      rintro e wl ⟨rfl, hbl⟩
      go_wp2_with fail
      go_ret
      exact ⟨rfl, HX9.out.bel.trans (hbl.mono HX9.out.bel.size)⟩
  · clear HAP HRA HAD HRD HSM
    go_wp2_with fail
    refine (haw.out _).mono ?_
    rintro e wl ⟨rfl, hbl⟩
    go_wp2_with fail
    go_ret
    exact ⟨rfl, HX1.out.bel.trans (hbl.mono HX1.out.bel.size)⟩
end Go.Proofs.Ytnppngaabfhkpaa
