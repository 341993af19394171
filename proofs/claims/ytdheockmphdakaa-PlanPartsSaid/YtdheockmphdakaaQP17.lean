/-
  The walks of layer 42 (plan), part 13: awake of the laws.
-/
import Derived.Test.YtdheockmphdakaaQPW
import Derived.Deep.RegionHeld3
namespace Go.Proofs.Ytdheockmphdakaa
open Go.RowKit
attribute [local go_sem ↓] Go.wp_at_zero Go.wp_at_succ

/-- A problem and a plan in the blocks p1 and x1. -/
structure AX (m : PbM) (y : PnM) (p1 x1 : Nat) (w wr : World) : Prop where
  p : Blk wr p1 31 m.cs
  q : Blk wr x1 37 y.cs
  rp : RPb wr m
  rq : RPn wr y
  bel : Below w.heap.size w wr
section
variable {m : PbM} {y : PnM} {p1 x1 : Nat} {w wr w1 : World}
theorem AX.below (h : AX m y p1 x1 w wr) (hb : Below wr.heap.size wr w1) : AX m y p1 x1 w w1 :=
  ⟨h.p.below hb h.p.lt, h.q.below hb h.q.lt, h.rp.below hb, h.rq.below hb, h.bel.trans (hb.mono h.bel.size)⟩
theorem AX.alloc (h : AX m y p1 x1 w wr) (o : Obj) : AX m y p1 x1 w (wr.alloc o) := h.below ((Below.refl _ _).alloc (Nat.le_refl _) _)
end
theorem yieldsIf_load_blk {P : Program} {ops : Array Oper} {S : World → Prop} {op : Oper} {a : Act} (hw : Region.wanted op (yielded ops a.tmps) = true) (ty : TypeId) {cs : Array Value} (hu : (P.underlying ty).map (fun d => match d with | .struct _ | .array _ _ => true | _ => false) = some true) (hi : (P.info? ty).map (·.size) = some cs.size)
    (x : Operand) (ho : op.op = .load ty x) (g : Nat) (hx : a.eval x = .pointer (some ⟨g, 0, none⟩)) {t : TypeId} (hS : ∀ w, S w → Blk w g t cs) : YieldsIf P ops S op (.agg cs) a :=
  .inl ⟨hw, fun w hw' => by
    have h := run_load_blk hu hi (hS w hw')
    unfold execOp
    simp only [ho, hx, Instr.loadAt, Instr.sureAddr, Sem.run_bind, Sem.run_pure, Result.andThen_ok, h]⟩
theorem below_al {W w' : World} {o : Obj} (h : Below W.heap.size W w') : Below W.heap.size W (w'.alloc o) := h.alloc h.size o
theorem below_tr {W w' w'' : World} (h : Below W.heap.size W w') (h2 : Below w'.heap.size w' w'') : Below W.heap.size W w'' := h.trans (h2.mono h.size)
theorem lit3_0 (W : World) (a : Int) (t : TypeId) (o2 o3 : Obj) : RInts (((W.drew.alloc (.cells #[.int .i64 a] t)).alloc o2).alloc o3) (some ⟨W.heap.size, 0, none⟩) [a] := ((rints_lit W.drew _ t rfl).alloc o2).alloc o3
theorem rints_lit' {w : World} {n : Nat} (h : w.heap.size = n) (cs : Array Value) (t : TypeId) {l : List Int} (hl : cs.toList = ints l) : RInts (w.alloc (.cells cs t)) (some ⟨n, 0, none⟩) l := h ▸ rints_lit w cs t hl
theorem lit3_1 (W : World) (a : Int) (t : TypeId) (o1 o3 : Obj) : RInts (((W.drew.alloc o1).alloc (.cells #[.int .i64 a] t)).alloc o3) (some ⟨W.heap.size + 1, 0, none⟩) [a] := (rints_lit' (w := W.drew.alloc o1) (by rw [World.size_alloc]; rfl) _ t rfl).alloc o3
theorem lit3_2 (W : World) (a : Int) (t : TypeId) (o1 o2 : Obj) : RInts (((W.drew.alloc o1).alloc o2).alloc (.cells #[.int .i64 a] t)) (some ⟨W.heap.size + 1 + 1, 0, none⟩) [a] := rints_lit' (w := (W.drew.alloc o1).alloc o2) (by rw [World.size_alloc, World.size_alloc]; rfl) _ t rfl

def exX : Pn := ⟨[0], [0], []⟩
theorem ex_run : exP.err exX = 0 ∧ exP.trace exX = ⟨[3], [0], [150], 90⟩ := by
  have h : exP.err exX = 0 := by decide +kernel
  refine ⟨h, ?_⟩
  rw [Pb.trace_ok h]
  have h1 : exP.nets exX exP.n = [3] := by decide +kernel
  have h2 : exP.levels exX exP.n = [0] := by decide +kernel
  have h3 : exP.temps exX exP.n = [150] := by decide +kernel
  have h4 : exP.t.total [3] = 90 := by decide +kernel
  rw [h1, h2, h3, h4]
theorem ex_run2 : exP.err ⟨[0, 0], [0], []⟩ = 3 ∧ exP.err ⟨[0], [1], []⟩ = 2 := by
  constructor <;> decide +kernel
theorem ex_run3 : ({ exP with t := { exP.t with fuse := 2 } } : Pb).err exX = 20 := by decide +kernel
theorem ex_idle : exP.idle = exX := by
  have h : exP.chk = 0 := by decide +kernel
  unfold Pb.idle
  rw [if_neg (by simp [h])]
  rfl

set_option maxRecDepth 100000 in
set_option maxHeartbeats 32000000 in
theorem awake_any (w : World) : Calls Try.prog 11 #[] w fun e w' => e = .returned (.bool true) ∧ Below w.heap.size w w' := by
  go_enter Try.func11, Try.ntmps11
  go_wp2_with fail
  refine (example_any _).mono ?_
  rintro e w1 ⟨m, hm, hf, rfl, hr, hb1⟩
  have HM := Lib.hid hm
  have HF := Lib.hid hf
  have HR := Lib.hid hr
  have HB1 := Lib.hid hb1
  clear hm hf hr hb1
  go_wp2_with (refine wpList_plain rfl (fun K hK => ?_); have HK := Lib.hid hK; clear hK)
  refine HK.out _ _ ?_
  clear HK
  refine wpList_store_blk rfl 31 _ _ rfl w1.heap.size rfl m.cs rfl (by kernel_rfl) (PbM.cs_one _) (Blk.new w1 _ _) rfl ?_
  intro w2 hB2 hg2
  have hb2 : Below w1.heap.size w1 w2 := ((Below.refl w1.heap.size w1).alloc (Nat.le_refl _) (.cells #[.slice none 0 0, .slice none 0 0, .int .i64 0, .slice none 0 0, .slice none 0 0, .slice none 0 0, .int .i64 0, .int .i64 0, .int .i64 0, .int .i64 0, .int .i64 0, .int .i64 0, .int .i64 0, .int .i64 0, .int .i64 0, .slice none 0 0, .slice none 0 0, .slice none 0 0, .int .i64 0, .int .i64 0] 31)).grown hg2 (by simp) (fun k e => by injection e with e; omega)
  have HR1 := HR
  have HR2 := Lib.hid (HR.out.below hb2)
  have HB2 := Lib.hid hb2
  have HP2 := Lib.hid hB2
  have HLT : Hid (w1.heap.size < w2.heap.size) := hB2.lt
  clear hB2 hg2 hb2 HR
  go_upto_region 3 with fail
  obtain ⟨y, hy⟩ : ∃ y : PnM, y = ⟨⟨some ⟨w2.heap.size, 0, none⟩, 1, [0]⟩, ⟨some ⟨w2.heap.size + 1, 0, none⟩, 1, [0]⟩, ⟨none, 0, []⟩⟩ := ⟨_, rfl⟩
  obtain ⟨w3, hw3⟩ : ∃ w3, w3 = ((w2.alloc (.cells #[.int .i64 0] 3)).alloc (.cells #[.int .i64 0] 3)).alloc (.cells #[.slice (some ⟨w2.heap.size, 0, none⟩) 1 1, .slice (some ⟨w2.heap.size + 1, 0, none⟩) 1 1, .slice none 0 0] 37) := ⟨_, rfl⟩
  have hyx : y.x = exX := by rw [hy]; rfl
  have hA3 : AX m y w1.heap.size (w2.heap.size + 1 + 1) w1 w3 := by
    rw [hw3]
    refine ⟨((HP2.out.alloc _).alloc _).alloc _, by rw [hy]; exact blk_new' (by simp) _ _, ?_, ?_, ((HB2.out.alloc HB2.out.size _).alloc (by have := HB2.out.size; simp; omega) _).alloc (by have := HB2.out.size; simp; omega) _⟩
    · exact HR2.out.below (below_al (below_al (below_al (Below.refl _ _))))
    · rw [hy]
      exact ⟨((rints_lit w2 _ _ rfl).alloc _).alloc _, (rints_lit' (by simp) _ _ rfl).alloc _, RInts.nil⟩
  have hyf : y.Fit := by
    rw [hy]
    exact ⟨Nat.le_refl _, Nat.le_refl _, by simp, by simp⟩
  rw [← hw3]
  have HA3 := Lib.hid hA3
  have HYA : Hid (∀ ad, (y.charge.A = some ad ∨ y.heat.A = some ad ∨ y.start.A = some ad) → ad.block ≠ w1.heap.size) := by
    have := HLT.out
    rw [hy]
    rintro ad (h | h | h)
    · injection h with h; subst h; show w2.heap.size ≠ _; omega
    · injection h with h; subst h; show w2.heap.size + 1 ≠ _; omega
    · cases h
  have HYX := Lib.hid hyx
  have HYF := Lib.hid hyf
  have HYV : Hid (y.v = .agg #[.slice (some ⟨w2.heap.size, 0, none⟩) 1 1, .slice (some ⟨w2.heap.size + 1, 0, none⟩) 1 1, .slice none 0 0]) := by show _ = _; rw [hy]; rfl
  have hrun := fun W (h : RPb W m) (h2 : RPn W y) => prun_any m y W h h2 HF.out hyf
  rw [HM.out, hyx, ex_run.1, ex_run.2] at hrun
  have HRUN := Lib.hid hrun
  clear hw3 hyx hA3 hyf hy HR2 HB2 HP2 hrun
  go_wp2_with (first | refine wpList_load_problem rfl _ rfl w1.heap.size rfl m (HA3.out).p ?_ | refine wpList_load_plan rfl _ rfl (w2.heap.size + 1 + 1) rfl y (HA3.out).q ?_)
  refine (HRUN.out _ HA3.out.rp HA3.out.rq).mono ?_
  rintro e w4 ⟨tm, htx, rfl, hrt, hb4⟩
  have HA4 := Lib.hid (HA3.out.below hb4)
  have HTX0 := Lib.hid htx
  have HRT4 := Lib.hid hrt
  simp only [TrM.v]
  clear hb4 htx hrt HA3
  go_upto_region 4 with fail
  obtain ⟨W, hW⟩ : ∃ W, W = w4.alloc (.cells #[.slice tm.net.A tm.net.l.length tm.net.c, .slice tm.level.A tm.level.l.length tm.level.c, .slice tm.temp.A tm.temp.l.length tm.temp.c, .int .i64 tm.cost] 40) := ⟨_, rfl⟩
  rw [← hW]
  have HA5 : Hid (AX m y w1.heap.size (w2.heap.size + 1 + 1) w1 W) := by show AX _ _ _ _ _ _; rw [hW]; exact HA4.out.alloc _
  have hT5 : Blk W w4.heap.size 40 #[.slice tm.net.A tm.net.l.length tm.net.c, .slice tm.level.A tm.level.l.length tm.level.c, .slice tm.temp.A tm.temp.l.length tm.temp.c, .int .i64 tm.cost] := by rw [hW]; exact Blk.new _ _ _
  have HRT5 : Hid (RTr W tm) := by show RTr _ _; rw [hW]; exact HRT4.out.below (below_al (Below.refl _ _))
  clear hW HRT4 HA4
  obtain ⟨p1, hp1⟩ : ∃ p1, p1 = w1.heap.size := ⟨_, rfl⟩
  obtain ⟨x1, hx1⟩ : ∃ x1, x1 = w2.heap.size + 1 + 1 := ⟨_, rfl⟩
  obtain ⟨t1, ht1⟩ : ∃ t1, t1 = w4.heap.size := ⟨_, rfl⟩
  rw [← hp1, ← hx1] at HA5
  rw [← hp1] at HYA
  rw [← ht1] at hT5
  rw [← hp1, ← hx1, ← ht1]
  have HP1 : Hid (p1 = w1.heap.size) := hp1
  clear hp1 hx1 ht1
  go_cut [40] (fun s40 wx => s40 = .bool false ∧ Hid (Below W.heap.size W wx))
  case first =>
    have HTX : Hid (∀ m2 : TrM, m2.x = ⟨[3], [0], [150], 90⟩ → tm.x = m2.x) := fun m2 h => HTX0.out.trans h.symm
    have l1 : tm.net.l = [3] := congrArg Tr.net HTX0.out
    have l2 : tm.level.l = [0] := congrArg Tr.level HTX0.out
    have l3 : tm.temp.l = [150] := congrArg Tr.temp HTX0.out
    have HL1 : Hid (tm.net.l.length < 1000000000) := by show _ < _; rw [l1]; decide
    have HL2 : Hid (tm.level.l.length < 1000000000) := by show _ < _; rw [l2]; decide
    have HL3 : Hid (tm.temp.l.length < 1000000000) := by show _ < _; rw [l3]; decide
    have hT := hT5
    have hAq := PnC.of_blk HA5.out.q
    obtain ⟨q0, q1, q2⟩ := hAq
    have c0 := hT.cell 0
    have c1 := hT.cell 1
    have c2 := hT.cell 2
    have c3 := hT.cell 3
    simp at c0 c1 c2 c3
    have HK : Hid (∀ W', Below W.heap.size W W' → Below W.heap.size W W' ∧ W'.cell? ⟨t1, 0, none⟩ = some (.slice tm.net.A tm.net.l.length tm.net.c) ∧ W'.cell? ⟨t1, 1, none⟩ = some (.slice tm.level.A tm.level.l.length tm.level.c) ∧ W'.cell? ⟨t1, 2, none⟩ = some (.slice tm.temp.A tm.temp.l.length tm.temp.c) ∧ W'.cell? ⟨t1, 3, none⟩ = some (.int .i64 tm.cost) ∧ W'.cell? ⟨x1, 0, none⟩ = some (.slice y.charge.A y.charge.l.length y.charge.c) ∧ W'.cell? ⟨x1, 1, none⟩ = some (.slice y.heat.A y.heat.l.length y.heat.c) ∧ W'.cell? ⟨x1, 2, none⟩ = some (.slice y.start.A y.start.l.length y.start.c)) := fun W' hb => ⟨hb, cell_below c0 hb, cell_below c1 hb, cell_below c2 hb, cell_below c3 hb, cell_below q0 hb, cell_below q1 hb, cell_below q2 hb⟩
    have HPB : Hid (∀ W', Below W.heap.size W W' → Blk W' p1 31 m.cs) := fun W' hb => HA5.out.p.below hb HA5.out.p.lt
    have HRP : Hid (∀ W', Below W.heap.size W W' → RPb W' m) := fun W' hb => HA5.out.rp.below hb
    have HRQ : Hid (∀ W', Below W.heap.size W W' → RPn W' y) := fun W' hb => HA5.out.rq.below hb
    have HRT : Hid (∀ W', Below W.heap.size W W' → RTr W' tm) := fun W' hb => HRT5.out.below hb
    have hid0 : m.p.idle = exX := by rw [HM.out]; exact ex_idle
    have HID := Lib.hid hid0
    clear hT5 hT c0 c1 c2 c3 q0 q1 q2 l1 l2 l3 hid0
    have HK2 : Hid (∀ W', Below W.heap.size W W' → (Below W.heap.size W W' ∧ W'.cell? ⟨t1, 0, none⟩ = some (.slice tm.net.A tm.net.l.length tm.net.c) ∧ W'.cell? ⟨t1, 1, none⟩ = some (.slice tm.level.A tm.level.l.length tm.level.c) ∧ W'.cell? ⟨t1, 2, none⟩ = some (.slice tm.temp.A tm.temp.l.length tm.temp.c) ∧ W'.cell? ⟨t1, 3, none⟩ = some (.int .i64 tm.cost) ∧ W'.cell? ⟨x1, 0, none⟩ = some (.slice y.charge.A y.charge.l.length y.charge.c) ∧ W'.cell? ⟨x1, 1, none⟩ = some (.slice y.heat.A y.heat.l.length y.heat.c) ∧ W'.cell? ⟨x1, 2, none⟩ = some (.slice y.start.A y.start.l.length y.start.c)) ∧ Blk W' p1 31 m.cs) := fun W' hb => ⟨HK.out W' hb, HPB.out W' hb⟩
    refine wp_region_held_drew (S := (fun w' => (Below W.heap.size W w' ∧ w'.cell? ⟨t1, 0, none⟩ = some (.slice tm.net.A tm.net.l.length tm.net.c) ∧ w'.cell? ⟨t1, 1, none⟩ = some (.slice tm.level.A tm.level.l.length tm.level.c) ∧ w'.cell? ⟨t1, 2, none⟩ = some (.slice tm.temp.A tm.temp.l.length tm.temp.c) ∧ w'.cell? ⟨t1, 3, none⟩ = some (.int .i64 tm.cost) ∧ w'.cell? ⟨x1, 0, none⟩ = some (.slice y.charge.A y.charge.l.length y.charge.c) ∧ w'.cell? ⟨x1, 1, none⟩ = some (.slice y.heat.A y.heat.l.length y.heat.c) ∧ w'.cell? ⟨x1, 2, none⟩ = some (.slice y.start.A y.start.l.length y.start.c)) ∧ Blk w' p1 31 m.cs)) (by kernel_rfl) (HK2.out _ (Below.drew (Below.refl _ _))) (fun hHeld => ?_)
    refine wpAnyH_take (i := 0) (v := ?_) rfl (by kernel_rfl) (by kernel_rfl) (by kernel_rfl) (fun _ _ _ h => h) (Or.inl ⟨by rfl, ?_⟩) (by assumption) ?_
    rotate_left
    · (intro w' hSw; (try dsimp only at hSw); go_simp; try with_reducible rfl)
    (try simp only [List.getElem_toArray, List.getElem_cons_zero, Act.put, List.setIfInBounds_toArray, List.set_cons_zero, List.set_cons_succ])
    refine wpAnyH_take (i := 1) (v := ?_) rfl (by kernel_rfl) (by kernel_rfl) (by kernel_rfl) (fun _ _ _ h => h) (Or.inl ⟨by rfl, ?_⟩) (by assumption) ?_
    rotate_left
    · (intro w' hSw; (try dsimp only at hSw); go_simp; try with_reducible rfl)
    (try simp only [List.getElem_toArray, List.getElem_cons_zero, List.getElem_cons_succ, Act.put, List.setIfInBounds_toArray, List.set_cons_zero, List.set_cons_succ])
    refine wpAnyH_take (i := 2) (v := ?_) rfl (by kernel_rfl) (by kernel_rfl) (by kernel_rfl) (fun _ _ _ h => h) (Or.inl ⟨by rfl, ?_⟩) (by assumption) ?_
    rotate_left
    · (intro w' hSw; (try dsimp only at hSw); go_simp; try with_reducible rfl)
    (try simp only [List.getElem_toArray, List.getElem_cons_zero, List.getElem_cons_succ, Act.put, List.setIfInBounds_toArray, List.set_cons_zero, List.set_cons_succ])
    refine wpAnyH_take (i := 3) (v := ?_) rfl (by kernel_rfl) (by kernel_rfl) (by kernel_rfl) (fun _ _ _ h => h) (Or.inl ⟨by rfl, ?_⟩) (by assumption) ?_
    rotate_left
    · (intro w' hSw; (try dsimp only at hSw); go_simp; try with_reducible rfl)
    (try simp only [List.getElem_toArray, List.getElem_cons_zero, List.getElem_cons_succ, Act.put, List.setIfInBounds_toArray, List.set_cons_zero, List.set_cons_succ])
    refine wpAnyH_ready (rs := [4, 5, 6]) (by kernel_rfl) (by simp) ?_
    refine (AllReadyH.cons rfl (fun K hK => ?_) (AllReadyH.cons rfl (fun K hK => ?_) (AllReadyH.cons rfl (fun K hK => ?_) AllReadyH.nil)))
    · have HKK := Lib.hid hK
      clear hK
      go_simp
      refine HKK.out _ _ (by first | exact HK2.out _ (below_al hHeld.1.1) | exact HK2.out _ hHeld.1.1 | exact HK2.out _ (below_tr hHeld.1.1 (by assumption))) (fun hH2 => ?_)
      clear HKK K
      replace hHeld := hH2
      clear hH2
      (try simp only [List.getElem_toArray, List.getElem_cons_zero, List.getElem_cons_succ, Act.put, List.setIfInBounds_toArray, List.set_cons_zero, List.set_cons_succ])
      refine wpAnyH_ready (rs := [5, 6]) (by kernel_rfl) (by simp) ?_
      refine (AllReadyH.cons rfl (fun K hK => ?_) (AllReadyH.cons rfl (fun K hK => ?_) AllReadyH.nil))
      · have HKK := Lib.hid hK
        clear hK
        go_simp
        refine HKK.out _ _ (by first | exact HK2.out _ (below_al hHeld.1.1) | exact HK2.out _ hHeld.1.1 | exact HK2.out _ (below_tr hHeld.1.1 (by assumption))) (fun hH2 => ?_)
        clear HKK K
        replace hHeld := hH2
        clear hH2
        (try simp only [List.getElem_toArray, List.getElem_cons_zero, List.getElem_cons_succ, Act.put, List.setIfInBounds_toArray, List.set_cons_zero, List.set_cons_succ])
        refine wpAnyH_ready (rs := [6]) (by kernel_rfl) (by simp) ?_
        refine (AllReadyH.cons rfl (fun K hK => ?_) AllReadyH.nil)
        · have HKK := Lib.hid hK
          clear hK
          go_simp
          refine HKK.out _ _ (by first | exact HK2.out _ (below_al hHeld.1.1) | exact HK2.out _ hHeld.1.1 | exact HK2.out _ (below_tr hHeld.1.1 (by assumption))) (fun hH2 => ?_)
          clear HKK K
          replace hHeld := hH2
          clear hH2
          (try simp only [List.getElem_toArray, List.getElem_cons_zero, List.getElem_cons_succ, Act.put, List.setIfInBounds_toArray, List.set_cons_zero, List.set_cons_succ])
          refine wpAnyH_take (i := 7) (v := ?_) rfl (by kernel_rfl) (by kernel_rfl) (by kernel_rfl) (fun _ _ _ h => h) (Or.inl ⟨by rfl, ?_⟩) (by assumption) ?_
          rotate_left
          · (intro w' hSw; (try dsimp only at hSw); go_simp; try with_reducible rfl)
          (try simp only [List.getElem_toArray, List.getElem_cons_zero, List.getElem_cons_succ, Act.put, List.setIfInBounds_toArray, List.set_cons_zero, List.set_cons_succ])
          refine wpAnyH_ready (rs := [8]) (by kernel_rfl) (by simp) ?_
          refine AllReadyH.cons rfl (fun K hK => ?_) AllReadyH.nil
          have HKK := Lib.hid hK
          clear hK
          go_simp
          (go_at_call 19; refine (sametrace_true tm ⟨⟨some ⟨W.heap.size, 0, none⟩, 1, [3]⟩, ⟨some ⟨W.heap.size + 1, 0, none⟩, 1, [0]⟩, ⟨some ⟨W.heap.size + 1 + 1, 0, none⟩, 1, [150]⟩, 90⟩ _ (HRT.out _ hHeld.1.1) ⟨lit3_0 _ _ _ _ _, lit3_1 _ _ _ _ _, lit3_2 _ _ _ _ _, Nat.le_refl _, Nat.le_refl _, Nat.le_refl _⟩ (HTX.out _ rfl) HL1.out HL2.out HL3.out).mono ?_; rintro e' w6 ⟨rfl, hb6⟩)
          go_wp2_with fail
          refine HKK.out _ _ (by first | exact HK2.out _ (below_al hHeld.1.1) | exact HK2.out _ hHeld.1.1 | exact HK2.out _ (below_tr hHeld.1.1 (by assumption))) (fun hH2 => ?_)
          clear HKK K
          replace hHeld := hH2
          clear hH2
          (try simp only [List.getElem_toArray, List.getElem_cons_zero, List.getElem_cons_succ, Act.put, List.setIfInBounds_toArray, List.set_cons_zero, List.set_cons_succ])
          refine wpAnyH_take (i := 9) (v := ?_) rfl (by kernel_rfl) (by kernel_rfl) (by kernel_rfl) (fun _ _ _ h => h) (Or.inl ⟨by rfl, ?_⟩) (by assumption) ?_
          rotate_left
          · (intro w' hSw; (try dsimp only at hSw); go_simp; try with_reducible rfl)
          (try simp only [List.getElem_toArray, List.getElem_cons_zero, List.getElem_cons_succ, Act.put, List.setIfInBounds_toArray, List.set_cons_zero, List.set_cons_succ])
          refine wpAnyH_take (i := 10) (v := ?_) rfl (by kernel_rfl) (by kernel_rfl) (by kernel_rfl) (fun _ _ _ h => h) (Or.inl ⟨by rfl, ?_⟩) (by assumption) ?_
          rotate_left
          · (intro w' hSw; (try dsimp only at hSw); go_simp; try with_reducible rfl)
          (try simp only [List.getElem_toArray, List.getElem_cons_zero, List.getElem_cons_succ, Act.put, List.setIfInBounds_toArray, List.set_cons_zero, List.set_cons_succ])
          refine wpAnyH_take (i := 11) (v := ?_) rfl (by kernel_rfl) (by kernel_rfl) (by kernel_rfl) (fun _ _ _ h => h) (Or.inl ⟨by rfl, ?_⟩) (by assumption) ?_
          rotate_left
          · (intro w' hSw; (try dsimp only at hSw); go_simp; try with_reducible rfl)
          (try simp only [List.getElem_toArray, List.getElem_cons_zero, List.getElem_cons_succ, Act.put, List.setIfInBounds_toArray, List.set_cons_zero, List.set_cons_succ])
          refine wpAnyH_take (i := 14) (v := ?_) rfl (by kernel_rfl) (by kernel_rfl) (by kernel_rfl) (fun _ _ _ h => h) (Or.inl ⟨by rfl, ?_⟩) (by assumption) ?_
          rotate_left
          · (intro w' hSw; (try dsimp only at hSw); go_simp; try with_reducible rfl)
          (try simp only [List.getElem_toArray, List.getElem_cons_zero, List.getElem_cons_succ, Act.put, List.setIfInBounds_toArray, List.set_cons_zero, List.set_cons_succ])
          refine wpAnyH_take (i := 12) (v := .agg m.cs) rfl (by kernel_rfl) (by kernel_rfl) (by kernel_rfl) (fun _ _ _ h => h) (yieldsIf_load_blk (by rfl) 31 (by kernel_rfl) (by kernel_rfl) _ rfl p1 rfl (fun _ h => h.2)) (by assumption) ?_
          (try simp only [List.getElem_toArray, List.getElem_cons_zero, List.getElem_cons_succ, Act.put, List.setIfInBounds_toArray, List.set_cons_zero, List.set_cons_succ])
          refine wpAnyH_ready (rs := [13]) (by kernel_rfl) (by simp) ?_
          refine AllReadyH.cons rfl (fun K hK => ?_) AllReadyH.nil
          have HKK := Lib.hid hK
          clear hK
          go_simp
          (go_at_call 20; refine (pidle_any m _ (HRP.out _ hHeld.1.1) HF.out).mono ?_; rintro e' w7 ⟨mi, hmi, rfl, hri, hci, hb7⟩; have HRI := Lib.hid hri; have HMI := Lib.hid hmi; clear hri hmi hci)
          go_wp2_with fail
          refine HKK.out _ _ (by first | exact HK2.out _ (below_al hHeld.1.1) | exact HK2.out _ hHeld.1.1 | exact HK2.out _ (below_tr hHeld.1.1 (by assumption))) (fun hH2 => ?_)
          clear HKK K
          replace hHeld := hH2
          clear hH2
          (try simp only [List.getElem_toArray, List.getElem_cons_zero, List.getElem_cons_succ, Act.put, List.setIfInBounds_toArray, List.set_cons_zero, List.set_cons_succ])
          refine wpAnyH_ready (rs := [15]) (by kernel_rfl) (by simp) ?_
          refine AllReadyH.cons rfl (fun K hK => ?_) AllReadyH.nil
          have HKK := Lib.hid hK
          clear hK
          go_simp
          (go_at_call 21; refine (sameplan_true mi y _ HRI.out (HRQ.out _ hHeld.1.1) (HMI.out.trans (HID.out.trans HYX.out.symm)) (by rw [show mi.charge.l = exX.charge from congrArg Pn.charge (HMI.out.trans HID.out)]; decide) (by rw [show mi.heat.l = exX.heat from congrArg Pn.heat (HMI.out.trans HID.out)]; decide) (by rw [show mi.start.l = exX.start from congrArg Pn.start (HMI.out.trans HID.out)]; decide)).mono ?_; rintro e' w8 ⟨rfl, hb8⟩)
          go_wp2_with fail
          refine HKK.out _ _ (by first | exact HK2.out _ (below_al hHeld.1.1) | exact HK2.out _ hHeld.1.1 | exact HK2.out _ (below_tr hHeld.1.1 (by assumption))) (fun hH2 => ?_)
          clear HKK K
          replace hHeld := hH2
          clear hH2
          (try simp only [List.getElem_toArray, List.getElem_cons_zero, List.getElem_cons_succ, Act.put, List.setIfInBounds_toArray, List.set_cons_zero, List.set_cons_succ])
          refine wpAnyH_take (i := 16) (v := ?_) rfl (by kernel_rfl) (by kernel_rfl) (by kernel_rfl) (fun _ _ _ h => h) (Or.inl ⟨by rfl, ?_⟩) (by assumption) ?_
          rotate_left
          · (intro w' hSw; (try dsimp only at hSw); go_simp; try with_reducible rfl)
          (try simp only [List.getElem_toArray, List.getElem_cons_zero, List.getElem_cons_succ, Act.put, List.setIfInBounds_toArray, List.set_cons_zero, List.set_cons_succ])
          refine wpAnyH_take (i := 17) (v := ?_) rfl (by kernel_rfl) (by kernel_rfl) (by kernel_rfl) (fun _ _ _ h => h) (Or.inl ⟨by rfl, ?_⟩) (by assumption) ?_
          rotate_left
          · (intro w' hSw; (try dsimp only at hSw); go_simp; try with_reducible rfl)
          (try simp only [List.getElem_toArray, List.getElem_cons_zero, List.getElem_cons_succ, Act.put, List.setIfInBounds_toArray, List.set_cons_zero, List.set_cons_succ])
          refine wpAnyH_done (by kernel_rfl) ?_ _
          go_wp2_with fail
          go_meet
          exact ⟨rfl, hHeld.1.1⟩
      · have HKK := Lib.hid hK
        clear hK
        go_simp
        refine HKK.out _ _ (by first | exact HK2.out _ (below_al hHeld.1.1) | exact HK2.out _ hHeld.1.1 | exact HK2.out _ (below_tr hHeld.1.1 (by assumption))) (fun hH2 => ?_)
        clear HKK K
        replace hHeld := hH2
        clear hH2
        (try simp only [List.getElem_toArray, List.getElem_cons_zero, List.getElem_cons_succ, Act.put, List.setIfInBounds_toArray, List.set_cons_zero, List.set_cons_succ])
        refine wpAnyH_ready (rs := [5]) (by kernel_rfl) (by simp) ?_
        refine (AllReadyH.cons rfl (fun K hK => ?_) AllReadyH.nil)
        · have HKK := Lib.hid hK
          clear hK
          go_simp
          refine HKK.out _ _ (by first | exact HK2.out _ (below_al hHeld.1.1) | exact HK2.out _ hHeld.1.1 | exact HK2.out _ (below_tr hHeld.1.1 (by assumption))) (fun hH2 => ?_)
          clear HKK K
          replace hHeld := hH2
          clear hH2
          (try simp only [List.getElem_toArray, List.getElem_cons_zero, List.getElem_cons_succ, Act.put, List.setIfInBounds_toArray, List.set_cons_zero, List.set_cons_succ])
          refine wpAnyH_take (i := 7) (v := ?_) rfl (by kernel_rfl) (by kernel_rfl) (by kernel_rfl) (fun _ _ _ h => h) (Or.inl ⟨by rfl, ?_⟩) (by assumption) ?_
          rotate_left
          · (intro w' hSw; (try dsimp only at hSw); go_simp; try with_reducible rfl)
          (try simp only [List.getElem_toArray, List.getElem_cons_zero, List.getElem_cons_succ, Act.put, List.setIfInBounds_toArray, List.set_cons_zero, List.set_cons_succ])
          refine wpAnyH_ready (rs := [8]) (by kernel_rfl) (by simp) ?_
          refine AllReadyH.cons rfl (fun K hK => ?_) AllReadyH.nil
          have HKK := Lib.hid hK
          clear hK
          go_simp
          (go_at_call 19; refine (sametrace_true tm ⟨⟨some ⟨W.heap.size, 0, none⟩, 1, [3]⟩, ⟨some ⟨W.heap.size + 1 + 1, 0, none⟩, 1, [0]⟩, ⟨some ⟨W.heap.size + 1, 0, none⟩, 1, [150]⟩, 90⟩ _ (HRT.out _ hHeld.1.1) ⟨lit3_0 _ _ _ _ _, lit3_2 _ _ _ _ _, lit3_1 _ _ _ _ _, Nat.le_refl _, Nat.le_refl _, Nat.le_refl _⟩ (HTX.out _ rfl) HL1.out HL2.out HL3.out).mono ?_; rintro e' w6 ⟨rfl, hb6⟩)
          go_wp2_with fail
          refine HKK.out _ _ (by first | exact HK2.out _ (below_al hHeld.1.1) | exact HK2.out _ hHeld.1.1 | exact HK2.out _ (below_tr hHeld.1.1 (by assumption))) (fun hH2 => ?_)
          clear HKK K
          replace hHeld := hH2
          clear hH2
          (try simp only [List.getElem_toArray, List.getElem_cons_zero, List.getElem_cons_succ, Act.put, List.setIfInBounds_toArray, List.set_cons_zero, List.set_cons_succ])
          refine wpAnyH_take (i := 9) (v := ?_) rfl (by kernel_rfl) (by kernel_rfl) (by kernel_rfl) (fun _ _ _ h => h) (Or.inl ⟨by rfl, ?_⟩) (by assumption) ?_
          rotate_left
          · (intro w' hSw; (try dsimp only at hSw); go_simp; try with_reducible rfl)
          (try simp only [List.getElem_toArray, List.getElem_cons_zero, List.getElem_cons_succ, Act.put, List.setIfInBounds_toArray, List.set_cons_zero, List.set_cons_succ])
          refine wpAnyH_take (i := 10) (v := ?_) rfl (by kernel_rfl) (by kernel_rfl) (by kernel_rfl) (fun _ _ _ h => h) (Or.inl ⟨by rfl, ?_⟩) (by assumption) ?_
          rotate_left
          · (intro w' hSw; (try dsimp only at hSw); go_simp; try with_reducible rfl)
          (try simp only [List.getElem_toArray, List.getElem_cons_zero, List.getElem_cons_succ, Act.put, List.setIfInBounds_toArray, List.set_cons_zero, List.set_cons_succ])
          refine wpAnyH_take (i := 11) (v := ?_) rfl (by kernel_rfl) (by kernel_rfl) (by kernel_rfl) (fun _ _ _ h => h) (Or.inl ⟨by rfl, ?_⟩) (by assumption) ?_
          rotate_left
          · (intro w' hSw; (try dsimp only at hSw); go_simp; try with_reducible rfl)
          (try simp only [List.getElem_toArray, List.getElem_cons_zero, List.getElem_cons_succ, Act.put, List.setIfInBounds_toArray, List.set_cons_zero, List.set_cons_succ])
          refine wpAnyH_take (i := 14) (v := ?_) rfl (by kernel_rfl) (by kernel_rfl) (by kernel_rfl) (fun _ _ _ h => h) (Or.inl ⟨by rfl, ?_⟩) (by assumption) ?_
          rotate_left
          · (intro w' hSw; (try dsimp only at hSw); go_simp; try with_reducible rfl)
          (try simp only [List.getElem_toArray, List.getElem_cons_zero, List.getElem_cons_succ, Act.put, List.setIfInBounds_toArray, List.set_cons_zero, List.set_cons_succ])
          refine wpAnyH_take (i := 12) (v := .agg m.cs) rfl (by kernel_rfl) (by kernel_rfl) (by kernel_rfl) (fun _ _ _ h => h) (yieldsIf_load_blk (by rfl) 31 (by kernel_rfl) (by kernel_rfl) _ rfl p1 rfl (fun _ h => h.2)) (by assumption) ?_
          (try simp only [List.getElem_toArray, List.getElem_cons_zero, List.getElem_cons_succ, Act.put, List.setIfInBounds_toArray, List.set_cons_zero, List.set_cons_succ])
          refine wpAnyH_ready (rs := [13]) (by kernel_rfl) (by simp) ?_
          refine AllReadyH.cons rfl (fun K hK => ?_) AllReadyH.nil
          have HKK := Lib.hid hK
          clear hK
          go_simp
          (go_at_call 20; refine (pidle_any m _ (HRP.out _ hHeld.1.1) HF.out).mono ?_; rintro e' w7 ⟨mi, hmi, rfl, hri, hci, hb7⟩; have HRI := Lib.hid hri; have HMI := Lib.hid hmi; clear hri hmi hci)
          go_wp2_with fail
          refine HKK.out _ _ (by first | exact HK2.out _ (below_al hHeld.1.1) | exact HK2.out _ hHeld.1.1 | exact HK2.out _ (below_tr hHeld.1.1 (by assumption))) (fun hH2 => ?_)
          clear HKK K
          replace hHeld := hH2
          clear hH2
          (try simp only [List.getElem_toArray, List.getElem_cons_zero, List.getElem_cons_succ, Act.put, List.setIfInBounds_toArray, List.set_cons_zero, List.set_cons_succ])
          refine wpAnyH_ready (rs := [15]) (by kernel_rfl) (by simp) ?_
          refine AllReadyH.cons rfl (fun K hK => ?_) AllReadyH.nil
          have HKK := Lib.hid hK
          clear hK
          go_simp
          (go_at_call 21; refine (sameplan_true mi y _ HRI.out (HRQ.out _ hHeld.1.1) (HMI.out.trans (HID.out.trans HYX.out.symm)) (by rw [show mi.charge.l = exX.charge from congrArg Pn.charge (HMI.out.trans HID.out)]; decide) (by rw [show mi.heat.l = exX.heat from congrArg Pn.heat (HMI.out.trans HID.out)]; decide) (by rw [show mi.start.l = exX.start from congrArg Pn.start (HMI.out.trans HID.out)]; decide)).mono ?_; rintro e' w8 ⟨rfl, hb8⟩)
          go_wp2_with fail
          refine HKK.out _ _ (by first | exact HK2.out _ (below_al hHeld.1.1) | exact HK2.out _ hHeld.1.1 | exact HK2.out _ (below_tr hHeld.1.1 (by assumption))) (fun hH2 => ?_)
          clear HKK K
          replace hHeld := hH2
          clear hH2
          (try simp only [List.getElem_toArray, List.getElem_cons_zero, List.getElem_cons_succ, Act.put, List.setIfInBounds_toArray, List.set_cons_zero, List.set_cons_succ])
          refine wpAnyH_take (i := 16) (v := ?_) rfl (by kernel_rfl) (by kernel_rfl) (by kernel_rfl) (fun _ _ _ h => h) (Or.inl ⟨by rfl, ?_⟩) (by assumption) ?_
          rotate_left
          · (intro w' hSw; (try dsimp only at hSw); go_simp; try with_reducible rfl)
          (try simp only [List.getElem_toArray, List.getElem_cons_zero, List.getElem_cons_succ, Act.put, List.setIfInBounds_toArray, List.set_cons_zero, List.set_cons_succ])
          refine wpAnyH_take (i := 17) (v := ?_) rfl (by kernel_rfl) (by kernel_rfl) (by kernel_rfl) (fun _ _ _ h => h) (Or.inl ⟨by rfl, ?_⟩) (by assumption) ?_
          rotate_left
          · (intro w' hSw; (try dsimp only at hSw); go_simp; try with_reducible rfl)
          (try simp only [List.getElem_toArray, List.getElem_cons_zero, List.getElem_cons_succ, Act.put, List.setIfInBounds_toArray, List.set_cons_zero, List.set_cons_succ])
          refine wpAnyH_done (by kernel_rfl) ?_ _
          go_wp2_with fail
          go_meet
          exact ⟨rfl, hHeld.1.1⟩
    · have HKK := Lib.hid hK
      clear hK
      go_simp
      refine HKK.out _ _ (by first | exact HK2.out _ (below_al hHeld.1.1) | exact HK2.out _ hHeld.1.1 | exact HK2.out _ (below_tr hHeld.1.1 (by assumption))) (fun hH2 => ?_)
      clear HKK K
      replace hHeld := hH2
      clear hH2
      (try simp only [List.getElem_toArray, List.getElem_cons_zero, List.getElem_cons_succ, Act.put, List.setIfInBounds_toArray, List.set_cons_zero, List.set_cons_succ])
      refine wpAnyH_ready (rs := [4, 6]) (by kernel_rfl) (by simp) ?_
      refine (AllReadyH.cons rfl (fun K hK => ?_) (AllReadyH.cons rfl (fun K hK => ?_) AllReadyH.nil))
      · have HKK := Lib.hid hK
        clear hK
        go_simp
        refine HKK.out _ _ (by first | exact HK2.out _ (below_al hHeld.1.1) | exact HK2.out _ hHeld.1.1 | exact HK2.out _ (below_tr hHeld.1.1 (by assumption))) (fun hH2 => ?_)
        clear HKK K
        replace hHeld := hH2
        clear hH2
        (try simp only [List.getElem_toArray, List.getElem_cons_zero, List.getElem_cons_succ, Act.put, List.setIfInBounds_toArray, List.set_cons_zero, List.set_cons_succ])
        refine wpAnyH_ready (rs := [6]) (by kernel_rfl) (by simp) ?_
        refine (AllReadyH.cons rfl (fun K hK => ?_) AllReadyH.nil)
        · have HKK := Lib.hid hK
          clear hK
          go_simp
          refine HKK.out _ _ (by first | exact HK2.out _ (below_al hHeld.1.1) | exact HK2.out _ hHeld.1.1 | exact HK2.out _ (below_tr hHeld.1.1 (by assumption))) (fun hH2 => ?_)
          clear HKK K
          replace hHeld := hH2
          clear hH2
          (try simp only [List.getElem_toArray, List.getElem_cons_zero, List.getElem_cons_succ, Act.put, List.setIfInBounds_toArray, List.set_cons_zero, List.set_cons_succ])
          refine wpAnyH_take (i := 7) (v := ?_) rfl (by kernel_rfl) (by kernel_rfl) (by kernel_rfl) (fun _ _ _ h => h) (Or.inl ⟨by rfl, ?_⟩) (by assumption) ?_
          rotate_left
          · (intro w' hSw; (try dsimp only at hSw); go_simp; try with_reducible rfl)
          (try simp only [List.getElem_toArray, List.getElem_cons_zero, List.getElem_cons_succ, Act.put, List.setIfInBounds_toArray, List.set_cons_zero, List.set_cons_succ])
          refine wpAnyH_ready (rs := [8]) (by kernel_rfl) (by simp) ?_
          refine AllReadyH.cons rfl (fun K hK => ?_) AllReadyH.nil
          have HKK := Lib.hid hK
          clear hK
          go_simp
          (go_at_call 19; refine (sametrace_true tm ⟨⟨some ⟨W.heap.size + 1, 0, none⟩, 1, [3]⟩, ⟨some ⟨W.heap.size, 0, none⟩, 1, [0]⟩, ⟨some ⟨W.heap.size + 1 + 1, 0, none⟩, 1, [150]⟩, 90⟩ _ (HRT.out _ hHeld.1.1) ⟨lit3_1 _ _ _ _ _, lit3_0 _ _ _ _ _, lit3_2 _ _ _ _ _, Nat.le_refl _, Nat.le_refl _, Nat.le_refl _⟩ (HTX.out _ rfl) HL1.out HL2.out HL3.out).mono ?_; rintro e' w6 ⟨rfl, hb6⟩)
          go_wp2_with fail
          refine HKK.out _ _ (by first | exact HK2.out _ (below_al hHeld.1.1) | exact HK2.out _ hHeld.1.1 | exact HK2.out _ (below_tr hHeld.1.1 (by assumption))) (fun hH2 => ?_)
          clear HKK K
          replace hHeld := hH2
          clear hH2
          (try simp only [List.getElem_toArray, List.getElem_cons_zero, List.getElem_cons_succ, Act.put, List.setIfInBounds_toArray, List.set_cons_zero, List.set_cons_succ])
          refine wpAnyH_take (i := 9) (v := ?_) rfl (by kernel_rfl) (by kernel_rfl) (by kernel_rfl) (fun _ _ _ h => h) (Or.inl ⟨by rfl, ?_⟩) (by assumption) ?_
          rotate_left
          · (intro w' hSw; (try dsimp only at hSw); go_simp; try with_reducible rfl)
          (try simp only [List.getElem_toArray, List.getElem_cons_zero, List.getElem_cons_succ, Act.put, List.setIfInBounds_toArray, List.set_cons_zero, List.set_cons_succ])
          refine wpAnyH_take (i := 10) (v := ?_) rfl (by kernel_rfl) (by kernel_rfl) (by kernel_rfl) (fun _ _ _ h => h) (Or.inl ⟨by rfl, ?_⟩) (by assumption) ?_
          rotate_left
          · (intro w' hSw; (try dsimp only at hSw); go_simp; try with_reducible rfl)
          (try simp only [List.getElem_toArray, List.getElem_cons_zero, List.getElem_cons_succ, Act.put, List.setIfInBounds_toArray, List.set_cons_zero, List.set_cons_succ])
          refine wpAnyH_take (i := 11) (v := ?_) rfl (by kernel_rfl) (by kernel_rfl) (by kernel_rfl) (fun _ _ _ h => h) (Or.inl ⟨by rfl, ?_⟩) (by assumption) ?_
          rotate_left
          · (intro w' hSw; (try dsimp only at hSw); go_simp; try with_reducible rfl)
          (try simp only [List.getElem_toArray, List.getElem_cons_zero, List.getElem_cons_succ, Act.put, List.setIfInBounds_toArray, List.set_cons_zero, List.set_cons_succ])
          refine wpAnyH_take (i := 14) (v := ?_) rfl (by kernel_rfl) (by kernel_rfl) (by kernel_rfl) (fun _ _ _ h => h) (Or.inl ⟨by rfl, ?_⟩) (by assumption) ?_
          rotate_left
          · (intro w' hSw; (try dsimp only at hSw); go_simp; try with_reducible rfl)
          (try simp only [List.getElem_toArray, List.getElem_cons_zero, List.getElem_cons_succ, Act.put, List.setIfInBounds_toArray, List.set_cons_zero, List.set_cons_succ])
          refine wpAnyH_take (i := 12) (v := .agg m.cs) rfl (by kernel_rfl) (by kernel_rfl) (by kernel_rfl) (fun _ _ _ h => h) (yieldsIf_load_blk (by rfl) 31 (by kernel_rfl) (by kernel_rfl) _ rfl p1 rfl (fun _ h => h.2)) (by assumption) ?_
          (try simp only [List.getElem_toArray, List.getElem_cons_zero, List.getElem_cons_succ, Act.put, List.setIfInBounds_toArray, List.set_cons_zero, List.set_cons_succ])
          refine wpAnyH_ready (rs := [13]) (by kernel_rfl) (by simp) ?_
          refine AllReadyH.cons rfl (fun K hK => ?_) AllReadyH.nil
          have HKK := Lib.hid hK
          clear hK
          go_simp
          (go_at_call 20; refine (pidle_any m _ (HRP.out _ hHeld.1.1) HF.out).mono ?_; rintro e' w7 ⟨mi, hmi, rfl, hri, hci, hb7⟩; have HRI := Lib.hid hri; have HMI := Lib.hid hmi; clear hri hmi hci)
          go_wp2_with fail
          refine HKK.out _ _ (by first | exact HK2.out _ (below_al hHeld.1.1) | exact HK2.out _ hHeld.1.1 | exact HK2.out _ (below_tr hHeld.1.1 (by assumption))) (fun hH2 => ?_)
          clear HKK K
          replace hHeld := hH2
          clear hH2
          (try simp only [List.getElem_toArray, List.getElem_cons_zero, List.getElem_cons_succ, Act.put, List.setIfInBounds_toArray, List.set_cons_zero, List.set_cons_succ])
          refine wpAnyH_ready (rs := [15]) (by kernel_rfl) (by simp) ?_
          refine AllReadyH.cons rfl (fun K hK => ?_) AllReadyH.nil
          have HKK := Lib.hid hK
          clear hK
          go_simp
          (go_at_call 21; refine (sameplan_true mi y _ HRI.out (HRQ.out _ hHeld.1.1) (HMI.out.trans (HID.out.trans HYX.out.symm)) (by rw [show mi.charge.l = exX.charge from congrArg Pn.charge (HMI.out.trans HID.out)]; decide) (by rw [show mi.heat.l = exX.heat from congrArg Pn.heat (HMI.out.trans HID.out)]; decide) (by rw [show mi.start.l = exX.start from congrArg Pn.start (HMI.out.trans HID.out)]; decide)).mono ?_; rintro e' w8 ⟨rfl, hb8⟩)
          go_wp2_with fail
          refine HKK.out _ _ (by first | exact HK2.out _ (below_al hHeld.1.1) | exact HK2.out _ hHeld.1.1 | exact HK2.out _ (below_tr hHeld.1.1 (by assumption))) (fun hH2 => ?_)
          clear HKK K
          replace hHeld := hH2
          clear hH2
          (try simp only [List.getElem_toArray, List.getElem_cons_zero, List.getElem_cons_succ, Act.put, List.setIfInBounds_toArray, List.set_cons_zero, List.set_cons_succ])
          refine wpAnyH_take (i := 16) (v := ?_) rfl (by kernel_rfl) (by kernel_rfl) (by kernel_rfl) (fun _ _ _ h => h) (Or.inl ⟨by rfl, ?_⟩) (by assumption) ?_
          rotate_left
          · (intro w' hSw; (try dsimp only at hSw); go_simp; try with_reducible rfl)
          (try simp only [List.getElem_toArray, List.getElem_cons_zero, List.getElem_cons_succ, Act.put, List.setIfInBounds_toArray, List.set_cons_zero, List.set_cons_succ])
          refine wpAnyH_take (i := 17) (v := ?_) rfl (by kernel_rfl) (by kernel_rfl) (by kernel_rfl) (fun _ _ _ h => h) (Or.inl ⟨by rfl, ?_⟩) (by assumption) ?_
          rotate_left
          · (intro w' hSw; (try dsimp only at hSw); go_simp; try with_reducible rfl)
          (try simp only [List.getElem_toArray, List.getElem_cons_zero, List.getElem_cons_succ, Act.put, List.setIfInBounds_toArray, List.set_cons_zero, List.set_cons_succ])
          refine wpAnyH_done (by kernel_rfl) ?_ _
          go_wp2_with fail
          go_meet
          exact ⟨rfl, hHeld.1.1⟩
      · have HKK := Lib.hid hK
        clear hK
        go_simp
        refine HKK.out _ _ (by first | exact HK2.out _ (below_al hHeld.1.1) | exact HK2.out _ hHeld.1.1 | exact HK2.out _ (below_tr hHeld.1.1 (by assumption))) (fun hH2 => ?_)
        clear HKK K
        replace hHeld := hH2
        clear hH2
        (try simp only [List.getElem_toArray, List.getElem_cons_zero, List.getElem_cons_succ, Act.put, List.setIfInBounds_toArray, List.set_cons_zero, List.set_cons_succ])
        refine wpAnyH_ready (rs := [4]) (by kernel_rfl) (by simp) ?_
        refine (AllReadyH.cons rfl (fun K hK => ?_) AllReadyH.nil)
        · have HKK := Lib.hid hK
          clear hK
          go_simp
          refine HKK.out _ _ (by first | exact HK2.out _ (below_al hHeld.1.1) | exact HK2.out _ hHeld.1.1 | exact HK2.out _ (below_tr hHeld.1.1 (by assumption))) (fun hH2 => ?_)
          clear HKK K
          replace hHeld := hH2
          clear hH2
          (try simp only [List.getElem_toArray, List.getElem_cons_zero, List.getElem_cons_succ, Act.put, List.setIfInBounds_toArray, List.set_cons_zero, List.set_cons_succ])
          refine wpAnyH_take (i := 7) (v := ?_) rfl (by kernel_rfl) (by kernel_rfl) (by kernel_rfl) (fun _ _ _ h => h) (Or.inl ⟨by rfl, ?_⟩) (by assumption) ?_
          rotate_left
          · (intro w' hSw; (try dsimp only at hSw); go_simp; try with_reducible rfl)
          (try simp only [List.getElem_toArray, List.getElem_cons_zero, List.getElem_cons_succ, Act.put, List.setIfInBounds_toArray, List.set_cons_zero, List.set_cons_succ])
          refine wpAnyH_ready (rs := [8]) (by kernel_rfl) (by simp) ?_
          refine AllReadyH.cons rfl (fun K hK => ?_) AllReadyH.nil
          have HKK := Lib.hid hK
          clear hK
          go_simp
          (go_at_call 19; refine (sametrace_true tm ⟨⟨some ⟨W.heap.size + 1 + 1, 0, none⟩, 1, [3]⟩, ⟨some ⟨W.heap.size, 0, none⟩, 1, [0]⟩, ⟨some ⟨W.heap.size + 1, 0, none⟩, 1, [150]⟩, 90⟩ _ (HRT.out _ hHeld.1.1) ⟨lit3_2 _ _ _ _ _, lit3_0 _ _ _ _ _, lit3_1 _ _ _ _ _, Nat.le_refl _, Nat.le_refl _, Nat.le_refl _⟩ (HTX.out _ rfl) HL1.out HL2.out HL3.out).mono ?_; rintro e' w6 ⟨rfl, hb6⟩)
          go_wp2_with fail
          refine HKK.out _ _ (by first | exact HK2.out _ (below_al hHeld.1.1) | exact HK2.out _ hHeld.1.1 | exact HK2.out _ (below_tr hHeld.1.1 (by assumption))) (fun hH2 => ?_)
          clear HKK K
          replace hHeld := hH2
          clear hH2
          (try simp only [List.getElem_toArray, List.getElem_cons_zero, List.getElem_cons_succ, Act.put, List.setIfInBounds_toArray, List.set_cons_zero, List.set_cons_succ])
          refine wpAnyH_take (i := 9) (v := ?_) rfl (by kernel_rfl) (by kernel_rfl) (by kernel_rfl) (fun _ _ _ h => h) (Or.inl ⟨by rfl, ?_⟩) (by assumption) ?_
          rotate_left
          · (intro w' hSw; (try dsimp only at hSw); go_simp; try with_reducible rfl)
          (try simp only [List.getElem_toArray, List.getElem_cons_zero, List.getElem_cons_succ, Act.put, List.setIfInBounds_toArray, List.set_cons_zero, List.set_cons_succ])
          refine wpAnyH_take (i := 10) (v := ?_) rfl (by kernel_rfl) (by kernel_rfl) (by kernel_rfl) (fun _ _ _ h => h) (Or.inl ⟨by rfl, ?_⟩) (by assumption) ?_
          rotate_left
          · (intro w' hSw; (try dsimp only at hSw); go_simp; try with_reducible rfl)
          (try simp only [List.getElem_toArray, List.getElem_cons_zero, List.getElem_cons_succ, Act.put, List.setIfInBounds_toArray, List.set_cons_zero, List.set_cons_succ])
          refine wpAnyH_take (i := 11) (v := ?_) rfl (by kernel_rfl) (by kernel_rfl) (by kernel_rfl) (fun _ _ _ h => h) (Or.inl ⟨by rfl, ?_⟩) (by assumption) ?_
          rotate_left
          · (intro w' hSw; (try dsimp only at hSw); go_simp; try with_reducible rfl)
          (try simp only [List.getElem_toArray, List.getElem_cons_zero, List.getElem_cons_succ, Act.put, List.setIfInBounds_toArray, List.set_cons_zero, List.set_cons_succ])
          refine wpAnyH_take (i := 14) (v := ?_) rfl (by kernel_rfl) (by kernel_rfl) (by kernel_rfl) (fun _ _ _ h => h) (Or.inl ⟨by rfl, ?_⟩) (by assumption) ?_
          rotate_left
          · (intro w' hSw; (try dsimp only at hSw); go_simp; try with_reducible rfl)
          (try simp only [List.getElem_toArray, List.getElem_cons_zero, List.getElem_cons_succ, Act.put, List.setIfInBounds_toArray, List.set_cons_zero, List.set_cons_succ])
          refine wpAnyH_take (i := 12) (v := .agg m.cs) rfl (by kernel_rfl) (by kernel_rfl) (by kernel_rfl) (fun _ _ _ h => h) (yieldsIf_load_blk (by rfl) 31 (by kernel_rfl) (by kernel_rfl) _ rfl p1 rfl (fun _ h => h.2)) (by assumption) ?_
          (try simp only [List.getElem_toArray, List.getElem_cons_zero, List.getElem_cons_succ, Act.put, List.setIfInBounds_toArray, List.set_cons_zero, List.set_cons_succ])
          refine wpAnyH_ready (rs := [13]) (by kernel_rfl) (by simp) ?_
          refine AllReadyH.cons rfl (fun K hK => ?_) AllReadyH.nil
          have HKK := Lib.hid hK
          clear hK
          go_simp
          (go_at_call 20; refine (pidle_any m _ (HRP.out _ hHeld.1.1) HF.out).mono ?_; rintro e' w7 ⟨mi, hmi, rfl, hri, hci, hb7⟩; have HRI := Lib.hid hri; have HMI := Lib.hid hmi; clear hri hmi hci)
          go_wp2_with fail
          refine HKK.out _ _ (by first | exact HK2.out _ (below_al hHeld.1.1) | exact HK2.out _ hHeld.1.1 | exact HK2.out _ (below_tr hHeld.1.1 (by assumption))) (fun hH2 => ?_)
          clear HKK K
          replace hHeld := hH2
          clear hH2
          (try simp only [List.getElem_toArray, List.getElem_cons_zero, List.getElem_cons_succ, Act.put, List.setIfInBounds_toArray, List.set_cons_zero, List.set_cons_succ])
          refine wpAnyH_ready (rs := [15]) (by kernel_rfl) (by simp) ?_
          refine AllReadyH.cons rfl (fun K hK => ?_) AllReadyH.nil
          have HKK := Lib.hid hK
          clear hK
          go_simp
          (go_at_call 21; refine (sameplan_true mi y _ HRI.out (HRQ.out _ hHeld.1.1) (HMI.out.trans (HID.out.trans HYX.out.symm)) (by rw [show mi.charge.l = exX.charge from congrArg Pn.charge (HMI.out.trans HID.out)]; decide) (by rw [show mi.heat.l = exX.heat from congrArg Pn.heat (HMI.out.trans HID.out)]; decide) (by rw [show mi.start.l = exX.start from congrArg Pn.start (HMI.out.trans HID.out)]; decide)).mono ?_; rintro e' w8 ⟨rfl, hb8⟩)
          go_wp2_with fail
          refine HKK.out _ _ (by first | exact HK2.out _ (below_al hHeld.1.1) | exact HK2.out _ hHeld.1.1 | exact HK2.out _ (below_tr hHeld.1.1 (by assumption))) (fun hH2 => ?_)
          clear HKK K
          replace hHeld := hH2
          clear hH2
          (try simp only [List.getElem_toArray, List.getElem_cons_zero, List.getElem_cons_succ, Act.put, List.setIfInBounds_toArray, List.set_cons_zero, List.set_cons_succ])
          refine wpAnyH_take (i := 16) (v := ?_) rfl (by kernel_rfl) (by kernel_rfl) (by kernel_rfl) (fun _ _ _ h => h) (Or.inl ⟨by rfl, ?_⟩) (by assumption) ?_
          rotate_left
          · (intro w' hSw; (try dsimp only at hSw); go_simp; try with_reducible rfl)
          (try simp only [List.getElem_toArray, List.getElem_cons_zero, List.getElem_cons_succ, Act.put, List.setIfInBounds_toArray, List.set_cons_zero, List.set_cons_succ])
          refine wpAnyH_take (i := 17) (v := ?_) rfl (by kernel_rfl) (by kernel_rfl) (by kernel_rfl) (fun _ _ _ h => h) (Or.inl ⟨by rfl, ?_⟩) (by assumption) ?_
          rotate_left
          · (intro w' hSw; (try dsimp only at hSw); go_simp; try with_reducible rfl)
          (try simp only [List.getElem_toArray, List.getElem_cons_zero, List.getElem_cons_succ, Act.put, List.setIfInBounds_toArray, List.set_cons_zero, List.set_cons_succ])
          refine wpAnyH_done (by kernel_rfl) ?_ _
          go_wp2_with fail
          go_meet
          exact ⟨rfl, hHeld.1.1⟩
    · have HKK := Lib.hid hK
      clear hK
      go_simp
      refine HKK.out _ _ (by first | exact HK2.out _ (below_al hHeld.1.1) | exact HK2.out _ hHeld.1.1 | exact HK2.out _ (below_tr hHeld.1.1 (by assumption))) (fun hH2 => ?_)
      clear HKK K
      replace hHeld := hH2
      clear hH2
      (try simp only [List.getElem_toArray, List.getElem_cons_zero, List.getElem_cons_succ, Act.put, List.setIfInBounds_toArray, List.set_cons_zero, List.set_cons_succ])
      refine wpAnyH_ready (rs := [4, 5]) (by kernel_rfl) (by simp) ?_
      refine (AllReadyH.cons rfl (fun K hK => ?_) (AllReadyH.cons rfl (fun K hK => ?_) AllReadyH.nil))
      · have HKK := Lib.hid hK
        clear hK
        go_simp
        refine HKK.out _ _ (by first | exact HK2.out _ (below_al hHeld.1.1) | exact HK2.out _ hHeld.1.1 | exact HK2.out _ (below_tr hHeld.1.1 (by assumption))) (fun hH2 => ?_)
        clear HKK K
        replace hHeld := hH2
        clear hH2
        (try simp only [List.getElem_toArray, List.getElem_cons_zero, List.getElem_cons_succ, Act.put, List.setIfInBounds_toArray, List.set_cons_zero, List.set_cons_succ])
        refine wpAnyH_ready (rs := [5]) (by kernel_rfl) (by simp) ?_
        refine (AllReadyH.cons rfl (fun K hK => ?_) AllReadyH.nil)
        · have HKK := Lib.hid hK
          clear hK
          go_simp
          refine HKK.out _ _ (by first | exact HK2.out _ (below_al hHeld.1.1) | exact HK2.out _ hHeld.1.1 | exact HK2.out _ (below_tr hHeld.1.1 (by assumption))) (fun hH2 => ?_)
          clear HKK K
          replace hHeld := hH2
          clear hH2
          (try simp only [List.getElem_toArray, List.getElem_cons_zero, List.getElem_cons_succ, Act.put, List.setIfInBounds_toArray, List.set_cons_zero, List.set_cons_succ])
          refine wpAnyH_take (i := 7) (v := ?_) rfl (by kernel_rfl) (by kernel_rfl) (by kernel_rfl) (fun _ _ _ h => h) (Or.inl ⟨by rfl, ?_⟩) (by assumption) ?_
          rotate_left
          · (intro w' hSw; (try dsimp only at hSw); go_simp; try with_reducible rfl)
          (try simp only [List.getElem_toArray, List.getElem_cons_zero, List.getElem_cons_succ, Act.put, List.setIfInBounds_toArray, List.set_cons_zero, List.set_cons_succ])
          refine wpAnyH_ready (rs := [8]) (by kernel_rfl) (by simp) ?_
          refine AllReadyH.cons rfl (fun K hK => ?_) AllReadyH.nil
          have HKK := Lib.hid hK
          clear hK
          go_simp
          (go_at_call 19; refine (sametrace_true tm ⟨⟨some ⟨W.heap.size + 1, 0, none⟩, 1, [3]⟩, ⟨some ⟨W.heap.size + 1 + 1, 0, none⟩, 1, [0]⟩, ⟨some ⟨W.heap.size, 0, none⟩, 1, [150]⟩, 90⟩ _ (HRT.out _ hHeld.1.1) ⟨lit3_1 _ _ _ _ _, lit3_2 _ _ _ _ _, lit3_0 _ _ _ _ _, Nat.le_refl _, Nat.le_refl _, Nat.le_refl _⟩ (HTX.out _ rfl) HL1.out HL2.out HL3.out).mono ?_; rintro e' w6 ⟨rfl, hb6⟩)
          go_wp2_with fail
          refine HKK.out _ _ (by first | exact HK2.out _ (below_al hHeld.1.1) | exact HK2.out _ hHeld.1.1 | exact HK2.out _ (below_tr hHeld.1.1 (by assumption))) (fun hH2 => ?_)
          clear HKK K
          replace hHeld := hH2
          clear hH2
          (try simp only [List.getElem_toArray, List.getElem_cons_zero, List.getElem_cons_succ, Act.put, List.setIfInBounds_toArray, List.set_cons_zero, List.set_cons_succ])
          refine wpAnyH_take (i := 9) (v := ?_) rfl (by kernel_rfl) (by kernel_rfl) (by kernel_rfl) (fun _ _ _ h => h) (Or.inl ⟨by rfl, ?_⟩) (by assumption) ?_
          rotate_left
          · (intro w' hSw; (try dsimp only at hSw); go_simp; try with_reducible rfl)
          (try simp only [List.getElem_toArray, List.getElem_cons_zero, List.getElem_cons_succ, Act.put, List.setIfInBounds_toArray, List.set_cons_zero, List.set_cons_succ])
          refine wpAnyH_take (i := 10) (v := ?_) rfl (by kernel_rfl) (by kernel_rfl) (by kernel_rfl) (fun _ _ _ h => h) (Or.inl ⟨by rfl, ?_⟩) (by assumption) ?_
          rotate_left
          · (intro w' hSw; (try dsimp only at hSw); go_simp; try with_reducible rfl)
          (try simp only [List.getElem_toArray, List.getElem_cons_zero, List.getElem_cons_succ, Act.put, List.setIfInBounds_toArray, List.set_cons_zero, List.set_cons_succ])
          refine wpAnyH_take (i := 11) (v := ?_) rfl (by kernel_rfl) (by kernel_rfl) (by kernel_rfl) (fun _ _ _ h => h) (Or.inl ⟨by rfl, ?_⟩) (by assumption) ?_
          rotate_left
          · (intro w' hSw; (try dsimp only at hSw); go_simp; try with_reducible rfl)
          (try simp only [List.getElem_toArray, List.getElem_cons_zero, List.getElem_cons_succ, Act.put, List.setIfInBounds_toArray, List.set_cons_zero, List.set_cons_succ])
          refine wpAnyH_take (i := 14) (v := ?_) rfl (by kernel_rfl) (by kernel_rfl) (by kernel_rfl) (fun _ _ _ h => h) (Or.inl ⟨by rfl, ?_⟩) (by assumption) ?_
          rotate_left
          · (intro w' hSw; (try dsimp only at hSw); go_simp; try with_reducible rfl)
          (try simp only [List.getElem_toArray, List.getElem_cons_zero, List.getElem_cons_succ, Act.put, List.setIfInBounds_toArray, List.set_cons_zero, List.set_cons_succ])
          refine wpAnyH_take (i := 12) (v := .agg m.cs) rfl (by kernel_rfl) (by kernel_rfl) (by kernel_rfl) (fun _ _ _ h => h) (yieldsIf_load_blk (by rfl) 31 (by kernel_rfl) (by kernel_rfl) _ rfl p1 rfl (fun _ h => h.2)) (by assumption) ?_
          (try simp only [List.getElem_toArray, List.getElem_cons_zero, List.getElem_cons_succ, Act.put, List.setIfInBounds_toArray, List.set_cons_zero, List.set_cons_succ])
          refine wpAnyH_ready (rs := [13]) (by kernel_rfl) (by simp) ?_
          refine AllReadyH.cons rfl (fun K hK => ?_) AllReadyH.nil
          have HKK := Lib.hid hK
          clear hK
          go_simp
          (go_at_call 20; refine (pidle_any m _ (HRP.out _ hHeld.1.1) HF.out).mono ?_; rintro e' w7 ⟨mi, hmi, rfl, hri, hci, hb7⟩; have HRI := Lib.hid hri; have HMI := Lib.hid hmi; clear hri hmi hci)
          go_wp2_with fail
          refine HKK.out _ _ (by first | exact HK2.out _ (below_al hHeld.1.1) | exact HK2.out _ hHeld.1.1 | exact HK2.out _ (below_tr hHeld.1.1 (by assumption))) (fun hH2 => ?_)
          clear HKK K
          replace hHeld := hH2
          clear hH2
          (try simp only [List.getElem_toArray, List.getElem_cons_zero, List.getElem_cons_succ, Act.put, List.setIfInBounds_toArray, List.set_cons_zero, List.set_cons_succ])
          refine wpAnyH_ready (rs := [15]) (by kernel_rfl) (by simp) ?_
          refine AllReadyH.cons rfl (fun K hK => ?_) AllReadyH.nil
          have HKK := Lib.hid hK
          clear hK
          go_simp
          (go_at_call 21; refine (sameplan_true mi y _ HRI.out (HRQ.out _ hHeld.1.1) (HMI.out.trans (HID.out.trans HYX.out.symm)) (by rw [show mi.charge.l = exX.charge from congrArg Pn.charge (HMI.out.trans HID.out)]; decide) (by rw [show mi.heat.l = exX.heat from congrArg Pn.heat (HMI.out.trans HID.out)]; decide) (by rw [show mi.start.l = exX.start from congrArg Pn.start (HMI.out.trans HID.out)]; decide)).mono ?_; rintro e' w8 ⟨rfl, hb8⟩)
          go_wp2_with fail
          refine HKK.out _ _ (by first | exact HK2.out _ (below_al hHeld.1.1) | exact HK2.out _ hHeld.1.1 | exact HK2.out _ (below_tr hHeld.1.1 (by assumption))) (fun hH2 => ?_)
          clear HKK K
          replace hHeld := hH2
          clear hH2
          (try simp only [List.getElem_toArray, List.getElem_cons_zero, List.getElem_cons_succ, Act.put, List.setIfInBounds_toArray, List.set_cons_zero, List.set_cons_succ])
          refine wpAnyH_take (i := 16) (v := ?_) rfl (by kernel_rfl) (by kernel_rfl) (by kernel_rfl) (fun _ _ _ h => h) (Or.inl ⟨by rfl, ?_⟩) (by assumption) ?_
          rotate_left
          · (intro w' hSw; (try dsimp only at hSw); go_simp; try with_reducible rfl)
          (try simp only [List.getElem_toArray, List.getElem_cons_zero, List.getElem_cons_succ, Act.put, List.setIfInBounds_toArray, List.set_cons_zero, List.set_cons_succ])
          refine wpAnyH_take (i := 17) (v := ?_) rfl (by kernel_rfl) (by kernel_rfl) (by kernel_rfl) (fun _ _ _ h => h) (Or.inl ⟨by rfl, ?_⟩) (by assumption) ?_
          rotate_left
          · (intro w' hSw; (try dsimp only at hSw); go_simp; try with_reducible rfl)
          (try simp only [List.getElem_toArray, List.getElem_cons_zero, List.getElem_cons_succ, Act.put, List.setIfInBounds_toArray, List.set_cons_zero, List.set_cons_succ])
          refine wpAnyH_done (by kernel_rfl) ?_ _
          go_wp2_with fail
          go_meet
          exact ⟨rfl, hHeld.1.1⟩
      · have HKK := Lib.hid hK
        clear hK
        go_simp
        refine HKK.out _ _ (by first | exact HK2.out _ (below_al hHeld.1.1) | exact HK2.out _ hHeld.1.1 | exact HK2.out _ (below_tr hHeld.1.1 (by assumption))) (fun hH2 => ?_)
        clear HKK K
        replace hHeld := hH2
        clear hH2
        (try simp only [List.getElem_toArray, List.getElem_cons_zero, List.getElem_cons_succ, Act.put, List.setIfInBounds_toArray, List.set_cons_zero, List.set_cons_succ])
        refine wpAnyH_ready (rs := [4]) (by kernel_rfl) (by simp) ?_
        refine (AllReadyH.cons rfl (fun K hK => ?_) AllReadyH.nil)
        · have HKK := Lib.hid hK
          clear hK
          go_simp
          refine HKK.out _ _ (by first | exact HK2.out _ (below_al hHeld.1.1) | exact HK2.out _ hHeld.1.1 | exact HK2.out _ (below_tr hHeld.1.1 (by assumption))) (fun hH2 => ?_)
          clear HKK K
          replace hHeld := hH2
          clear hH2
          (try simp only [List.getElem_toArray, List.getElem_cons_zero, List.getElem_cons_succ, Act.put, List.setIfInBounds_toArray, List.set_cons_zero, List.set_cons_succ])
          refine wpAnyH_take (i := 7) (v := ?_) rfl (by kernel_rfl) (by kernel_rfl) (by kernel_rfl) (fun _ _ _ h => h) (Or.inl ⟨by rfl, ?_⟩) (by assumption) ?_
          rotate_left
          · (intro w' hSw; (try dsimp only at hSw); go_simp; try with_reducible rfl)
          (try simp only [List.getElem_toArray, List.getElem_cons_zero, List.getElem_cons_succ, Act.put, List.setIfInBounds_toArray, List.set_cons_zero, List.set_cons_succ])
          refine wpAnyH_ready (rs := [8]) (by kernel_rfl) (by simp) ?_
          refine AllReadyH.cons rfl (fun K hK => ?_) AllReadyH.nil
          have HKK := Lib.hid hK
          clear hK
          go_simp
          (go_at_call 19; refine (sametrace_true tm ⟨⟨some ⟨W.heap.size + 1 + 1, 0, none⟩, 1, [3]⟩, ⟨some ⟨W.heap.size + 1, 0, none⟩, 1, [0]⟩, ⟨some ⟨W.heap.size, 0, none⟩, 1, [150]⟩, 90⟩ _ (HRT.out _ hHeld.1.1) ⟨lit3_2 _ _ _ _ _, lit3_1 _ _ _ _ _, lit3_0 _ _ _ _ _, Nat.le_refl _, Nat.le_refl _, Nat.le_refl _⟩ (HTX.out _ rfl) HL1.out HL2.out HL3.out).mono ?_; rintro e' w6 ⟨rfl, hb6⟩)
          go_wp2_with fail
          refine HKK.out _ _ (by first | exact HK2.out _ (below_al hHeld.1.1) | exact HK2.out _ hHeld.1.1 | exact HK2.out _ (below_tr hHeld.1.1 (by assumption))) (fun hH2 => ?_)
          clear HKK K
          replace hHeld := hH2
          clear hH2
          (try simp only [List.getElem_toArray, List.getElem_cons_zero, List.getElem_cons_succ, Act.put, List.setIfInBounds_toArray, List.set_cons_zero, List.set_cons_succ])
          refine wpAnyH_take (i := 9) (v := ?_) rfl (by kernel_rfl) (by kernel_rfl) (by kernel_rfl) (fun _ _ _ h => h) (Or.inl ⟨by rfl, ?_⟩) (by assumption) ?_
          rotate_left
          · (intro w' hSw; (try dsimp only at hSw); go_simp; try with_reducible rfl)
          (try simp only [List.getElem_toArray, List.getElem_cons_zero, List.getElem_cons_succ, Act.put, List.setIfInBounds_toArray, List.set_cons_zero, List.set_cons_succ])
          refine wpAnyH_take (i := 10) (v := ?_) rfl (by kernel_rfl) (by kernel_rfl) (by kernel_rfl) (fun _ _ _ h => h) (Or.inl ⟨by rfl, ?_⟩) (by assumption) ?_
          rotate_left
          · (intro w' hSw; (try dsimp only at hSw); go_simp; try with_reducible rfl)
          (try simp only [List.getElem_toArray, List.getElem_cons_zero, List.getElem_cons_succ, Act.put, List.setIfInBounds_toArray, List.set_cons_zero, List.set_cons_succ])
          refine wpAnyH_take (i := 11) (v := ?_) rfl (by kernel_rfl) (by kernel_rfl) (by kernel_rfl) (fun _ _ _ h => h) (Or.inl ⟨by rfl, ?_⟩) (by assumption) ?_
          rotate_left
          · (intro w' hSw; (try dsimp only at hSw); go_simp; try with_reducible rfl)
          (try simp only [List.getElem_toArray, List.getElem_cons_zero, List.getElem_cons_succ, Act.put, List.setIfInBounds_toArray, List.set_cons_zero, List.set_cons_succ])
          refine wpAnyH_take (i := 14) (v := ?_) rfl (by kernel_rfl) (by kernel_rfl) (by kernel_rfl) (fun _ _ _ h => h) (Or.inl ⟨by rfl, ?_⟩) (by assumption) ?_
          rotate_left
          · (intro w' hSw; (try dsimp only at hSw); go_simp; try with_reducible rfl)
          (try simp only [List.getElem_toArray, List.getElem_cons_zero, List.getElem_cons_succ, Act.put, List.setIfInBounds_toArray, List.set_cons_zero, List.set_cons_succ])
          refine wpAnyH_take (i := 12) (v := .agg m.cs) rfl (by kernel_rfl) (by kernel_rfl) (by kernel_rfl) (fun _ _ _ h => h) (yieldsIf_load_blk (by rfl) 31 (by kernel_rfl) (by kernel_rfl) _ rfl p1 rfl (fun _ h => h.2)) (by assumption) ?_
          (try simp only [List.getElem_toArray, List.getElem_cons_zero, List.getElem_cons_succ, Act.put, List.setIfInBounds_toArray, List.set_cons_zero, List.set_cons_succ])
          refine wpAnyH_ready (rs := [13]) (by kernel_rfl) (by simp) ?_
          refine AllReadyH.cons rfl (fun K hK => ?_) AllReadyH.nil
          have HKK := Lib.hid hK
          clear hK
          go_simp
          (go_at_call 20; refine (pidle_any m _ (HRP.out _ hHeld.1.1) HF.out).mono ?_; rintro e' w7 ⟨mi, hmi, rfl, hri, hci, hb7⟩; have HRI := Lib.hid hri; have HMI := Lib.hid hmi; clear hri hmi hci)
          go_wp2_with fail
          refine HKK.out _ _ (by first | exact HK2.out _ (below_al hHeld.1.1) | exact HK2.out _ hHeld.1.1 | exact HK2.out _ (below_tr hHeld.1.1 (by assumption))) (fun hH2 => ?_)
          clear HKK K
          replace hHeld := hH2
          clear hH2
          (try simp only [List.getElem_toArray, List.getElem_cons_zero, List.getElem_cons_succ, Act.put, List.setIfInBounds_toArray, List.set_cons_zero, List.set_cons_succ])
          refine wpAnyH_ready (rs := [15]) (by kernel_rfl) (by simp) ?_
          refine AllReadyH.cons rfl (fun K hK => ?_) AllReadyH.nil
          have HKK := Lib.hid hK
          clear hK
          go_simp
          (go_at_call 21; refine (sameplan_true mi y _ HRI.out (HRQ.out _ hHeld.1.1) (HMI.out.trans (HID.out.trans HYX.out.symm)) (by rw [show mi.charge.l = exX.charge from congrArg Pn.charge (HMI.out.trans HID.out)]; decide) (by rw [show mi.heat.l = exX.heat from congrArg Pn.heat (HMI.out.trans HID.out)]; decide) (by rw [show mi.start.l = exX.start from congrArg Pn.start (HMI.out.trans HID.out)]; decide)).mono ?_; rintro e' w8 ⟨rfl, hb8⟩)
          go_wp2_with fail
          refine HKK.out _ _ (by first | exact HK2.out _ (below_al hHeld.1.1) | exact HK2.out _ hHeld.1.1 | exact HK2.out _ (below_tr hHeld.1.1 (by assumption))) (fun hH2 => ?_)
          clear HKK K
          replace hHeld := hH2
          clear hH2
          (try simp only [List.getElem_toArray, List.getElem_cons_zero, List.getElem_cons_succ, Act.put, List.setIfInBounds_toArray, List.set_cons_zero, List.set_cons_succ])
          refine wpAnyH_take (i := 16) (v := ?_) rfl (by kernel_rfl) (by kernel_rfl) (by kernel_rfl) (fun _ _ _ h => h) (Or.inl ⟨by rfl, ?_⟩) (by assumption) ?_
          rotate_left
          · (intro w' hSw; (try dsimp only at hSw); go_simp; try with_reducible rfl)
          (try simp only [List.getElem_toArray, List.getElem_cons_zero, List.getElem_cons_succ, Act.put, List.setIfInBounds_toArray, List.set_cons_zero, List.set_cons_succ])
          refine wpAnyH_take (i := 17) (v := ?_) rfl (by kernel_rfl) (by kernel_rfl) (by kernel_rfl) (fun _ _ _ h => h) (Or.inl ⟨by rfl, ?_⟩) (by assumption) ?_
          rotate_left
          · (intro w' hSw; (try dsimp only at hSw); go_simp; try with_reducible rfl)
          (try simp only [List.getElem_toArray, List.getElem_cons_zero, List.getElem_cons_succ, Act.put, List.setIfInBounds_toArray, List.set_cons_zero, List.set_cons_succ])
          refine wpAnyH_done (by kernel_rfl) ?_ _
          go_wp2_with fail
          go_meet
          exact ⟨rfl, hHeld.1.1⟩
  case rest =>
    obtain ⟨rfl, hbx⟩ := hcut
    have HA6 := Lib.hid (HA5.out.below hbx.out)
    have hval : ∀ W0, RPb W0 m → RPn W0 y → Calls Try.prog 17 #[m.v, y.v] W0 (fun e w' => e = .returned (.tuple #[.int .i64 90, .bool true]) ∧ Below W0.heap.size W0 w') := fun W0 h h2 => by
      have hr := pvalue_any m y W0 h h2 HF.out HYF.out
      rw [HM.out, HYX.out, ex_run.1, ex_run.2] at hr
      exact hr
    have HVAL := Lib.hid hval
    clear hval hbx hT5
    go_wp2_with (first | refine wpList_load_problem rfl _ rfl p1 rfl m (HA6.out).p ?_ | refine wpList_load_plan rfl _ rfl x1 rfl y (HA6.out).q ?_)
    refine (HVAL.out _ HA6.out.rp HA6.out.rq).mono ?_
    rintro e w6 ⟨rfl, hb6⟩
    have HA6' := Lib.hid (HA6.out.below hb6)
    clear hb6
    have HQ7 : Hid (∀ W0 : World, W0.heap.size = w6.heap.size → RPn ((W0.alloc (.cells #[.int .i64 0, .int .i64 0] 3)).alloc (.cells #[.int .i64 0] 3)) ⟨⟨some ⟨w6.heap.size, 0, none⟩, 2, [0, 0]⟩, ⟨some ⟨w6.heap.size + 1, 0, none⟩, 1, [0]⟩, ⟨none, 0, []⟩⟩) := fun W0 h =>
      ⟨(rints_lit' h _ _ rfl).alloc _, rints_lit' (by rw [World.size_alloc, h]) _ _ rfl, RInts.nil⟩
    have hrun7 : ∀ W0, RPb W0 m → RPn W0 ⟨⟨some ⟨w6.heap.size, 0, none⟩, 2, [0, 0]⟩, ⟨some ⟨w6.heap.size + 1, 0, none⟩, 1, [0]⟩, ⟨none, 0, []⟩⟩ → Calls Try.prog 15 #[m.v, .agg #[.slice (some ⟨w6.heap.size, 0, none⟩) 2 2, .slice (some ⟨w6.heap.size + 1, 0, none⟩) 1 1, .slice none 0 0]] W0 (RunOut (exP.trace ⟨[0, 0], [0], []⟩) 3 W0) := fun W0 h h2 => by
      have hr := prun_any m _ W0 h h2 HF.out ⟨Nat.le_refl _, Nat.le_refl _, by simp, by simp⟩
      rw [HM.out, show (⟨⟨some ⟨w6.heap.size, 0, none⟩, 2, [0, 0]⟩, ⟨some ⟨w6.heap.size + 1, 0, none⟩, 1, [0]⟩, ⟨none, 0, []⟩⟩ : PnM).x = ⟨[0, 0], [0], []⟩ from rfl, ex_run2.1] at hr
      exact hr
    have HRUN7 := Lib.hid hrun7
    clear hrun7
    go_wp2_with (first | refine wpList_load_problem rfl _ rfl p1 rfl m (HA6'.out).p ?_ | refine wpList_load_plan rfl _ rfl x1 rfl y (HA6'.out).q ?_)
    refine (HRUN7.out _ (HA6'.out.rp.below (below_al (below_al (Below.refl _ _)))) (HQ7.out _ (by first | rfl | simp))).mono ?_
    rintro e w7 ⟨tm7, htx7, rfl, hrt7, hb7⟩
    have HB7 := Lib.hid (HA6'.out.below (below_tr (below_al (below_al (Below.refl _ _))) hb7))
    simp only [TrM.v]
    have HA7 := Lib.hid (HB7.out.alloc (.cells #[.slice tm7.net.A tm7.net.l.length tm7.net.c, .slice tm7.level.A tm7.level.l.length tm7.level.c, .slice tm7.temp.A tm7.temp.l.length tm7.temp.c, .int .i64 tm7.cost] 40))
    clear htx7 hrt7 hb7
    go_upto_region 8 with fail
    obtain ⟨v7, hv7⟩ : ∃ v7, v7 = w7.alloc (.cells #[.slice tm7.net.A tm7.net.l.length tm7.net.c, .slice tm7.level.A tm7.level.l.length tm7.level.c, .slice tm7.temp.A tm7.temp.l.length tm7.temp.c, .int .i64 tm7.cost] 40) := ⟨_, rfl⟩
    rw [← hv7]
    rw [← hv7] at HA7
    clear hv7
    have HQ8 : Hid (∀ W0 : World, W0.heap.size = v7.heap.size → RPn ((W0.alloc (.cells #[.int .i64 0] 3)).alloc (.cells #[.int .i64 1] 3)) ⟨⟨some ⟨v7.heap.size, 0, none⟩, 1, [0]⟩, ⟨some ⟨v7.heap.size + 1, 0, none⟩, 1, [1]⟩, ⟨none, 0, []⟩⟩) := fun W0 h =>
      ⟨(rints_lit' h _ _ rfl).alloc _, rints_lit' (by rw [World.size_alloc, h]) _ _ rfl, RInts.nil⟩
    have hrun8 : ∀ W0, RPb W0 m → RPn W0 ⟨⟨some ⟨v7.heap.size, 0, none⟩, 1, [0]⟩, ⟨some ⟨v7.heap.size + 1, 0, none⟩, 1, [1]⟩, ⟨none, 0, []⟩⟩ → Calls Try.prog 15 #[m.v, .agg #[.slice (some ⟨v7.heap.size, 0, none⟩) 1 1, .slice (some ⟨v7.heap.size + 1, 0, none⟩) 1 1, .slice none 0 0]] W0 (RunOut (exP.trace ⟨[0], [1], []⟩) 2 W0) := fun W0 h h2 => by
      have hr := prun_any m _ W0 h h2 HF.out ⟨Nat.le_refl _, Nat.le_refl _, by simp, by simp⟩
      rw [HM.out, show (⟨⟨some ⟨v7.heap.size, 0, none⟩, 1, [0]⟩, ⟨some ⟨v7.heap.size + 1, 0, none⟩, 1, [1]⟩, ⟨none, 0, []⟩⟩ : PnM).x = ⟨[0], [1], []⟩ from rfl, ex_run2.2] at hr
      exact hr
    have HRUN8 := Lib.hid hrun8
    clear hrun8
    go_wp2_with (first | refine wpList_load_problem rfl _ rfl p1 rfl m (HA7.out).p ?_ | refine wpList_load_plan rfl _ rfl x1 rfl y (HA7.out).q ?_)
    refine (HRUN8.out _ (HA7.out.rp.below (below_al (below_al (Below.refl _ _)))) (HQ8.out _ (by first | rfl | simp))).mono ?_
    rintro e w8 ⟨tm8, htx8, rfl, hrt8, hb8⟩
    have HB8 := Lib.hid (HA7.out.below (below_tr (below_al (below_al (Below.refl _ _))) hb8))
    simp only [TrM.v]
    have HA8 := Lib.hid (HB8.out.alloc (.cells #[.slice tm8.net.A tm8.net.l.length tm8.net.c, .slice tm8.level.A tm8.level.l.length tm8.level.c, .slice tm8.temp.A tm8.temp.l.length tm8.temp.c, .int .i64 tm8.cost] 40))
    clear htx8 hrt8 hb8
    go_upto_region 9 with fail
    obtain ⟨v8, hv8⟩ : ∃ v8, v8 = w8.alloc (.cells #[.slice tm8.net.A tm8.net.l.length tm8.net.c, .slice tm8.level.A tm8.level.l.length tm8.level.c, .slice tm8.temp.A tm8.temp.l.length tm8.temp.c, .int .i64 tm8.cost] 40) := ⟨_, rfl⟩
    rw [← hv8]
    rw [← hv8] at HA8
    clear hv8
    obtain ⟨-, -, c2, -⟩ := PbC.of_blk HA8.out.p
    have f2 := HA8.out.p.frozen 2
    go_upto_region 10 with fail
    clear c2 f2
    obtain ⟨v9, hv9⟩ : ∃ v9, v9 = v8.setCell ⟨p1, 2, none⟩ (.int .i64 2) := ⟨_, rfl⟩
    rw [← hv9]
    obtain ⟨m2, hm2⟩ : ∃ m2 : PbM, m2 = { m with fuse := 2 } := ⟨_, rfl⟩
    have hB9 : Below w1.heap.size w1 v9 := by rw [hv9]; exact HA8.out.bel.setCell (by show w1.heap.size ≤ p1; exact Nat.le_of_eq HP1.out.symm) _
    have hR9 := HR1.out.below hB9
    have HA9 : Hid (AX m2 y p1 x1 w1 v9) := by
      have hne := HA8.out.q.ne_ HA8.out.p (by decide)
      have h1 := HA8.out.p.set_ 2 (.int .i64 2)
      rw [← hv9] at h1
      refine ⟨?_, by rw [hv9]; exact HA8.out.q.far hne _, ?_, ?_, hB9⟩
      · rw [hm2]; exact h1
      · rw [hm2]; exact ⟨hR9.buy, hR9.sell, hR9.solar, hR9.demand, hR9.outside, hR9.low, hR9.high, hR9.loads⟩
      · rw [hv9]
        exact ⟨HA8.out.rq.charge.setFar (fun ad e => HYA.out ad (.inl e)) _, HA8.out.rq.heat.setFar (fun ad e => HYA.out ad (.inr (.inl e))) _, HA8.out.rq.start.setFar (fun ad e => HYA.out ad (.inr (.inr e))) _⟩
    have hf2 : m2.Fit := by rw [hm2]; exact ⟨HF.out.names, HF.out.profs, HF.out.lc, HF.out.max, HF.out.late⟩
    have hp2 : m2.p = { exP with t := { exP.t with fuse := 2 } } := by rw [hm2, ← HM.out]; rfl
    have hrun9 := fun W0 (h : RPb W0 m2) (h2 : RPn W0 y) => prun_any m2 y W0 h h2 hf2 HYF.out
    rw [hp2, HYX.out, ex_run3] at hrun9
    have HRUN9 := Lib.hid hrun9
    clear hv9 hm2 hB9 hR9 hf2 hp2 hrun9
    go_wp2_with (first | refine wpList_load_problem rfl _ rfl p1 rfl m2 (HA9.out).p ?_ | refine wpList_load_plan rfl _ rfl x1 rfl y (HA9.out).q ?_)
    refine (HRUN9.out _ HA9.out.rp HA9.out.rq).mono ?_
    rintro e w9 ⟨tm9, htx9, rfl, hrt9, hb9⟩
    have HB9 := Lib.hid ((HA9.out.below hb9).alloc (.cells #[.slice tm9.net.A tm9.net.l.length tm9.net.c, .slice tm9.level.A tm9.level.l.length tm9.level.c, .slice tm9.temp.A tm9.temp.l.length tm9.temp.c, .int .i64 tm9.cost] 40))
    simp only [TrM.v]
    clear htx9 hrt9 hb9
    go_wp2_with fail
    go_ret
    exact ⟨rfl, HB1.out.trans (HB9.out.bel.mono HB1.out.size)⟩
end Go.Proofs.Ytdheockmphdakaa
