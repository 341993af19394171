/-
  The walks of layer 43 (optimum), part 25: slots of the reference.
-/
import Derived.Test.YtnppngaabfhkpaaROP7
import Derived.Test.YtnppngaabfhkpaaROP6
namespace Go.Proofs.Ytnppngaabfhkpaa
open Go.RowKit
attribute [local go_sem ↓] Go.wp_at_zero Go.wp_at_succ

/-- The cells of a search of the reference. -/
def SR.cs (x : PbM) (b : PnM) (f : Bool) : Array Value := #[.slice x.buy.A x.buy.l.length x.buy.c, .slice x.sell.A x.sell.l.length x.sell.c, .int .i64 x.fuse, .slice x.solar.A x.solar.l.length x.solar.c, .slice x.demand.A x.demand.l.length x.demand.c, .slice x.outside.A x.outside.l.length x.outside.c, .int .i64 x.bat.cap, .int .i64 x.bat.reserve, .int .i64 x.bat.charge, .int .i64 x.bat.discharge, .int .i64 x.bat.eff, .int .i64 x.gain, .int .i64 x.loss, .int .i64 x.steps, .int .i64 x.power, .slice x.low.A x.low.l.length x.low.c, .slice x.high.A x.high.l.length x.high.c, .slice x.LA x.loads.length x.lc, .int .i64 x.level, .int .i64 x.temp, .slice b.charge.A b.charge.l.length b.charge.c, .slice b.heat.A b.heat.l.length b.heat.c, .slice b.start.A b.start.l.length b.start.c, .bool f]
theorem SR.cs_one (x : PbM) (b : PnM) (f : Bool) : (SR.cs x b f).all (·.oneCell') = true := by simp [SR.cs, Value.oneCell']
def SRz : Array Value := #[.slice none 0 0, .slice none 0 0, .int .i64 0, .slice none 0 0, .slice none 0 0, .slice none 0 0, .int .i64 0, .int .i64 0, .int .i64 0, .int .i64 0, .int .i64 0, .int .i64 0, .int .i64 0, .int .i64 0, .int .i64 0, .slice none 0 0, .slice none 0 0, .slice none 0 0, .int .i64 0, .int .i64 0, .slice none 0 0, .slice none 0 0, .slice none 0 0, .bool false]
/-- A plan's lists do not lie in the three boxes from g on. -/
def IntsAway (m : IntsM) (g : Nat) : Prop := m.l = [] ∨ ∀ ad, m.A = some ad → ad.block < g ∨ g + 3 ≤ ad.block
def PnAway (b : PnM) (g : Nat) : Prop := IntsAway b.charge g ∧ IntsAway b.heat g ∧ IntsAway b.start g
theorem RInts.nilD {w : World} {A : Option Addr} {l : List Int} (h : l = []) : RInts w A l := by rw [h]; exact ⟨rfl, fun h => absurd h (by simp)⟩
theorem RInts.away {W W' : World} {m : IntsM} {g k : Nat} (h : RInts W m.A m.l) (ha : IntsAway m g) (hg : W.grownBy W' (some k)) (h1 : g ≤ k) (h2 : k < g + 3) : RInts W' m.A m.l := by
  rcases ha with ha | ha
  · exact RInts.nilD ha
  · exact h.other hg fun ad e => by
      have := ha ad e
      intro hh
      injection hh with hh
      omega
theorem RPn.away {W W' : World} {b : PnM} {g k : Nat} (h : RPn W b) (ha : PnAway b g) (hg : W.grownBy W' (some k)) (h1 : g ≤ k) (h2 : k < g + 3) : RPn W' b :=
  ⟨h.charge.away ha.1 hg h1 h2, h.heat.away ha.2.1 hg h1 h2, h.start.away ha.2.2 hg h1 h2⟩
theorem IntsAway.old {W : World} {m : IntsM} (h : RInts W m.A m.l) : IntsAway m W.heap.size := by
  by_cases e : m.l = []
  · exact .inl e
  · exact .inr fun ad hA => .inl (h.lt e ad hA)
theorem PnAway.old {W : World} {b : PnM} (h : RPn W b) : PnAway b W.heap.size := ⟨IntsAway.old h.charge, IntsAway.old h.heat, IntsAway.old h.start⟩
/-- What slots and starts hand back. -/
def SOut (x : PbM) (V : Pn → Prop) (b0 y0 : PnM) (w : World) (e : Ending) (w' : World) : Prop :=
  ∃ (b : PnM) (f : Bool), e = .returned (.agg (SR.cs x b f)) ∧ RPn w' b ∧ b.Fit ∧ x.p.seen V f b.x ∧ (∀ g, g + 3 ≤ w.heap.size → PnAway b0 g → PnAway y0 g → PnAway b g) ∧ Below w.heap.size w w'
section
variable {ops : Array Oper} {rest : List Oper} {o : Oper} {a : Act} {W : World} {Q : Exit → Act → World → Prop}
theorem SR.range_p {g : Nat} {t : TypeId} {x : PbM} {b : PnM} {f : Bool} (h : Blk W g t (SR.cs x b f)) : W.rangeAt g 0 x.cs.toList := by
  intro j v hv
  rw [Nat.zero_add, h.cell]
  have hj : j < 20 := by
    rcases Nat.lt_or_ge j 20 with h | h
    · exact h
    · rw [List.getElem?_eq_none (by simpa [PbM.cs] using h)] at hv; cases hv
  rw [← hv]
  match j, hj with
  | 0, _ | 1, _ | 2, _ | 3, _ | 4, _ | 5, _ | 6, _ | 7, _ | 8, _ | 9, _ | 10, _ | 11, _ | 12, _ | 13, _ | 14, _ | 15, _ | 16, _ | 17, _ | 18, _ | 19, _ => rfl
theorem SR.range_b {g : Nat} {t : TypeId} {x : PbM} {b : PnM} {f : Bool} (h : Blk W g t (SR.cs x b f)) : W.rangeAt g 20 b.cs.toList := by
  intro j v hv
  rw [h.cell]
  have hj : j < 3 := by
    rcases Nat.lt_or_ge j 3 with h | h
    · exact h
    · rw [List.getElem?_eq_none (by simpa [PnM.cs] using h)] at hv; cases hv
  rw [← hv]
  match j, hj with
  | 0, _ | 1, _ | 2, _ => rfl
theorem wpList_load_midP (hw : Region.wanted o (yielded ops a.tmps) = true) (s : Operand) (ho : o.op = .load 31 s) (g : Nat) (hx : a.eval s = .pointer (some ⟨g, 0, none⟩)) (x : PbM) (h : W.rangeAt g 0 x.cs.toList) (hk : wpList Try.prog ops Q rest (a.put o.dst x.v) W) :
    wpList Try.prog ops Q (o :: rest) a W := wpList_step fun _ hK => by
  rw [if_pos hw]
  cases hd : Program.underlying Try.prog 31 with
  | none => exact absurd hd (by intro e; have : (Program.underlying Try.prog 31).isSome = true := (by kernel_rfl); rw [e] at this; cases this)
  | some d => exact wp_load_mid 31 s ho g 0 hx x.cs.toList d h hd (by have h1 : (Program.underlying Try.prog 31).map TypeDesc.isRow = some true := (by kernel_rfl); rw [hd] at h1; simpa using h1) (by kernel_rfl) (hK _ _ hk)
theorem wpList_load_midPL (hw : Region.wanted o (yielded ops a.tmps) = true) (s : Operand) (ho : o.op = .load 31 s) (g : Nat) (hx : a.eval s = .pointer (some ⟨g, 0, none⟩)) (x : PbM) (h : W.rangeAt g 0 x.cs.toList) (hk : wpList Try.prog ops Q rest (a.put o.dst (.agg #[.slice x.buy.A x.buy.l.length x.buy.c, .slice x.sell.A x.sell.l.length x.sell.c, .int .i64 x.fuse, .slice x.solar.A x.solar.l.length x.solar.c, .slice x.demand.A x.demand.l.length x.demand.c, .slice x.outside.A x.outside.l.length x.outside.c, .int .i64 x.bat.cap, .int .i64 x.bat.reserve, .int .i64 x.bat.charge, .int .i64 x.bat.discharge, .int .i64 x.bat.eff, .int .i64 x.gain, .int .i64 x.loss, .int .i64 x.steps, .int .i64 x.power, .slice x.low.A x.low.l.length x.low.c, .slice x.high.A x.high.l.length x.high.c, .slice x.LA x.loads.length x.lc, .int .i64 x.level, .int .i64 x.temp])) W) :
    wpList Try.prog ops Q (o :: rest) a W := wpList_load_midP hw s ho g hx x h hk
theorem wpList_load_planL (hw : Region.wanted o (yielded ops a.tmps) = true) (s : Operand) (ho : o.op = .load 33 s) (g : Nat) (hx : a.eval s = .pointer (some ⟨g, 0, none⟩)) (y : PnM) (h : Blk W g 33 y.cs) (hk : wpList Try.prog ops Q rest (a.put o.dst (.agg #[.slice y.charge.A y.charge.l.length y.charge.c, .slice y.heat.A y.heat.l.length y.heat.c, .slice y.start.A y.start.l.length y.start.c])) W) :
    wpList Try.prog ops Q (o :: rest) a W := wpList_step fun _ hK => step_load_blk hw 33 (by kernel_rfl) (by kernel_rfl) s ho g hx h (hK _ _ hk)
theorem wpList_load_midB (hw : Region.wanted o (yielded ops a.tmps) = true) (s : Operand) (ho : o.op = .load 33 s) (g : Nat) (hx : a.eval s = .pointer (some ⟨g, 20, none⟩)) (b : PnM) (h : W.rangeAt g 20 b.cs.toList) (hk : wpList Try.prog ops Q rest (a.put o.dst b.v) W) :
    wpList Try.prog ops Q (o :: rest) a W := wpList_step fun _ hK => by
  rw [if_pos hw]
  cases hd : Program.underlying Try.prog 33 with
  | none => exact absurd hd (by intro e; have : (Program.underlying Try.prog 33).isSome = true := (by kernel_rfl); rw [e] at this; cases this)
  | some d => exact wp_load_mid 33 s ho g 20 hx b.cs.toList d h hd (by have h1 : (Program.underlying Try.prog 33).map TypeDesc.isRow = some true := (by kernel_rfl); rw [hd] at h1; simpa using h1) (by kernel_rfl) (hK _ _ hk)
theorem wpList_load_S (hgd : o.guard = none) (s : Operand) (ho : o.op = .load 98 s) (g : Nat) (hx : a.eval s = .pointer (some ⟨g, 0, none⟩)) (x : PbM) (b : PnM) (f : Bool) {t : TypeId} (h : Blk W g t (SR.cs x b f)) (hk : wpList Try.prog ops Q rest (a.put o.dst (.agg (SR.cs x b f))) W) :
    wpList Try.prog ops Q (o :: rest) a W := wpList_load_blk 98 (by kernel_rfl) (by kernel_rfl) hgd s ho g hx h hk
end
section
variable {ops : Array Oper} {rest : List Oper} {o : Oper} {a : Act} {W : World} {Q : Exit → Act → World → Prop}
theorem wpList_load_planG (hw : Region.wanted o (yielded ops a.tmps) = true) (s : Operand) (ho : o.op = .load 33 s) (g : Nat) (hx : a.eval s = .pointer (some ⟨g, 0, none⟩)) (y : PnM) (h : Blk W g 33 y.cs) (hk : wpList Try.prog ops Q rest (a.put o.dst y.v) W) :
    wpList Try.prog ops Q (o :: rest) a W := wpList_step fun _ hK => step_load_blk hw 33 (by kernel_rfl) (by kernel_rfl) s ho g hx h (hK _ _ hk)
end

/-- The boxes of slots. -/
structure SB (x : PbM) (b y : PnM) (f : Bool) (w wr : World) : Prop where
  s : Blk wr w.heap.size 98 (SR.cs x b f)
  q : Blk wr (w.heap.size + 1) 33 y.cs
  r : Blk wr (w.heap.size + 2) 98 SRz
  bel : Below w.heap.size w wr
theorem SB.start (x : PbM) (b y : PnM) (f : Bool) (w : World) : SB x b y f w (((w.alloc (.cells (SR.cs x b f) 98)).alloc (.cells y.cs 33)).alloc (.cells SRz 98)) := by
  obtain ⟨h1, h2, h3, h4⟩ := two_boxes (w := w) (cs := SR.cs x b f) (t := 98) (cs2 := y.cs) (t2 := 33) (Below.refl _ _)
  have h5 : Below w.heap.size w ((w.alloc (.cells (SR.cs x b f) 98)).alloc (.cells y.cs 33)) := h4
  generalize hW : (w.alloc (.cells (SR.cs x b f) 98)).alloc (.cells y.cs 33) = W at *
  have hs : W.heap.size = w.heap.size + 2 := by rw [← hW]; simp
  have h6 := Blk.new W 98 SRz
  rw [hs] at h6
  have hb : Below W.heap.size W (W.alloc (.cells SRz 98)) := below_al (Below.refl _ _)
  exact ⟨h1.below hb h1.lt, h2.below hb h2.lt, h6, h5.trans (hb.mono h5.size)⟩
section
variable {x : PbM} {b y : PnM} {f : Bool} {w wr w1 : World}
theorem SB.lt (h : SB x b y f w wr) : w.heap.size + 3 ≤ wr.heap.size := h.r.lt
theorem SB.below (h : SB x b y f w wr) (hb : Below wr.heap.size wr w1) : SB x b y f w w1 := ⟨h.s.below hb h.s.lt, h.q.below hb h.q.lt, h.r.below hb h.r.lt, h.bel.trans (hb.mono h.bel.size)⟩
theorem SB.set {b' : PnM} {f' : Bool} (h : SB x b y f w wr) (hB : Blk w1 w.heap.size 98 (SR.cs x b' f')) (hg : wr.grownBy w1 (some w.heap.size)) : SB x b' y f' w w1 :=
  ⟨hB, (h.q.grown hg (by intro e; injection e with e; omega)), (h.r.grown hg (by intro e; injection e with e; omega)), h.bel.grown hg h.bel.size (fun k e => by injection e with e; omega)⟩
end
theorem slots_ret {tmps : Array Value} {x : PbM} {b : PnM} {f : Bool} {V : Pn → Prop} {b0 y0 : PnM} {w W : World} (h : Blk W (w.heap.size + 2) 98 (SR.cs x b f)) (hb : RPn W b) (hf : b.Fit) (hs : x.p.seen V f b.x) (ha : ∀ g, g + 3 ≤ w.heap.size → PnAway b0 g → PnAway y0 g → PnAway b g) (hbel : Below w.heap.size w W)
    (h4 : tmps.getD 4 undef = .pointer (some ⟨w.heap.size + 2, 0, none⟩)) :
    bodyPost Try.prog Try.f108 (SOut x V b0 y0 w) .ret { tmps := tmps, defers := [] } W := by
  refine bodyPost_ret (v := .agg (SR.cs x b f)) (results_cell rfl h4 (run_load_blk (by kernel_rfl) (by kernel_rfl) h)) rfl ?_
  exact ⟨b, f, rfl, hb, hf, hs, ha, hbel⟩

set_option maxRecDepth 100000 in
set_option maxHeartbeats 64000000 in
theorem slots_leaf (x : PbM) (V : Pn → Prop) (b y : PnM) (f : Bool) (w : World) (hP0 : RPb w x) (hB0 : RPn w b) (hBf : b.Fit) (hQ0 : RPn w y) (hG0 : y.Fit) (hF0 : x.Fit) (hc : x.p.chk = 0) (hs : x.p.seen V f b.x) (hl : y.heat.l.length = y.charge.l.length) (hk : y.charge.l.length = x.buy.l.length) :
    Calls Try.prog 108 #[.agg (SR.cs x b f), y.v] w (SOut x (Ve V y.x) b y w) := by
  have hP := Lib.hid hP0
  have hB := Lib.hid hB0
  have hQ := Lib.hid hQ0
  have hG := Lib.hid hG0
  have hF := Lib.hid hF0
  have hBF := Lib.hid hBf
  have HL := Lib.hid hl
  have hst0 := SB.start x b y f w
  simp only [SR.cs, PnM.v]
  obtain ⟨W, hW⟩ : ∃ W, W = ((w.alloc (.cells #[.slice x.buy.A x.buy.l.length x.buy.c, .slice x.sell.A x.sell.l.length x.sell.c, .int .i64 x.fuse, .slice x.solar.A x.solar.l.length x.solar.c, .slice x.demand.A x.demand.l.length x.demand.c, .slice x.outside.A x.outside.l.length x.outside.c, .int .i64 x.bat.cap, .int .i64 x.bat.reserve, .int .i64 x.bat.charge, .int .i64 x.bat.discharge, .int .i64 x.bat.eff, .int .i64 x.gain, .int .i64 x.loss, .int .i64 x.steps, .int .i64 x.power, .slice x.low.A x.low.l.length x.low.c, .slice x.high.A x.high.l.length x.high.c, .slice x.LA x.loads.length x.lc, .int .i64 x.level, .int .i64 x.temp, .slice b.charge.A b.charge.l.length b.charge.c, .slice b.heat.A b.heat.l.length b.heat.c, .slice b.start.A b.start.l.length b.start.c, .bool f] 98)).alloc (.cells #[.slice y.charge.A y.charge.l.length y.charge.c, .slice y.heat.A y.heat.l.length y.heat.c, .slice y.start.A y.start.l.length y.start.c] 33)).alloc (.cells #[.slice none 0 0, .slice none 0 0, .int .i64 0, .slice none 0 0, .slice none 0 0, .slice none 0 0, .int .i64 0, .int .i64 0, .int .i64 0, .int .i64 0, .int .i64 0, .int .i64 0, .int .i64 0, .int .i64 0, .int .i64 0, .slice none 0 0, .slice none 0 0, .slice none 0 0, .int .i64 0, .int .i64 0, .slice none 0 0, .slice none 0 0, .slice none 0 0, .bool false] 98) := ⟨_, rfl⟩
  rw [show ((w.alloc (.cells (SR.cs x b f) 98)).alloc (.cells y.cs 33)).alloc (.cells SRz 98) = W from hW.symm] at hst0
  have HX0 : Hid (SB x b y f w W) := hst0
  have hWH := Lib.hid hW
  have hrun := fun W (h : RPb W x) (h2 : RPn W y) => rrun_any x y W h h2 hF0 hG0
  have hld : x.loads.length ≤ 1000 := by
    have h1 := Pb.loads4 (Pb.good hc)
    have h2 : x.p.loads.length = x.loads.length := by simp [PbM.p]
    omega
  have hbt := fun W (h : RPb W x) (h2 : RPn W y) (h3 : RPn W b) => rbetter_any x y b W h h2 h3 hF0 hG0 hBf hld
  have hkeep : (x.p.err y.x ≠ 0 ∨ (f = true ∧ x.p.better y.x b.x = false)) → x.p.seen (Ve V y.x) f b.x := fun h => see_leaf (show y.charge.l.length = _ from hk) (show y.heat.l.length = _ from hl.trans hk) (Pb.seen_leave hs h)
  have htake : x.p.err y.x = 0 → (f = false ∨ x.p.better y.x b.x = true) → x.p.seen (Ve V y.x) true y.x := fun h1 h2 => see_leaf (show y.charge.l.length = _ from hk) (show y.heat.l.length = _ from hl.trans hk) (Pb.seen_take hs h1 h2)
  have hkq : ((y.charge.l.length : Int) == (x.buy.l.length : Int)) = true := by rw [beq_iff_eq]; omega
  have k0 := HX0.out.s.cell 0
  have d0 := HX0.out.q.cell 0
  simp [SR.cs] at k0
  simp [PnM.cs] at d0
  generalize x.p.err y.x = er at *
  generalize x.p.trace y.x = tr at *
  generalize x.p.better y.x b.x = bb at *
  have HRUN := Lib.hid hrun
  have HBT := Lib.hid hbt
  have HKEEP := Lib.hid hkeep
  have HTAKE := Lib.hid htake
  clear hst0 hW hP0 hB0 hQ0 hG0 hF0 hBf hc hs hl hrun hbt hkeep htake hk hld
  go_enter Try.func108, Try.ntmps108
  go_upto_region 1 with fail
  rw [← hWH.out]
  clear hWH
  go_wp2_with (first | refine wpList_load_midP (by rfl) _ rfl w.heap.size rfl x (SR.range_p HX0.out.s) ?_ | refine wpList_load_planG (by rfl) _ rfl (w.heap.size + 1) rfl y HX0.out.q ?_ | refine wpList_load_midB (by rfl) _ rfl w.heap.size rfl b (SR.range_b HX0.out.s) ?_ | refine wpList_load_S rfl _ rfl w.heap.size rfl x b f HX0.out.s ?_)
  clear k0 d0 hkq
  refine (HRUN.out _ ((HX0.out.bel |> hP.out.below)) (hQ.out.below HX0.out.bel)).mono ?_
  rintro e w3 ⟨m, -, rfl, -, hbt⟩
  simp only [TrM.v]
  go_upto_region 4 with fail
  obtain ⟨v, hv⟩ : ∃ v, v = w3.alloc (.cells #[.slice m.net.A m.net.l.length m.net.c, .slice m.level.A m.level.l.length m.level.c, .slice m.temp.A m.temp.l.length m.temp.c, .int .i64 m.cost] 47) := ⟨_, rfl⟩
  have HX1 : Hid (SB x b y f w v) := by show SB _ _ _ _ _ _; rw [hv]; exact (HX0.out.below hbt).below (below_al (Below.refl _ _))
  rw [← hv]
  clear hv hbt HX0 HRUN
  have k22 := HX1.out.s.cell 23
  simp [SR.cs] at k22
  by_cases he : er = 0
  · have e1 : (er == 0) = true := by simp [he]
    have HE := Lib.hid he
    clear he
    cases f
    · go_upto_region 5 with fail
      go_wp2_with (first | (first | refine wpList_load_midPL (by rfl) _ rfl w.heap.size rfl x (SR.range_p HX1.out.s) ?_ | refine wpList_load_planL (by rfl) _ rfl (w.heap.size + 1) rfl y HX1.out.q ?_) | refine wpList_store_blk rfl 98 _ _ rfl (w.heap.size + 1 + 1) rfl (SR.cs x y true) (by kernel_rfl) (by kernel_rfl) (SR.cs_one _ _ _) HX1.out.r rfl ?_)
      intro w5 hB5 hg5
      have hbe : Below w.heap.size w w5 := HX1.out.bel.grown hg5 HX1.out.bel.size (fun k e => by injection e with e; omega)
      have HBE := Lib.hid hbe
      have HB5 := Lib.hid hB5
      have HSE := Lib.hid (HTAKE.out HE.out (by simp))
      clear hbe hB5 hg5
      go_wp2_with fail
      exact slots_ret HB5.out (hQ.out.below HBE.out) hG.out HSE.out (fun _ _ _ h => h) HBE.out rfl
    · go_wp2_with (first | refine wpList_load_midP (by rfl) _ rfl w.heap.size rfl x (SR.range_p HX1.out.s) ?_ | refine wpList_load_planG (by rfl) _ rfl (w.heap.size + 1) rfl y HX1.out.q ?_ | refine wpList_load_midB (by rfl) _ rfl w.heap.size rfl b (SR.range_b HX1.out.s) ?_ | refine wpList_load_S rfl _ rfl w.heap.size rfl x b true HX1.out.s ?_)
      clear k22
      refine (HBT.out _ (hP.out.below HX1.out.bel) (hQ.out.below HX1.out.bel) (hB.out.below HX1.out.bel)).mono ?_
      rintro e w4 ⟨rfl, hb4⟩
      have HX2 := Lib.hid (HX1.out.below hb4)
      clear hb4 HX1
      cases bb
      · go_upto_region 6 with fail
        go_wp2_with (first | (first | refine wpList_load_midP (by rfl) _ rfl w.heap.size rfl x (SR.range_p HX2.out.s) ?_ | refine wpList_load_planG (by rfl) _ rfl (w.heap.size + 1) rfl y HX2.out.q ?_ | refine wpList_load_midB (by rfl) _ rfl w.heap.size rfl b (SR.range_b HX2.out.s) ?_ | refine wpList_load_S rfl _ rfl w.heap.size rfl x b true HX2.out.s ?_) | refine wpList_store_blk rfl 98 _ _ rfl (w.heap.size + 1 + 1) rfl (SR.cs x b true) (by kernel_rfl) (by kernel_rfl) (SR.cs_one _ _ _) HX2.out.r rfl ?_)
        intro w5 hB5 hg5
        have hbe : Below w.heap.size w w5 := HX2.out.bel.grown hg5 HX2.out.bel.size (fun k e => by injection e with e; omega)
        have HBE := Lib.hid hbe
        have HB5 := Lib.hid hB5
        have HSE := Lib.hid (HKEEP.out (by simp))
        clear hbe hB5 hg5
        go_wp2_with fail
        exact slots_ret HB5.out (hB.out.below HBE.out) hBF.out HSE.out (fun _ _ h _ => h) HBE.out rfl
      · go_upto_region 5 with fail
        go_wp2_with (first | (first | refine wpList_load_midPL (by rfl) _ rfl w.heap.size rfl x (SR.range_p HX2.out.s) ?_ | refine wpList_load_planL (by rfl) _ rfl (w.heap.size + 1) rfl y HX2.out.q ?_) | refine wpList_store_blk rfl 98 _ _ rfl (w.heap.size + 1 + 1) rfl (SR.cs x y true) (by kernel_rfl) (by kernel_rfl) (SR.cs_one _ _ _) HX2.out.r rfl ?_)
        intro w5 hB5 hg5
        have hbe : Below w.heap.size w w5 := HX2.out.bel.grown hg5 HX2.out.bel.size (fun k e => by injection e with e; omega)
        have HBE := Lib.hid hbe
        have HB5 := Lib.hid hB5
        have HSE := Lib.hid (HTAKE.out HE.out (by simp))
        clear hbe hB5 hg5
        go_wp2_with fail
        exact slots_ret HB5.out (hQ.out.below HBE.out) hG.out HSE.out (fun _ _ _ h => h) HBE.out rfl
  · have e1 : (er == 0) = false := by simp [he]
    have HE := Lib.hid he
    clear he
    go_upto_region 6 with fail
    go_wp2_with (first | (first | refine wpList_load_midP (by rfl) _ rfl w.heap.size rfl x (SR.range_p HX1.out.s) ?_ | refine wpList_load_planG (by rfl) _ rfl (w.heap.size + 1) rfl y HX1.out.q ?_ | refine wpList_load_midB (by rfl) _ rfl w.heap.size rfl b (SR.range_b HX1.out.s) ?_ | refine wpList_load_S rfl _ rfl w.heap.size rfl x b f HX1.out.s ?_) | refine wpList_store_blk rfl 98 _ _ rfl (w.heap.size + 1 + 1) rfl (SR.cs x b f) (by kernel_rfl) (by kernel_rfl) (SR.cs_one _ _ _) HX1.out.r rfl ?_)
    intro w5 hB5 hg5
    have hbe : Below w.heap.size w w5 := HX1.out.bel.grown hg5 HX1.out.bel.size (fun k e => by injection e with e; omega)
    have HBE := Lib.hid hbe
    have HB5 := Lib.hid hB5
    have HSE := Lib.hid (HKEEP.out (.inl HE.out))
    clear hbe hB5 hg5
    go_wp2_with fail
    exact slots_ret HB5.out (hB.out.below HBE.out) hBF.out HSE.out (fun _ _ h _ => h) HBE.out rfl
end Go.Proofs.Ytnppngaabfhkpaa
