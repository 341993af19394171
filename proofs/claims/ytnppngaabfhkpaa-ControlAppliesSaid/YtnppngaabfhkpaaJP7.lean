/-
  The walks of layer 42 (plan), part 3: shaped of the program and Form of the reference.
-/
import Derived.Test.YtnppngaabfhkpaaJP6
import Derived.Test.YtnppngaabfhkpaaJL8
import Derived.Defers
import Derived.BigQuiet
import Derived.Laws.Rows
import Derived.Test.YtnppngaabfhkpaaJPP1
namespace Go.Proofs.Ytnppngaabfhkpaa
open Go.RowKit
attribute [local go_sem ↓] Go.wp_at_zero Go.wp_at_succ
def PnM.cs (y : PnM) : Array Value := #[.slice y.charge.A y.charge.l.length y.charge.c, .slice y.heat.A y.heat.l.length y.heat.c, .slice y.start.A y.start.l.length y.start.c]
def PnC (W : World) (g : Nat) (y : PnM) : Prop := W.cell? ⟨g, 0, none⟩ = some (.slice y.charge.A y.charge.l.length y.charge.c) ∧ W.cell? ⟨g, 1, none⟩ = some (.slice y.heat.A y.heat.l.length y.heat.c) ∧ W.cell? ⟨g, 2, none⟩ = some (.slice y.start.A y.start.l.length y.start.c)
theorem PnC.of_blk {W : World} {g : Nat} {t : TypeId} {y : PnM} (h : Blk W g t y.cs) : PnC W g y := by
  refine ⟨?_, ?_, ?_⟩ <;> (rw [h.cell]; rfl)
theorem PnC.below {W W' : World} {g : Nat} {y : PnM} (h : PnC W g y) (hb : Below W.heap.size W W') : PnC W' g y :=
  ⟨cell_below h.1 hb, cell_below h.2.1 hb, cell_below h.2.2 hb⟩
structure PX (x : PbM) (y : PnM) (w wr : World) : Prop where
  p : Blk wr w.heap.size 31 x.cs
  q : Blk wr (w.heap.size + 1) 33 y.cs
  bel : Below w.heap.size w wr
theorem PX.start (x : PbM) (y : PnM) (w : World) : PX x y w ((w.alloc (.cells x.cs 31)).alloc (.cells y.cs 33)) := by
  obtain ⟨h1, h2, _, h3⟩ := two_boxes (w := w) (cs := x.cs) (t := 31) (cs2 := y.cs) (t2 := 33) (Below.refl _ _)
  exact ⟨h1, h2, h3⟩
theorem PX.lt {x : PbM} {y : PnM} {w wr : World} (h : PX x y w wr) : w.heap.size + 2 ≤ wr.heap.size := h.q.lt
theorem PX.above {x : PbM} {y : PnM} {w wr w1 : World} {B : Nat} (h : PX x y w wr) (hb : Below B wr w1) (hB : w.heap.size + 2 ≤ B) : PX x y w w1 :=
  ⟨h.p.below hb (by omega), h.q.below hb (by omega), h.bel.trans (hb.mono (by omega))⟩
theorem PX.below {x : PbM} {y : PnM} {w wr w1 : World} (h : PX x y w wr) (hb : Below wr.heap.size wr w1) : PX x y w w1 := h.above hb h.lt
theorem PX.alloc {x : PbM} {y : PnM} {w wr : World} (h : PX x y w wr) (o : Obj) : PX x y w (wr.alloc o) := h.below ((Below.refl _ _).alloc (Nat.le_refl _) _)
theorem PX.drewN {x : PbM} {y : PnM} {w wr : World} (h : PX x y w wr) (n : Nat) : PX x y w (wr.drewN n) := h.below (below_drewN (Below.refl _ _) n)
theorem PX.pc {x : PbM} {y : PnM} {w wr : World} (h : PX x y w wr) : PbC wr w.heap.size x := PbC.of_blk h.p
theorem PX.pr {x : PbM} {y : PnM} {w wr : World} (h : PX x y w wr) (hP : RPb w x) : RPb wr x := hP.below h.bel
theorem Pb.form_ok {p : Pb} {x : Pn} (h : p.sized x = true) (h2 : p.fitsTo x p.loads.length = true) (h3 : allB x.heat 0 p.room.steps = true) : p.form x = 0 := by unfold Pb.form; rw [if_neg (by simp [h]), if_neg (by simp [h2]), if_neg (by simp [h3])]
theorem Pb.sized_yes {p : Pb} {x : Pn} (h : p.sized x = true) : x.charge.length = p.n ∧ x.heat.length = p.n ∧ x.start.length = p.loads.length := by
  simpa [Pb.sized] using h
end Go.Proofs.Ytnppngaabfhkpaa
namespace Go.Proofs.Ytnppngaabfhkpaa
open Go.RowKit
attribute [local go_sem ↓] Go.wp_at_zero Go.wp_at_succ
structure TrM where
  net : IntsM
  level : IntsM
  temp : IntsM
  cost : Int
def TrM.v (m : TrM) : Value := .agg #[.slice m.net.A m.net.l.length m.net.c, .slice m.level.A m.level.l.length m.level.c, .slice m.temp.A m.temp.l.length m.temp.c, .int .i64 m.cost]
def TrM.x (m : TrM) : Tr := ⟨m.net.l, m.level.l, m.temp.l, m.cost⟩
def TrM.zero : TrM := ⟨⟨none, 0, []⟩, ⟨none, 0, []⟩, ⟨none, 0, []⟩, 0⟩
structure RTr (W : World) (m : TrM) : Prop where
  net : RInts W m.net.A m.net.l
  level : RInts W m.level.A m.level.l
  temp : RInts W m.temp.A m.temp.l
  nc : m.net.l.length ≤ m.net.c
  lc : m.level.l.length ≤ m.level.c
  tc : m.temp.l.length ≤ m.temp.c
theorem RTr.below {W W' : World} {m : TrM} (h : RTr W m) (hb : Below W.heap.size W W') : RTr W' m := ⟨h.net.below hb, h.level.below hb, h.temp.below hb, h.nc, h.lc, h.tc⟩
theorem RTr.zero (W : World) : RTr W TrM.zero := ⟨RInts.nil, RInts.nil, RInts.nil, Nat.le_refl _, Nat.le_refl _, Nat.le_refl _⟩
structure RX (x : PbM) (y : PnM) (w wr : World) (cs : Array Value) (ev : Int) : Prop where
  px : PX x y w wr
  t : Blk wr (w.heap.size + 2) 47 cs
  e : Blk wr (w.heap.size + 3) 35 #[.int .i64 ev]
section
variable {x : PbM} {y : PnM} {w wr w1 : World} {cs : Array Value} {ev : Int}
theorem RX.lt (h : RX x y w wr cs ev) : w.heap.size + 4 ≤ wr.heap.size := h.e.lt
theorem RX.above {B : Nat} (h : RX x y w wr cs ev) (hb : Below B wr w1) (hB : w.heap.size + 4 ≤ B) : RX x y w w1 cs ev :=
  ⟨h.px.above hb (by omega), h.t.below hb (by omega), h.e.below hb (by omega)⟩
theorem RX.below (h : RX x y w wr cs ev) (hb : Below wr.heap.size wr w1) : RX x y w w1 cs ev := h.above hb h.lt
theorem RX.drew (h : RX x y w wr cs ev) : RX x y w wr.drew cs ev := h.below (Below.drew (Below.refl _ _))
theorem RX.frozen (h : RX x y w wr cs ev) : wr.frozen? ⟨w.heap.size + 2, 0, none⟩ = false ∧ wr.frozen? ⟨w.heap.size + 2, 1, none⟩ = false ∧ wr.frozen? ⟨w.heap.size + 2, 2, none⟩ = false ∧ wr.frozen? ⟨w.heap.size + 2, 3, none⟩ = false ∧ wr.frozen? ⟨w.heap.size + 3, 0, none⟩ = false :=
  ⟨h.t.frozen 0, h.t.frozen 1, h.t.frozen 2, h.t.frozen 3, h.e.frozen 0⟩
theorem RX.cells {a b c d : Value} (h : RX x y w wr #[a, b, c, d] ev) : wr.cell? ⟨w.heap.size + 2, 0, none⟩ = some a ∧ wr.cell? ⟨w.heap.size + 2, 1, none⟩ = some b ∧ wr.cell? ⟨w.heap.size + 2, 2, none⟩ = some c ∧ wr.cell? ⟨w.heap.size + 2, 3, none⟩ = some d ∧ wr.cell? ⟨w.heap.size + 3, 0, none⟩ = some (.int .i64 ev) :=
  ⟨h.t.cell 0, h.t.cell 1, h.t.cell 2, h.t.cell 3, h.e.cell 0⟩
end
theorem RX.start (x : PbM) (y : PnM) (w : World) (cs : Array Value) : RX x y w ((((w.alloc (.cells x.cs 31)).alloc (.cells y.cs 33)).alloc (.cells cs 47)).alloc (.cells #[.int .i64 0] 35)) cs 0 := by
  have hp := PX.start x y w
  generalize hW : (w.alloc (.cells x.cs 31)).alloc (.cells y.cs 33) = W at *
  have hs : W.heap.size = w.heap.size + 2 := by rw [← hW]; simp
  obtain ⟨h1, h2, _, _⟩ := two_boxes (w := W) (cs := cs) (t := 47) (cs2 := #[.int .i64 0]) (t2 := 35) (Below.refl _ _)
  rw [hs] at h1 h2
  exact ⟨(hp.alloc _).alloc _, h1, h2⟩
theorem load_blk {P : Program} {ty t : TypeId} {W : World} {g : Nat} {cs : Array Value} (hu : (P.underlying ty).map (fun d => match d with | .struct _ | .array _ _ => true | _ => false) = some true) (hi : (P.info? ty).map (·.size) = some cs.size) (h : Blk W g t cs) :
    (Instr.loadAt ty (.pointer (some ⟨g, 0, none⟩))).run P W = .ok (.agg cs) W := by
  cases hd : P.underlying ty with
  | none => rw [hd] at hu; cases hu
  | some d =>
    rw [hd] at hu
    have hr := run_loadVar_row (P := P) W g t ty cs (0, 0) d h hd (by cases d <;> simp_all) hi
    simp only [Instr.loadAt, Instr.sureAddr, Sem.run_bind, Sem.run_pure, Result.andThen_ok]
    exact hr
section
variable {P : Program} {ops : Array Oper} {rest : List Oper} {o : Oper} {a : Act} {W : World} {Q : Exit → Act → World → Prop}
theorem wpList_load_blk (ty : TypeId) {cs : Array Value} (hu : (P.underlying ty).map (fun d => match d with | .struct _ | .array _ _ => true | _ => false) = some true) (hi : (P.info? ty).map (·.size) = some cs.size)
    (hgd : o.guard = none) (s : Operand) (ho : o.op = .load ty s) (g : Nat) (hx : a.eval s = .pointer (some ⟨g, 0, none⟩)) {t : TypeId} (h : Blk W g t cs) (hk : wpList P ops Q rest (a.put o.dst (.agg cs)) W) :
    wpList P ops Q (o :: rest) a W := by
  cases hd : P.underlying ty with
  | none => rw [hd] at hu; cases hu
  | some d =>
    rw [hd] at hu
    exact wpList_load_row hgd ty s ho g hx t cs (0, 0) d h hd (by cases d <;> simp_all) hi hk
theorem wpList_load_problem (hgd : o.guard = none) (s : Operand) (ho : o.op = .load 31 s) (g : Nat) (hx : a.eval s = .pointer (some ⟨g, 0, none⟩)) (x : PbM) (h : Blk W g 31 x.cs) (hk : wpList Try.prog ops Q rest (a.put o.dst x.v) W) :
    wpList Try.prog ops Q (o :: rest) a W := wpList_load_blk 31 (by kernel_rfl) (by kernel_rfl) hgd s ho g hx h hk
theorem wpList_load_plan (hgd : o.guard = none) (s : Operand) (ho : o.op = .load 33 s) (g : Nat) (hx : a.eval s = .pointer (some ⟨g, 0, none⟩)) (y : PnM) (h : Blk W g 33 y.cs) (hk : wpList Try.prog ops Q rest (a.put o.dst y.v) W) :
    wpList Try.prog ops Q (o :: rest) a W := wpList_load_blk 33 (by kernel_rfl) (by kernel_rfl) hgd s ho g hx h hk
end
end Go.Proofs.Ytnppngaabfhkpaa
namespace Go.Proofs.Ytnppngaabfhkpaa
open Go.RowKit
attribute [local go_sem ↓] Go.wp_at_zero Go.wp_at_succ
end Go.Proofs.Ytnppngaabfhkpaa
namespace Go.Proofs.Ytnppngaabfhkpaa
open Go.RowKit
theorem RX.drewN {x : PbM} {y : PnM} {w wr : World} {cs : Array Value} {ev : Int} (h : RX x y w wr cs ev) (n : Nat) : RX x y w (wr.drewN n) cs ev := h.below (below_drewN (Below.refl _ _) n)
def Apart (v v' : Value) : Prop := ∀ g, v.ownBlock = some g → v'.ownBlock ≠ some g
theorem Apart.symm {v v' : Value} (h : Apart v v') : Apart v' v := fun g h1 h2 => h g h2 h1
theorem own_other {w w' : World} {B size n : Nat} {e : TypeId} {v v' : Value} {xs : List Value} (h : w.ownsRow B e size v' n xs) (hg : w.grownBy w' v.ownBlock) (ha : Apart v v') : w'.ownsRow B e size v' n xs := by
  refine ⟨h.1, ?_⟩
  rcases h.2 with hn | ⟨g, cap, cur, hv, hb, hc, rest⟩
  · exact .inl hn
  · refine .inr ⟨g, cap, cur, hv, hb, ?_, rest⟩
    have hlt : g < w.heap.size := by
      rcases Nat.lt_or_ge g w.heap.size with h1 | h1
      · exact h1
      · rw [Array.getElem?_eq_none h1] at hc; cases hc
    rw [hg.block g hlt (fun e => ha g e.symm (by rw [hv]; rfl)), hc]
theorem own_setCell {w : World} {B size n : Nat} {e : TypeId} {v : Value} {xs : List Value} (h : w.ownsRow B e size v n xs) {p : Addr} (hp : p.block < B) (u : Value) : (w.setCell p u).ownsRow B e size v n xs := by
  refine ⟨h.1, ?_⟩
  rcases h.2 with hn | ⟨g, cap, cur, hv, hb, hc, rest⟩
  · exact .inl hn
  · exact .inr ⟨g, cap, cur, hv, hb, (Below.heap_setCell w p u g (by omega)).trans hc, rest⟩
structure Rows3 (w : World) (B : Nat) (v1 v2 v3 : Value) (l1 l2 l3 : List Int) : Prop where
  o1 : w.ownsRow B 3 1 v1 l1.length (ints l1)
  o2 : w.ownsRow B 3 1 v2 l2.length (ints l2)
  o3 : w.ownsRow B 3 1 v3 l3.length (ints l3)
  a12 : Apart v1 v2
  a23 : Apart v2 v3
  a31 : Apart v3 v1
section
variable {w w' : World} {B : Nat} {v1 v2 v3 v' : Value} {l1 l2 l3 : List Int}
theorem Rows3.nil (w : World) (B : Nat) : Rows3 w B (.slice none 0 0) (.slice none 0 0) (.slice none 0 0) [] [] [] :=
  ⟨World.ownsRow_nil _ _ _ _, World.ownsRow_nil _ _ _ _, World.ownsRow_nil _ _ _ _, (fun _ h => by cases h), (fun _ h => by cases h), (fun _ h => by cases h)⟩
theorem Rows3.below (h : Rows3 w B v1 v2 v3 l1 l2 l3) (hb : Below w.heap.size w w') : Rows3 w' B v1 v2 v3 l1 l2 l3 := ⟨own_below h.o1 hb, own_below h.o2 hb, own_below h.o3 hb, h.a12, h.a23, h.a31⟩
theorem Rows3.drew (h : Rows3 w B v1 v2 v3 l1 l2 l3) : Rows3 w.drew B v1 v2 v3 l1 l2 l3 := h.below (Below.drew (Below.refl _ _))
theorem Rows3.set (h : Rows3 w B v1 v2 v3 l1 l2 l3) {p : Addr} (hp : p.block < B) (u : Value) : Rows3 (w.setCell p u) B v1 v2 v3 l1 l2 l3 := ⟨own_setCell h.o1 hp u, own_setCell h.o2 hp u, own_setCell h.o3 hp u, h.a12, h.a23, h.a31⟩
theorem Rows3.push {n : Nat} {x : Int} (h : Rows3 w B v1 v2 v3 l1 l2 l3) (hn : n = l1.length) (ho : w'.ownsRow B 3 1 v' (n + 1) (ints l1 ++ [.int .i64 x])) (hg : w.grownBy w' v1.ownBlock)
    (hv : v'.ownBlock = v1.ownBlock ∨ v'.ownBlock = some (w.heap.size + 1)) : Rows3 w' B v' v2 v3 (l1 ++ [x]) l2 l3 := by
  subst hn
  have hap : ∀ {u : Value} {l : List Int}, w.ownsRow B 3 1 u l.length (ints l) → Apart v1 u → Apart v' u := by
    intro u l hu ha g hg1 hg2
    rcases hv with hv | hv
    · rw [hv] at hg1; exact ha g hg1 hg2
    · rw [hv] at hg1; injection hg1 with hg1
      have := (hu.lt g hg2).2
      omega
  refine ⟨?_, own_other h.o2 hg h.a12, own_other h.o3 hg h.a31.symm, hap h.o2 h.a12, h.a23, (hap h.o3 h.a31.symm).symm⟩
  rw [List.length_append, List.length_singleton, ints_append]
  exact ho
theorem Rows3.grown (h : Rows3 w B v1 v2 v3 l1 l2 l3) (hB : B ≤ w.heap.size) (hg : w.grownBy w' v1.ownBlock) : Below B w w' :=
  (Below.refl B w).grown hg hB fun k hk => (h.o1.lt k hk).1
end
theorem own_cap {w : World} {B n c size : Nat} {A : Option Addr} {e : TypeId} {xs : List Value} (h : w.ownsRow B e size (.slice A n c) n xs) : n ≤ c := by
  rcases h.2 with ⟨hv, hn⟩ | ⟨g, cap, cur, hv, hb, hc, h1, _⟩
  · omega
  · injection hv with _ _ hv
    omega
theorem wpList_append_newGH {P : Program} {ops : Array Oper} {rest : List Oper} {o : Oper} {a : Act} {Q : Exit → Act → World → Prop} (w w0 : World) (H : Nat) (hH : w0.heap.size = H) (hgd : o.guard = none) (s x : Operand) (t : TypeId)
    (ho : o.op = .call { callee := .builtin .append, args := #[s, x], argTypes := #[t, t] })
    (base : Nat) (e : TypeId) (i : TypeInfo) (z : Value) (size bytes : Nat) (ht : P.underlying t = some (.slice e)) (hi : P.info? e = some i) (hz : i.zero = some z)
    (hsize : i.size = size) (hby : i.bytes = bytes) (hzs : z.cells.size = size) (hsz : 0 < size) (hb4 : bytes ≤ 4096)
    (v : Value) (n : Nat) (xs : List Value) (hs : a.eval s = v) (hown : w0.ownsRow base e size v n xs)
    (cs : Array Value) (hcs : cs.size = size) (h1 : ∀ u ∈ cs.toList, u.oneCell' = true) (hx : a.eval x = .slice (some ⟨H, 0, none⟩) 1 1)
    (hw : w = w0.alloc (.cells cs e)) (hn : n ≤ 1000000000) (hbase : base ≤ w0.heap.size)
    (h : ∀ v' w', w'.ownsRow base e size v' (n + 1) (xs ++ cs.toList) → w0.grownBy w' v.ownBlock → (v'.ownBlock = v.ownBlock ∨ v'.ownBlock = some (w0.heap.size + 1)) → wpList P ops Q rest (a.put o.dst v') w') : wpList P ops Q (o :: rest) a w := by
  subst hH
  exact wpList_append_newG w w0 hgd s x t ho base e i z size bytes ht hi hz hsize hby hzs hsz hb4 v n xs hs hown cs hcs h1 hx hw hn hbase h
theorem PbM.prof_short {x : PbM} (g : x.p.Good) : ∀ y ∈ x.loads, y.r.prof.length < 1000000000 := by
  intro y hy
  have h := g.loads
  unfold allChk at h
  split at h
  · cases h
  · have hm : y.r ∈ x.p.loads := List.mem_map.2 ⟨y, hy, rfl⟩
    obtain ⟨i, hi, he⟩ := List.mem_iff_getElem.1 hm
    have h1 : allTo x.p.loads x.p.n (i + 1) = 0 := by
      by_cases h2 : allTo x.p.loads x.p.n (i + 1) = 0
      · exact h2
      · rw [allTo_stay h2 hi] at h; exact absurd h h2
    rw [allTo] at h1
    split at h1
    · by_cases h3 : x.p.loads[i].chk x.p.n = 0
      · rw [he] at h3
        have := (Ld.good h3).p1
        omega
      · rw [loadErr_bad (by omega) h3] at h1; exact absurd h1 h3
    · rename_i h2; exact absurd h1 h2
end Go.Proofs.Ytnppngaabfhkpaa
