/-
  The walks of layer 42 (plan), part 14: the rest of a list (program and reference).
-/
import Derived.Test.YtdheockmphdakaaQP17
import Derived.Test.YtdheockmphdakaaQL20
namespace Go.Proofs.Ytdheockmphdakaa
open Go.RowKit
attribute [local go_sem ↓] Go.wp_at_zero Go.wp_at_succ

theorem RInts.cut {w : World} {A : Option Addr} {l : List Int} (h : RInts w A l) {k cap : Nat} (hk : k ≤ l.length) (hc : l.length ≤ cap) : RInts w (if cap = k then A else A.map (·.add k)) (l.drop k) := by
  have h1 := Reads.cut h hk hc
  rw [Nat.mul_one] at h1
  unfold RInts
  rw [List.length_drop, show ints (l.drop k) = (ints l).drop k by simp [ints]]
  exact h1

set_option maxRecDepth 100000 in
set_option maxHeartbeats 4000000 in
theorem rest1_any (A : Option Addr) (c : Nat) (l : List Int) (k g : Nat) (w : World) (hA0 : RInts w A l) (hk : k ≤ l.length) (hc : l.length ≤ c) (hl : l.length ≤ 1000000000) (hg : w.cell? ⟨g, 0, none⟩ = some (.int .i64 k)) :
    Calls Try.prog 60 #[.slice A l.length c, .pointer (some ⟨g, 0, none⟩)] w (IntsOut (l.drop k) w) := by
  have hcut := RInts.cut hA0 hk hc
  by_cases hck : c = k
  · subst hck
    rw [if_pos rfl] at hcut
    have hz : l.drop c = [] := List.drop_eq_nil_of_le (by omega)
    rw [hz] at hcut ⊢
    have hcl0 : Calls Try.prog 61 #[.slice A 0 0] w (IntsOut [] w) := clone_any A 0 [] w hcut (by decide)
    have hcl := Lib.hid hcl0
    clear hz
    obtain ⟨n, hn⟩ : ∃ n, n = l.length := ⟨_, rfl⟩
    rw [← hn] at hk hc hl ⊢
    have i1 : (0 : Int) ≤ (c : Int) := by omega
    have i2 : (c : Int) ≤ (n : Int) := by omega
    clear hA0 hcut hcl0 hn
    go_enter Try.func60, Try.ntmps60
    go_wp2_with fail
    refine hcl.out.mono ?_
    rintro e w1 ⟨A', c', rfl, hr, hf, hb⟩
    have HH := Lib.hid (And.intro hr (And.intro hf hb))
    clear hr hf hb
    go_wp2_with fail
    go_ret
    exact ⟨A', c', rfl, HH.out.1, HH.out.2.1, HH.out.2.2⟩
  · rw [if_neg hck] at hcut
    have hcl0 := clone_any (A.map (·.add k)) (c - k) (l.drop k) w hcut (by rw [List.length_drop]; omega)
    rw [List.length_drop] at hcl0
    have hcl := Lib.hid hcl0
    obtain ⟨n, hn⟩ : ∃ n, n = l.length := ⟨_, rfl⟩
    rw [← hn] at hk hc hl hcl ⊢
    have i1 : (0 : Int) ≤ (k : Int) := by omega
    have i2 : (k : Int) ≤ (n : Int) := by omega
    clear hA0 hcut hcl0 hn
    go_enter Try.func60, Try.ntmps60
    go_wp2_with fail
    refine hcl.out.mono ?_
    rintro e w1 ⟨A', c', rfl, hr, hf, hb⟩
    have HH := Lib.hid (And.intro hr (And.intro hf hb))
    clear hr hf hb
    go_wp2_with fail
    go_ret
    exact ⟨A', c', by rw [List.length_drop]; rfl, HH.out.1, HH.out.2.1, HH.out.2.2⟩

set_option maxRecDepth 100000 in
set_option maxHeartbeats 4000000 in
theorem tail_any (A : Option Addr) (c : Nat) (l : List Int) (k : Nat) (w : World) (hA0 : RInts w A l) (hk : k ≤ l.length) (hc : l.length ≤ c) (hl : l.length ≤ 1000000000) :
    Calls Try.prog 63 #[.slice A l.length c, .int .i64 k] w (IntsOut (l.drop k) w) := by
  have hcut := RInts.cut hA0 hk hc
  obtain ⟨i0, hi, hz0, hz1, hz2⟩ := info_parts Try.infoInt
  have h2 := ints_one (l.drop k)
  have HO := Lib.hid (World.ownsRow_lit (base := w.heap.size) (e := 3) (size := 1) w #[] 0 (Nat.le_refl _) (by unfold maxLen; omega) rfl)
  by_cases hck : c = k
  · subst hck
    rw [if_pos rfl] at hcut
    have hz : l.drop c = [] := List.drop_eq_nil_of_le (by omega)
    rw [hz] at hcut h2 ⊢
    clear hz
    have HR : Hid (Reads (w.alloc (.cells #[] 3)) (w.heap.size + 1) 1 A 0 (ints [])) := by
      have h := hcut.alloc (.cells #[] 3)
      unfold RInts at h
      rw [World.size_alloc] at h
      exact h
    obtain ⟨n, hn⟩ : ∃ n, n = l.length := ⟨_, rfl⟩
    rw [← hn] at hk hc hl ⊢
    have i1 : (0 : Int) ≤ (c : Int) := by omega
    have i2 : (c : Int) ≤ (n : Int) := by omega
    have HN := Lib.hid hn
    clear hA0 hcut hn
    go_enter Try.func63, Try.ntmps63
    go_wp2_with (at_builtin; refine wpList_append_any _ rfl _ _ 22 rfl w.heap.size 3 i0 (.int .i64 0) 1 8 Try.underlying22 hi hz0 hz1 hz2 rfl (by decide) _ _ _ rfl HO.out _ _ _ _ (ints []) rfl HR.out h2 (by unfold maxLen; omega) (by omega) (by simp) ?_)
    intro v' w5 hown5 hg5 hv5
    have hB5 : Below w.heap.size w w5 := ((Below.refl w.heap.size w).alloc (Nat.le_refl _) (.cells #[] 3)).grown hg5 (by simp) (fun k hk => (HO.out.lt k hk).1)
    have hfin : Hid (IntsOut [] w (.returned v') w5) := ints_out (n := 0 + 0) (by simpa using hown5) (Nat.le_refl _) hB5
    clear hown5 hg5 hv5 hB5
    go_wp2_with fail
    go_ret
    exact hfin.out
  · rw [if_neg hck] at hcut
    have HR : Hid (Reads (w.alloc (.cells #[] 3)) (w.heap.size + 1) 1 (A.map (·.add k)) (l.length - k) (ints (l.drop k))) := by
      have h := hcut.alloc (.cells #[] 3)
      unfold RInts at h
      rw [List.length_drop, World.size_alloc] at h
      exact h
    obtain ⟨n, hn⟩ : ∃ n, n = l.length := ⟨_, rfl⟩
    rw [← hn] at hk hc hl HR ⊢
    have i1 : (0 : Int) ≤ (k : Int) := by omega
    have i2 : (k : Int) ≤ (n : Int) := by omega
    have HN := Lib.hid hn
    clear hA0 hcut hn
    go_enter Try.func63, Try.ntmps63
    go_wp2_with (at_builtin; refine wpList_append_any _ rfl _ _ 22 rfl w.heap.size 3 i0 (.int .i64 0) 1 8 Try.underlying22 hi hz0 hz1 hz2 rfl (by decide) _ _ _ rfl HO.out _ _ _ _ (ints (l.drop k)) rfl HR.out h2 (by unfold maxLen; omega) (by omega) (by simp) ?_)
    intro v' w5 hown5 hg5 hv5
    have hB5 : Below w.heap.size w w5 := ((Below.refl w.heap.size w).alloc (Nat.le_refl _) (.cells #[] 3)).grown hg5 (by simp) (fun k hk => (HO.out.lt k hk).1)
    have hfin : Hid (IntsOut (l.drop k) w (.returned v') w5) := ints_out (n := 0 + (n - k)) (by simpa using hown5) (Nat.le_refl _) hB5
    clear hown5 hg5 hv5 hB5
    go_wp2_with fail
    go_ret
    exact hfin.out
end Go.Proofs.Ytdheockmphdakaa

/-
  The walks of layer 42 (plan), part 15: what is left of a load (program and reference).
-/
namespace Go.Proofs.Ytdheockmphdakaa
open Go.RowKit
attribute [local go_sem ↓] Go.wp_at_zero Go.wp_at_succ

/-- What is left of a load with a start, after k slots; whether anything is. -/
def Ld.left (r : Ld) (s k : Int) : Ld := if k ≤ s then r.shift k else if s + (r.prof.length : Int) ≤ k then Ld.zero else ⟨r.name, r.prof.drop (k - s).toNat, 0, (r.prof.length : Int) - (k - s)⟩
def Ld.isLeft (r : Ld) (s k : Int) : Bool := if k ≤ s then r.canShift k else if s + (r.prof.length : Int) ≤ k then false else true

set_option maxRecDepth 100000 in
set_option maxHeartbeats 16000000 in
theorem pleft_any (r : Ld) (A : Option Addr) (c : Nat) (s k : Int) (w : World) (hA0 : RInts w A r.prof) (hn : r.name.size ≤ maxLen) (hl : r.prof.length ≤ 1000000) (hc : r.prof.length ≤ c) (s0 : 0 ≤ s) (s1 : s ≤ 1000) (k0 : 0 ≤ k) (k1 : k ≤ 1000) :
    Calls Try.prog 62 #[r.v A c, .int .i64 s, .int .i64 k] w (LdOut (r.left s k) (r.isLeft s k) w) := by
  have hA := Lib.hid hA0
  have hsh := Lib.hid (fun W (h : RInts W A r.prof) => lshift_any r A c k W h hn (by omega))
  have hB := Lib.hid (two_boxes (w := w) (cs := #[.string r.name, .slice A r.prof.length c, .int .i64 r.early, .int .i64 r.late]) (t := 52) (cs2 := #[.string ⟨#[]⟩, .slice none 0 0, .int .i64 0, .int .i64 0]) (t2 := 52) (Below.refl _ _))
  simp only [Ld.v] at hsh ⊢
  unfold Ld.left Ld.isLeft
  clear hA0
  by_cases h1 : k ≤ s
  · rw [if_pos h1, if_pos h1]
    generalize r.shift k = m at *
    generalize r.canShift k = b at *
    go_enter Try.func62, Try.ntmps62
    go_wp2_with fail
    refine (hsh.out _ (hA.out.below hB.out.2.2.2)).mono ?_
    rintro e w1 ⟨A', c', rfl, hr, hf, hb⟩
    obtain ⟨q1, q2, q3, q4⟩ := two_boxes hb
    have z0 := q2.cell 0
    have z1 := q2.cell 1
    have z2 := q2.cell 2
    have z3 := q2.cell 3
    have f0 := q2.frozen 0
    have f1 := q2.frozen 1
    have f2 := q2.frozen 2
    have f3 := q2.frozen 3
    simp at z0 z1 z2 z3
    have hf2 : ∀ ad, A' = some ad → w.heap.size + 2 ≤ ad.block := fun ad e => by have := hf ad e; simp at this; omega
    have HH := Lib.hid (And.intro hr (And.intro hf2 q4))
    clear hr hf hf2 hb q1 q2 q3 q4
    go_wp2_with fail
    refine bodyPost_ret (v := .tuple #[.agg #[.string m.name, .slice A' m.prof.length c', .int .i64 m.early, .int .i64 m.late], .bool b]) (by simp [results, Try.results62, go_sem, z0, z1, z2, z3]) rfl ?_
    obtain ⟨hr, hf2, q4⟩ := HH.out
    refine ⟨A', c', rfl, ?_, fun ad e => by have := hf2 ad e; omega, (((q4.setCell (by simp) _).setCell (by simp) _).setCell (by simp) _).setCell (by simp) _⟩
    have hne : ∀ ad, A' = some ad → ad.block ≠ w.heap.size + 1 := fun ad e => by have := hf2 ad e; omega
    exact (((hr.setFar (p := ⟨w.heap.size + 1, 0, none⟩) hne _).setFar (p := ⟨w.heap.size + 1, 1, none⟩) hne _).setFar (p := ⟨w.heap.size + 1, 2, none⟩) hne _).setFar (p := ⟨w.heap.size + 1, 3, none⟩) hne _
  · rw [if_neg h1, if_neg h1]
    have a1 : IntKind.i64.wrap (s + (r.prof.length : Int)) = s + (r.prof.length : Int) := IntWalk.i64_in _ (by omega)
    by_cases h2 : s + (r.prof.length : Int) ≤ k
    · rw [if_pos h2, if_pos h2]
      go_enter Try.func62, Try.ntmps62
      go_wp2_with fail
      refine bodyPost_ret (v := .tuple #[.agg #[.string ⟨#[]⟩, .slice none 0 0, .int .i64 0, .int .i64 0], .bool false]) (by simp [results, Try.results62, go_sem]) rfl ?_
      exact ⟨none, 0, rfl, RInts.nil, (fun _ h => by cases h), hB.out.2.2.2⟩
    · rw [if_neg h2, if_neg h2]
      obtain ⟨d, hd⟩ : ∃ d : Nat, (d : Int) = k - s := ⟨(k - s).toNat, by omega⟩
      have a2 : IntKind.i64.wrap (k - s) = (d : Int) := by rw [hd]; exact IntWalk.i64_in _ (by omega)
      rw [show (k - s).toNat = d by omega, show (r.prof.length : Int) - (k - s) = (r.prof.length : Int) - d by omega]
      have hdl : d < r.prof.length := by omega
      have hlen : (r.prof.drop d).length = r.prof.length - d := List.length_drop
      have i1 : (0 : Int) ≤ (d : Int) := by omega
      have i2 : (d : Int) ≤ (r.prof.length : Int) := by omega
      have hck : ¬ c = d := by omega
      have hcl := Lib.hid (fun W (h : RInts W (A.map (·.add d)) (r.prof.drop d)) => clone_any (A.map (·.add d)) (c - d) (r.prof.drop d) W h (by rw [hlen]; omega))
      have hcut := Lib.hid (fun W (h : RInts W A r.prof) => show RInts W (A.map (·.add d)) (r.prof.drop d) by have := h.cut (k := d) (cap := c) (by omega) hc; rwa [if_neg hck] at this)
      rw [hlen] at hcl
      clear hd
      go_enter Try.func62, Try.ntmps62
      go_wp2_with fail
      refine (hcl.out _ (hcut.out _ (hA.out.below hB.out.2.2.2))).mono ?_
      rintro e w1 ⟨A', c', rfl, hr, hf, hb⟩
      rw [hlen]
      obtain ⟨q1, q2, q3, q4⟩ := two_boxes hb
      have y0 := q1.cell 0
      have z0 := q2.cell 0
      have z1 := q2.cell 1
      have z2 := q2.cell 2
      have z3 := q2.cell 3
      have f0 := q2.frozen 0
      have f1 := q2.frozen 1
      have f2 := q2.frozen 2
      have f3 := q2.frozen 3
      simp at y0 z0 z1 z2 z3
      have hf2 : ∀ ad, A' = some ad → w.heap.size + 2 ≤ ad.block := fun ad e => by have := hf ad e; simp at this; omega
      have HH := Lib.hid (And.intro hr (And.intro hf2 q4))
      have HLEN := Lib.hid hlen
      clear hr hf hf2 hb q1 q2 q3 q4 hlen
      go_wp2_with fail
      refine bodyPost_ret (v := .tuple #[.agg #[.string r.name, .slice A' (r.prof.length - d) c', .int .i64 0, .int .i64 ((r.prof.length - d : Nat) : Int)], .bool true]) (by simp [results, Try.results62, go_sem, z0, z1, z2, z3]) rfl ?_
      obtain ⟨hr, hf2, q4⟩ := HH.out
      refine ⟨A', c', by rw [show (r.prof.length : Int) - (d : Int) = ((r.prof.length - d : Nat) : Int) by omega]; simp only [HLEN.out], ?_, fun ad e => by have := hf2 ad e; omega, ((((q4).setCell (by simp) _).setCell (by simp) _).setCell (by simp) _).setCell (by simp) _⟩
      have hne : ∀ ad, A' = some ad → ad.block ≠ w.heap.size + 1 := fun ad e => by have := hf2 ad e; omega
      have hn0 : ∀ ad, A' = some ad → ad.block ≠ w.heap.size := fun ad e => by have := hf2 ad e; omega
      exact ((((hr).setFar (p := ⟨w.heap.size + 1, 0, none⟩) hne _).setFar (p := ⟨w.heap.size + 1, 1, none⟩) hne _).setFar (p := ⟨w.heap.size + 1, 2, none⟩) hne _).setFar (p := ⟨w.heap.size + 1, 3, none⟩) hne _

set_option maxRecDepth 100000 in
set_option maxHeartbeats 16000000 in
theorem rleft_any (r : Ld) (A : Option Addr) (c : Nat) (s k : Int) (w : World) (hA0 : RInts w A r.prof) (hn : r.name.size ≤ maxLen) (hl : r.prof.length ≤ 1000000) (hc : r.prof.length ≤ c) (s0 : 0 ≤ s) (s1 : s ≤ 1000) (_k0 : 0 ≤ k) (_k1 : k ≤ 1000) :
    Calls Try.prog 64 #[r.v A c, .int .i64 s, .int .i64 k] w (LdOut (r.left s k) (r.isLeft s k) w) := by
  have hA := Lib.hid hA0
  have hsh := Lib.hid (fun W (h : RInts W A r.prof) => rlshift_any r A c k W h hn (by omega))
  have hB := Lib.hid (two_boxes (w := w) (cs := #[.string r.name, .slice A r.prof.length c, .int .i64 r.early, .int .i64 r.late]) (t := 52) (cs2 := #[.string ⟨#[]⟩, .slice none 0 0, .int .i64 0, .int .i64 0]) (t2 := 52) (Below.refl _ _))
  simp only [Ld.v] at hsh ⊢
  unfold Ld.left Ld.isLeft
  clear hA0
  by_cases h1 : k ≤ s
  · rw [if_pos h1, if_pos h1]
    generalize r.shift k = m at *
    generalize r.canShift k = b at *
    go_enter Try.func64, Try.ntmps64
    go_wp2_with fail
    refine (hsh.out _ (hA.out.below hB.out.2.2.2)).mono ?_
    rintro e w1 ⟨A', c', rfl, hr, hf, hb⟩
    obtain ⟨q1, q2, q3, q4⟩ := two_boxes hb
    have z0 := q2.cell 0
    have z1 := q2.cell 1
    have z2 := q2.cell 2
    have z3 := q2.cell 3
    have f0 := q2.frozen 0
    have f1 := q2.frozen 1
    have f2 := q2.frozen 2
    have f3 := q2.frozen 3
    simp at z0 z1 z2 z3
    have hf2 : ∀ ad, A' = some ad → w.heap.size + 2 ≤ ad.block := fun ad e => by have := hf ad e; simp at this; omega
    have HH := Lib.hid (And.intro hr (And.intro hf2 q4))
    clear hr hf hf2 hb q1 q2 q3 q4
    go_wp2_with fail
    refine bodyPost_ret (v := .tuple #[.agg #[.string m.name, .slice A' m.prof.length c', .int .i64 m.early, .int .i64 m.late], .bool b]) (by simp [results, Try.results64, go_sem, z0, z1, z2, z3]) rfl ?_
    obtain ⟨hr, hf2, q4⟩ := HH.out
    refine ⟨A', c', rfl, ?_, fun ad e => by have := hf2 ad e; omega, (((q4.setCell (by simp) _).setCell (by simp) _).setCell (by simp) _).setCell (by simp) _⟩
    have hne : ∀ ad, A' = some ad → ad.block ≠ w.heap.size + 1 := fun ad e => by have := hf2 ad e; omega
    exact (((hr.setFar (p := ⟨w.heap.size + 1, 0, none⟩) hne _).setFar (p := ⟨w.heap.size + 1, 1, none⟩) hne _).setFar (p := ⟨w.heap.size + 1, 2, none⟩) hne _).setFar (p := ⟨w.heap.size + 1, 3, none⟩) hne _
  · rw [if_neg h1, if_neg h1]
    have a1 : IntKind.i64.wrap (s + (r.prof.length : Int)) = s + (r.prof.length : Int) := IntWalk.i64_in _ (by omega)
    by_cases h2 : s + (r.prof.length : Int) ≤ k
    · rw [if_pos h2, if_pos h2]
      go_enter Try.func64, Try.ntmps64
      go_wp2_with fail
      refine bodyPost_ret (v := .tuple #[.agg #[.string ⟨#[]⟩, .slice none 0 0, .int .i64 0, .int .i64 0], .bool false]) (by simp [results, Try.results64, go_sem]) rfl ?_
      exact ⟨none, 0, rfl, RInts.nil, (fun _ h => by cases h), hB.out.2.2.2⟩
    · rw [if_neg h2, if_neg h2]
      obtain ⟨d, hd⟩ : ∃ d : Nat, (d : Int) = k - s := ⟨(k - s).toNat, by omega⟩
      have a2 : IntKind.i64.wrap (k - s) = (d : Int) := by rw [hd]; exact IntWalk.i64_in _ (by omega)
      rw [show (k - s).toNat = d by omega, show (r.prof.length : Int) - (k - s) = (r.prof.length : Int) - d by omega]
      have hdl : d < r.prof.length := by omega
      have hlen : (r.prof.drop d).length = r.prof.length - d := List.length_drop
      have i1 : (0 : Int) ≤ (d : Int) := by omega
      have i2 : (d : Int) ≤ (r.prof.length : Int) := by omega
      have htl := Lib.hid (fun W (h : RInts W A r.prof) => tail_any A c r.prof d W h (by omega) hc (by omega))
      clear hd
      go_enter Try.func64, Try.ntmps64
      go_wp2_with fail
      refine (htl.out _ (hA.out.below hB.out.2.2.2)).mono ?_
      rintro e w1 ⟨A', c', rfl, hr, hf, hb⟩
      rw [hlen]
      obtain ⟨q1, q2, q3, q4⟩ := two_boxes hb
      have y0 := q1.cell 0
      have y1 := q1.cell 1
      have y2 := q1.cell 2
      have y3 := q1.cell 3
      have g1 := q1.frozen 1
      have g2 := q1.frozen 2
      have g3 := q1.frozen 3
      have z0 := q2.cell 0
      have z1 := q2.cell 1
      have z2 := q2.cell 2
      have z3 := q2.cell 3
      have f0 := q2.frozen 0
      have f1 := q2.frozen 1
      have f2 := q2.frozen 2
      have f3 := q2.frozen 3
      simp at y0 y1 y2 y3 z0 z1 z2 z3
      have hf2 : ∀ ad, A' = some ad → w.heap.size + 2 ≤ ad.block := fun ad e => by have := hf ad e; simp at this; omega
      have HH := Lib.hid (And.intro hr (And.intro hf2 q4))
      have HLEN := Lib.hid hlen
      clear hr hf hf2 hb q1 q2 q3 q4 hlen
      go_wp2_with fail
      refine bodyPost_ret (v := .tuple #[.agg #[.string r.name, .slice A' (r.prof.length - d) c', .int .i64 0, .int .i64 ((r.prof.length - d : Nat) : Int)], .bool true]) (by simp [results, Try.results64, go_sem, z0, z1, z2, z3]) rfl ?_
      obtain ⟨hr, hf2, q4⟩ := HH.out
      refine ⟨A', c', by rw [show (r.prof.length : Int) - (d : Int) = ((r.prof.length - d : Nat) : Int) by omega]; simp only [HLEN.out], ?_, fun ad e => by have := hf2 ad e; omega, (((((((q4).setCell (by simp) _).setCell (by simp) _).setCell (by simp) _).setCell (by simp) _).setCell (by simp) _).setCell (by simp) _).setCell (by simp) _⟩
      have hne : ∀ ad, A' = some ad → ad.block ≠ w.heap.size + 1 := fun ad e => by have := hf2 ad e; omega
      have hn0 : ∀ ad, A' = some ad → ad.block ≠ w.heap.size := fun ad e => by have := hf2 ad e; omega
      exact (((((((hr).setFar (p := ⟨w.heap.size, 1, none⟩) hn0 _).setFar (p := ⟨w.heap.size, 2, none⟩) hn0 _).setFar (p := ⟨w.heap.size, 3, none⟩) hn0 _).setFar (p := ⟨w.heap.size + 1, 0, none⟩) hne _).setFar (p := ⟨w.heap.size + 1, 1, none⟩) hne _).setFar (p := ⟨w.heap.size + 1, 2, none⟩) hne _).setFar (p := ⟨w.heap.size + 1, 3, none⟩) hne _
end Go.Proofs.Ytdheockmphdakaa
