/-
  The walks of layer 44's reference: the rest of a list.
-/
import Derived.Test.YtnppngaabfhkpaaJCX
import Derived.Test.YtnppngaabfhkpaaJTR1
import Derived.Test.YtnppngaabfhkpaaJL20
import Derived.Test.YtnppngaabfhkpaaJC4
import Derived.Deep.RegionHeld3
import Derived.Deep.DrawnRows
namespace Go.Proofs.Ytnppngaabfhkpaa
open Go.RowKit
attribute [local go_sem ↓] Go.wp_at_zero Go.wp_at_succ
theorem ints_capO {w0 w : World} {base : Nat} {e : TypeId} {v : Value} {n : Nat} {l : List Int} (h : w.ownsRow base e 1 v n (ints l)) (hb : w0.heap.size ≤ base) (hB : Below w0.heap.size w0 w) : IntsCap l w0 (.returned v) w := by
  obtain ⟨A, c, rfl⟩ := own_form h
  have hn : n = l.length := by have := h.1; rw [ints_length] at this; omega
  subst hn
  exact ⟨A, c, rfl, Reads.of_own h, own_cap h, fun ad ha => Nat.le_trans hb (own_fresh h ad ha), hB⟩
set_option maxRecDepth 100000 in
set_option maxHeartbeats 4000000 in
theorem rtail44_any (A : Option Addr) (c : Nat) (l : List Int) (w : World) (hA0 : RInts w A l) (hk : 1 ≤ l.length) (hc : l.length ≤ c) (hl : l.length ≤ 1000000000) :
    Calls Try.prog 83 #[.slice A l.length c] w (IntsCap (l.drop 1) w) := by
  have hcut := RInts.cut hA0 hk hc
  obtain ⟨i0, hi, hz0, hz1, hz2⟩ := info_parts Try.infoInt
  have h2 := ints_one (l.drop 1)
  have HO := Lib.hid (World.ownsRow_lit (base := w.heap.size) (e := 3) (size := 1) w #[] 0 (Nat.le_refl _) (by unfold maxLen; omega) rfl)
  by_cases hck : c = 1
  · subst hck
    rw [if_pos rfl] at hcut
    have hz : l.drop 1 = [] := List.drop_eq_nil_of_le (by omega)
    rw [hz] at hcut h2 ⊢
    clear hz
    have HR : Hid (Reads (w.alloc (.cells #[] 3)) (w.heap.size + 1) 1 A 0 (ints [])) := by
      have h := hcut.alloc (.cells #[] 3)
      unfold RInts at h
      rw [World.size_alloc] at h
      exact h
    obtain ⟨n, hn⟩ : ∃ n, n = l.length := ⟨_, rfl⟩
    rw [← hn] at hk hc hl ⊢
    have i2 : (1 : Int) ≤ (n : Int) := by omega
    have HN := Lib.hid hn
    clear hA0 hcut hn
    go_enter Try.func83, Try.ntmps83
    go_wp2_with (at_builtin; refine wpList_append_any _ rfl _ _ 22 rfl w.heap.size 3 i0 (.int .i64 0) 1 8 Try.underlying22 hi hz0 hz1 hz2 rfl (by decide) _ _ _ rfl HO.out _ _ _ _ (ints []) rfl HR.out h2 (by unfold maxLen; omega) (by omega) (by simp) ?_)
    intro v' w5 hown5 hg5 hv5
    have hB5 : Below w.heap.size w w5 := ((Below.refl w.heap.size w).alloc (Nat.le_refl _) (.cells #[] 3)).grown hg5 (by simp) (fun k hk => (HO.out.lt k hk).1)
    have hfin : Hid (IntsCap [] w (.returned v') w5) := ints_capO (n := 0 + 0) (by simpa using hown5) (Nat.le_refl _) hB5
    clear hown5 hg5 hv5 hB5
    go_wp2_with fail
    go_ret
    exact hfin.out
  · rw [if_neg hck] at hcut
    have HR : Hid (Reads (w.alloc (.cells #[] 3)) (w.heap.size + 1) 1 (A.map (·.add 1)) (l.length - 1) (ints (l.drop 1))) := by
      have h := hcut.alloc (.cells #[] 3)
      unfold RInts at h
      rw [List.length_drop, World.size_alloc] at h
      exact h
    obtain ⟨n, hn⟩ : ∃ n, n = l.length := ⟨_, rfl⟩
    rw [← hn] at hk hc hl HR ⊢
    have i2 : (1 : Int) ≤ (n : Int) := by omega
    have HN := Lib.hid hn
    clear hA0 hcut hn
    go_enter Try.func83, Try.ntmps83
    go_wp2_with (at_builtin; refine wpList_append_any _ rfl _ _ 22 rfl w.heap.size 3 i0 (.int .i64 0) 1 8 Try.underlying22 hi hz0 hz1 hz2 rfl (by decide) _ _ _ rfl HO.out _ _ _ _ (ints (l.drop 1)) rfl HR.out h2 (by unfold maxLen; omega) (by omega) (by simp) ?_)
    intro v' w5 hown5 hg5 hv5
    have hB5 : Below w.heap.size w w5 := ((Below.refl w.heap.size w).alloc (Nat.le_refl _) (.cells #[] 3)).grown hg5 (by simp) (fun k hk => (HO.out.lt k hk).1)
    have hfin : Hid (IntsCap (l.drop 1) w (.returned v') w5) := ints_capO (n := 0 + (n - 1)) (by simpa using hown5) (Nat.le_refl _) hB5
    clear hown5 hg5 hv5 hB5
    go_wp2_with fail
    go_ret
    exact hfin.out
end Go.Proofs.Ytnppngaabfhkpaa
namespace Go.Proofs.Ytnppngaabfhkpaa
open Go.RowKit
attribute [local go_sem ↓] Go.wp_at_zero Go.wp_at_succ
theorem shift_cutC {w1 w5 : World} {A' : Option Addr} {c' n : Nat} {l : List Int} (hn : n = l.length) (h : w5.ownsRow w1.heap.size 3 1 (.slice A' (0 + n) c') (0 + n) ([] ++ ints l)) :
    RInts w5 A' l ∧ n ≤ c' ∧ ∀ ad, A' = some ad → w1.heap.size ≤ ad.block ∧ ad.block < w5.heap.size := by
  subst hn
  rw [Nat.zero_add, List.nil_append] at h
  exact ⟨Reads.of_own h, own_cap h, fun ad e => by subst e; exact h.lt ad.block (by simp [Value.ownBlock])⟩
def ShiftMidC (r : Ld) (n : Nat) (K : Int) (w1 : World) (s6 : Value) (wx : World) : Prop :=
  ∃ (g : Nat) (A' : Option Addr) (c' : Nat), s6 = .pointer (some ⟨g, 0, none⟩) ∧ w1.heap.size ≤ g ∧ Blk wx g 70 #[.string r.name, .slice A' n c', .int .i64 (r.early - K), .int .i64 (r.late - K)] ∧ RInts wx A' r.prof ∧ n ≤ c' ∧ (∀ ad, A' = some ad → w1.heap.size ≤ ad.block ∧ ad.block ≠ g) ∧ Below w1.heap.size w1 wx
section
variable {r : Ld} {n : Nat} {K : Int} {w1 w5 : World} {A' : Option Addr} {c' g : Nat}
theorem mid_newC (hn : n = r.prof.length) (hown5 : w5.ownsRow w1.heap.size 3 1 (.slice A' (0 + n) c') (0 + n) ([] ++ ints r.prof)) (hB5 : Below w1.heap.size w1 w5) :
    ShiftMidC r n K w1 (.pointer (some ⟨w5.heap.size, 0, none⟩)) (w5.alloc (.cells #[.string r.name, .slice A' n c', .int .i64 (r.early - K), .int .i64 (r.late - K)] 70)) := by
  have hcl := shift_cutC hn hown5
  exact ⟨w5.heap.size, A', c', rfl, hB5.size, Blk.new _ _ _, hcl.1.alloc _, hcl.2.1, fun ad e => ⟨(hcl.2.2 ad e).1, Nat.ne_of_lt (hcl.2.2 ad e).2⟩, hB5.alloc hB5.size _⟩
theorem mid_oldC (hn : n = r.prof.length) (hown5 : w5.ownsRow w1.heap.size 3 1 (.slice A' (0 + n) c') (0 + n) ([] ++ ints r.prof)) (hz : Blk w5 g 70 #[.string ⟨#[]⟩, .slice none 0 0, .int .i64 0, .int .i64 0]) (hg : w1.heap.size ≤ g) (hB5 : Below w1.heap.size w1 w5) :
    ShiftMidC r n K w1 (.pointer (some ⟨g, 0, none⟩)) ((((w5.setCell ⟨g, 0, none⟩ (.string r.name)).setCell ⟨g, 1, none⟩ (.slice A' n c')).setCell ⟨g, 2, none⟩ (.int .i64 (r.early - K))).setCell ⟨g, 3, none⟩ (.int .i64 (r.late - K))) := by
  have hcl := shift_cutC hn hown5
  have hne : ∀ ad, A' = some ad → ad.block ≠ g := fun ad e hh => own_blk_ne hown5 hz (by decide) (by subst e; simp [Value.ownBlock, hh])
  exact ⟨g, A', c', rfl, hg, (((hz.set_ 0 _).set_ 1 _).set_ 2 _).set_ 3 _, (((hcl.1.setFar hne _).setFar hne _).setFar hne _).setFar hne _, hcl.2.1, fun ad e => ⟨(hcl.2.2 ad e).1, hne ad e⟩, (((hB5.setCell hg _).setCell hg _).setCell hg _).setCell hg _⟩
end
set_option maxRecDepth 100000 in
set_option maxHeartbeats 8000000 in
theorem rlshiftC_any (r : Ld) (A : Option Addr) (c : Nat) (k : Int) (w : World) (hA0 : RInts w A r.prof) (hn : r.name.size ≤ maxLen) (hl : r.prof.length < 1000000000) :
    Calls Try.prog 84 #[r.v A c, .int .i64 k] w (LdOutC (r.shift k) (r.canShift k) w) := by
  have hck0 := fun W (h : RInts W A r.prof) => rlcheck_any r A c 96 W h hn
  have hA := Lib.hid hA0
  simp only [Ld.v] at hck0 ⊢
  have hone := ints_one r.prof
  obtain ⟨i0, hi, hz0, hz1, hz2⟩ := info_parts Try.infoInt
  by_cases hc : r.chk 96 = 0
  · have g := Ld.good hc
    have e0 := g.e0; have l1 := g.l1; have el := g.el; have p0 := g.p
    obtain ⟨K, hK⟩ : ∃ K, K = if k < 0 then 0 else k := ⟨_, rfl⟩
    have hcs : (k < 0 ∧ K = 0) ∨ (¬ k < 0 ∧ K = k) := by
      rw [hK]
      by_cases h : k < 0
      · rw [if_pos h]; omega
      · rw [if_neg h]; omega
    have hKc : Hid ((K ≤ r.late - (r.prof.length : Int) → clampK k = K ∧ K ≤ 96) ∧ (r.late - (r.prof.length : Int) < K → ¬ (r.prof.length : Int) ≤ r.late - clampK k)) := by
      have hp := g.p0
      refine ⟨fun h => ?_, fun h => ?_⟩
      · unfold clampK; rcases hcs with ⟨a, b⟩ | ⟨a, b⟩
        · rw [if_pos a]; omega
        · rw [if_neg a, if_neg (by omega)]; omega
      · unfold clampK; rcases hcs with ⟨a, b⟩ | ⟨a, b⟩
        · rw [if_pos a]; omega
        · rw [if_neg a]; split <;> omega
    have hno := Lib.hid (fun (h : ¬ (r.prof.length : Int) ≤ r.late - clampK k) => Ld.can_len (r := r) (k := k) h)
    have hyes := Lib.hid (fun (h : (r.prof.length : Int) ≤ r.late - clampK k) => Ld.can_yes hc h)
    have hmv := Lib.hid (show (r.moved k).name = r.name ∧ (r.moved k).prof = r.prof ∧ (r.moved k).early = (if r.early - clampK k < 0 then 0 else r.early - clampK k) ∧ (r.moved k).late = r.late - clampK k from ⟨rfl, rfl, rfl, rfl⟩)
    have hs1 := Lib.hid (fun (h : r.canShift k = false) => Ld.shift_no h)
    have hs2 := Lib.hid (fun (h : r.canShift k = true) => Ld.shift_yes h)
    rw [hc] at hck0
    have hck := Lib.hid hck0
    have hK0 : 0 ≤ K := by omega
    clear hck0 hA0 hc g hK
    obtain ⟨n, hn⟩ : ∃ n, n = r.prof.length := ⟨_, rfl⟩
    have HN := Lib.hid hn
    rw [← hn] at hl p0 hno hyes hck hKc ⊢
    clear hn
    go_enter Try.func84, Try.ntmps84
    go_upto_if 8 with (fail)
    go_cut [1] (fun s1 wx => s1 = .int .i64 K ∧ wx = ((w.alloc (.cells #[.string r.name, .slice A n c, .int .i64 r.early, .int .i64 r.late] 70)).alloc (.cells #[.string ⟨#[]⟩, .slice none 0 0, .int .i64 0, .int .i64 0] 70)))
    case first =>
      rcases hcs with ⟨q1, rfl⟩ | ⟨q1, rfl⟩
      all_goals
        go_wp2_with fail
        go_meet
        exact ⟨rfl, rfl⟩
    case rest =>
      obtain ⟨rfl, rfl⟩ := hcut
      clear hcs
      by_cases hlen : K ≤ r.late - (n : Int)
      · have hKe := hKc.out.1 hlen
        rw [hKe.1] at hyes hno hmv
        have hok := hyes.out (by omega)
        have hsh := hs2.out hok
        have hmv' := hmv.out
        have hKle := hKe.2
        obtain ⟨E, hE⟩ : ∃ E, E = (if r.early - K < 0 then 0 else r.early - K) := ⟨_, rfl⟩
        have HE := Lib.hid hE
        have hce : (E = 0 ∧ r.early - K < 0) ∨ (E = r.early - K ∧ ¬ r.early - K < 0) := by
          rw [hE]
          by_cases h : r.early - K < 0
          · rw [if_pos h]; omega
          · rw [if_neg h]; omega
        have hres : Hid (∀ A c w', RInts w' A r.prof → n ≤ c → (∀ ad, A = some ad → w.heap.size ≤ ad.block) → Below w.heap.size w w' → LdOutC (r.shift k) (r.canShift k) w (.returned (.tuple #[.agg #[.string r.name, .slice A n c, .int .i64 E, .int .i64 (r.late - K)], .bool true])) w') := by
          intro A c w' h1 hcc h2 h3
          rw [hok, hsh]
          refine ⟨A, c, ?_, by rw [hmv'.2.1]; exact h1, by rw [hmv'.2.1, ← HN.out]; exact hcc, h2, h3⟩
          rw [hmv'.1, hmv'.2.1, hmv'.2.2.1, hmv'.2.2.2, HE.out, HN.out]
        clear hok hsh hmv' hE hKe hyes hno hmv hs1 hs2 hKc
        go_wp2_with fail
        refine (hck.out _ ((hA.out.alloc _).alloc _)).mono ?_
        rintro e w1 ⟨rfl, hb⟩
        obtain ⟨k1, k2, hz, hW⟩ := two_boxes hb
        have HW := Lib.hid hW
        have y0 := k1.cell 0; have y1 := k1.cell 1; have y2 := k1.cell 2; have y3 := k1.cell 3
        have K1 := Lib.hid k1
        have K2 := Lib.hid k2
        simp only [List.getElem?_toArray, List.getElem?_cons_zero, List.getElem?_cons_succ] at y0 y1 y2 y3
        have HK : Hid (∀ W, Below w1.heap.size w1 W → Below w1.heap.size w1 W ∧ W.cell? ⟨w.heap.size, 0, none⟩ = some (.string r.name) ∧ W.cell? ⟨w.heap.size, 1, none⟩ = some (.slice A n c) ∧ W.cell? ⟨w.heap.size, 2, none⟩ = some (.int .i64 r.early) ∧ W.cell? ⟨w.heap.size, 3, none⟩ = some (.int .i64 r.late)) := fun W hb => ⟨hb, cell_below y0 hb, cell_below y1 hb, cell_below y2 hb, cell_below y3 hb⟩
        have HRD : Hid (∀ W, Below w1.heap.size w1 W → Reads W w1.heap.size 1 A n (ints r.prof)) := by
          intro W hb
          have h := hA.out.below HW.out
          unfold RInts at h
          rw [← HN.out] at h
          exact Reads.below h hb
        have hoC : Hid (((w1.alloc (.cells #[.string ⟨#[]⟩, .slice none 0 0, .int .i64 0, .int .i64 0] 70)).alloc (.cells #[] 3)).ownsRow w1.heap.size 3 1 (.slice (some ⟨w1.heap.size + 1, 0, none⟩) 0 0) 0 []) := by
          have h := World.ownsRow_lit (base := w1.heap.size) (e := 3) (size := 1) (w1.alloc (.cells #[.string ⟨#[]⟩, .slice none 0 0, .int .i64 0, .int .i64 0] 70)) #[] 0 (by simp) (by unfold maxLen; omega) rfl
          show World.ownsRow _ _ _ _ _ _ _
          simpa using h
        clear hb hW k1 k2
        go_upto_region 5 with fail
        clear y0 y1 y2 y3
        go_cut [6] (fun s6 wx => ShiftMidC r n K w1 s6 wx)
        case first =>
          have ws1 : IntKind.i64.wrap (r.early - K) = r.early - K := IntWalk.i64_in _ (by omega)
          have ws2 : IntKind.i64.wrap (r.late - K) = r.late - K := IntWalk.i64_in _ (by omega)
          go_region_held3 (fun w' => Below w1.heap.size w1 w' ∧ w'.cell? ⟨w.heap.size, 0, none⟩ = some (.string r.name) ∧ w'.cell? ⟨w.heap.size, 1, none⟩ = some (.slice A n c) ∧ w'.cell? ⟨w.heap.size, 2, none⟩ = some (.int .i64 r.early) ∧ w'.cell? ⟨w.heap.size, 3, none⟩ = some (.int .i64 r.late))
            (first | exact HK.out _ (Below.refl _ _) | exact HK.out _ (Below.drew (Below.refl _ _)) | exact HK.out _ (Below.drew ((Below.refl _ _).alloc (Nat.le_refl _) _)) | exact HK.out _ (Below.drew (((Below.refl _ _).alloc (Nat.le_refl _) _).alloc (by simp) _)) | exact HK.out _ hB5 | exact HK.out _ (hB5.alloc hsz5 _) | exact HK.out _ ((((hB5.setCell (by simp) _).setCell (by simp) _).setCell (by simp) _).setCell (by simp) _))
            (first
              | (refine step_append_any _ (by rfl) _ _ _ (by rfl) w1.heap.size 3 i0 _ 1 8 Try.underlying22 hi hz0 hz1 hz2 rfl (by omega) _ 0 [] (by rfl) (World.ownsRow_lit w1 #[] 0 (Nat.le_refl _) (by unfold maxLen; omega) rfl).drew w1.heap.size A n c (ints r.prof) (by rfl) (HRD.out _ (Below.drew ((Below.refl _ _).alloc (Nat.le_refl _) _))) hone (by unfold maxLen; omega) (by omega) (by first | (simp; done) | (simp; omega)) ?_; intro v' w5 hown5 hg5 hv5; obtain ⟨A', c', rfl⟩ := own_form hown5; have hB5 := (Below.drew ((Below.refl w1.heap.size w1).alloc (Nat.le_refl _) (.cells #[] 3))).grown hg5 (by simp) (by simp [Value.ownBlock]); have hsz5 := hB5.size)
              | (refine step_append_any _ (by rfl) _ _ _ (by rfl) w1.heap.size 3 i0 _ 1 8 Try.underlying22 hi hz0 hz1 hz2 rfl (by omega) _ 0 [] (by rfl) ((World.ownsRow_lit w1 #[] 0 (Nat.le_refl _) (by unfold maxLen; omega) rfl).alloc _).drew w1.heap.size A n c (ints r.prof) (by rfl) (HRD.out _ (Below.drew (((Below.refl _ _).alloc (Nat.le_refl _) _).alloc (by simp) _))) hone (by unfold maxLen; omega) (by omega) (by first | (simp; done) | (simp; omega)) ?_; intro v' w5 hown5 hg5 hv5; obtain ⟨A', c', rfl⟩ := own_form hown5; have hB5 := (Below.drew (((Below.refl w1.heap.size w1).alloc (Nat.le_refl _) (.cells #[] 3)).alloc (by simp) (.cells #[.string ⟨#[]⟩, .slice none 0 0, .int .i64 0, .int .i64 0] 70))).grown hg5 (by simp; omega) (by simp [Value.ownBlock]); have hsz5 := hB5.size; have kz0 := Blk.new (w1.alloc (.cells #[] 3)) 70 #[.string ⟨#[]⟩, .slice none 0 0, .int .i64 0, .int .i64 0]; simp only [World.size_alloc] at kz0; have kz := (Blk.drew kz0).grown hg5 (by simp [Value.ownBlock]); have q0 := kz.cell 0; have q1 := kz.cell 1; have q2 := kz.cell 2; have q3 := kz.cell 3; have qf := kz.frozen; have hlt5 := kz.lt; simp only [List.getElem?_toArray, List.getElem?_cons_zero, List.getElem?_cons_succ] at q0 q1 q2 q3; have KZ := Lib.hid kz; clear kz kz0)
              | (refine step_append_any _ (by rfl) _ _ _ (by rfl) w1.heap.size 3 i0 _ 1 8 Try.underlying22 hi hz0 hz1 hz2 rfl (by omega) _ 0 [] (by rfl) (hoC.out).drew w1.heap.size A n c (ints r.prof) (by rfl) (HRD.out _ (Below.drew (((Below.refl _ _).alloc (Nat.le_refl _) _).alloc (by simp) _))) hone (by unfold maxLen; omega) (by omega) (by first | (simp; done) | (simp; omega)) ?_; intro v' w5 hown5 hg5 hv5; obtain ⟨A', c', rfl⟩ := own_form hown5; have hB5 := (Below.drew (((Below.refl w1.heap.size w1).alloc (Nat.le_refl _) (.cells #[.string ⟨#[]⟩, .slice none 0 0, .int .i64 0, .int .i64 0] 70)).alloc (by simp) (.cells #[] 3))).grown hg5 (by simp; omega) (by simp [Value.ownBlock]); have hsz5 := hB5.size; have kz0 := (Blk.new w1 70 #[.string ⟨#[]⟩, .slice none 0 0, .int .i64 0, .int .i64 0]).alloc (.cells #[] 3); have kz := (Blk.drew kz0).grown hg5 (by simp [Value.ownBlock]); have q0 := kz.cell 0; have q1 := kz.cell 1; have q2 := kz.cell 2; have q3 := kz.cell 3; have qf := kz.frozen; have hlt5 := kz.lt; simp only [List.getElem?_toArray, List.getElem?_cons_zero, List.getElem?_cons_succ] at q0 q1 q2 q3; have KZ := Lib.hid kz; clear kz kz0))
          all_goals
            go_wp2_with fail
            go_meet
            first
              | exact mid_newC HN.out hown5 hB5
              | exact mid_oldC HN.out hown5 KZ.out (Nat.le_refl _) hB5
              | exact mid_oldC HN.out hown5 KZ.out (Nat.le_succ _) hB5
        case rest =>
          obtain ⟨g, A', c', rfl, hg, hblk, hr, hccc, hfar, hBx⟩ := hcut
          have HCC := Lib.hid hccc
          have b1 := K2.out.below hBx hz
          have x0 := hblk.cell 0; have x1 := hblk.cell 1; have x2 := hblk.cell 2; have x3 := hblk.cell 3
          have u0 := b1.cell 0; have u1 := b1.cell 1; have u2 := b1.cell 2; have u3 := b1.cell 3
          have f0 := hblk.frozen; have f1 := b1.frozen
          have hlt1 := b1.lt
          have hlt2 := hblk.lt
          simp only [List.getElem?_toArray, List.getElem?_cons_zero, List.getElem?_cons_succ] at x0 x1 x2 x3 u0 u1 u2 u3
          have HR := Lib.hid hr
          have HF : Hid ((∀ ad, A' = some ad → ad.block ≠ g) ∧ (∀ ad, A' = some ad → ad.block ≠ w.heap.size + 1) ∧ (∀ ad, A' = some ad → w.heap.size ≤ ad.block)) :=
            ⟨fun ad e => (hfar ad e).2, fun ad e => by have := (hfar ad e).1; omega, fun ad e => by have := (hfar ad e).1; omega⟩
          have HBX := Lib.hid (HW.out.trans (hBx.mono (show w.heap.size ≤ w1.heap.size by omega)))
          have hgne : g ≠ w.heap.size + 1 := by omega
          clear hblk b1 hr hccc hfar hBx
          rcases hce with ⟨q0, q1⟩ | ⟨q0, q1⟩
          · have Q0 := Lib.hid q0
            clear q0
            go_wp2_with fail
            refine bodyPost_ret (v := .tuple #[.agg #[.string r.name, .slice A' n c', .int .i64 E, .int .i64 (r.late - K)], .bool true]) (by simp [results, Try.results84, go_sem, u0, u1, u2, u3, Q0.out]) rfl ?_
            refine hres.out A' c' _ ?_ HCC.out HF.out.2.2 ?_
            · exact ((((HR.out.setFar HF.out.1 _).setFar HF.out.2.1 _).setFar HF.out.2.1 _).setFar HF.out.2.1 _).setFar HF.out.2.1 _
            · exact ((((HBX.out.setCell (by simp; omega) _).setCell (by simp) _).setCell (by simp) _).setCell (by simp) _).setCell (by simp) _
          · have Q0 := Lib.hid q0
            clear q0
            go_wp2_with fail
            refine bodyPost_ret (v := .tuple #[.agg #[.string r.name, .slice A' n c', .int .i64 E, .int .i64 (r.late - K)], .bool true]) (by simp [results, Try.results84, go_sem, u0, u1, u2, u3, Q0.out]) rfl ?_
            refine hres.out A' c' _ ?_ HCC.out HF.out.2.2 ?_
            · exact (((HR.out.setFar HF.out.2.1 _).setFar HF.out.2.1 _).setFar HF.out.2.1 _).setFar HF.out.2.1 _
            · exact (((HBX.out.setCell (by simp) _).setCell (by simp) _).setCell (by simp) _).setCell (by simp) _
      · have hlt : r.late - (n : Int) < K := by omega
        have hres : Hid (LdOutC (r.shift k) (r.canShift k) w = LdOutC Ld.zero false w) := by
          have h := hno.out (hKc.out.2 hlt)
          show _ = _
          rw [h, hs1.out h]
        clear hyes hno hmv hs1 hs2 hKc hlen
        go_wp2_with fail
        refine (hck.out _ ((hA.out.alloc _).alloc _)).mono ?_
        rintro e w1 ⟨rfl, hb⟩
        obtain ⟨k1, k2, hz, hW⟩ := two_boxes hb
        have HW := Lib.hid hW
        have y0 := k1.cell 0; have y1 := k1.cell 1; have y2 := k1.cell 2; have y3 := k1.cell 3
        have x0 := k2.cell 0; have x1 := k2.cell 1; have x2 := k2.cell 2; have x3 := k2.cell 3
        have f0 := k1.frozen; have f1 := k2.frozen
        simp only [List.getElem?_toArray, List.getElem?_cons_zero, List.getElem?_cons_succ] at y0 y1 y2 y3 x0 x1 x2 x3
        clear hb hW k1 k2
        go_wp2_with fail
        refine bodyPost_ret (v := .tuple #[.agg #[.string ⟨#[]⟩, .slice none 0 0, .int .i64 0, .int .i64 0], .bool false]) (by simp [results, Try.results84, go_sem, x0, x1, x2, x3]) rfl ?_
        rw [hres.out]
        refine zero_outC ?_
        exact (((HW.out.setCell (by simp) _).setCell (by simp) _).setCell (by simp) _).setCell (by simp) _
  · have hres : Hid (LdOutC (r.shift k) (r.canShift k) w = LdOutC Ld.zero false w) := by
      have h := Ld.can_chk (k := k) hc
      show _ = _
      rw [h, Ld.shift_no h]
    have hne : (r.chk 96 != 0) = true := by simpa using hc
    have hcs : k < 0 ∨ ¬ k < 0 := by omega
    clear hA0 hc hone hi hz0 hz1 hz2
    generalize r.chk 96 = ch at *
    have hck := Lib.hid hck0
    clear hck0
    rcases hcs with q | q
    all_goals
      go_enter Try.func84, Try.ntmps84
      go_wp2_with fail
      refine (hck.out _ ((hA.out.alloc _).alloc _)).mono ?_
      rintro e w1 ⟨rfl, hb⟩
      obtain ⟨k1, k2, hz, hW⟩ := two_boxes hb
      have HW := Lib.hid hW
      have y0 := k1.cell 0; have y1 := k1.cell 1; have y2 := k1.cell 2; have y3 := k1.cell 3
      have x0 := k2.cell 0; have x1 := k2.cell 1; have x2 := k2.cell 2; have x3 := k2.cell 3
      have f0 := k1.frozen; have f1 := k2.frozen
      simp only [List.getElem?_toArray, List.getElem?_cons_zero, List.getElem?_cons_succ] at y0 y1 y2 y3 x0 x1 x2 x3
      clear hb hW k1 k2
      go_wp2_with fail
      refine bodyPost_ret (v := .tuple #[.agg #[.string ⟨#[]⟩, .slice none 0 0, .int .i64 0, .int .i64 0], .bool false]) (by simp [results, Try.results84, go_sem, x0, x1, x2, x3]) rfl ?_
      rw [hres.out]
      refine zero_outC ?_
      exact (((HW.out.setCell (by simp) _).setCell (by simp) _).setCell (by simp) _).setCell (by simp) _
end Go.Proofs.Ytnppngaabfhkpaa
namespace Go.Proofs.Ytnppngaabfhkpaa
open Go.RowKit
attribute [local go_sem ↓] Go.wp_at_zero Go.wp_at_succ
set_option maxRecDepth 100000 in
set_option maxHeartbeats 64000000 in
theorem rapply_any (x : PbM) (d : DcM) (w : World) (hP0 : RPb w x) (hF : x.Fit) (hD0 : RBools w d.A d.l) :
    Calls Try.prog 38 #[x.v, d.v] w (ApplyOut x.p d.d w) := by
  have hP := Lib.hid hP0
  have hD := Lib.hid hD0
  have hck0 := fun W (h : RPb W x) => rpcheck_any x W h hF
  have hst0 := PD.start x d 56 w
  simp only [PbM.v, DcM.v]
  obtain ⟨W, hW⟩ : ∃ W, W = (w.alloc (.cells #[.slice x.buy.A x.buy.l.length x.buy.c, .slice x.sell.A x.sell.l.length x.sell.c, .int .i64 x.fuse, .slice x.solar.A x.solar.l.length x.solar.c, .slice x.demand.A x.demand.l.length x.demand.c, .slice x.outside.A x.outside.l.length x.outside.c, .int .i64 x.bat.cap, .int .i64 x.bat.reserve, .int .i64 x.bat.charge, .int .i64 x.bat.discharge, .int .i64 x.bat.eff, .int .i64 x.gain, .int .i64 x.loss, .int .i64 x.steps, .int .i64 x.power, .slice x.low.A x.low.l.length x.low.c, .slice x.high.A x.high.l.length x.high.c, .slice x.LA x.loads.length x.lc, .int .i64 x.level, .int .i64 x.temp] 31)).alloc (.cells #[.int .i64 d.charge, .int .i64 d.heat, .slice d.A d.l.length d.c] 56) := ⟨_, rfl⟩
  rw [show (w.alloc (.cells x.cs 31)).alloc (.cells d.cs 56) = W from hW.symm] at hst0
  have hst := Lib.hid hst0
  have hWH := Lib.hid hW
  clear hst0 hW hP0 hD0
  by_cases hc : x.p.chk = 0
  · have hlen := PbM.loads_len x
    have hcd : x.p.canDo d.d = if d.l.length ≠ x.loads.length then 3 else if d.heat < 0 ∨ x.steps < d.heat then 2 else if x.p.clash d.d x.loads.length = true then 2 else 0 := by
      unfold Pb.canDo
      rw [hlen]
      rfl
    have HBAD : Hid (x.p.canDo d.d ≠ 0 → x.p.doE d.d = x.p.canDo d.d ∧ x.p.apL d.d = 0 ∧ x.p.apT d.d = 0 ∧ x.p.apN d.d = 0) := fun h => by
      have h1 := Pb.do_can hc h
      exact ⟨h1, Pb.ap_bad (by rw [h1]; exact h)⟩
    rw [hc] at hck0
    have HCK := Lib.hid hck0
    by_cases h1 : d.l.length = x.loads.length
    · have q1 : ((d.l.length : Int) != (x.loads.length : Int)) = false := by rw [bne_eq_false_iff_eq]; omega
      by_cases h2 : d.heat < 0 ∨ x.steps < d.heat
      · have hz : x.p.canDo d.d = 2 := by rw [hcd, if_neg (fun e => e h1), if_pos h2]
        have hbd := HBAD.out (by rw [hz]; decide)
        rw [hz] at hbd
        have HB := Lib.hid hbd
        clear hbd hz HBAD hcd hck0 hc hF hlen h1
        rcases h2 with h2 | h2
        · go_enter Try.func38, Try.ntmps38
          go_upto_region 1 with fail
          rw [← hWH.out]
          clear hWH
          go_wp2_with (first | refine wpList_load_problemG (by rfl) _ rfl w.heap.size rfl x hst.out.p ?_)
          refine (HCK.out _ (hP.out.below hst.out.bel)).mono ?_
          rintro e w1 ⟨rfl, hb1⟩
          have HX1 := Lib.hid (hst.out.below hb1)
          clear hb1 hst
          clear HCK
          have c13 := HX1.out.p.cell 13
          have c17 := HX1.out.p.cell 17
          have d1 := HX1.out.q.cell 1
          have d2 := HX1.out.q.cell 2
          simp [PbM.cs] at c13 c17
          simp [DcM.cs] at d1 d2
          go_wp2_with fail
          refine bodyPost_ret (v := .tuple #[.int .i64 0, .int .i64 0, .int .i64 0, .int .i64 2]) (by simp [results, Try.results38, go_sem]) rfl ?_
          exact ⟨by rw [HB.out.1, HB.out.2.1, HB.out.2.2.1, HB.out.2.2.2], HX1.out.bel⟩
        · by_cases h3 : d.heat < 0
          · go_enter Try.func38, Try.ntmps38
            go_upto_region 1 with fail
            rw [← hWH.out]
            clear hWH
            go_wp2_with (first | refine wpList_load_problemG (by rfl) _ rfl w.heap.size rfl x hst.out.p ?_)
            refine (HCK.out _ (hP.out.below hst.out.bel)).mono ?_
            rintro e w1 ⟨rfl, hb1⟩
            have HX1 := Lib.hid (hst.out.below hb1)
            clear hb1 hst
            clear HCK
            have c13 := HX1.out.p.cell 13
            have c17 := HX1.out.p.cell 17
            have d1 := HX1.out.q.cell 1
            have d2 := HX1.out.q.cell 2
            simp [PbM.cs] at c13 c17
            simp [DcM.cs] at d1 d2
            go_wp2_with fail
            refine bodyPost_ret (v := .tuple #[.int .i64 0, .int .i64 0, .int .i64 0, .int .i64 2]) (by simp [results, Try.results38, go_sem]) rfl ?_
            exact ⟨by rw [HB.out.1, HB.out.2.1, HB.out.2.2.1, HB.out.2.2.2], HX1.out.bel⟩
          · go_enter Try.func38, Try.ntmps38
            go_upto_region 1 with fail
            rw [← hWH.out]
            clear hWH
            go_wp2_with (first | refine wpList_load_problemG (by rfl) _ rfl w.heap.size rfl x hst.out.p ?_)
            refine (HCK.out _ (hP.out.below hst.out.bel)).mono ?_
            rintro e w1 ⟨rfl, hb1⟩
            have HX1 := Lib.hid (hst.out.below hb1)
            clear hb1 hst
            clear HCK
            have c13 := HX1.out.p.cell 13
            have c17 := HX1.out.p.cell 17
            have d1 := HX1.out.q.cell 1
            have d2 := HX1.out.q.cell 2
            simp [PbM.cs] at c13 c17
            simp [DcM.cs] at d1 d2
            go_wp2_with fail
            refine bodyPost_ret (v := .tuple #[.int .i64 0, .int .i64 0, .int .i64 0, .int .i64 2]) (by simp [results, Try.results38, go_sem]) rfl ?_
            exact ⟨by rw [HB.out.1, HB.out.2.1, HB.out.2.2.1, HB.out.2.2.2], HX1.out.bel⟩
      · have h3 : ¬ d.heat < 0 := by omega
        have h4 : ¬ x.steps < d.heat := by omega
        have HCN : Hid (x.p.canDo d.d = if x.p.clash d.d x.loads.length = true then 2 else 0) := by show _ = _; rw [hcd, if_neg (fun e => e h1), if_neg h2]
        have HST : Hid (x.p.canDo d.d = 0 → x.p.doE d.d = (stepZ x.bat x.level d.charge).2.2) := fun h => Pb.do_step hc h
        have hl4 : x.loads.length ≤ 1000 := by have h1 := Pb.loads4 (Pb.good hc); omega
        have hg := Pb.good hc
        have hbt := (Pb.bat_good hg).2
        have hrm := Rm.good (Pb.room_ok hg).1
        have hdr := step_drawn_bd hbt x.p.level d.d.charge
        have hn1 := (Pb.nbd hg).1
        have hde : 0 < x.demand.l.length := by have h : x.demand.l.length = x.buy.l.length := hg.lens.2.1; have h2 : 1 ≤ x.buy.l.length := hn1; omega
        have hso : 0 < x.solar.l.length := by have h : x.solar.l.length = x.buy.l.length := hg.lens.1; have h2 : 1 ≤ x.buy.l.length := hn1; omega
        have hou : 0 < x.outside.l.length := by have h : x.outside.l.length = x.buy.l.length := hg.lens.2.2; have h2 : 1 ≤ x.buy.l.length := hn1; omega
        have b1 := allB_getD hg.de (by omega) (by omega) 0
        have b2 := allB_getD hg.so (by omega) (by omega) 0
        have b3 : 0 ≤ d.heat * x.power ∧ d.heat * x.power ≤ 40000 := by
          have h0 : 0 ≤ x.power := hrm.p0
          have h1 : x.power ≤ 1000 := hrm.p1
          have h2 : x.steps ≤ 40 := hrm.s1
          have g2 : 0 ≤ d.heat := by omega
          refine ⟨Int.mul_nonneg g2 h0, ?_⟩
          have := Int.mul_le_mul (show d.heat ≤ 40 by omega) h1 h0 (by omega)
          omega
        have hfu := fun (k : Nat) (hk : k ≤ x.loads.length) => Pb.firstUse_bd hg d.d (k := k) (by rw [hlen]; exact hk)
        have hlk := fun (k : Nat) (hk : k < x.loads.length) => (by have h := Pb.load_at hg (i := k) (by rw [hlen]; exact hk); rw [PbM.load_at hk] at h; exact h : x.loads[k].r.chk x.p.n = 0)
        have hnet : x.p.nextNet d.d = x.demand.l.getD 0 0 + (stepZ x.bat x.level d.charge).2.1 + d.heat * x.power - x.solar.l.getD 0 0 + x.p.firstUse d.d x.loads.length := by
          unfold Pb.nextNet
          rw [hlen]
          rfl
        have hs0 := fun W => rstep_any x.bat x.level d.charge W
        have ht0 := fun (o : Int) W (q : RPb W x) => rtstep_any x.room x.low.A x.high.A x.low.c x.high.c x.temp o d.heat W q.low q.high
        simp only [Rm.v, Bat.v] at hs0 ht0
        have hlv : x.p.nextLv d.d = (stepZ x.bat x.level d.charge).1 := rfl
        have htm : x.p.nextTm d.d = x.room.valid.step x.temp (x.outside.l.getD 0 0) d.heat := rfl
        have hdr : -1000 ≤ (stepZ x.bat x.level d.charge).2.1 ∧ (stepZ x.bat x.level d.charge).2.1 ≤ 1000 := hdr
        generalize stepZ x.bat x.level d.charge = st at *
        obtain ⟨lv, dr, er⟩ := st
        simp only [] at hlv hdr hnet
        have HS := Lib.hid hs0
        have HT0 := Lib.hid ht0
        have HLV := Lib.hid hlv
        have HTM := Lib.hid htm
        have HNET := Lib.hid hnet
        have HFU := Lib.hid hfu
        have HLK := Lib.hid hlk
        have HDL := Lib.hid h1
        have HDR := Lib.hid hdr
        have HLT := Lib.hid hou
        obtain ⟨bE, oE, hAE, _, s1⟩ := (hP.out.below hst.out.bel).demand.at' hde
        obtain ⟨bS, oS, hAS, _, s2⟩ := (hP.out.below hst.out.bel).solar.at' hso
        have g1 := getD_at _ hde
        have g2 := getD_at _ hso
        rw [← g1] at s1
        rw [← g2] at s2
        have e1 : x.p.demand.getD 0 0 = x.demand.l.getD 0 0 := rfl
        have e2 : x.p.solar.getD 0 0 = x.solar.l.getD 0 0 := rfl
        rw [e1] at b1
        rw [e2] at b2
        generalize x.demand.l.getD 0 0 = ev at *
        generalize x.solar.l.getD 0 0 = sv at *
        simp only [Nat.add_zero] at s1 s2
        obtain ⟨PW, hPW⟩ : ∃ z, z = d.heat * x.power := ⟨_, rfl⟩
        rw [← hPW] at b3
        have a2 : IntKind.i64.wrap (d.heat * x.power) = PW := by rw [hPW]; exact IntWalk.i64_in _ (by omega)
        have a3 : IntKind.i64.wrap (ev + PW) = ev + PW := IntWalk.i64_in _ (by omega)
        have a4 : IntKind.i64.wrap (ev + PW - sv) = ev + PW - sv := IntWalk.i64_in _ (by omega)
        have HNB : Hid (-100000 ≤ ev + PW - sv ∧ ev + PW - sv ≤ 100000) := by show _ ∧ _; omega
        have HPW := Lib.hid hPW
        have HAE := Lib.hid (And.intro hAE hAS)
        clear h2 hg hbt hrm hdr hn1 hou b1 b2 b3 hfu hlk hnet hs0 ht0 hlv htm hck0 hc hcd hF hlen g1 g2 e1 e2 hAE hAS hPW h1
        have c13 := hst.out.p.cell 13
        have c17 := hst.out.p.cell 17
        have d1 := hst.out.q.cell 1
        have d2 := hst.out.q.cell 2
        simp [PbM.cs] at c13 c17
        simp [DcM.cs] at d1 d2
        clear c13 c17 d1 d2
        go_enter Try.func38, Try.ntmps38
        go_upto_region 1 with fail
        rw [← hWH.out]
        clear hWH
        go_wp2_with (first | refine wpList_load_problemG (by rfl) _ rfl w.heap.size rfl x hst.out.p ?_)
        refine (HCK.out _ (hP.out.below hst.out.bel)).mono ?_
        rintro e w1 ⟨rfl, hb1⟩
        have HX1 := Lib.hid (hst.out.below hb1)
        have hb1x := Lib.hid hb1
        clear hb1 hst
        clear HCK
        have c13 := HX1.out.p.cell 13
        have c17 := HX1.out.p.cell 17
        have d1 := HX1.out.q.cell 1
        have d2 := HX1.out.q.cell 2
        have c3 := HX1.out.p.cell 3
        have c4 := HX1.out.p.cell 4
        have c14 := HX1.out.p.cell 14
        simp [PbM.cs] at c3 c4 c13 c14 c17
        simp [DcM.cs] at d1 d2
        rw [HAE.out.1] at c4
        rw [HAE.out.2] at c3
        have s1 := cell_below s1 hb1x.out
        have s2 := cell_below s2 hb1x.out
        go_upto_region 7 with fail
        clear q1 h3 h4 c13 c17 d2
        go_cut [8] (fun s8 wx => s8 = .int .i64 (ev + PW - sv) ∧ Hid (Below w1.heap.size w1 wx))
        case first =>
          refine wp_region_held_drew (S := (fun w' => w'.cell? ⟨w.heap.size, 4, none⟩ = some (.slice (some ⟨bE, oE, none⟩) x.demand.l.length x.demand.c) ∧ w'.cell? ⟨bE, oE, none⟩ = some (.int .i64 ev) ∧ w'.cell? ⟨w.heap.size + 1, 1, none⟩ = some (.int .i64 d.heat) ∧ w'.cell? ⟨w.heap.size, 14, none⟩ = some (.int .i64 x.power) ∧ w'.cell? ⟨w.heap.size, 3, none⟩ = some (.slice (some ⟨bS, oS, none⟩) x.solar.l.length x.solar.c) ∧ w'.cell? ⟨bS, oS, none⟩ = some (.int .i64 sv))) (by kernel_rfl) (⟨c4, s1, d1, c14, c3, s2⟩) (fun hHeld => ?_)
          refine wpAnyH_take (i := 0) (v := ?_) rfl (by kernel_rfl) (by kernel_rfl) (by kernel_rfl) (fun _ _ _ h => h) (Or.inl ⟨by rfl, ?_⟩) (by assumption) ?_
          rotate_left
          ·(intro w' hSw; (try dsimp only at hSw); go_simp; try with_reducible rfl)
          (try simp only [List.getElem_toArray, List.getElem_cons_zero, Act.put, List.setIfInBounds_toArray, List.set_cons_zero, List.set_cons_succ])
          refine wpAnyH_take (i := 1) (v := ?_) rfl (by kernel_rfl) (by kernel_rfl) (by kernel_rfl) (fun _ _ _ h => h) (Or.inl ⟨by rfl, ?_⟩) (by assumption) ?_
          rotate_left
          ·(intro w' hSw; (try dsimp only at hSw); go_simp; try with_reducible rfl)
          (try simp only [List.getElem_toArray, List.getElem_cons_zero, List.getElem_cons_succ, Act.put, List.setIfInBounds_toArray, List.set_cons_zero, List.set_cons_succ])
          refine wpAnyH_take (i := 2) (v := ?_) rfl (by kernel_rfl) (by kernel_rfl) (by kernel_rfl) (fun _ _ _ h => h) (Or.inl ⟨by rfl, ?_⟩) (by assumption) ?_
          rotate_left
          ·(intro w' hSw; (try dsimp only at hSw); go_simp; try with_reducible rfl)
          (try simp only [List.getElem_toArray, List.getElem_cons_zero, List.getElem_cons_succ, Act.put, List.setIfInBounds_toArray, List.set_cons_zero, List.set_cons_succ])
          refine wpAnyH_take (i := 3) (v := ?_) rfl (by kernel_rfl) (by kernel_rfl) (by kernel_rfl) (fun _ _ _ h => h) (Or.inl ⟨by rfl, ?_⟩) (by assumption) ?_
          rotate_left
          ·(intro w' hSw; (try dsimp only at hSw); go_simp; try with_reducible rfl)
          (try simp only [List.getElem_toArray, List.getElem_cons_zero, List.getElem_cons_succ, Act.put, List.setIfInBounds_toArray, List.set_cons_zero, List.set_cons_succ])
          refine wpAnyH_take (i := 4) (v := ?_) rfl (by kernel_rfl) (by kernel_rfl) (by kernel_rfl) (fun _ _ _ h => h) (Or.inl ⟨by rfl, ?_⟩) (by assumption) ?_
          rotate_left
          ·(intro w' hSw; (try dsimp only at hSw); go_simp; try with_reducible rfl)
          (try simp only [List.getElem_toArray, List.getElem_cons_zero, List.getElem_cons_succ, Act.put, List.setIfInBounds_toArray, List.set_cons_zero, List.set_cons_succ])
          refine wpAnyH_take (i := 5) (v := ?_) rfl (by kernel_rfl) (by kernel_rfl) (by kernel_rfl) (fun _ _ _ h => h) (Or.inl ⟨by rfl, ?_⟩) (by assumption) ?_
          rotate_left
          ·(intro w' hSw; (try dsimp only at hSw); go_simp; try with_reducible rfl)
          (try simp only [List.getElem_toArray, List.getElem_cons_zero, List.getElem_cons_succ, Act.put, List.setIfInBounds_toArray, List.set_cons_zero, List.set_cons_succ])
          refine wpAnyH_take (i := 6) (v := ?_) rfl (by kernel_rfl) (by kernel_rfl) (by kernel_rfl) (fun _ _ _ h => h) (Or.inl ⟨by rfl, ?_⟩) (by assumption) ?_
          rotate_left
          ·(intro w' hSw; (try dsimp only at hSw); go_simp; try with_reducible rfl)
          (try simp only [List.getElem_toArray, List.getElem_cons_zero, List.getElem_cons_succ, Act.put, List.setIfInBounds_toArray, List.set_cons_zero, List.set_cons_succ])
          refine wpAnyH_take (i := 7) (v := ?_) rfl (by kernel_rfl) (by kernel_rfl) (by kernel_rfl) (fun _ _ _ h => h) (Or.inl ⟨by rfl, ?_⟩) (by assumption) ?_
          rotate_left
          ·(intro w' hSw; (try dsimp only at hSw); go_simp; try with_reducible rfl)
          (try simp only [List.getElem_toArray, List.getElem_cons_zero, List.getElem_cons_succ, Act.put, List.setIfInBounds_toArray, List.set_cons_zero, List.set_cons_succ])
          refine wpAnyH_take (i := 8) (v := ?_) rfl (by kernel_rfl) (by kernel_rfl) (by kernel_rfl) (fun _ _ _ h => h) (Or.inl ⟨by rfl, ?_⟩) (by assumption) ?_
          rotate_left
          ·(intro w' hSw; (try dsimp only at hSw); go_simp; try with_reducible rfl)
          (try simp only [List.getElem_toArray, List.getElem_cons_zero, List.getElem_cons_succ, Act.put, List.setIfInBounds_toArray, List.set_cons_zero, List.set_cons_succ])
          refine wpAnyH_take (i := 9) (v := ?_) rfl (by kernel_rfl) (by kernel_rfl) (by kernel_rfl) (fun _ _ _ h => h) (Or.inl ⟨by rfl, ?_⟩) (by assumption) ?_
          rotate_left
          ·(intro w' hSw; (try dsimp only at hSw); go_simp; try with_reducible rfl)
          (try simp only [List.getElem_toArray, List.getElem_cons_zero, List.getElem_cons_succ, Act.put, List.setIfInBounds_toArray, List.set_cons_zero, List.set_cons_succ])
          refine wpAnyH_take (i := 10) (v := ?_) rfl (by kernel_rfl) (by kernel_rfl) (by kernel_rfl) (fun _ _ _ h => h) (Or.inl ⟨by rfl, ?_⟩) (by assumption) ?_
          rotate_left
          ·(intro w' hSw; (try dsimp only at hSw); go_simp; try with_reducible rfl)
          (try simp only [List.getElem_toArray, List.getElem_cons_zero, List.getElem_cons_succ, Act.put, List.setIfInBounds_toArray, List.set_cons_zero, List.set_cons_succ])
          refine wpAnyH_take (i := 11) (v := ?_) rfl (by kernel_rfl) (by kernel_rfl) (by kernel_rfl) (fun _ _ _ h => h) (Or.inl ⟨by rfl, ?_⟩) (by assumption) ?_
          rotate_left
          ·(intro w' hSw; (try dsimp only at hSw); go_simp; try with_reducible rfl)
          (try simp only [List.getElem_toArray, List.getElem_cons_zero, List.getElem_cons_succ, Act.put, List.setIfInBounds_toArray, List.set_cons_zero, List.set_cons_succ])
          refine wpAnyH_take (i := 12) (v := ?_) rfl (by kernel_rfl) (by kernel_rfl) (by kernel_rfl) (fun _ _ _ h => h) (Or.inl ⟨by rfl, ?_⟩) (by assumption) ?_
          rotate_left
          ·(intro w' hSw; (try dsimp only at hSw); go_simp; try with_reducible rfl)
          (try simp only [List.getElem_toArray, List.getElem_cons_zero, List.getElem_cons_succ, Act.put, List.setIfInBounds_toArray, List.set_cons_zero, List.set_cons_succ])
          refine wpAnyH_take (i := 13) (v := ?_) rfl (by kernel_rfl) (by kernel_rfl) (by kernel_rfl) (fun _ _ _ h => h) (Or.inl ⟨by rfl, ?_⟩) (by assumption) ?_
          rotate_left
          ·(intro w' hSw; (try dsimp only at hSw); go_simp; try with_reducible rfl)
          (try simp only [List.getElem_toArray, List.getElem_cons_zero, List.getElem_cons_succ, Act.put, List.setIfInBounds_toArray, List.set_cons_zero, List.set_cons_succ])
          refine wpAnyH_take (i := 14) (v := ?_) rfl (by kernel_rfl) (by kernel_rfl) (by kernel_rfl) (fun _ _ _ h => h) (Or.inl ⟨by rfl, ?_⟩) (by assumption) ?_
          rotate_left
          ·(intro w' hSw; (try dsimp only at hSw); go_simp; try with_reducible rfl)
          (try simp only [List.getElem_toArray, List.getElem_cons_zero, List.getElem_cons_succ, Act.put, List.setIfInBounds_toArray, List.set_cons_zero, List.set_cons_succ])
          refine wpAnyH_take (i := 15) (v := ?_) rfl (by kernel_rfl) (by kernel_rfl) (by kernel_rfl) (fun _ _ _ h => h) (Or.inl ⟨by rfl, ?_⟩) (by assumption) ?_
          rotate_left
          ·(intro w' hSw; (try dsimp only at hSw); go_simp; try with_reducible rfl)
          (try simp only [List.getElem_toArray, List.getElem_cons_zero, List.getElem_cons_succ, Act.put, List.setIfInBounds_toArray, List.set_cons_zero, List.set_cons_succ])
          refine wpAnyH_take (i := 16) (v := ?_) rfl (by kernel_rfl) (by kernel_rfl) (by kernel_rfl) (fun _ _ _ h => h) (Or.inl ⟨by rfl, ?_⟩) (by assumption) ?_
          rotate_left
          ·(intro w' hSw; (try dsimp only at hSw); go_simp; try with_reducible rfl)
          (try simp only [List.getElem_toArray, List.getElem_cons_zero, List.getElem_cons_succ, Act.put, List.setIfInBounds_toArray, List.set_cons_zero, List.set_cons_succ])
          refine wpAnyH_done (by kernel_rfl) ?_ _
          clear hHeld
          go_wp2_with fail
          go_meet
          exact ⟨rfl, Below.drew (Below.refl _ _)⟩
        case rest =>
          obtain ⟨rfl, hBy⟩ := hcut
          obtain ⟨w5, hw5⟩ : ∃ W, W = wc := ⟨_, rfl⟩
          subst hw5
          have HX5 := Lib.hid (HX1.out.below hBy.out)
          clear hBy HX1 c3 c4 c14 d1 s1 s2 a2 a3 a4 hb1x
          obtain ⟨N0, hN0⟩ : ∃ z, z = ev + PW - sv := ⟨_, rfl⟩
          have HN0 : Hid (-100000 ≤ N0 ∧ N0 ≤ 100000) := by show _ ∧ _; rw [hN0]; exact HNB.out
          have HNN : Hid (x.p.nextNet d.d = N0 + x.p.firstUse d.d x.loads.length + dr) := by show _ = _; rw [HNET.out, hN0, HPW.out]; omega
          rw [← hN0]
          clear hN0 HNB HNET HPW
          go_wp2_with fail
          go_loopw [9, 8] (fun s9 s8 wr => ∃ k : Nat, k ≤ x.loads.length ∧ s9 = .int .i64 k ∧ s8 = .int .i64 (N0 + x.p.firstUse d.d k) ∧ Hid (x.p.clash d.d k = false) ∧ Hid (PD x d 56 w wr))
            (fun s9 _ _ => x.loads.length - (intOf s9).toNat)
          case atStart => exact ⟨0, by omega, rfl, by show _ = Value.int .i64 (N0 + 0); rw [Int.add_zero], rfl, HX5.out⟩
          case round =>
            clear HX5
            obtain ⟨k, hk, rfl, rfl, hCL, hX⟩ := hrel
            obtain ⟨wo, hwo⟩ : ∃ wo : World, wo = wr := ⟨_, rfl⟩
            subst hwo
            have c17 := hX.out.p.cell 17
            simp [PbM.cs] at c17
            by_cases hlt : k < x.loads.length
            · obtain ⟨bL, oL, hAe, _, y0, y1, y2, y3⟩ := (hP.out.below hX.out.bel).loads.at' hlt
              have hpr := (hP.out.below hX.out.bel).loads.prof hlt
              have hld := HLK.out k hlt
              have hl0 := (Ld.good hld).p0
              have hu := Ld.unit_at hld (k := 0) (by omega)
              have hkd : k < d.l.length := by have := HDL.out; omega
              obtain ⟨bD, oD, hAD, _, z0⟩ := (hD.out.below hX.out.bel).at' hkd
              obtain ⟨bF, oF, hAF, _, p0⟩ := hpr.at' (show 0 < x.loads[k].r.prof.length by omega)
              have hsucc := Pb.clash_succ x.p d.d k
              rw [PbM.load_at hlt, show d.d.starts.getD k false = d.l[k] from bools_at hkd, hCL.out, Bool.false_or] at hsucc
              have hfs : x.p.firstUse d.d (k + 1) = x.p.firstUse d.d k + if d.l[k] = true then x.loads[k].r.prof[0] else 0 := by
                rw [Pb.firstUse, PbM.load_at hlt, show d.d.starts.getD k false = d.l[k] from bools_at hkd, getD_at _ (show 0 < x.loads[k].r.prof.length by omega)]
              have hf1 := HFU.out k (by omega)
              have hn0 := HN0.out
              have i1 : (0 : Int) ≤ (k : Int) := by omega
              have i2 : (k : Int) < (x.loads.length : Int) := by omega
              have i3 : (k : Int) < (d.l.length : Int) := by omega
              have i4 : (0 : Int) < (x.loads[k].r.prof.length : Int) := by omega
              have i5 : 0 < x.loads[k].r.prof.length := by omega
              have hk4 : (k : Int) ≤ 1000 := by omega
              have hun : x.loads[k].r.prof[0] = x.loads[k].r.prof[0] := rfl
              generalize x.loads[k].r.prof[0] = u at *
              clear hun hld hl0 hpr
              generalize x.loads[k] = X at *
              generalize d.l[k] = db at *
              simp only [Nat.add_zero] at p0
              rw [hAF] at y1
              rw [hAe] at c17
              have d2 := hX.out.q.cell 2
              simp [DcM.cs] at d2
              rw [hAD] at d2
              clear hAe hAD hAF y0 y3
              have HFS := Lib.hid hfs
              have HSC := Lib.hid hsucc
              clear hfs hsucc
              obtain ⟨FU, hFU⟩ : ∃ z, z = x.p.firstUse d.d k := ⟨_, rfl⟩
              rw [← hFU] at hf1
              rw [← hFU]
              cases db
              · have HFE : Hid (x.p.firstUse d.d (k + 1) = FU) := by show _ = _; rw [HFS.out, if_neg (by decide), hFU, Int.add_zero]
                have HCL2 : Hid (x.p.clash d.d (k + 1) = false) := by show _ = _; rw [HSC.out]; rfl
                clear HFS HSC hFU hf1 hn0
                go_wp2_with fail
                go_roundw
                case rel => exact ⟨k + 1, by omega, by go_num, by rw [HFE.out], HCL2.out, hX.out⟩
                case measure => simp [intOf]; omega
              · by_cases he : X.r.early = 0
                · have HFE : Hid (x.p.firstUse d.d (k + 1) = FU + u) := by show _ = _; rw [HFS.out, if_pos rfl, hFU]
                  have HCL2 : Hid (x.p.clash d.d (k + 1) = false) := by show _ = _; rw [HSC.out, he]; rfl
                  have a1 : IntKind.i64.wrap (N0 + FU + u) = N0 + FU + u := IntWalk.i64_in _ (by omega)
                  have q5 : (X.r.early != 0) = false := by rw [bne_eq_false_iff_eq]; exact he
                  clear HFS HSC hFU hf1 hn0 he
                  go_upto_region 13 with fail
                  clear q5 y2
                  go_wp2_with fail
                  go_roundw
                  case rel => exact ⟨k + 1, by omega, by go_num, by rw [HFE.out, ← Int.add_assoc], HCL2.out, hX.out⟩
                  case measure => simp [intOf]; omega
                · have hz : x.p.canDo d.d = 2 := by
                    rw [HCN.out, if_pos (Pb.clash_le (k := k + 1) (by rw [HSC.out]; simp [he]) (by omega))]
                  have hbd := HBAD.out (by rw [hz]; decide)
                  rw [hz] at hbd
                  have HB := Lib.hid hbd
                  have q5 : (X.r.early != 0) = true := by rw [bne_iff_ne]; exact he
                  clear hbd hz HFS HSC hFU hf1 hn0 he
                  go_wp2_with fail
                  refine bodyPost_ret (v := .tuple #[.int .i64 0, .int .i64 0, .int .i64 0, .int .i64 2]) (by simp [results, Try.results38, go_sem]) rfl ?_
                  exact ⟨by rw [HB.out.1, HB.out.2.1, HB.out.2.2.1, HB.out.2.2.2], hX.out.bel⟩
            · have hrl : k = x.loads.length := by omega
              have hz : x.p.canDo d.d = 0 := by rw [HCN.out, ← hrl, if_neg (by rw [hCL.out]; decide)]
              have HDO := Lib.hid (HST.out hz)
              have HNN2 : Hid (x.p.nextNet d.d = N0 + x.p.firstUse d.d k + dr) := by show _ = _; rw [HNN.out, hrl]
              have hf1 := HFU.out k (by omega)
              have hdr := HDR.out
              have hn0 := HN0.out
              obtain ⟨FU, hFU⟩ : ∃ z, z = x.p.firstUse d.d k := ⟨_, rfl⟩
              have HFU2 := Lib.hid hFU
              rw [← hFU] at hf1
              rw [← hFU]
              have i2 : ¬ (k : Int) < (x.loads.length : Int) := by omega
              have a5 : IntKind.i64.wrap (N0 + FU + dr) = N0 + FU + dr := IntWalk.i64_in _ (by omega)
              clear hz hFU hCL HST HCN hrl hf1 hdr hn0 hlt hk
              go_upto_region 15 with fail
              clear c17 i2
              obtain ⟨-, -, -, -, -, -, c6, c7, c8, c9, c10, -, -, -, -, -, -, -, c18, -⟩ := PbC.of_blk hX.out.p
              have d0 := hX.out.q.cell 0
              simp [DcM.cs] at d0
              go_wp2_with fail
              refine (HS.out _).mono ?_
              rintro e w3 ⟨rfl, hb3⟩
              have HX3 := Lib.hid (hX.out.below hb3)
              clear hb3 hX HS c6 c7 c8 c9 c10 c18 d0
              go_upto_region 16 with fail
              by_cases he : er = 0
              · have q0 : (er != 0) = false := by simp [he]
                have HOK := Lib.hid (Pb.ap_ok (HDO.out.trans he))
                have HDE := Lib.hid (HDO.out.trans he)
                clear he
                have lt3 := HLT.out
                obtain ⟨bO, oO, hAO, _, s0⟩ := (hP.out.below HX3.out.bel).outside.at' lt3
                have g0 := getD_at _ lt3
                rw [← g0] at s0
                generalize x.outside.l.getD 0 0 = ov at *
                simp only [Nat.add_zero] at s0
                have HTS := Lib.hid (HT0.out ov)
                generalize x.room.valid.step x.temp ov d.heat = tv at *
                have HRT : Hid (x.p.apL d.d = lv ∧ x.p.apT d.d = tv ∧ x.p.apN d.d = N0 + FU + dr) := by
                  obtain ⟨h1, h2, h3⟩ := HOK.out
                  refine ⟨by rw [h1]; exact HLV.out, by rw [h2]; exact HTM.out, ?_⟩
                  rw [h3, HNN2.out, HFU2.out]
                obtain ⟨-, -, -, -, -, c5, -, -, -, -, -, c11, c12, c13, c14, c15, c16, -, -, c19⟩ := PbC.of_blk HX3.out.p
                have d1 := HX3.out.q.cell 1
                simp [DcM.cs] at d1
                rw [hAO] at c5
                clear g0 hAO HT0 HLT
                go_upto_region 18 with fail
                clear q0
                refine wp_region_held_drew (S := (fun w' => w'.cell? ⟨w.heap.size, 5, none⟩ = some (.slice (some ⟨bO, oO, none⟩) x.outside.l.length x.outside.c) ∧ w'.cell? ⟨w.heap.size, 11, none⟩ = some (.int .i64 x.gain) ∧ w'.cell? ⟨w.heap.size, 12, none⟩ = some (.int .i64 x.loss) ∧ w'.cell? ⟨w.heap.size, 13, none⟩ = some (.int .i64 x.steps) ∧ w'.cell? ⟨w.heap.size, 14, none⟩ = some (.int .i64 x.power) ∧ w'.cell? ⟨w.heap.size, 15, none⟩ = some (.slice x.low.A x.low.l.length x.low.c) ∧ w'.cell? ⟨w.heap.size, 16, none⟩ = some (.slice x.high.A x.high.l.length x.high.c) ∧ w'.cell? ⟨w.heap.size, 19, none⟩ = some (.int .i64 x.temp) ∧ w'.cell? ⟨w.heap.size + 1, 1, none⟩ = some (.int .i64 d.heat) ∧ w'.cell? ⟨bO, oO, none⟩ = some (.int .i64 ov))) (by kernel_rfl) (⟨c5, c11, c12, c13, c14, c15, c16, c19, d1, s0⟩) (fun hHeld => ?_)
                refine wpAnyH_take (i := 0) (v := ?_) rfl (by kernel_rfl) (by kernel_rfl) (by kernel_rfl) (fun _ _ _ h => h) (Or.inl ⟨by rfl, ?_⟩) (by assumption) ?_
                rotate_left
                ·(intro w' hSw; (try dsimp only at hSw); go_simp; try with_reducible rfl)
                (try simp only [List.getElem_toArray, List.getElem_cons_zero, Act.put, List.setIfInBounds_toArray, List.set_cons_zero, List.set_cons_succ])
                refine wpAnyH_take (i := 1) (v := ?_) rfl (by kernel_rfl) (by kernel_rfl) (by kernel_rfl) (fun _ _ _ h => h) (Or.inl ⟨by rfl, ?_⟩) (by assumption) ?_
                rotate_left
                ·(intro w' hSw; (try dsimp only at hSw); go_simp; try with_reducible rfl)
                (try simp only [List.getElem_toArray, List.getElem_cons_zero, List.getElem_cons_succ, Act.put, List.setIfInBounds_toArray, List.set_cons_zero, List.set_cons_succ])
                refine wpAnyH_take (i := 2) (v := ?_) rfl (by kernel_rfl) (by kernel_rfl) (by kernel_rfl) (fun _ _ _ h => h) (Or.inl ⟨by rfl, ?_⟩) (by assumption) ?_
                rotate_left
                ·(intro w' hSw; (try dsimp only at hSw); go_simp; try with_reducible rfl)
                (try simp only [List.getElem_toArray, List.getElem_cons_zero, List.getElem_cons_succ, Act.put, List.setIfInBounds_toArray, List.set_cons_zero, List.set_cons_succ])
                refine wpAnyH_take (i := 3) (v := ?_) rfl (by kernel_rfl) (by kernel_rfl) (by kernel_rfl) (fun _ _ _ h => h) (Or.inl ⟨by rfl, ?_⟩) (by assumption) ?_
                rotate_left
                ·(intro w' hSw; (try dsimp only at hSw); go_simp; try with_reducible rfl)
                (try simp only [List.getElem_toArray, List.getElem_cons_zero, List.getElem_cons_succ, Act.put, List.setIfInBounds_toArray, List.set_cons_zero, List.set_cons_succ])
                refine wpAnyH_take (i := 4) (v := ?_) rfl (by kernel_rfl) (by kernel_rfl) (by kernel_rfl) (fun _ _ _ h => h) (Or.inl ⟨by rfl, ?_⟩) (by assumption) ?_
                rotate_left
                ·(intro w' hSw; (try dsimp only at hSw); go_simp; try with_reducible rfl)
                (try simp only [List.getElem_toArray, List.getElem_cons_zero, List.getElem_cons_succ, Act.put, List.setIfInBounds_toArray, List.set_cons_zero, List.set_cons_succ])
                refine wpAnyH_take (i := 5) (v := ?_) rfl (by kernel_rfl) (by kernel_rfl) (by kernel_rfl) (fun _ _ _ h => h) (Or.inl ⟨by rfl, ?_⟩) (by assumption) ?_
                rotate_left
                ·(intro w' hSw; (try dsimp only at hSw); go_simp; try with_reducible rfl)
                (try simp only [List.getElem_toArray, List.getElem_cons_zero, List.getElem_cons_succ, Act.put, List.setIfInBounds_toArray, List.set_cons_zero, List.set_cons_succ])
                refine wpAnyH_take (i := 6) (v := ?_) rfl (by kernel_rfl) (by kernel_rfl) (by kernel_rfl) (fun _ _ _ h => h) (Or.inl ⟨by rfl, ?_⟩) (by assumption) ?_
                rotate_left
                ·(intro w' hSw; (try dsimp only at hSw); go_simp; try with_reducible rfl)
                (try simp only [List.getElem_toArray, List.getElem_cons_zero, List.getElem_cons_succ, Act.put, List.setIfInBounds_toArray, List.set_cons_zero, List.set_cons_succ])
                refine wpAnyH_take (i := 7) (v := ?_) rfl (by kernel_rfl) (by kernel_rfl) (by kernel_rfl) (fun _ _ _ h => h) (Or.inl ⟨by rfl, ?_⟩) (by assumption) ?_
                rotate_left
                ·(intro w' hSw; (try dsimp only at hSw); go_simp; try with_reducible rfl)
                (try simp only [List.getElem_toArray, List.getElem_cons_zero, List.getElem_cons_succ, Act.put, List.setIfInBounds_toArray, List.set_cons_zero, List.set_cons_succ])
                refine wpAnyH_take (i := 8) (v := ?_) rfl (by kernel_rfl) (by kernel_rfl) (by kernel_rfl) (fun _ _ _ h => h) (Or.inl ⟨by rfl, ?_⟩) (by assumption) ?_
                rotate_left
                ·(intro w' hSw; (try dsimp only at hSw); go_simp; try with_reducible rfl)
                (try simp only [List.getElem_toArray, List.getElem_cons_zero, List.getElem_cons_succ, Act.put, List.setIfInBounds_toArray, List.set_cons_zero, List.set_cons_succ])
                refine wpAnyH_take (i := 9) (v := ?_) rfl (by kernel_rfl) (by kernel_rfl) (by kernel_rfl) (fun _ _ _ h => h) (Or.inl ⟨by rfl, ?_⟩) (by assumption) ?_
                rotate_left
                ·(intro w' hSw; (try dsimp only at hSw); go_simp; try with_reducible rfl)
                (try simp only [List.getElem_toArray, List.getElem_cons_zero, List.getElem_cons_succ, Act.put, List.setIfInBounds_toArray, List.set_cons_zero, List.set_cons_succ])
                refine wpAnyH_take (i := 10) (v := ?_) rfl (by kernel_rfl) (by kernel_rfl) (by kernel_rfl) (fun _ _ _ h => h) (Or.inl ⟨by rfl, ?_⟩) (by assumption) ?_
                rotate_left
                ·(intro w' hSw; (try dsimp only at hSw); go_simp; try with_reducible rfl)
                (try simp only [List.getElem_toArray, List.getElem_cons_zero, List.getElem_cons_succ, Act.put, List.setIfInBounds_toArray, List.set_cons_zero, List.set_cons_succ])
                refine wpAnyH_take (i := 12) (v := ?_) rfl (by kernel_rfl) (by kernel_rfl) (by kernel_rfl) (fun _ _ _ h => h) (Or.inl ⟨by rfl, ?_⟩) (by assumption) ?_
                rotate_left
                ·(intro w' hSw; (try dsimp only at hSw); go_simp; try with_reducible rfl)
                (try simp only [List.getElem_toArray, List.getElem_cons_zero, List.getElem_cons_succ, Act.put, List.setIfInBounds_toArray, List.set_cons_zero, List.set_cons_succ])
                refine wpAnyH_take (i := 13) (v := ?_) rfl (by kernel_rfl) (by kernel_rfl) (by kernel_rfl) (fun _ _ _ h => h) (Or.inl ⟨by rfl, ?_⟩) (by assumption) ?_
                rotate_left
                ·(intro w' hSw; (try dsimp only at hSw); go_simp; try with_reducible rfl)
                (try simp only [List.getElem_toArray, List.getElem_cons_zero, List.getElem_cons_succ, Act.put, List.setIfInBounds_toArray, List.set_cons_zero, List.set_cons_succ])
                refine wpAnyH_take (i := 14) (v := ?_) rfl (by kernel_rfl) (by kernel_rfl) (by kernel_rfl) (fun _ _ _ h => h) (Or.inl ⟨by rfl, ?_⟩) (by assumption) ?_
                rotate_left
                ·(intro w' hSw; (try dsimp only at hSw); go_simp; try with_reducible rfl)
                (try simp only [List.getElem_toArray, List.getElem_cons_zero, List.getElem_cons_succ, Act.put, List.setIfInBounds_toArray, List.set_cons_zero, List.set_cons_succ])
                refine wpAnyH_ready (rs := [11]) (by kernel_rfl) (by simp) ?_
                refine (AllReadyH.cons rfl (fun K hK => ?_) AllReadyH.nil)
                have HKK := Lib.hid hK
                clear hK
                go_simp
                refine (HTS.out _ (hP.out.below ((Below.drew (HX3.out.bel))))).mono ?_
                rintro e' yw1 ⟨rfl, hb1⟩
                have hq1 : Below w3.heap.size w3 yw1 := below_tr (Below.drew (Below.refl w3.heap.size w3)) hb1
                have HB_yw1 := Lib.hid ((HX3.out.bel).trans (hq1.mono (Below.size (HX3.out.bel))))
                have HS_yw1 : Hid (w3.heap.size ≤ yw1.heap.size) := Nat.le_trans ((Nat.le_refl w3.heap.size)) hq1.size
                clear hb1
                go_wp2_with fail
                refine HKK.out _ _ (⟨(cell_below c5 hq1), (cell_below c11 hq1), (cell_below c12 hq1), (cell_below c13 hq1), (cell_below c14 hq1), (cell_below c15 hq1), (cell_below c16 hq1), (cell_below c19 hq1), (cell_below d1 hq1), (cell_below s0 hq1)⟩) (fun hH2 => ?_)
                clear HKK K
                replace hHeld := hH2
                clear hH2
                (try simp only [List.getElem_toArray, List.getElem_cons_zero, List.getElem_cons_succ, Act.put, List.setIfInBounds_toArray, List.set_cons_zero, List.set_cons_succ])
                refine wpAnyH_take (i := 15) (v := ?_) rfl (by kernel_rfl) (by kernel_rfl) (by kernel_rfl) (fun _ _ _ h => h) (Or.inl ⟨by rfl, ?_⟩) (by assumption) ?_
                rotate_left
                ·(intro w' hSw; (try dsimp only at hSw); go_simp; try with_reducible rfl)
                (try simp only [List.getElem_toArray, List.getElem_cons_zero, List.getElem_cons_succ, Act.put, List.setIfInBounds_toArray, List.set_cons_zero, List.set_cons_succ])
                refine wpAnyH_take (i := 16) (v := ?_) rfl (by kernel_rfl) (by kernel_rfl) (by kernel_rfl) (fun _ _ _ h => h) (Or.inl ⟨by rfl, ?_⟩) (by assumption) ?_
                rotate_left
                ·(intro w' hSw; (try dsimp only at hSw); go_simp; try with_reducible rfl)
                (try simp only [List.getElem_toArray, List.getElem_cons_zero, List.getElem_cons_succ, Act.put, List.setIfInBounds_toArray, List.set_cons_zero, List.set_cons_succ])
                refine wpAnyH_take (i := 17) (v := ?_) rfl (by kernel_rfl) (by kernel_rfl) (by kernel_rfl) (fun _ _ _ h => h) (Or.inl ⟨by rfl, ?_⟩) (by assumption) ?_
                rotate_left
                ·(intro w' hSw; (try dsimp only at hSw); go_simp; try with_reducible rfl)
                (try simp only [List.getElem_toArray, List.getElem_cons_zero, List.getElem_cons_succ, Act.put, List.setIfInBounds_toArray, List.set_cons_zero, List.set_cons_succ])
                refine wpAnyH_take (i := 18) (v := ?_) rfl (by kernel_rfl) (by kernel_rfl) (by kernel_rfl) (fun _ _ _ h => h) (Or.inl ⟨by rfl, ?_⟩) (by assumption) ?_
                rotate_left
                ·(intro w' hSw; (try dsimp only at hSw); go_simp; try with_reducible rfl)
                (try simp only [List.getElem_toArray, List.getElem_cons_zero, List.getElem_cons_succ, Act.put, List.setIfInBounds_toArray, List.set_cons_zero, List.set_cons_succ])
                refine wpAnyH_done (by kernel_rfl) ?_ _
                have HBF := Lib.hid (HB_yw1.out)
                clear hHeld
                go_wp2_with fail
                refine bodyPost_ret (v := .tuple #[.int .i64 lv, .int .i64 tv, .int .i64 (N0 + FU + dr), .int .i64 0]) (by simp [results, Try.results38, go_sem]) rfl ?_
                exact ⟨by rw [HRT.out.1, HRT.out.2.1, HRT.out.2.2, HDE.out], HBF.out⟩
              · have q0 : (er != 0) = true := by simp [he]
                have HBD : Hid (x.p.apL d.d = 0 ∧ x.p.apT d.d = 0 ∧ x.p.apN d.d = 0) := Pb.ap_bad (by rw [HDO.out]; exact he)
                clear he
                go_wp2_with fail
                refine bodyPost_ret (v := .tuple #[.int .i64 0, .int .i64 0, .int .i64 0, .int .i64 er]) (by simp [results, Try.results38, go_sem]) rfl ?_
                exact ⟨by rw [HBD.out.1, HBD.out.2.1, HBD.out.2.2, HDO.out], HX3.out.bel⟩
    · have q1 : ((d.l.length : Int) != (x.loads.length : Int)) = true := by rw [bne_iff_ne]; omega
      have hz : x.p.canDo d.d = 3 := by rw [hcd, if_pos h1]
      have hbd := HBAD.out (by rw [hz]; decide)
      rw [hz] at hbd
      have HB := Lib.hid hbd
      clear hbd hz HBAD hcd hck0 hc hF hlen h1
      go_enter Try.func38, Try.ntmps38
      go_upto_region 1 with fail
      rw [← hWH.out]
      clear hWH
      go_wp2_with (first | refine wpList_load_problemG (by rfl) _ rfl w.heap.size rfl x hst.out.p ?_)
      refine (HCK.out _ (hP.out.below hst.out.bel)).mono ?_
      rintro e w1 ⟨rfl, hb1⟩
      have HX1 := Lib.hid (hst.out.below hb1)
      clear hb1 hst
      clear HCK
      have c17 := HX1.out.p.cell 17
      have d2 := HX1.out.q.cell 2
      simp [PbM.cs] at c17
      simp [DcM.cs] at d2
      go_wp2_with fail
      refine bodyPost_ret (v := .tuple #[.int .i64 0, .int .i64 0, .int .i64 0, .int .i64 3]) (by simp [results, Try.results38, go_sem]) rfl ?_
      exact ⟨by rw [HB.out.1, HB.out.2.1, HB.out.2.2.1, HB.out.2.2.2], HX1.out.bel⟩
  · have hdo := Pb.do_chk (d := d.d) hc
    have HBD : Hid (x.p.apL d.d = 0 ∧ x.p.apT d.d = 0 ∧ x.p.apN d.d = 0) := Pb.ap_bad (by rw [hdo]; exact hc)
    have q0 : (x.p.chk != 0) = true := by simp [hc]
    generalize x.p.chk = ck at *
    have HCK := Lib.hid hck0
    have HDO := Lib.hid hdo
    clear hdo hc hck0 hF
    go_enter Try.func38, Try.ntmps38
    go_upto_region 1 with fail
    rw [← hWH.out]
    clear hWH
    go_wp2_with (first | refine wpList_load_problemG (by rfl) _ rfl w.heap.size rfl x hst.out.p ?_)
    refine (HCK.out _ (hP.out.below hst.out.bel)).mono ?_
    rintro e w1 ⟨rfl, hb1⟩
    have HX1 := Lib.hid (hst.out.below hb1)
    clear hb1 hst
    go_upto_region 2 with fail
    go_wp2_with (first | refine wpList_load_problemG (by rfl) _ rfl w.heap.size rfl x HX1.out.p ?_)
    refine (HCK.out _ (hP.out.below HX1.out.bel)).mono ?_
    rintro e w2 ⟨rfl, hb2⟩
    have HX2 := Lib.hid (HX1.out.below hb2)
    clear hb2 HX1 HCK
    go_wp2_with fail
    refine bodyPost_ret (v := .tuple #[.int .i64 0, .int .i64 0, .int .i64 0, .int .i64 ck]) (by simp [results, Try.results38, go_sem]) rfl ?_
    exact ⟨by rw [HBD.out.1, HBD.out.2.1, HBD.out.2.2, HDO.out], HX2.out.bel⟩
end Go.Proofs.Ytnppngaabfhkpaa
