/-
  The walk of Shift of the program (layer 41).
-/
import Derived.Test.YtnppngaabfhkpaaQL16
import Derived.Test.YtnppngaabfhkpaaQ0Words
import Derived.Test.YtnppngaabfhkpaaQLPlain
namespace Go.Proofs.Ytnppngaabfhkpaa
open Go.RowKit

/-- What a call that returns a load and whether leaves. -/
def LdOut (m : Ld) (ok : Bool) (w : World) (e : Ending) (w' : World) : Prop :=
  ∃ A c, e = .returned (.tuple #[.agg #[.string m.name, .slice A m.prof.length c, .int .i64 m.early, .int .i64 m.late], .bool ok]) ∧ RInts w' A m.prof ∧ (∀ ad, A = some ad → w.heap.size ≤ ad.block) ∧ Below w.heap.size w w'
theorem zero_out {w w' : World} (h : Below w.heap.size w w') : LdOut Ld.zero false w (.returned (.tuple #[.agg #[.string ⟨#[]⟩, .slice none 0 0, .int .i64 0, .int .i64 0], .bool false])) w' :=
  ⟨none, 0, rfl, RInts.nil, (fun _ h => by cases h), h⟩
theorem clamp_cases (k : Int) : (k ≤ 0 ∧ ¬ 96 < k ∧ ¬ 0 < k ∧ clampK k = 0) ∨ (96 < k ∧ clampK k = 96) ∨ (0 < k ∧ ¬ 96 < k ∧ clampK k = k) := by
  unfold clampK
  by_cases h : k < 0
  · rw [if_pos h]; omega
  · rw [if_neg h]
    by_cases h2 : 96 < k
    · rw [if_pos h2]; omega
    · rw [if_neg h2]; omega

set_option maxRecDepth 100000 in
set_option maxHeartbeats 8000000 in
theorem lshift_any (r : Ld) (A : Option Addr) (c : Nat) (k : Int) (w : World) (hA0 : RInts w A r.prof) (hn : r.name.size ≤ maxLen) (hl : r.prof.length < 1000000000) :
    Calls Try.prog 145 #[r.v A c, .int .i64 k] w (LdOut (r.shift k) (r.canShift k) w) := by
  have hck0 := fun W (h : RInts W A r.prof) => lcheck_any r A c 96 W h hn (by unfold maxLen; omega)
  have hcl := Lib.hid (fun W (h : RInts W A r.prof) => clone_any A c r.prof W h (by omega))
  have hA := Lib.hid hA0
  simp only [Ld.v] at hck0 ⊢
  by_cases hc : r.chk 96 = 0
  · have g := Ld.good hc
    have e0 := g.e0; have l1 := g.l1; have el := g.el; have p0 := g.p
    have hkb := clampK_bd k
    have hcs := clamp_cases k
    have hno := Lib.hid (fun (h : r.late - clampK k < (r.prof.length : Int)) => Ld.can_len (r := r) (k := k) (by omega))
    have hyes := Lib.hid (fun (h : (r.prof.length : Int) ≤ r.late - clampK k) => Ld.can_yes hc h)
    have hmv := Lib.hid (show (r.moved k).name = r.name ∧ (r.moved k).prof = r.prof ∧ (r.moved k).early = (if r.early - clampK k < 0 then 0 else r.early - clampK k) ∧ (r.moved k).late = r.late - clampK k from ⟨rfl, rfl, rfl, rfl⟩)
    have hs1 := Lib.hid (fun (h : r.canShift k = false) => Ld.shift_no h)
    have hs2 := Lib.hid (fun (h : r.canShift k = true) => Ld.shift_yes h)
    rw [hc] at hck0
    have hck := Lib.hid hck0
    clear hck0 hA0 hc g
    generalize clampK k = K at *
    obtain ⟨n, hn⟩ : ∃ n, n = r.prof.length := ⟨_, rfl⟩
    have HN := Lib.hid hn
    rw [← hn] at hl p0 hno hyes hck hcl ⊢
    clear hn
    go_enter Try.func145, Try.ntmps145
    go_wp2_with fail
    refine (hck.out _ ((hA.out.alloc _).alloc _)).mono ?_
    rintro e w1 ⟨rfl, hb⟩
    obtain ⟨k1, k2, hz, hW⟩ := two_boxes hb
    have HW := Lib.hid hW
    have y0 := k1.cell 0; have y1 := k1.cell 1; have y2 := k1.cell 2; have y3 := k1.cell 3
    have x0 := k2.cell 0; have x1 := k2.cell 1; have x2 := k2.cell 2; have x3 := k2.cell 3
    have f0 := k1.frozen; have f1 := k2.frozen
    have K1 := Lib.hid k1
    have K2 := Lib.hid k2
    simp only [List.getElem?_toArray, List.getElem?_cons_zero, List.getElem?_cons_succ] at y0 y1 y2 y3 x0 x1 x2 x3
    clear hb hW k1 k2
    go_upto_region 3 with fail
    go_cut [1] (fun s1 wx => s1 = .int .i64 K ∧ w1 = wx)
    case first =>
      rcases hcs with ⟨q1, q2, q3, rfl⟩ | ⟨q1, rfl⟩ | ⟨q1, q2, rfl⟩
      all_goals
        go_wp2_with fail
        go_meet
        exact ⟨rfl, rfl⟩
    case rest =>
      obtain ⟨rfl, rfl⟩ := hcut
      clear hcs
      obtain ⟨E, hE⟩ : ∃ E, E = (if r.early - K < 0 then 0 else r.early - K) := ⟨_, rfl⟩
      have HE := Lib.hid hE
      have hce : (E = 0 ∧ ¬ 0 < r.early - K) ∨ (E = r.early - K ∧ 0 < r.early - K) := by
        rw [hE]
        by_cases h : r.early - K < 0
        · rw [if_pos h]; omega
        · rw [if_neg h]; omega
      clear hE
      by_cases hlen : (n : Int) ≤ r.late - K
      · have hok := hyes.out hlen
        have hsh := hs2.out hok
        have hmv' := hmv.out
        have hres : Hid (∀ A c w', RInts w' A r.prof → (∀ ad, A = some ad → w.heap.size ≤ ad.block) → Below w.heap.size w w' → LdOut (r.shift k) (r.canShift k) w (.returned (.tuple #[.agg #[.string r.name, .slice A n c, .int .i64 E, .int .i64 (r.late - K)], .bool true])) w') := by
          intro A c w' h1 h2 h3
          rw [hok, hsh]
          refine ⟨A, c, ?_, by rw [hmv'.2.1]; exact h1, h2, h3⟩
          rw [hmv'.1, hmv'.2.1, hmv'.2.2.1, hmv'.2.2.2, HE.out, HN.out]
        have t1 : ¬ r.late - K < (n : Int) := by omega
        clear hok hsh hmv' hlen
        rcases hce with ⟨q0, q1⟩ | ⟨q0, q1⟩
        all_goals
          have Q0 := Lib.hid q0
          clear q0
          go_wp2_with fail
          refine (hcl.out _ (hA.out.below ((HW.out.setCell (by simp) _).setCell (by simp) _))).mono ?_
          rintro e w2 ⟨A2, c2, rfl, hr2, hf2, hb2⟩
          have HR2 := Lib.hid hr2
          have HF2 := Lib.hid hf2
          have k1 := ((K1.out.set_ 2 _).set_ 3 (.int .i64 (r.late - K))).below hb2 (by simp; omega)
          have k2 := ((K2.out.far (p := ⟨w.heap.size, 2, none⟩) (by simp) _).far (p := ⟨w.heap.size, 3, none⟩) (by simp) (.int .i64 (r.late - K))).below hb2 (by simp; omega)
          have v0 := k1.cell 0; have v1 := k1.cell 1; have v2 := k1.cell 2; have v3 := k1.cell 3
          have u0 := k2.cell 0; have u1 := k2.cell 1; have u2 := k2.cell 2; have u3 := k2.cell 3
          have g0 := k1.frozen; have g1 := k2.frozen
          have hz2 := k2.lt
          simp at v0 v1 v2 v3 u0 u1 u2 u3
          clear k1 k2
          have HW2 : Hid (Below w.heap.size w w2) := ((HW.out.setCell (by simp) _).setCell (by simp) _).trans (hb2.mono (by simp; omega))
          have hsw : w1.heap.size ≤ w2.heap.size := by have := hb2.size; simpa using this
          have hfin : Hid (∀ ad, A2 = some ad → w.heap.size ≤ ad.block) := fun ad e => by have h := HF2.out ad e; simp at h; omega
          have hfar : Hid ((∀ ad, A2 = some ad → ad.block ≠ w.heap.size) ∧ (∀ ad, A2 = some ad → ad.block ≠ w.heap.size + 1)) := by
            refine ⟨fun ad e => ?_, fun ad e => ?_⟩ <;> (have h := HF2.out ad e; simp at h; omega)
          clear hr2 hf2 hb2 y0 y1 y2 y3 x0 x1 x2 x3 f0 f1
          rw [← HN.out]
          go_wp2_with fail
          refine bodyPost_ret (v := .tuple #[.agg #[.string r.name, .slice A2 n c2, .int .i64 E, .int .i64 (r.late - K)], .bool true]) (by simp [results, Try.results145, go_sem, u0, u1, u2, u3, Q0.out]) rfl ?_
          refine hres.out A2 c2 _ ?_ hfin.out ?_
          · exact ((((HR2.out.setFar hfar.out.1 _).setFar hfar.out.2 _).setFar hfar.out.2 _).setFar hfar.out.2 _).setFar hfar.out.2 _
          · exact ((((HW2.out.setCell (by simp) _).setCell (by simp) _).setCell (by simp) _).setCell (by simp) _).setCell (by simp) _
      · have hres : Hid (LdOut (r.shift k) (r.canShift k) w = LdOut Ld.zero false w) := by
          have h := hno.out (by omega)
          show _ = _
          rw [h, hs1.out h]
        have t1 : r.late - K < (n : Int) := by omega
        rcases hce with ⟨rfl, q1⟩ | ⟨rfl, q1⟩
        · go_wp2_with fail
          refine bodyPost_ret (v := .tuple #[.agg #[.string ⟨#[]⟩, .slice none 0 0, .int .i64 0, .int .i64 0], .bool false]) (by simp [results, Try.results145, go_sem, x0, x1, x2, x3]) rfl ?_
          rw [hres.out]
          refine zero_out ?_
          exact (((((HW.out.setCell (by simp) _).setCell (by simp) _).setCell (by simp) _).setCell (by simp) _).setCell (by simp) _).setCell (by simp) _
        · omega
  · have hres : Hid (LdOut (r.shift k) (r.canShift k) w = LdOut Ld.zero false w) := by
      have h := Ld.can_chk (k := k) hc
      show _ = _
      rw [h, Ld.shift_no h]
    have hne : (r.chk 96 != 0) = true := by simpa using hc
    clear hA0 hc
    generalize r.chk 96 = ch at *
    have hck := Lib.hid hck0
    clear hck0
    go_enter Try.func145, Try.ntmps145
    go_wp2_with fail
    refine (hck.out _ ((hA.out.alloc _).alloc _)).mono ?_
    rintro e w1 ⟨rfl, hb⟩
    obtain ⟨hc, hf⟩ := bcell hb
    have hz : w.heap.size + 1 < w1.heap.size := by have := hb.size; simp at this; omega
    have hW : Below w.heap.size w w1 := (((Below.refl _ _).alloc (Nat.le_refl _) _).alloc (by simp) _).trans (hb.mono (by simp; omega))
    have HW := Lib.hid hW
    clear hb hW
    go_wp2_with fail
    refine bodyPost_ret (v := .tuple #[.agg #[.string ⟨#[]⟩, .slice none 0 0, .int .i64 0, .int .i64 0], .bool false]) (by simp [results, Try.results145, go_sem, hc]) rfl ?_
    rw [hres.out]
    refine zero_out ?_
    exact (((HW.out.setCell (by simp) _).setCell (by simp) _).setCell (by simp) _).setCell (by simp) _
end Go.Proofs.Ytnppngaabfhkpaa
