/-
  The walks of layer 39 (battery), the reference: Between, Check.
-/
import Derived.Test.YtnppngaabfhkpaaGreatEB1
import Derived.Test.YtnppngaabfhkpaaGreatProg
import Derived.Test.YtnppngaabfhkpaaGreatE0Words
import Derived.Lib.Hide
import Derived.Deep.QuietTactic
import Derived.BigQuiet
namespace Go.Proofs.YtnppngaabfhkpaaGreat
open Go.RowKit
theorem between_any (n lo hi : Int) (w : World) :
  Calls Tryz.prog 32 #[.int .i64 n,.int .i64 lo,.int .i64 hi] w fun e w' => e = .returned (.bool (wB n lo hi))∧w = w':=by
 unfold wB
 by_cases h : lo ≤ n
 all_goals
  go_enter Tryz.func32,Tryz.ntmps32
  go_wp2
  go_ret
  exact ⟨ret_bool (by first | (simp [h]; done) | (simp; omega)),rfl⟩
set_option maxHeartbeats 4000000 in
theorem rcheck_any (b : Bat) (w : World) :
  Calls Tryz.prog 18 #[b.v] w fun e w' => e = .returned (.int .i64 b.chk)∧Below w.heap.size w w':=by
 have hk : b.chk = if b.ok = true then 0 else 2:=rfl
 obtain ⟨cap,reserve,charge,discharge,eff⟩:=b
 simp only [Bat.v]
 simp only [Bat.ok] at hk
 generalize (Bat.mk cap reserve charge discharge eff).chk = K at *
 by_cases h1 : wB cap 0 40 = true
 ·by_cases h2 : wB reserve 0 cap = true
  ·by_cases h3 : wB charge 0 40 = true
   ·by_cases h4 : wB discharge 0 40 = true
    ·by_cases h5 : wB eff 500 1000 = true
     ·obtain rfl : K = 0:=by simpa [h1,h2,h3,h4,h5] using hk
      clear hk
      go_enter Tryz.func18,Tryz.ntmps18
      go_wp2_with (go_at_call 32; refine (between_any _ _ _ _).mono ?_; rintro e w' ⟨rfl,rfl⟩)
      go_ret
      exact ⟨rfl,(Below.refl _ _).alloc (Nat.le_refl _) _⟩
     ·simp only [Bool.not_eq_true] at h5
      obtain rfl : K = 2:=by simpa [h1,h2,h3,h4,h5] using hk
      clear hk
      go_enter Tryz.func18,Tryz.ntmps18
      go_wp2_with (go_at_call 32; refine (between_any _ _ _ _).mono ?_; rintro e w' ⟨rfl,rfl⟩)
      go_ret
      exact ⟨rfl,(Below.refl _ _).alloc (Nat.le_refl _) _⟩
    ·simp only [Bool.not_eq_true] at h4
     obtain rfl : K = 2:=by simpa [h1,h2,h3,h4] using hk
     clear hk
     go_enter Tryz.func18,Tryz.ntmps18
     go_wp2_with (go_at_call 32; refine (between_any _ _ _ _).mono ?_; rintro e w' ⟨rfl,rfl⟩)
     go_ret
     exact ⟨rfl,(Below.refl _ _).alloc (Nat.le_refl _) _⟩
   ·simp only [Bool.not_eq_true] at h3
    obtain rfl : K = 2:=by simpa [h1,h2,h3] using hk
    clear hk
    go_enter Tryz.func18,Tryz.ntmps18
    go_wp2_with (go_at_call 32; refine (between_any _ _ _ _).mono ?_; rintro e w' ⟨rfl,rfl⟩)
    go_ret
    exact ⟨rfl,(Below.refl _ _).alloc (Nat.le_refl _) _⟩
  ·simp only [Bool.not_eq_true] at h2
   obtain rfl : K = 2:=by simpa [h1,h2] using hk
   clear hk
   go_enter Tryz.func18,Tryz.ntmps18
   go_wp2_with (go_at_call 32; refine (between_any _ _ _ _).mono ?_; rintro e w' ⟨rfl,rfl⟩)
   go_ret
   exact ⟨rfl,(Below.refl _ _).alloc (Nat.le_refl _) _⟩
 ·simp only [Bool.not_eq_true] at h1
  obtain rfl : K = 2:=by simpa [h1] using hk
  clear hk
  go_enter Tryz.func18,Tryz.ntmps18
  go_wp2_with (go_at_call 32; refine (between_any _ _ _ _).mono ?_; rintro e w' ⟨rfl,rfl⟩)
  go_ret
  exact ⟨rfl,(Below.refl _ _).alloc (Nat.le_refl _) _⟩
theorem ceil_of {a b k : Int} (hb : 0 < b) (h1 : a ≤ k * b) (h2 : k * b < a+b) : (a+b - 1) / b = k:=by
 have h3:=Int.ediv_mul_le (a+b - 1) (show b ≠ 0 by omega)
 have h4:=Int.lt_ediv_add_one_mul_self (a+b - 1) hb
 have h5 : k ≤ (a+b - 1) / b:=by
  rw [Int.le_ediv_iff_mul_le hb]; omega
 have h6 : (a+b - 1) / b < k+1:=by
  rw [Int.ediv_lt_iff_lt_mul hb,Int.add_mul]; omega
 omega
set_option maxHeartbeats 1000000 in
theorem rdrawn_any (b : Bat) (c : Int) (w : World) (hg : b.Good) (h0 : 0 ≤ c) (h1 : c ≤ 40) :
  Calls Tryz.prog 98 #[b.v,.int .i64 c] w fun e w' => e = .returned (.int .i64 ((1000 * c+b.eff - 1) / b.eff))∧Below w.heap.size w w':=by
 have e0:=hg.ef0
 have e1:=hg.ef1
 clear hg
 simp only [Bat.v]
 go_enter Tryz.func98,Tryz.ntmps98
 go_wp2_with fail
 go_loop [5] (fun n => ∃ k : Nat,n = .int .i64 k∧(k : Int) * b.eff < 1000 * c+b.eff∧0 ≤ (k : Int) * b.eff∧(k : Int) ≤ 1000) (fun n => (42000 - intOf n * b.eff).toNat)
 case atStart => exact ⟨0,rfl,by simp; omega,by simp,by simp⟩
 case round =>
  obtain ⟨k,rfl,hk,hk0,hk1⟩:=hrel
  have hs : ((k : Int)+1) * b.eff = (k : Int) * b.eff+b.eff:=by rw [Int.add_mul,Int.one_mul]
  have HS:=Lib.hid hs
  clear hs
  by_cases hlt : (k : Int) * b.eff < 1000 * c
  ·go_wp2
   go_round
   case rel =>
    have hs:=HS.out
    have hk2 : (k : Int) * 500 ≤ (k : Int) * b.eff:=Int.mul_le_mul_of_nonneg_left e0 (by omega)
    refine ⟨k+1,by go_num,?_,?_,?_⟩
    ·push_cast; rw [hs]; omega
    ·push_cast; rw [hs]; omega
    ·push_cast; omega
   case measure =>
    have hs:=HS.out
    simp only [intOf]
    rw [hs]
    omega
  ·go_wp2
   go_ret
   exact ⟨ret_int (ceil_of (by omega) (by omega) hk).symm,(Below.refl _ _).alloc (Nat.le_refl _) _⟩
set_option maxHeartbeats 400000 in
theorem rstep_bad (b : Bat) (l c : Int) (w : World) (hok : b.ok = false) : Calls Tryz.prog 79 #[b.v,.int .i64 l,.int .i64 c] w (stepPost (0,0,2) w):=by
 have hc:=rcheck_any b
 rw [chk_false hok] at hc
 clear hok
 simp only [Bat.v] at hc ⊢
 have HC:=Lib.hid hc
 clear hc
 go_enter Tryz.func79,Tryz.ntmps79
 go_wp2_with fail
 refine (HC.out _).mono ?_
 rintro e w1 ⟨rfl,hb⟩
 go_wp2_with fail
 go_ret3
 exact ⟨rfl,(((Below.refl _ _).alloc (Nat.le_refl _) _).trans (hb.mono (by simp)))⟩
set_option maxHeartbeats 4000000 in
theorem rstep_ok (b : Bat) (l c : Int) (w : World) (hok : b.ok = true) : Calls Tryz.prog 79 #[b.v,.int .i64 l,.int .i64 c] w (stepPost (stepZ b l c) w):=by
 have hc:=rcheck_any b
 rw [chk_true hok] at hc
 have hg:=Bat.good hok
 have d0:=hg.di0
 have d1:=hg.di1
 have d2:=hg.cap1
 have d3:=hg.ch1
 have hbw:=between_any
 by_cases k1 : wB l 0 b.cap = true
 ·by_cases k2 : wB c (-b.discharge) b.charge = true
  ·have k1':=wB_true.1 k1
   have k2':=wB_true.1 k2
   by_cases h3 : b.cap < l+c ∨ (c < 0∧l+c < b.reserve)
   ·rw [step_inf hok (by omega) h3]
    clear hok hg
    simp only [Bat.v] at hc ⊢
    have HC:=Lib.hid hc
    clear hc
    have hcases : b.cap < l+c ∨ (l+c ≤ b.cap∧c < 0∧l+c < b.reserve):=by omega
    clear h3
    rcases hcases with h | ⟨h,h',h''⟩
    all_goals
     go_enter Tryz.func79,Tryz.ntmps79
     go_wp2_with fail
     refine (HC.out _).mono ?_
     rintro e w1 ⟨rfl,hb⟩
     obtain ⟨hc,hf⟩:=bcell hb
     go_wp2_with (go_at_call 32; refine (between_any _ _ _ _).mono ?_; rintro e w' ⟨rfl,rfl⟩)
     go_ret3
     exact ⟨rfl,(((Below.refl _ _).alloc (Nat.le_refl _) _).trans (hb.mono (by simp)))⟩
   ·rw [step_ok hok (by omega) h3]
    have hd:=fun w => rdrawn_any b c w hg
    clear hok hg
    simp only [Bat.v] at hc hd ⊢
    have HC:=Lib.hid hc
    have HD:=Lib.hid hd
    clear hc hd
    have g5 : l+c ≤ b.cap:=by omega
    have hcases : 0 < c ∨ c = 0 ∨ (c < 0∧b.reserve ≤ l+c):=by omega
    clear h3
    rcases hcases with h | rfl | ⟨h,h'⟩
    ·have hD : drawnZ b c = (1000 * c+b.eff - 1) / b.eff:=by simp [drawnZ,h]
     rw [hD]
     clear hD
     go_enter Tryz.func79,Tryz.ntmps79
     go_wp2_with fail
     refine (HC.out _).mono ?_
     rintro e w1 ⟨rfl,hb⟩
     obtain ⟨hc,hf⟩:=bcell hb
     go_wp2_with (first | (go_at_call 32; refine (between_any _ _ _ _).mono ?_; rintro e w' ⟨rfl,rfl⟩) | fail)
     refine (HD.out _ (by omega) (by omega)).mono ?_
     rintro e w2 ⟨rfl,hb2⟩
     go_wp2_with fail
     go_ret3
     exact ⟨rfl,((((Below.refl _ _).alloc (Nat.le_refl _) _).trans (hb.mono (by simp))).trans (hb2.mono (by have:=hb.size; simp at this; omega)))⟩
    ·have hD : drawnZ b 0 = 0:=by simp [drawnZ]
     rw [hD]
     clear hD
     go_enter Tryz.func79,Tryz.ntmps79
     go_wp2_with fail
     refine (HC.out _).mono ?_
     rintro e w1 ⟨rfl,hb⟩
     obtain ⟨hc,hf⟩:=bcell hb
     go_wp2_with (first | (go_at_call 32; refine (between_any _ _ _ _).mono ?_; rintro e w' ⟨rfl,rfl⟩) | fail)
     go_ret3
     exact ⟨by simp,(((Below.refl _ _).alloc (Nat.le_refl _) _).trans (hb.mono (by simp)))⟩
    ·have hD : drawnZ b c = c:=by simp [drawnZ]; omega
     rw [hD]
     clear hD
     go_enter Tryz.func79,Tryz.ntmps79
     go_wp2_with fail
     refine (HC.out _).mono ?_
     rintro e w1 ⟨rfl,hb⟩
     obtain ⟨hc,hf⟩:=bcell hb
     go_wp2_with (first | (go_at_call 32; refine (between_any _ _ _ _).mono ?_; rintro e w' ⟨rfl,rfl⟩) | fail)
     go_ret3
     exact ⟨rfl,(((Below.refl _ _).alloc (Nat.le_refl _) _).trans (hb.mono (by simp)))⟩
  ·simp only [Bool.not_eq_true] at k2
   have k2':=wB_false.1 k2
   rw [step_range hok (by omega)]
   clear hok hg k2'
   simp only [Bat.v] at hc ⊢
   have HC:=Lib.hid hc
   clear hc
   go_enter Tryz.func79,Tryz.ntmps79
   go_wp2_with fail
   refine (HC.out _).mono ?_
   rintro e w1 ⟨rfl,hb⟩
   obtain ⟨hc,hf⟩:=bcell hb
   go_wp2_with (go_at_call 32; refine (between_any _ _ _ _).mono ?_; rintro e w' ⟨rfl,rfl⟩)
   go_ret3
   exact ⟨rfl,(((Below.refl _ _).alloc (Nat.le_refl _) _).trans (hb.mono (by simp)))⟩
 ·simp only [Bool.not_eq_true] at k1
  have k1':=wB_false.1 k1
  rw [step_range hok (by omega)]
  clear hok hg k1'
  simp only [Bat.v] at hc ⊢
  have HC:=Lib.hid hc
  clear hc
  go_enter Tryz.func79,Tryz.ntmps79
  go_wp2_with fail
  refine (HC.out _).mono ?_
  rintro e w1 ⟨rfl,hb⟩
  obtain ⟨hc,hf⟩:=bcell hb
  go_wp2_with (go_at_call 32; refine (between_any _ _ _ _).mono ?_; rintro e w' ⟨rfl,rfl⟩)
  go_ret3
  exact ⟨rfl,(((Below.refl _ _).alloc (Nat.le_refl _) _).trans (hb.mono (by simp)))⟩
theorem rstep_any (b : Bat) (l c : Int) (w : World) : Calls Tryz.prog 79 #[b.v,.int .i64 l,.int .i64 c] w (stepPost (stepZ b l c) w):=by
 by_cases hok : b.ok = false
 ·rw [step_bad hok]; exact rstep_bad b l c w hok
 ·exact rstep_ok b l c w (by simpa using hok)
theorem take_succ_eqB {α : Type} {xs ys : List α} {k : Nat} (hx : k < xs.length) (hy : k < ys.length) (h : xs.take k = ys.take k) (e : xs[k] = ys[k]) : xs.take (k+1) = ys.take (k+1):=by
 rw [List.take_succ_eq_append_getElem hx,List.take_succ_eq_append_getElem hy,h,e]
set_option maxHeartbeats 1000000 in
theorem same_any (A B : Option Addr) (c d : Nat) (xs ys : List Int) (w : World) (hx : RInts w A xs) (hy : RInts w B ys) (h1 : xs.length < 1000000000) :
  Calls Tryz.prog 31 #[.slice A xs.length c,.slice B ys.length d] w fun e w' => e = .returned (.bool (decide (xs = ys)))∧Below w.heap.size w w':=by
 by_cases hl : xs.length = ys.length
 ·generalize hn : ys.length = n at *
  have HL:=Lib.hid hl
  have HN:=Lib.hid hn
  rw [hl] at h1
  rw [hl]
  clear hl hn
  go_enter Tryz.func31,Tryz.ntmps31
  go_wp2_with fail
  go_loopw [13] (fun i wr => ∃ k : Nat,k ≤ n∧i = .int .i64 k∧xs.take k = ys.take k∧Below w.heap.size w wr)
   (fun i _ => n - (intOf i).toNat)
  case atStart => exact ⟨0,by omega,rfl,rfl,Below.refl _ _⟩
  case round =>
   obtain ⟨k,hk,rfl,hsame,hB⟩:=hrel
   have HSAME:=Lib.hid hsame
   clear hsame
   by_cases hlt : k < n
   ·have hkx : k < xs.length:=by have:=HL.out; omega
    have hky : k < ys.length:=by have:=HN.out; omega
    obtain ⟨a,rfl,hab,hac⟩:=hx.at_ hkx
    obtain ⟨b,rfl,hbb,hbc⟩:=hy.at_ hky
    have hac' : wr.cell? (a.add k) = some (.int .i64 xs[k]):=(hB.cell (by rw [block_of_add]; exact hab)).trans hac
    have hbc' : wr.cell? (b.add k) = some (.int .i64 ys[k]):=(hB.cell (by rw [block_of_add]; exact hbb)).trans hbc
    clear hac hbc
    by_cases he : xs[k] = ys[k]
    ·have HT:=Lib.hid (take_succ_eqB hkx hky HSAME.out he)
     have hne : (xs[k] != ys[k]) = false:=by simp [he]
     clear he
     generalize xs[k] = x at *
     generalize ys[k] = y at *
     go_wp2_with fail
     go_quiet (fail)
     go_wp2
     go_roundw
     case rel => exact ⟨k+1,by omega,by go_num,HT.out,below_drewN hB _⟩
     case measure => simp [intOf]; omega
    ·have HE : Hid (false = decide (xs = ys)):=by
      show _ = _
      symm
      rw [decide_eq_false_iff_not]
      intro h
      subst h
      exact he rfl
     have hne : (xs[k] != ys[k]) = true:=by simp [he]
     clear he
     generalize xs[k] = x at *
     generalize ys[k] = y at *
     go_wp2_with fail
     go_quiet (fail)
     go_wp2
     go_ret
     exact ⟨ret_bool HE.out,below_drewN hB _⟩
   ·have hkn : k = n:=by omega
    have HE : Hid (true = decide (xs = ys)):=by
     show _ = _
     symm
     rw [decide_eq_true_iff]
     have h:=HSAME.out
     rwa [List.take_of_length_le (by rw [HL.out]; omega),List.take_of_length_le (by rw [HN.out]; omega)] at h
    clear hkn
    go_wp2
    go_ret
    exact ⟨ret_bool HE.out,hB⟩
 ·have hne : ((xs.length : Int) != (ys.length : Int)) = true:=by rw [bne_iff_ne]; omega
  have HL:=Lib.hid hl
  clear hl
  go_enter Tryz.func31,Tryz.ntmps31
  go_wp2_with fail
  go_ret
  exact ⟨ret_bool (by symm; rw [decide_eq_false_iff_not]; intro h; exact HL.out (by rw [h])),Below.refl _ _⟩
end Go.Proofs.YtnppngaabfhkpaaGreat
