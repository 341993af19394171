/-
  The walks of layer 39 (battery), part 1: Check, drawn, Step and what they call, of the program and of the reference.
-/
import Derived.Test.YtnppngaabfhkpaaGreatProg
import Derived.Test.YtnppngaabfhkpaaGreatE0Words
import Derived.Test.YtnppngaabfhkpaaGreatEBPlain
import Derived.Lib.Hide
namespace Go.Proofs.YtnppngaabfhkpaaGreat
open Go.RowKit
theorem within_any (n lo hi : Int) (w : World) :
  Calls Tryz.prog 64 #[.int .i64 n,.int .i64 lo,.int .i64 hi] w fun e w' => e = .returned (.bool (wB n lo hi))∧w = w':=by
 unfold wB
 by_cases h : lo ≤ n
 all_goals
  go_enter Tryz.func64,Tryz.ntmps64
  go_wp2
  go_ret
  exact ⟨ret_bool (by first | (simp [h]; done) | (simp; omega)),rfl⟩
theorem sat_any (n : Int) (w : World) (_h0 : -1000000 ≤ n) (_h1 : n ≤ 1000000) :
  Calls Tryz.prog 99 #[.int .i64 n] w fun e w' => e = .returned (.int .i64 n)∧w = w':=by
 go_enter Tryz.func99,Tryz.ntmps99
 go_wp2
 all_goals first | omega | skip
 go_ret
 exact ⟨rfl,rfl⟩
theorem ceil_pos {a b : Int} (_h0 : 0 < a) (_h1 : 500 ≤ b) (_h2 : b ≤ 1000) (_h3 : a ≤ 1000000) : (a+b - 1) / b = if a % b = 0 then a / b else a / b+1:=by
 have e:=Int.emod_add_mul_ediv a b
 have m0:=Int.emod_nonneg a (show b ≠ 0 by omega)
 have m1:=Int.emod_lt_of_pos a (show 0 < b by omega)
 by_cases h : a % b = 0
 ·rw [if_pos h]
  have : a+b - 1 = (b - 1)+b * (a / b):=by omega
  rw [this,Int.add_mul_ediv_left _ _ (by omega),Int.ediv_eq_zero_of_lt (by omega) (by omega)]; omega
 ·rw [if_neg h]
  have : a+b - 1 = (a % b - 1)+b * (a / b+1):=by rw [Int.mul_add]; omega
  rw [this,Int.add_mul_ediv_left _ _ (by omega),Int.ediv_eq_zero_of_lt (by omega) (by omega)]; omega
theorem ceil_any (a b : Int) (w : World) (h0 : 0 < a) (h1 : 500 ≤ b) (h2 : b ≤ 1000) (h3 : a ≤ 1000000) :
  Calls Tryz.prog 81 #[.int .i64 a,.int .i64 b] w fun e w' => e = .returned (.int .i64 ((a+b - 1) / b))∧w = w':=by
 have hc:=ceil_pos h0 h1 h2 h3
 have hq0 : 0 ≤ a / b:=Int.ediv_nonneg (by omega) (by omega)
 have hq1 : a / b ≤ a:=Int.ediv_le_self _ (by omega)
 by_cases h : a % b = 0
 ·rw [if_pos h] at hc
  have hb : (a % b == 0) = true:=by simp [h]
  have hb' : (a % b != 0) = false:=by simp [h]
  have HC:=Lib.hid hc
  have H:=Lib.hid h
  clear hc h
  go_enter Tryz.func81,Tryz.ntmps81
  go_wp2_with (go_at_call 99; refine (sat_any _ _ (by omega) (by omega)).mono ?_; rintro e w' ⟨rfl,rfl⟩)
  go_ret
  exact ⟨ret_int HC.out.symm,rfl⟩
 ·rw [if_neg h] at hc
  have hb : (a % b == 0) = false:=by simp [h]
  have hb' : (a % b != 0) = true:=by simp [h]
  have hs : (decide (a < 0) == decide (b < 0)) = true:=by simp; omega
  have HC:=Lib.hid hc
  clear hc h
  go_enter Tryz.func81,Tryz.ntmps81
  go_wp2_with (go_at_call 99; refine (sat_any _ _ (by omega) (by omega)).mono ?_; rintro e w' ⟨rfl,rfl⟩)
  go_ret
  exact ⟨ret_int HC.out.symm,rfl⟩
theorem drawn_any (b : Bat) (c : Int) (w : World) (hg : b.Good) (_hc : c ≤ 40) :
  Calls Tryz.prog 58 #[b.v,.int .i64 c] w fun e w' => e = .returned (.int .i64 (drawnZ b c))∧Below w.heap.size w w':=by
 obtain ⟨cap,reserve,charge,discharge,eff⟩:=b
 have e0:=hg.ef0
 have e1:=hg.ef1
 clear hg
 simp only [Bat.v]
 simp only at e0 e1
 by_cases h : 0 < c
 ·have hd : drawnZ ⟨cap,reserve,charge,discharge,eff⟩ c = (1000 * c+eff - 1) / eff:=by simp [drawnZ,h]
  rw [hd]
  clear hd
  go_enter Tryz.func58,Tryz.ntmps58
  go_wp2_with (go_at_call 81; refine (ceil_any _ _ _ (by omega) (by omega) (by omega) (by omega)).mono ?_; rintro e w' ⟨rfl,rfl⟩)
  go_ret
  exact ⟨rfl,(Below.refl _ _).alloc (Nat.le_refl _) _⟩
 ·have hd : drawnZ ⟨cap,reserve,charge,discharge,eff⟩ c = c:=by simp [drawnZ,h]
  rw [hd]
  clear hd
  go_enter Tryz.func58,Tryz.ntmps58
  go_wp2
  go_ret
  exact ⟨rfl,(Below.refl _ _).alloc (Nat.le_refl _) _⟩
theorem chk_false {b : Bat} (h : b.ok = false) : b.chk = 2:=by simp [Bat.chk,h]
theorem chk_true {b : Bat} (h : b.ok = true) : b.chk = 0:=by simp [Bat.chk,h]
set_option maxHeartbeats 4000000 in
theorem check_any (b : Bat) (w : World) :
  Calls Tryz.prog 40 #[b.v] w fun e w' => e = .returned (.int .i64 b.chk)∧Below w.heap.size w w':=by
 have hk : b.chk = if b.ok = true then 0 else 2:=rfl
 obtain ⟨cap,reserve,charge,discharge,eff⟩:=b
 simp only [Bat.v]
 simp only [Bat.ok] at hk
 generalize (Bat.mk cap reserve charge discharge eff).chk = K at *
 by_cases h1 : wB cap 0 40 = true
 ·by_cases h2 : wB reserve 0 cap = true
  ·by_cases h3 : wB charge 0 40 = true
   ·by_cases h4 : wB discharge 0 40 = true
    ·by_cases h5 : wB eff 500 1000 = true
     ·obtain rfl : K = 0:=by simpa [h1,h2,h3,h4,h5] using hk
      clear hk
      go_enter Tryz.func40,Tryz.ntmps40
      go_wp2_with (go_at_call 64; refine (within_any _ _ _ _).mono ?_; rintro e w' ⟨rfl,rfl⟩)
      go_ret
      exact ⟨rfl,(Below.refl _ _).alloc (Nat.le_refl _) _⟩
     ·simp only [Bool.not_eq_true] at h5
      obtain rfl : K = 2:=by simpa [h1,h2,h3,h4,h5] using hk
      clear hk
      go_enter Tryz.func40,Tryz.ntmps40
      go_wp2_with (go_at_call 64; refine (within_any _ _ _ _).mono ?_; rintro e w' ⟨rfl,rfl⟩)
      go_ret
      exact ⟨rfl,(Below.refl _ _).alloc (Nat.le_refl _) _⟩
    ·simp only [Bool.not_eq_true] at h4
     obtain rfl : K = 2:=by simpa [h1,h2,h3,h4] using hk
     clear hk
     go_enter Tryz.func40,Tryz.ntmps40
     go_wp2_with (go_at_call 64; refine (within_any _ _ _ _).mono ?_; rintro e w' ⟨rfl,rfl⟩)
     go_ret
     exact ⟨rfl,(Below.refl _ _).alloc (Nat.le_refl _) _⟩
   ·simp only [Bool.not_eq_true] at h3
    obtain rfl : K = 2:=by simpa [h1,h2,h3] using hk
    clear hk
    go_enter Tryz.func40,Tryz.ntmps40
    go_wp2_with (go_at_call 64; refine (within_any _ _ _ _).mono ?_; rintro e w' ⟨rfl,rfl⟩)
    go_ret
    exact ⟨rfl,(Below.refl _ _).alloc (Nat.le_refl _) _⟩
  ·simp only [Bool.not_eq_true] at h2
   obtain rfl : K = 2:=by simpa [h1,h2] using hk
   clear hk
   go_enter Tryz.func40,Tryz.ntmps40
   go_wp2_with (go_at_call 64; refine (within_any _ _ _ _).mono ?_; rintro e w' ⟨rfl,rfl⟩)
   go_ret
   exact ⟨rfl,(Below.refl _ _).alloc (Nat.le_refl _) _⟩
 ·simp only [Bool.not_eq_true] at h1
  obtain rfl : K = 2:=by simpa [h1] using hk
  clear hk
  go_enter Tryz.func40,Tryz.ntmps40
  go_wp2_with (go_at_call 64; refine (within_any _ _ _ _).mono ?_; rintro e w' ⟨rfl,rfl⟩)
  go_ret
  exact ⟨rfl,(Below.refl _ _).alloc (Nat.le_refl _) _⟩
theorem step_bad {b : Bat} {l c : Int} (h : b.ok = false) : stepZ b l c = (0,0,2):=by simp [stepZ,h]
theorem step_range {b : Bat} {l c : Int} (h : b.ok = true) (h2 : l < 0 ∨ b.cap < l ∨ c < -b.discharge ∨ b.charge < c) : stepZ b l c = (0,0,2):=by
 unfold stepZ; rw [if_neg (by simp [h]),if_pos h2]
theorem step_inf {b : Bat} {l c : Int} (h : b.ok = true) (h2 : ¬ (l < 0 ∨ b.cap < l ∨ c < -b.discharge ∨ b.charge < c)) (h3 : b.cap < l+c ∨ (c < 0∧l+c < b.reserve)) : stepZ b l c = (0,0,20):=by
 unfold stepZ; rw [if_neg (by simp [h]),if_neg h2,if_pos h3]
theorem step_ok {b : Bat} {l c : Int} (h : b.ok = true) (h2 : ¬ (l < 0 ∨ b.cap < l ∨ c < -b.discharge ∨ b.charge < c)) (h3 : ¬ (b.cap < l+c ∨ (c < 0∧l+c < b.reserve))) : stepZ b l c = (l+c,drawnZ b c,0):=by
 unfold stepZ; rw [if_neg (by simp [h]),if_neg h2,if_neg h3]
def stepPost (r : Int × Int × Int) (w : World) (e : Ending) (w' : World) : Prop:=e = .returned (.tuple #[.int .i64 r.1,.int .i64 r.2.1,.int .i64 r.2.2])∧Below w.heap.size w w'
set_option maxHeartbeats 400000 in
theorem step_any_bad (b : Bat) (l c : Int) (w : World) (hok : b.ok = false) : Calls Tryz.prog 36 #[b.v,.int .i64 l,.int .i64 c] w (stepPost (0,0,2) w):=by
 have hc:=check_any b
 rw [chk_false hok] at hc
 clear hok
 obtain ⟨cap,reserve,charge,discharge,eff⟩:=b
 simp only [Bat.v] at hc ⊢
 have HC:=Lib.hid hc
 clear hc
 go_enter Tryz.func36,Tryz.ntmps36
 go_wp2_with fail
 refine (HC.out _).mono ?_
 rintro e w1 ⟨rfl,hb⟩
 go_wp2_with fail
 go_ret3
 exact ⟨rfl,(((Below.refl _ _).alloc (Nat.le_refl _) _).trans (hb.mono (by simp)))⟩
set_option maxHeartbeats 4000000 in
theorem step_any_range (b : Bat) (l c : Int) (w : World) (hok : b.ok = true) (h2 : l < 0 ∨ b.cap < l ∨ c < -b.discharge ∨ b.charge < c) : Calls Tryz.prog 36 #[b.v,.int .i64 l,.int .i64 c] w (stepPost (0,0,2) w):=by
 have hc:=check_any b
 rw [chk_true hok] at hc
 have hg:=Bat.good hok
 clear hok
 obtain ⟨cap,reserve,charge,discharge,eff⟩:=b
 have d0:=hg.di0
 have d1:=hg.di1
 clear hg
 simp only [Bat.v] at hc h2 d0 d1 ⊢
 have HC:=Lib.hid hc
 clear hc
 have hcases : l < 0 ∨ (0 ≤ l∧cap < l) ∨ (0 ≤ l∧l ≤ cap∧c < -discharge) ∨ (0 ≤ l∧l ≤ cap ∧ -discharge ≤ c∧charge < c):=by omega
 clear h2
 rcases hcases with h | ⟨h,h'⟩ | ⟨h,h',h''⟩ | ⟨h,h',h'',h3⟩
 all_goals
  go_enter Tryz.func36,Tryz.ntmps36
  go_wp2_with fail
  refine (HC.out _).mono ?_
  rintro e w1 ⟨rfl,hb⟩
  obtain ⟨hc,hf⟩:=bcell hb
  go_wp2_with fail
  go_ret3
  exact ⟨rfl,(((Below.refl _ _).alloc (Nat.le_refl _) _).trans (hb.mono (by simp)))⟩
set_option maxHeartbeats 4000000 in
theorem step_any_inf (b : Bat) (l c : Int) (w : World) (hok : b.ok = true) (h2 : ¬ (l < 0 ∨ b.cap < l ∨ c < -b.discharge ∨ b.charge < c)) (h3 : b.cap < l+c ∨ (c < 0∧l+c < b.reserve)) : Calls Tryz.prog 36 #[b.v,.int .i64 l,.int .i64 c] w (stepPost (0,0,20) w):=by
 have hc:=check_any b
 rw [chk_true hok] at hc
 have hg:=Bat.good hok
 clear hok
 obtain ⟨cap,reserve,charge,discharge,eff⟩:=b
 have d0:=hg.di0
 have d1:=hg.di1
 have d2:=hg.cap1
 have d3:=hg.ch1
 clear hg
 simp only [Bat.v] at hc h2 h3 d0 d1 d2 d3 ⊢
 have HC:=Lib.hid hc
 clear hc
 have g1 : 0 ≤ l:=by omega
 have g2 : l ≤ cap:=by omega
 have g3 : -discharge ≤ c:=by omega
 have g4 : c ≤ charge:=by omega
 have hcases : cap < l+c ∨ (l+c ≤ cap∧c < 0∧l+c < reserve):=by omega
 clear h2 h3
 rcases hcases with h | ⟨h,h',h''⟩
 all_goals
  go_enter Tryz.func36,Tryz.ntmps36
  go_wp2_with fail
  refine (HC.out _).mono ?_
  rintro e w1 ⟨rfl,hb⟩
  obtain ⟨hc,hf⟩:=bcell hb
  go_wp2_with fail
  go_ret3
  exact ⟨rfl,(((Below.refl _ _).alloc (Nat.le_refl _) _).trans (hb.mono (by simp)))⟩
set_option maxHeartbeats 4000000 in
theorem step_any_ok (b : Bat) (l c : Int) (w : World) (hok : b.ok = true) (h2 : ¬ (l < 0 ∨ b.cap < l ∨ c < -b.discharge ∨ b.charge < c)) (h3 : ¬ (b.cap < l+c ∨ (c < 0∧l+c < b.reserve))) : Calls Tryz.prog 36 #[b.v,.int .i64 l,.int .i64 c] w (stepPost (l+c,drawnZ b c,0) w):=by
 have hc:=check_any b
 rw [chk_true hok] at hc
 have hg:=Bat.good hok
 clear hok
 have d0:=hg.di0
 have d1:=hg.di1
 have d2:=hg.cap1
 have d3:=hg.ch1
 have hd:=fun w => drawn_any b c w hg (by omega)
 clear hg
 obtain ⟨cap,reserve,charge,discharge,eff⟩:=b
 generalize hD : drawnZ ⟨cap,reserve,charge,discharge,eff⟩ c = D at *
 clear hD
 simp only [Bat.v] at hc hd h2 h3 d0 d1 d2 d3 ⊢
 have HC:=Lib.hid hc
 have HD:=Lib.hid hd
 clear hc hd
 have g1 : 0 ≤ l:=by omega
 have g2 : l ≤ cap:=by omega
 have g3 : -discharge ≤ c:=by omega
 have g4 : c ≤ charge:=by omega
 have g5 : l+c ≤ cap:=by omega
 have hcases : 0 ≤ c ∨ (c < 0∧reserve ≤ l+c):=by omega
 clear h2 h3
 rcases hcases with h | ⟨h,h'⟩
 all_goals
  go_enter Tryz.func36,Tryz.ntmps36
  go_wp2_with fail
  refine (HC.out _).mono ?_
  rintro e w1 ⟨rfl,hb⟩
  obtain ⟨hc,hf⟩:=bcell hb
  go_wp2_with fail
  refine (HD.out _).mono ?_
  rintro e w2 ⟨rfl,hb2⟩
  go_wp2_with fail
  go_ret3
  exact ⟨rfl,((((Below.refl _ _).alloc (Nat.le_refl _) _).trans (hb.mono (by simp))).trans (hb2.mono (by have:=hb.size; simp at this; omega)))⟩
theorem step_any (b : Bat) (l c : Int) (w : World) : Calls Tryz.prog 36 #[b.v,.int .i64 l,.int .i64 c] w (stepPost (stepZ b l c) w):=by
 by_cases hok : b.ok = false
 ·rw [step_bad hok]; exact step_any_bad b l c w hok
 ·have hok : b.ok = true:=by simpa using hok
  by_cases h2 : l < 0 ∨ b.cap < l ∨ c < -b.discharge ∨ b.charge < c
  ·rw [step_range hok h2]; exact step_any_range b l c w hok h2
  ·by_cases h3 : b.cap < l+c ∨ (c < 0∧l+c < b.reserve)
   ·rw [step_inf hok h2 h3]; exact step_any_inf b l c w hok h2 h3
   ·rw [step_ok hok h2 h3]; exact step_any_ok b l c w hok h2 h3
def chooseTo (b : Bat) (l : Int) (k : Nat) : List Int:=((List.range k).map fun (i : Nat) => (i : Int) - b.discharge).filter (canZ b l)
theorem chooseTo_succ (b : Bat) (l : Int) (k : Nat) : chooseTo b l (k+1) = chooseTo b l k ++ if canZ b l ((k : Int) - b.discharge) = true then [(k : Int) - b.discharge] else []:=by
 simp only [chooseTo,List.range_succ,List.map_append,List.filter_append,List.map_cons,List.map_nil,List.filter_cons,List.filter_nil]
theorem chooseTo_len (b : Bat) (l : Int) (k : Nat) : (chooseTo b l k).length ≤ k:=by
 refine Nat.le_trans (List.length_filter_le _ _) ?_
 simp
set_option maxHeartbeats 400000 in
theorem choices_bad (b : Bat) (l : Int) (w : World) (hok : b.ok = false) : Calls Tryz.prog 90 #[b.v,.int .i64 l] w (IntsOut [] w):=by
 have hc:=check_any b
 rw [chk_false hok] at hc
 clear hok
 simp only [Bat.v] at hc ⊢
 have HC:=Lib.hid hc
 clear hc
 go_enter Tryz.func90,Tryz.ntmps90
 go_wp2_with fail
 refine (HC.out _).mono ?_
 rintro e w1 ⟨rfl,hb⟩
 go_wp2_with fail
 go_ret
 exact nil_out ((((Below.refl _ _).alloc (Nat.le_refl _) _).trans (hb.mono (by simp))))
set_option maxHeartbeats 4000000 in
theorem choices_ok (b : Bat) (l : Int) (w : World) (hok : b.ok = true) : Calls Tryz.prog 90 #[b.v,.int .i64 l] w (IntsOut (choicesZ b l) w):=by
 have hL : choicesZ b l = chooseTo b l (b.discharge+b.charge+1).toNat:=by simp [choicesZ,chooseTo,hok]
 rw [hL]
 clear hL
 have hc:=check_any b
 have hst:=step_any b l
 rw [chk_true hok] at hc
 have hg:=Bat.good hok
 have d0:=hg.di0
 have d1:=hg.di1
 have d2:=hg.ch0
 have d3:=hg.ch1
 clear hok hg
 simp only [Bat.v] at hc hst ⊢
 have HC:=Lib.hid hc
 have HS:=Lib.hid hst
 clear hc hst
 obtain ⟨i0,hi,hz0,hz1,hz2⟩:=info_parts Tryz.infoInt
 go_enter Tryz.func90,Tryz.ntmps90
 go_wp2_with fail
 refine (HC.out _).mono ?_
 rintro e w1 ⟨rfl,hb⟩
 obtain ⟨hc,hf⟩:=bcell hb
 go_wp2_with fail
 have hW : Below (w.heap.size+1) (w.alloc (.cells #[.int .i64 b.cap,.int .i64 b.reserve,.int .i64 b.charge,.int .i64 b.discharge,.int .i64 b.eff] 26)) w1:=by simpa using hb
 clear hb hc hf
 go_loopw [5,20] (fun out i wr => ∃ k : Nat,(k : Int) ≤ b.discharge+b.charge+1∧i = .int .i64 k∧wr.ownsRow (w.heap.size+1) 3 1 out (chooseTo b l k).length (ints (chooseTo b l k)) ∧
   Below (w.heap.size+1) (w.alloc (.cells #[.int .i64 b.cap,.int .i64 b.reserve,.int .i64 b.charge,.int .i64 b.discharge,.int .i64 b.eff] 26)) wr)
  (fun _ i _ => (b.discharge+b.charge+1).toNat - (intOf i).toNat)
 case atStart => exact ⟨0,by omega,rfl,World.ownsRow_nil _ _ _ _,hW⟩
 case round =>
  clear hW
  obtain ⟨k,hk,rfl,hown,hB⟩:=hrel
  have hsz:=hB.size
  simp only [World.size_alloc] at hsz
  have hlen:=chooseTo_len b l k
  by_cases hlt : (k : Int) < b.discharge+b.charge+1
  ·obtain ⟨hc,hf⟩:=bcell' hB
   have hst:=HS.out (↑k - b.discharge) wr
   have hsucc:=Lib.hid (chooseTo_succ b l k)
   have hcan : canZ b l (↑k - b.discharge) = decide ((stepZ b l (↑k - b.discharge)).2.2 = 0):=rfl
   generalize stepZ b l (↑k - b.discharge) = r at hst hcan
   obtain ⟨r1,r2,r3⟩:=r
   unfold stepPost at hst
   simp only at hst hcan
   have HST:=Lib.hid hst
   clear hst
   by_cases h0 : r3 = 0
   ·subst h0
    have HCAN : Hid (canZ b l (↑k - b.discharge) = true):=by show _ = _; rw [hcan]; rfl
    clear hcan
    go_wp2_with fail
    refine HST.out.mono ?_
    rintro e w2 ⟨rfl,hb2⟩
    have hown2:=own_below hown hb2
    have hs2:=hb2.size
    go_wp2_with (at_builtin; go_loud (refine wpList_append_new _ _ rfl _ _ 22 rfl (w.heap.size+1) 3 i0 (.int .i64 0) 1 8 Tryz.underlying22 hi hz0 hz1 hz2 rfl (by decide) (by decide) _ _ _ rfl hown2 #[.int .i64 (↑k - b.discharge)] rfl (one_int _ _) rfl rfl (by omega) (by omega) ?_))
    intro v' w3 hown3 hb3
    clear hown2 hown HST
    go_wp2
    go_roundw
    case rel =>
     refine ⟨k+1,by omega,by go_num,?_,(hB.trans (hb2.mono (by omega))).trans hb3⟩
     rw [hsucc.out,if_pos HCAN.out,ints_append,List.length_append]
     exact hown3
    case measure => simp [intOf]; omega
   ·have HCAN : Hid (canZ b l (↑k - b.discharge) = false):=by show _ = _; rw [hcan]; simpa using h0
    have h0' : (r3 == 0) = false:=by simpa using h0
    clear hcan h0
    go_wp2_with fail
    refine HST.out.mono ?_
    rintro e w2 ⟨rfl,hb2⟩
    have hown2:=own_below hown hb2
    have hs2:=hb2.size
    clear HST hown
    go_wp2
    go_roundw
    case rel =>
     refine ⟨k+1,by omega,by go_num,?_,(hB.trans (hb2.mono (by omega)))⟩
     rw [hsucc.out,if_neg (by rw [HCAN.out]; simp),List.append_nil]
     exact hown2
    case measure => simp [intOf]; omega
  ·have hkn : (b.discharge+b.charge+1).toNat = k:=by omega
   have HK:=Lib.hid hkn
   clear hkn
   go_wp2
   go_ret
   rw [HK.out]
   exact ints_out hown (by omega) (((Below.refl _ _).alloc (Nat.le_refl _) _).trans (hB.mono (by omega)))
theorem choices_any (b : Bat) (l : Int) (w : World) : Calls Tryz.prog 90 #[b.v,.int .i64 l] w (IntsOut (choicesZ b l) w):=by
 by_cases h : b.ok = true
 ·exact choices_ok b l w h
 ·have h : b.ok = false:=by simpa using h
  rw [show choicesZ b l = [] by simp [choicesZ,h]]
  exact choices_bad b l w h
end Go.Proofs.YtnppngaabfhkpaaGreat
