/-
  The walks of layer 4's names, as layer 41 reaches them: Valid of the reference.
-/
import Derived.Test.YtnppngaabfhkpaaGreatProg
import Derived.Test.YtnppngaabfhkpaaGreatEBPlain
import Derived.Test.YtnppngaabfhkpaaGreatE0Words
import Derived.Lib.Hide
import Derived.Deep.QuietTactic
import Derived.BigQuiet
import Derived.Laws.RangeString
import Derived.Laws.RangeAny
namespace Go.Proofs.YtnppngaabfhkpaaGreat
open Go.RowKit
theorem nameOk_size {s:ByteArray} (h:¬ (1 ≤ s.size∧s.size ≤ 24)):nameOk s=false:=by
 unfold nameOk; rw [decide_eq_false h]; rfl
set_option maxHeartbeats 4000000 in
theorem rname_any (s:ByteArray) (w:World) (_hs:s.size ≤ maxLen) :
  Calls Tryz.prog 55 #[.string s] w fun e w' => e = .returned (.bool (nameOk s))∧w=w':=by
 by_cases hl:1 ≤ s.size∧s.size ≤ 24
 ·obtain ⟨l1,l2⟩:=hl
  have hno:Hid (nameOk s=okTo s s.size):=by show _=_; simp [nameOk,l1,l2]
  go_enter Tryz.func55,Tryz.ntmps55
  go_wp2_with fail
  go_loopw [3] (fun i' wr => ∃ k:Nat,k ≤ s.size∧i' = .int .i64 k∧Hid (okTo s k=true)∧w=wr)
   (fun i' _ => s.size - (intOf i').toNat)
  case atStart => exact ⟨0,by omega,rfl,rfl,rfl⟩
  case round =>
   obtain ⟨k,hk,rfl,hok,rfl⟩:=hrel
   by_cases hlt:k < s.size
   ·have hb:(s[k]'hlt).toNat=byteN s k:=(byteN_lt hlt).symm
    have hsc:Hid (okTo s (k+1)=okByte k (byteN s k)):=by show _=_; rw [okTo_succ,hok.out]; rfl
    have hle:Hid (okTo s (k+1)=false→nameOk s=false):=fun h => by rw [hno.out]; exact okTo_le h (by omega)
    generalize byteN s k=c at *
    have hk0:(k=0∧((k:Int) == 0)=true) ∨ (k ≠ 0∧((k:Int) == 0)=false):=by
     by_cases h:k=0
     ·exact .inl ⟨h,by simp [h]⟩
     ·exact .inr ⟨h,by simp [h]⟩
    have hcs:=okByte_cases k c
    have h95:(c=95∧((c:Int) != 95)=false) ∨ (c ≠ 95∧((c:Int) != 95)=true):=by
     by_cases h:c=95
     ·exact .inl ⟨h,by simp [h]⟩
     ·exact .inr ⟨h,by rw [bne_iff_ne]; omega⟩
    have h45:(c=45∧((c:Int) != 45)=false) ∨ (c ≠ 45∧((c:Int) != 45)=true):=by
     by_cases h:c=45
     ·exact .inl ⟨h,by simp [h]⟩
     ·exact .inr ⟨h,by rw [bne_iff_ne]; omega⟩
    have hsm:((97 ≤ c∧c ≤ 122)∧decide ((97:Int) ≤ (c:Int))=true∧decide ((c:Int) ≤ 122)=true) ∨ (c < 97∧decide ((97:Int) ≤ (c:Int))=false) ∨ (122 < c∧decide ((97:Int) ≤ (c:Int))=true∧decide ((c:Int) ≤ 122)=false):=by
     simp only [decide_eq_true_iff,decide_eq_false_iff_not]; omega
    have hdg:(c < 48∧decide ((c:Int) < 48)=true) ∨ (57 < c∧decide ((c:Int) < 48)=false∧decide ((57:Int) < (c:Int))=true) ∨ ((48 ≤ c∧c ≤ 57)∧decide ((c:Int) < 48)=false∧decide ((57:Int) < (c:Int))=false):=by
     simp only [decide_eq_true_iff,decide_eq_false_iff_not]; omega
    rcases hcs with ⟨hv,h1⟩ | ⟨hv,h1⟩
    ·have hok':Hid (okTo s (k+1)=true):=by show _=_; rw [hsc.out,hv]
     clear hv hle hsc hno hok
     have hgo:Hid (k+1 ≤ s.size):=hlt
     rcases hsm with ⟨m1,m2,m3⟩ | ⟨m1,m2⟩ | ⟨m1,m2,m3⟩
     ·clear h1 h95 h45 hdg hk0 m1
      go_wp2_with fail
      go_roundw
      case rel => exact ⟨k+1,by omega,by go_num,hok',trivial⟩
      case measure => simp [intOf]; omega
     all_goals
      rcases hk0 with ⟨n1,n2⟩ | ⟨n1,n2⟩
      ·omega
      rcases h95 with ⟨p1,p2⟩ | ⟨p1,p2⟩
      ·clear h1 h45 hdg m1 n1 p1
       go_wp2_with fail
       go_roundw
       case rel => exact ⟨k+1,by omega,by go_num,hok',trivial⟩
       case measure => simp [intOf]; omega
      rcases h45 with ⟨r1,r2⟩ | ⟨r1,r2⟩
      ·clear h1 hdg m1 n1 p1 r1
       go_wp2_with fail
       go_roundw
       case rel => exact ⟨k+1,by omega,by go_num,hok',trivial⟩
       case measure => simp [intOf]; omega
      rcases hdg with ⟨t1,t2⟩ | ⟨t1,t2,t3⟩ | ⟨t1,t2,t3⟩
      ·omega
      ·omega
      ·clear h1 m1 n1 p1 r1 t1
       go_wp2_with fail
       go_roundw
       case rel => exact ⟨k+1,by omega,by go_num,hok',trivial⟩
       case measure => simp [intOf]; omega
    ·have hfin:Hid (false=nameOk s):=by show _=_; rw [hle.out (by rw [hsc.out,hv])]
     clear hv hle hsc hno hok
     rcases hsm with ⟨m1,m2,m3⟩ | ⟨m1,m2⟩ | ⟨m1,m2,m3⟩
     ·omega
     all_goals
      rcases hk0 with ⟨n1,n2⟩ | ⟨n1,n2⟩
      ·clear h1 h95 h45 hdg m1 n1
       go_wp2_with fail
       go_ret
       exact ⟨ret_bool hfin.out,rfl⟩
      rcases h95 with ⟨p1,p2⟩ | ⟨p1,p2⟩
      ·omega
      rcases h45 with ⟨r1,r2⟩ | ⟨r1,r2⟩
      ·omega
      rcases hdg with ⟨t1,t2⟩ | ⟨t1,t2,t3⟩ | ⟨t1,t2,t3⟩
      ·clear h1 m1 n1 p1 r1 t1
       go_wp2_with fail
       go_ret
       exact ⟨ret_bool hfin.out,rfl⟩
      ·clear h1 m1 n1 p1 r1 t1
       go_wp2_with fail
       go_ret
       exact ⟨ret_bool hfin.out,rfl⟩
      ·omega
   ·have hfin:Hid (true=nameOk s):=by show _=_; rw [hno.out,show s.size=k by omega,hok.out]
    clear hno hok
    go_wp2_with fail
    go_ret
    exact ⟨ret_bool hfin.out,rfl⟩
 ·have hfin:Hid (false=nameOk s):=(nameOk_size hl).symm
  have hcs:(s.size:Int) < 1 ∨ (¬ (s.size:Int) < 1∧(24:Int) < (s.size:Int)):=by omega
  clear hl
  rcases hcs with h1 | ⟨h1,h2⟩
  all_goals
   go_enter Tryz.func55,Tryz.ntmps55
   go_wp2_with fail
   go_ret
   exact ⟨ret_bool hfin.out,rfl⟩
theorem letter_any (c:Int) (w:World):Calls Tryz.prog 100 #[.int .i32 c] w fun e w' => e = .returned (.bool (decide (97 ≤ c) && decide (c ≤ 122)))∧w=w':=by
 by_cases h:97 ≤ c
 ·go_enter Tryz.func100,Tryz.ntmps100
  go_wp2
  go_ret
  exact ⟨ret_bool (by simp [h]),rfl⟩
 ·have h':decide (97 ≤ c)=false:=by simpa using h
  clear h
  go_enter Tryz.func100,Tryz.ntmps100
  go_wp2
  go_ret
  exact ⟨ret_bool (by simp [h']),rfl⟩
theorem rune_at {s:ByteArray} {k:Nat} (h:k < s.size):okByte k (Utf8.decode s k).1=okByte k (byteN s k)∧(okByte k (byteN s k)=true→(Utf8.decode s k).2=1):=by
 by_cases ha:(s[k]'h).toNat < 128
 ·rw [decode_ascii s k h ha,byteN_lt h]
  exact ⟨rfl,fun _ => rfl⟩
 ·have hd:=(decode_high s k h (by omega)).1
  have hb:=byteN_lt h
  generalize byteN s k=b at *
  generalize (Utf8.decode s k).1=r at *
  have h1:okByte k r=false:=by
   rcases okByte_cases k r with ⟨_,h⟩ | ⟨h,_⟩
   ·omega
   ·exact h
  have h2:okByte k b=false:=by
   rcases okByte_cases k b with ⟨_,h⟩ | ⟨h,_⟩
   ·omega
   ·exact h
  rw [h1,h2]
  exact ⟨rfl,fun h => by cases h⟩
theorem below_iter (w:World) (s:ByteArray) (k:Nat):Below w.heap.size w (w.iter s k):=(Below.refl _ _).alloc (Nat.le_refl _) _
set_option maxHeartbeats 8000000 in
theorem name_any (s:ByteArray) (w:World) (_hs:s.size ≤ maxLen) :
  Calls Tryz.prog 86 #[.string s] w fun e w' => e = .returned (.bool (nameOk s))∧Below w.heap.size w w':=by
 by_cases hl:1 ≤ s.size∧s.size ≤ 24
 ·obtain ⟨l1,l2⟩:=hl
  have hno:Hid (nameOk s=okTo s s.size):=by show _=_; simp [nameOk,l1,l2]
  go_enter Tryz.func86,Tryz.ntmps86
  go_wp2_with fail
  go_loopw [3] (fun _ wr => ∃ k:Nat,k ≤ s.size∧Hid (okTo s k=true)∧wr=w.iter s k)
   (fun _ wr => s.size - wr.iterPos w.heap.size)
  case atStart => exact ⟨0,by omega,rfl,rfl⟩
  case round =>
   obtain ⟨k,hk,hok,rfl⟩:=hrel
   by_cases hlt:k < s.size
   ·have hnx:∀ ty,(Instr.next (.pointer (some ⟨w.heap.size,0,none⟩)) true ty).run Tryz.prog (w.iter s k)=_:=fun ty => run_next_any w s k ty hlt
    obtain ⟨hrune,hwid⟩:=rune_at hlt
    have hsc:Hid (okTo s (k+1)=okByte k (byteN s k)):=by show _=_; rw [okTo_succ,hok.out]; rfl
    have hle:Hid (okTo s (k+1)=false→nameOk s=false):=fun h => by rw [hno.out]; exact okTo_le h (by omega)
    rw [← hrune] at hsc hwid
    clear hrune
    generalize (Utf8.decode s k).2=wd at *
    generalize (Utf8.decode s k).1=c at *
    have hk0:(k=0∧((k:Int) == 0)=true) ∨ (k ≠ 0∧((k:Int) == 0)=false):=by
     by_cases h:k=0
     ·exact .inl ⟨h,by simp [h]⟩
     ·exact .inr ⟨h,by simp [h]⟩
    have hcs:=okByte_cases k c
    have h95:(c=95∧((c:Int) != 95)=false) ∨ (c ≠ 95∧((c:Int) != 95)=true):=by
     by_cases h:c=95
     ·exact .inl ⟨h,by simp [h]⟩
     ·exact .inr ⟨h,by rw [bne_iff_ne]; omega⟩
    have h45:(c=45∧((c:Int) != 45)=false) ∨ (c ≠ 45∧((c:Int) != 45)=true):=by
     by_cases h:c=45
     ·exact .inl ⟨h,by simp [h]⟩
     ·exact .inr ⟨h,by rw [bne_iff_ne]; omega⟩
    have hdg:(c < 48∧decide ((c:Int) < 48)=true) ∨ (57 < c∧decide ((c:Int) < 48)=false∧decide ((57:Int) < (c:Int))=true) ∨ ((48 ≤ c∧c ≤ 57)∧decide ((c:Int) < 48)=false∧decide ((57:Int) < (c:Int))=false):=by
     simp only [decide_eq_true_iff,decide_eq_false_iff_not]; omega
    have HL:=letter_any c
    have hsm:((97 ≤ c∧c ≤ 122)∧(decide (97 ≤ (c:Int)) && decide ((c:Int) ≤ 122))=true) ∨ ((c < 97 ∨ 122 < c)∧(decide (97 ≤ (c:Int)) && decide ((c:Int) ≤ 122))=false):=by
     by_cases h1:97 ≤ c <;> by_cases h2:c ≤ 122 <;> simp [h1,h2] <;> omega
    generalize (decide (97 ≤ (c:Int)) && decide ((c:Int) ≤ 122))=sm at *
    have hl:=Lib.hid HL
    clear HL
    rcases hcs with ⟨hv,h1⟩ | ⟨hv,h1⟩
    ·have hok':Hid (okTo s (k+1)=true):=by show _=_; rw [hsc.out,hv]
     obtain rfl:=hwid hv
     clear hv hle hsc hno hok hwid
     rcases hsm with ⟨m1,rfl⟩ | ⟨m1,rfl⟩
     ·clear h1 h95 h45 hdg hk0 m1
      go_wp2_with fail
      refine (hl.out _).mono ?_
      rintro e w2 ⟨rfl,rfl⟩
      go_wp2_with fail
      go_roundw
      case rel => exact ⟨k+1,by omega,hok',rfl⟩
      case measure => simp; omega
     ·rcases hk0 with ⟨n1,n2⟩ | ⟨n1,n2⟩
      ·omega
      rcases h95 with ⟨p1,p2⟩ | ⟨p1,p2⟩
      ·clear h1 h45 hdg m1 n1 p1
       go_wp2_with fail
       refine (hl.out _).mono ?_
       rintro e w2 ⟨rfl,rfl⟩
       go_wp2_with fail
       go_roundw
       case rel => exact ⟨k+1,by omega,hok',rfl⟩
       case measure => simp; omega
      rcases h45 with ⟨r1,r2⟩ | ⟨r1,r2⟩
      ·clear h1 hdg m1 n1 p1 r1
       go_wp2_with fail
       refine (hl.out _).mono ?_
       rintro e w2 ⟨rfl,rfl⟩
       go_wp2_with fail
       go_roundw
       case rel => exact ⟨k+1,by omega,hok',rfl⟩
       case measure => simp; omega
      rcases hdg with ⟨t1,t2⟩ | ⟨t1,t2,t3⟩ | ⟨t1,t2,t3⟩
      ·omega
      ·omega
      ·clear h1 m1 n1 p1 r1 t1
       go_wp2_with fail
       refine (hl.out _).mono ?_
       rintro e w2 ⟨rfl,rfl⟩
       go_wp2_with fail
       go_roundw
       case rel => exact ⟨k+1,by omega,hok',rfl⟩
       case measure => simp; omega
    ·have hfin:Hid (false=nameOk s):=by show _=_; rw [hle.out (by rw [hsc.out,hv])]
     clear hv hle hsc hno hok hwid
     rcases hsm with ⟨m1,rfl⟩ | ⟨m1,rfl⟩
     ·omega
     ·rcases hk0 with ⟨n1,n2⟩ | ⟨n1,n2⟩
      ·clear h1 h95 h45 hdg m1 n1
       go_wp2_with fail
       refine (hl.out _).mono ?_
       rintro e w2 ⟨rfl,rfl⟩
       go_wp2_with fail
       go_ret
       exact ⟨ret_bool hfin.out,below_iter _ _ _⟩
      rcases h95 with ⟨p1,p2⟩ | ⟨p1,p2⟩
      ·omega
      rcases h45 with ⟨r1,r2⟩ | ⟨r1,r2⟩
      ·omega
      rcases hdg with ⟨t1,t2⟩ | ⟨t1,t2,t3⟩ | ⟨t1,t2,t3⟩
      ·clear h1 m1 n1 p1 r1 t1
       go_wp2_with fail
       refine (hl.out _).mono ?_
       rintro e w2 ⟨rfl,rfl⟩
       go_wp2_with fail
       go_ret
       exact ⟨ret_bool hfin.out,below_iter _ _ _⟩
      ·clear h1 m1 n1 p1 r1 t1
       go_wp2_with fail
       refine (hl.out _).mono ?_
       rintro e w2 ⟨rfl,rfl⟩
       go_wp2_with fail
       go_ret
       exact ⟨ret_bool hfin.out,below_iter _ _ _⟩
      ·omega
   ·have hnx:∀ ty,(Instr.next (.pointer (some ⟨w.heap.size,0,none⟩)) true ty).run Tryz.prog (w.iter s k)=_:=fun ty => run_next_end w s k ty hlt
    have hfin:Hid (true=nameOk s):=by show _=_; rw [hno.out,show s.size=k by omega,hok.out]
    clear hno hok
    go_wp2_with fail
    go_ret
    exact ⟨ret_bool hfin.out,below_iter _ _ _⟩
 ·have hfin:Hid (false=nameOk s):=(nameOk_size hl).symm
  have hcs:(s.size:Int) < 1 ∨ (¬ (s.size:Int) < 1∧(24:Int) < (s.size:Int)):=by omega
  clear hl
  rcases hcs with h1 | ⟨h1,h2⟩
  all_goals
   go_enter Tryz.func86,Tryz.ntmps86
   go_wp2_with fail
   go_ret
   exact ⟨ret_bool hfin.out,Below.refl _ _⟩
theorem unit_any (n:Int) (w:World):Calls Tryz.prog 114 #[.int .i64 n] w fun e w' => e = .returned (.int .i64 (unitZ n))∧w=w':=by
 have hcs:n < 0 ∨ (¬ n < 0∧1000 < n) ∨ (¬ n < 0∧¬ 1000 < n):=by omega
 rcases hcs with h | ⟨h,h2⟩ | ⟨h,h2⟩
 ·have hz:Hid (unitZ n=0):=by show _=_; unfold unitZ; rw [if_pos h]
  go_enter Tryz.func114,Tryz.ntmps114
  go_wp2
  go_ret
  exact ⟨ret_int hz.out.symm,rfl⟩
 ·have hz:Hid (unitZ n=1000):=by show _=_; unfold unitZ; rw [if_neg h,if_pos h2]
  go_enter Tryz.func114,Tryz.ntmps114
  go_wp2
  go_ret
  exact ⟨ret_int hz.out.symm,rfl⟩
 ·have hz:Hid (unitZ n=n):=by show _=_; unfold unitZ; rw [if_neg h,if_neg h2]
  go_enter Tryz.func114,Tryz.ntmps114
  go_wp2
  go_ret
  exact ⟨ret_int hz.out.symm,rfl⟩
theorem units_any (n:Int) (w:World):Calls Tryz.prog 88 #[.int .i64 n] w fun e w' => e = .returned (.int .i64 (unitZ n))∧w=w':=by
 have hcs:(n ≤ 0∧¬ 1000 < n) ∨ (0 < n∧1000 < n) ∨ (0 < n∧¬ 1000 < n):=by omega
 rcases hcs with ⟨h,h2⟩ | ⟨h,h2⟩ | ⟨h,h2⟩
 ·have hz:Hid (unitZ n=0):=by show _=_; unfold unitZ; split <;> (try split) <;> omega
  have h3:¬ 0 < n:=by omega
  go_enter Tryz.func88,Tryz.ntmps88
  go_wp2
  go_ret
  exact ⟨ret_int hz.out.symm,rfl⟩
 ·have hz:Hid (unitZ n=1000):=by show _=_; unfold unitZ; rw [if_neg (by omega),if_pos h2]
  go_enter Tryz.func88,Tryz.ntmps88
  go_wp2
  go_ret
  exact ⟨ret_int hz.out.symm,rfl⟩
 ·have hz:Hid (unitZ n=n):=by show _=_; unfold unitZ; rw [if_neg (by omega),if_neg h2]
  go_enter Tryz.func88,Tryz.ntmps88
  go_wp2
  go_ret
  exact ⟨ret_int hz.out.symm,rfl⟩
theorem bad_any (n:Int) (w:World):Calls Tryz.prog 87 #[.int .i64 n] w fun e w' => e = .returned (.bool (!unitOk n))∧w=w':=by
 have hu:=Lib.hid (units_any n)
 have he:=unitOk_eq n
 go_enter Tryz.func87,Tryz.ntmps87
 go_wp2_with fail
 refine (hu.out _).mono ?_
 rintro e w1 ⟨rfl,rfl⟩
 go_wp2
 go_ret
 exact ⟨rfl,rfl⟩
theorem badAt_hit {l:List Int} {k:Nat} (hk:k < l.length) (hb:unitOk l[k]=false):l.all unitOk=false:=by
 rw [← Bool.not_eq_true,List.all_eq_true]
 intro hh
 rw [hh _ (List.getElem_mem hk)] at hb
 cases hb
theorem all_take_succ {l:List Int} {k:Nat} (hk:k < l.length) (h:(l.take k).all unitOk=true) (hb:unitOk l[k]=true):(l.take (k+1)).all unitOk=true:=by
 rw [List.take_succ_eq_append_getElem hk,List.all_append,h]
 simp [hb]
def IndexSays (l:List Int) (e:Ending):Prop := ∃ x:Int,e = .returned (.int .i64 x)∧decide (0 ≤ x) = !(l.all unitOk)
set_option maxHeartbeats 4000000 in
theorem index_any (A:Option Addr) (c:Nat) (l:List Int) (w:World) (hA:RInts w A l) (hl:l.length < 1000000000) :
  Calls Tryz.prog 85 #[.slice A l.length c,.func (.func 87) #[] #[]] w fun e w' => IndexSays l e∧w=w':=by
 obtain ⟨n,hn⟩:∃ n,n=l.length:=⟨_,rfl⟩
 have HN:=Lib.hid hn
 have HA:=Lib.hid hA
 rw [← hn] at hl ⊢
 clear hn hA
 go_enter Tryz.func85,Tryz.ntmps85
 go_wp2_with fail
 go_loopw [5,8] (fun _ i' wr => ∃ k:Nat,k ≤ n∧i' = .int .i64 k∧Hid ((l.take k).all unitOk=true)∧w=wr)
  (fun _ i' _ => n - (intOf i').toNat)
 case atStart => exact ⟨0,by omega,rfl,rfl,rfl⟩
 case round =>
  obtain ⟨k,hk,rfl,hok,rfl⟩:=hrel
  by_cases hlt:k < n
  ·have hkl:k < l.length:=by rw [← HN.out]; exact hlt
   obtain ⟨ba,oa,hAe,hab,hac⟩:=HA.out.at' hkl
   subst hAe
   cases hu:unitOk l[k]
   ·have hfin:=Lib.hid (badAt_hit hkl hu)
    have hb:=Lib.hid (bad_any l[k] w)
    rw [hu] at hb
    clear hu
    generalize l[k]=x at *
    go_wp2_with fail
    refine hb.out.mono ?_
    rintro e w1 ⟨rfl,rfl⟩
    go_wp2_with fail
    go_ret
    exact ⟨⟨k,rfl,by rw [hfin.out]; simp⟩,rfl⟩
   ·have hok':=Lib.hid (all_take_succ hkl hok.out hu)
    have hb:=Lib.hid (bad_any l[k] w)
    rw [hu] at hb
    clear hu
    generalize l[k]=x at *
    go_wp2_with fail
    refine hb.out.mono ?_
    rintro e w1 ⟨rfl,rfl⟩
    go_wp2_with fail
    go_roundw
    case rel => exact ⟨k+1,by omega,by go_num,hok',trivial⟩
    case measure => simp [intOf]; omega
  ·have hfin:Hid (l.all unitOk=true):=by
    have h:=hok.out
    rwa [List.take_of_length_le (by rw [← HN.out]; omega)] at h
   go_wp2_with fail
   go_ret
   exact ⟨⟨-1,rfl,by rw [hfin.out]; rfl⟩,rfl⟩
theorem contains_any (A:Option Addr) (c:Nat) (l:List Int) (w:World) (hA:RInts w A l) (hl:l.length < 1000000000) :
  Calls Tryz.prog 62 #[.slice A l.length c,.func (.func 87) #[] #[]] w fun e w' => e = .returned (.bool (!(l.all unitOk)))∧w=w':=by
 have h:=Lib.hid (index_any A c l w hA hl)
 generalize l.length=n at *
 clear hA hl
 go_enter Tryz.func62,Tryz.ntmps62
 go_wp2_with fail
 refine h.out.mono ?_
 rintro e w1 ⟨⟨x,rfl,hx⟩,rfl⟩
 have HX:=Lib.hid hx
 clear hx
 go_wp2_with fail
 go_ret
 exact ⟨ret_bool HX.out,rfl⟩
end Go.Proofs.YtnppngaabfhkpaaGreat
