/-
  The walks of layer 40 (thermal), part 3: valid, model, comfortable, Step, Ok.
-/
import Derived.Test.YtnppngaabfhkpaaGreatET1
import Derived.Test.YtnppngaabfhkpaaGreatE0Words
import Derived.Deep.RegionHeld3
import Derived.Deep.DrawnRows
namespace Go.Proofs.YtnppngaabfhkpaaGreat
open Go.RowKit
def RoomOut (r:Rm) (w:World) (e:Ending) (w':World):Prop := ∃ A c B d,e = .returned (r.v A c B d)∧RInts w' A r.low∧RInts w' B r.high∧Below w.heap.size w w'
theorem Rm.chk_of_not {r:Rm} (h:¬ r.ok=true):r.chk r.low.length ≠ 0:=by
 intro g; exact h (by simp [Rm.ok,g])
theorem Rm.chk_of_ok {r:Rm} (h:r.ok=true):r.chk r.low.length=0:=by simpa [Rm.ok] using h
set_option maxHeartbeats 4000000 in
theorem valid_any (r:Rm) (A B:Option Addr) (c d:Nat) (w:World) (hA:RInts w A r.low) (hB:RInts w B r.high) :
  Calls Tryz.prog 60 #[r.v A c B d] w (RoomOut r.valid w):=by
 have hch:=fun w' hA' hB' => tcheck_any r A B c d r.low.length w' hA' hB'
 by_cases hok:r.ok=true
 ·rw [Rm.valid_ok hok]
  rw [Rm.chk_of_ok hok] at hch
  have hA1:RInts ((w.alloc (.cells #[.int .i64 r.gain,.int .i64 r.loss,.int .i64 r.steps,.int .i64 r.power,.slice A r.low.length c,.slice B r.high.length d] 28)).alloc (.cells #[.int .i64 0,.int .i64 0,.int .i64 0,.int .i64 0,.slice none 0 0,.slice none 0 0] 28)) A r.low:=(hA.alloc _).alloc _
  have hB1:RInts ((w.alloc (.cells #[.int .i64 r.gain,.int .i64 r.loss,.int .i64 r.steps,.int .i64 r.power,.slice A r.low.length c,.slice B r.high.length d] 28)).alloc (.cells #[.int .i64 0,.int .i64 0,.int .i64 0,.int .i64 0,.slice none 0 0,.slice none 0 0] 28)) B r.high:=(hB.alloc _).alloc _
  simp only [Rm.v] at hch ⊢
  have HC:=Lib.hid hch
  have HA:=Lib.hid hA1
  have HB:=Lib.hid hB1
  have HA0:=Lib.hid hA
  have HB0:=Lib.hid hB
  clear hch hA hB hok hA1 hB1
  go_enter Tryz.func60,Tryz.ntmps60
  go_wp2_with fail
  refine (HC.out _ HA.out HB.out).mono ?_
  rintro e w1 ⟨rfl,hb⟩
  obtain ⟨hc,hf⟩:=bcell hb
  have hz:w.heap.size+1 < w1.heap.size:=by have:=hb.size; simp at this; omega
  go_wp2_with fail
  have hW:Below w.heap.size w w1:=(((Below.refl _ _).alloc (Nat.le_refl _) _).alloc (by simp) _).trans (hb.mono (by simp; omega))
  have hW6:=(((((hW.setCell (p:=⟨w.heap.size+1,0,none⟩) (by simp) (.int .i64 r.gain)).setCell (p:=⟨w.heap.size+1,1,none⟩) (by simp) (.int .i64 r.loss)).setCell (p:=⟨w.heap.size+1,2,none⟩) (by simp) (.int .i64 r.steps)).setCell (p:=⟨w.heap.size+1,3,none⟩) (by simp) (.int .i64 r.power)).setCell (p:=⟨w.heap.size+1,4,none⟩) (by simp) (.slice A r.low.length c)).setCell (p:=⟨w.heap.size+1,5,none⟩) (by simp) (.slice B r.high.length d)
  refine bodyPost_ret (v := .agg #[.int .i64 r.gain,.int .i64 r.loss,.int .i64 r.steps,.int .i64 r.power,.slice A r.low.length c,.slice B r.high.length d]) (by simp [results,Tryz.results60,go_sem,hc]) rfl ?_
  exact ⟨A,c,B,d,rfl,HA0.out.below hW6,HB0.out.below hW6,hW6⟩
 ·rw [Rm.valid_not hok]
  have hne:=Rm.chk_of_not hok
  have hA1:RInts ((w.alloc (.cells #[.int .i64 r.gain,.int .i64 r.loss,.int .i64 r.steps,.int .i64 r.power,.slice A r.low.length c,.slice B r.high.length d] 28)).alloc (.cells #[.int .i64 0,.int .i64 0,.int .i64 0,.int .i64 0,.slice none 0 0,.slice none 0 0] 28)) A r.low:=(hA.alloc _).alloc _
  have hB1:RInts ((w.alloc (.cells #[.int .i64 r.gain,.int .i64 r.loss,.int .i64 r.steps,.int .i64 r.power,.slice A r.low.length c,.slice B r.high.length d] 28)).alloc (.cells #[.int .i64 0,.int .i64 0,.int .i64 0,.int .i64 0,.slice none 0 0,.slice none 0 0] 28)) B r.high:=(hB.alloc _).alloc _
  simp only [Rm.v] at hch ⊢
  generalize r.chk r.low.length=k at *
  have hne':(k != 0)=true:=by rw [bne_iff_ne]; exact hne
  have HC:=Lib.hid hch
  have HA:=Lib.hid hA1
  have HB:=Lib.hid hB1
  clear hch hA hB hok hA1 hB1 hne
  go_enter Tryz.func60,Tryz.ntmps60
  go_wp2_with fail
  refine (HC.out _ HA.out HB.out).mono ?_
  rintro e w1 ⟨rfl,hb⟩
  obtain ⟨hc,hf⟩:=bcell hb
  have hz:w.heap.size+1 < w1.heap.size:=by have:=hb.size; simp at this; omega
  go_wp2_with fail
  have hW:Below w.heap.size w w1:=(((Below.refl _ _).alloc (Nat.le_refl _) _).alloc (by simp) _).trans (hb.mono (by simp; omega))
  have hW6:=(((((hW.setCell (p:=⟨w.heap.size+1,0,none⟩) (by simp) (.int .i64 0)).setCell (p:=⟨w.heap.size+1,1,none⟩) (by simp) (.int .i64 0)).setCell (p:=⟨w.heap.size+1,2,none⟩) (by simp) (.int .i64 0)).setCell (p:=⟨w.heap.size+1,3,none⟩) (by simp) (.int .i64 0)).setCell (p:=⟨w.heap.size+1,4,none⟩) (by simp) (.slice none 0 0)).setCell (p:=⟨w.heap.size+1,5,none⟩) (by simp) (.slice none 0 0)
  refine bodyPost_ret (v := .agg #[.int .i64 0,.int .i64 0,.int .i64 0,.int .i64 0,.slice none 0 0,.slice none 0 0]) (by simp [results,Tryz.results60,go_sem,hc]) rfl ?_
  exact ⟨none,0,none,0,rfl,RInts.nil,RInts.nil,hW6⟩
set_option maxHeartbeats 1000000 in
theorem model_any (r:Rm) (A B:Option Addr) (c d:Nat) (w:World) :
  Calls Tryz.prog 59 #[r.v A c B d] w fun e w' => e = .returned (.func (.func 82) #[] #[.pointer (some ⟨w.heap.size,0,none⟩)])∧w'=w.alloc (.cells #[.int .i64 r.gain,.int .i64 r.loss,.int .i64 r.steps,.int .i64 r.power,.slice A r.low.length c,.slice B r.high.length d] 28):=by
 simp only [Rm.v]
 go_enter Tryz.func59,Tryz.ntmps59
 go_wp2_with fail
 go_ret
 exact ⟨rfl,rfl⟩
set_option maxHeartbeats 1000000 in
theorem tstep_any (r:Rm) (A B:Option Addr) (c d:Nat) (temp out heat:Int) (w:World) (hA:RInts w A r.low) (hB:RInts w B r.high) :
  Calls Tryz.prog 37 #[r.v A c B d,.int .i64 temp,.int .i64 out,.int .i64 heat] w fun e w' => e = .returned (.int .i64 (r.valid.step temp out heat))∧Below w.heap.size w w':=by
 have hv:=fun w' hA' hB' => valid_any r A B c d w' hA' hB'
 have hm:=model_any r.valid
 have hf:=r.fine
 generalize r.valid=s at *
 have hA1:RInts (w.alloc (.cells #[.int .i64 r.gain,.int .i64 r.loss,.int .i64 r.steps,.int .i64 r.power,.slice A r.low.length c,.slice B r.high.length d] 28)) A r.low:=hA.alloc _
 have hB1:RInts (w.alloc (.cells #[.int .i64 r.gain,.int .i64 r.loss,.int .i64 r.steps,.int .i64 r.power,.slice A r.low.length c,.slice B r.high.length d] 28)) B r.high:=hB.alloc _
 simp only [Rm.v] at hv hm ⊢
 have HV:=Lib.hid hv
 have HM:=Lib.hid hm
 have HA:=Lib.hid hA1
 have HB:=Lib.hid hB1
 have HF:=Lib.hid hf
 clear hv hm hA hB hA1 hB1 hf
 unfold Rm.step
 go_enter Tryz.func37,Tryz.ntmps37
 go_wp2_with fail
 refine (HV.out _ HA.out HB.out).mono ?_
 rintro e w1 ⟨A',c',B',d',rfl,_,_,hb1⟩
 have hW1:Below w.heap.size w w1:=((Below.refl _ _).alloc (Nat.le_refl _) _).trans (hb1.mono (by simp))
 clear HA HB HV hb1
 simp only [Rm.v]
 go_wp2_with fail
 refine (HM.out _ _ _ _ _).mono ?_
 rintro e w2 ⟨rfl,hw2⟩
 subst hw2
 go_wp2_with fail
 refine (model1_any s.gain s.loss s.steps temp out heat w1.heap.size _ HF.out.g0 HF.out.g1 HF.out.l0 HF.out.l1 HF.out.s0 HF.out.s1 (by simp [World.cell?_alloc_new]) (by simp [World.cell?_alloc_new]) (by simp [World.cell?_alloc_new])).mono ?_
 rintro e w3 ⟨rfl,n,rfl⟩
 go_wp2_with fail
 go_ret
 exact ⟨rfl,below_drewN (hW1.alloc hW1.size _) n⟩
theorem okAt_true {r:Rm} {i temp:Int} (h0:0 ≤ i) (h1:i < (r.low.length:Int)):r.okAt i temp=wT temp (r.low.getD i.toNat 0) (r.high.getD i.toNat 0):=by
 unfold Rm.okAt
 simp [h0,h1]
theorem okAt_out {r:Rm} {i temp:Int} (h:i < 0 ∨ (r.low.length:Int) ≤ i):r.okAt i temp=false:=by
 unfold Rm.okAt
 rw [Bool.and_eq_false_iff,Bool.and_eq_false_iff,decide_eq_false_iff_not,decide_eq_false_iff_not]
 omega
set_option maxHeartbeats 1000000 in
theorem comf_any (r:Rm) (A B:Option Addr) (c d:Nat) (i temp:Int) (w:World) (hA:RInts w A r.low) (hB:RInts w B r.high) (hl:r.high.length=r.low.length) (hl1:r.low.length ≤ 96) :
  Calls Tryz.prog 101 #[r.v A c B d,.int .i64 i,.int .i64 temp] w fun e w' => e = .returned (.bool (r.okAt i temp))∧Below w.heap.size w w':=by
 simp only [Rm.v]
 by_cases h0:0 ≤ i
 ·by_cases h1:i < (r.low.length:Int)
  ·rw [okAt_true h0 h1]
   obtain ⟨k,rfl⟩:=Int.eq_ofNat_of_zero_le h0
   have hka:k < r.low.length:=by omega
   have hkb:k < r.high.length:=by omega
   obtain ⟨ba,oa,rfl,hab,hac⟩:=hA.at' hka
   obtain ⟨bb,ob,rfl,hbb,hbc⟩:=hB.at' hkb
   rw [getD_eq hka] at hac
   rw [getD_eq hkb] at hbc
   rw [Int.toNat_natCast]
   generalize r.low.getD k 0=lo at *
   generalize r.high.getD k 0=hi at *
   have hL:(r.low.length:Int) ≤ 96:=by omega
   rw [hl]
   clear hA hB hl
   generalize r.low.length=L at *
   have hca:=(World.cell?_alloc_lt w (.cells #[.int .i64 r.gain,.int .i64 r.loss,.int .i64 r.steps,.int .i64 r.power,.slice (some ⟨ba,oa,none⟩) L c,.slice (some ⟨bb,ob,none⟩) L d] 28) ⟨ba,oa+k,none⟩ hab).trans hac
   have hcb:=(World.cell?_alloc_lt w (.cells #[.int .i64 r.gain,.int .i64 r.loss,.int .i64 r.steps,.int .i64 r.power,.slice (some ⟨ba,oa,none⟩) L c,.slice (some ⟨bb,ob,none⟩) L d] 28) ⟨bb,ob+k,none⟩ hbb).trans hbc
   clear hac hbc
   have q1:decide ((k:Int) < (L:Int))=true:=by simp; omega
   have q2:decide ((0:Int) ≤ (k:Int))=true:=by simp
   go_enter Tryz.func101,Tryz.ntmps101
   go_wp2_with fail
   go_quiet ((go_at_call 65; exact quiet_left (tbetween_any _ _ _ _)))
   go_wp2
   go_ret
   exact ⟨rfl,below_drewN ((Below.refl _ _).alloc (Nat.le_refl _) _) _⟩
  ·rw [okAt_out (by omega)]
   have q1:decide (i < (r.low.length:Int))=false:=by simp; omega
   have q2:decide ((0:Int) ≤ i)=true:=by simp; omega
   clear h1
   go_enter Tryz.func101,Tryz.ntmps101
   go_wp2_with fail
   go_quiet (fail)
   go_wp2
   go_ret
   exact ⟨rfl,below_drewN ((Below.refl _ _).alloc (Nat.le_refl _) _) _⟩
 ·rw [okAt_out (by omega)]
  have q2:decide ((0:Int) ≤ i)=false:=by simp; omega
  clear h0
  go_enter Tryz.func101,Tryz.ntmps101
  go_wp2_with fail
  go_quiet (fail)
  go_wp2
  go_ret
  exact ⟨rfl,below_drewN ((Below.refl _ _).alloc (Nat.le_refl _) _) _⟩
end Go.Proofs.YtnppngaabfhkpaaGreat
namespace Go.Proofs.YtnppngaabfhkpaaGreat
open Go.RowKit
attribute [local go_sem ↓] Go.wp_at_zero Go.wp_at_succ
set_option maxHeartbeats 1000000 in
theorem tok_any (r:Rm) (A B:Option Addr) (c d:Nat) (i temp:Int) (w:World) (hA:RInts w A r.low) (hB:RInts w B r.high) :
  Calls Tryz.prog 91 #[r.v A c B d,.int .i64 i,.int .i64 temp] w fun e w' => e = .returned (.bool (r.valid.okAt i temp))∧Below w.heap.size w w':=by
 have hv:=fun w' hA' hB' => valid_any r A B c d w' hA' hB'
 have hcf:=comf_any r.valid
 have hf:=r.fine
 generalize r.valid=s at *
 have hA1:RInts (w.alloc (.cells #[.int .i64 r.gain,.int .i64 r.loss,.int .i64 r.steps,.int .i64 r.power,.slice A r.low.length c,.slice B r.high.length d] 28)) A r.low:=hA.alloc _
 have hB1:RInts (w.alloc (.cells #[.int .i64 r.gain,.int .i64 r.loss,.int .i64 r.steps,.int .i64 r.power,.slice A r.low.length c,.slice B r.high.length d] 28)) B r.high:=hB.alloc _
 simp only [Rm.v] at hv hcf ⊢
 have HV:=Lib.hid hv
 have HC:=Lib.hid hcf
 have HA:=Lib.hid hA1
 have HB:=Lib.hid hB1
 have HF:=Lib.hid hf
 clear hv hcf hA hB hA1 hB1 hf
 go_enter Tryz.func91,Tryz.ntmps91
 go_wp2_with fail
 refine (HV.out _ HA.out HB.out).mono ?_
 rintro e w1 ⟨A',c',B',d',rfl,hA',hB',hb1⟩
 have hW1:Below w.heap.size w w1:=((Below.refl _ _).alloc (Nat.le_refl _) _).trans (hb1.mono (by simp))
 clear HA HB HV hb1
 simp only [Rm.v]
 go_wp2_with fail
 refine (HC.out A' B' c' d' i temp w1 hA' hB' HF.out.len2 HF.out.len1).mono ?_
 rintro e w2 ⟨rfl,hb2⟩
 go_wp2_with fail
 go_ret
 exact ⟨rfl,hW1.trans (hb2.mono hW1.size)⟩
def roomW (s:Rm) (A:Option Addr) (c:Nat) (B:Option Addr) (d:Nat) (w1:World):World :=
 (w1.alloc (.cells #[.int .i64 s.gain,.int .i64 s.loss,.int .i64 s.steps,.int .i64 s.power,.slice A s.low.length c,.slice B s.high.length d] 28)).alloc (.cells #[.int .i64 s.gain,.int .i64 s.loss,.int .i64 s.steps,.int .i64 s.power,.slice A s.low.length c,.slice B s.high.length d] 28)
structure RoomS (s:Rm) (A:Option Addr) (c:Nat) (B:Option Addr) (d:Nat) (w1 W:World):Prop where
 below:Below (w1.heap.size+2) (roomW s A c B d w1) W
 lo:RInts w1 A s.low
 hi:RInts w1 B s.high
section
variable {s:Rm} {A B:Option Addr} {c d:Nat} {w1 W W':World}
theorem roomW_size:(roomW s A c B d w1).heap.size=w1.heap.size+2:=by simp [roomW]
theorem RoomS.size (h:RoomS s A c B d w1 W):w1.heap.size+2 ≤ W.heap.size:=by have:=h.below.size; rw [roomW_size] at this; exact this
theorem RoomS.mk' (h:RoomS s A c B d w1 W) (hb:Below W.heap.size W W'):RoomS s A c B d w1 W':=⟨h.below.trans (hb.mono h.size),h.lo,h.hi⟩
theorem RoomS.on (h:RoomS s A c B d w1 W) (hb:Below (w1.heap.size+2) W W'):RoomS s A c B d w1 W':=⟨h.below.trans hb,h.lo,h.hi⟩
theorem RoomS.from1 (h:RoomS s A c B d w1 W):Below w1.heap.size w1 W:=(((Below.refl _ _).alloc (Nat.le_refl _) _).alloc (by simp) _).trans (h.below.mono (by omega))
theorem RoomS.low (h:RoomS s A c B d w1 W):RInts W A s.low:=h.lo.below h.from1
theorem RoomS.high (h:RoomS s A c B d w1 W):RInts W B s.high:=h.hi.below h.from1
theorem RoomS.cells (h:RoomS s A c B d w1 W):W.cell? ⟨w1.heap.size,0,none⟩=some (.int .i64 s.gain)∧W.cell? ⟨w1.heap.size,1,none⟩=some (.int .i64 s.loss)∧W.cell? ⟨w1.heap.size,2,none⟩=some (.int .i64 s.steps) ∧
  W.cell? ⟨w1.heap.size,3,none⟩=some (.int .i64 s.power)∧W.cell? ⟨w1.heap.size,4,none⟩=some (.slice A s.low.length c)∧W.cell? ⟨w1.heap.size,5,none⟩=some (.slice B s.high.length d):=by
 have hc:=(bcell' h.below).1
 refine ⟨?_,?_,?_,?_,?_,?_⟩ <;> (rw [hc _ _ (by omega)]; simp [roomW])
theorem RoomS.cells2 (h:RoomS s A c B d w1 W):W.cell? ⟨w1.heap.size+1,0,none⟩=some (.int .i64 s.gain)∧W.cell? ⟨w1.heap.size+1,1,none⟩=some (.int .i64 s.loss)∧W.cell? ⟨w1.heap.size+1,2,none⟩=some (.int .i64 s.steps):=by
 have hc:=(bcell' h.below).1
 refine ⟨?_,?_,?_⟩ <;> (rw [hc _ _ (by omega)]; simp [roomW])
theorem RoomS.call (h:RoomS s A c B d w1 W) (hf:s.Fine) (temp out heat:Int) :
  Calls Tryz.prog 82 #[.int .i64 temp,.int .i64 out,.int .i64 heat,.pointer (some ⟨w1.heap.size+1,0,none⟩)] W fun e w' => e = .returned (.int .i64 (stepT s.gain s.loss s.steps temp out heat))∧∃ n,w'=W.drewN n :=
 model1_any s.gain s.loss s.steps temp out heat (w1.heap.size+1) W hf.g0 hf.g1 hf.l0 hf.l1 hf.s0 hf.s1 h.cells2.1 h.cells2.2.1 h.cells2.2.2
theorem RoomS.comf (h:RoomS s A c B d w1 W) (hf:s.Fine) (i temp:Int) :
  Calls Tryz.prog 101 #[.agg #[.int .i64 s.gain,.int .i64 s.loss,.int .i64 s.steps,.int .i64 s.power,.slice A s.low.length c,.slice B s.high.length d],.int .i64 i,.int .i64 temp] W fun e w' => e = .returned (.bool (s.okAt i temp))∧Below W.heap.size W w' :=
 comf_any s A B c d i temp W h.low h.high hf.len2 hf.len1
theorem RoomS.held (h:RoomS s A c B d w1 W) (hb:Below W.heap.size W W'):Below W.heap.size W W'∧W'.cell? ⟨w1.heap.size,0,none⟩=some (.int .i64 s.gain)∧W'.cell? ⟨w1.heap.size,1,none⟩=some (.int .i64 s.loss)∧W'.cell? ⟨w1.heap.size,2,none⟩=some (.int .i64 s.steps) ∧
  W'.cell? ⟨w1.heap.size,3,none⟩=some (.int .i64 s.power)∧W'.cell? ⟨w1.heap.size,4,none⟩=some (.slice A s.low.length c)∧W'.cell? ⟨w1.heap.size,5,none⟩=some (.slice B s.high.length d):=⟨hb,(h.mk' hb).cells⟩
end
def tchTo (s:Rm) (i temp out:Int) (k:Nat):List Int:=(upto k).filter fun h => s.okAt i (stepT s.gain s.loss s.steps temp out h)
theorem tchTo_succ (s:Rm) (i temp out:Int) (k:Nat):tchTo s i temp out (k+1)=tchTo s i temp out k ++ if s.okAt i (stepT s.gain s.loss s.steps temp out k)=true then [(k:Int)] else []:=by
 simp only [tchTo,upto_succ,List.filter_append,List.filter_cons,List.filter_nil]
theorem tchTo_len (s:Rm) (i temp out:Int) (k:Nat):(tchTo s i temp out k).length ≤ k:=by
 refine Nat.le_trans (List.length_filter_le _ _) ?_
 rw [upto_length]; exact Nat.le_refl _
set_option maxHeartbeats 4000000 in
theorem tchoices_any (r:Rm) (A B:Option Addr) (c d:Nat) (i temp out:Int) (w:World) (hA:RInts w A r.low) (hB:RInts w B r.high) :
  Calls Tryz.prog 89 #[r.v A c B d,.int .i64 i,.int .i64 temp,.int .i64 out] w (IntsOut (r.valid.choices i temp out) w):=by
 have hv:=fun w' hA' hB' => valid_any r A B c d w' hA' hB'
 have hm:=model_any r.valid
 have hf:=r.fine
 generalize r.valid=s at *
 have hA1:RInts (w.alloc (.cells #[.int .i64 r.gain,.int .i64 r.loss,.int .i64 r.steps,.int .i64 r.power,.slice A r.low.length c,.slice B r.high.length d] 28)) A r.low:=hA.alloc _
 have hB1:RInts (w.alloc (.cells #[.int .i64 r.gain,.int .i64 r.loss,.int .i64 r.steps,.int .i64 r.power,.slice A r.low.length c,.slice B r.high.length d] 28)) B r.high:=hB.alloc _
 simp only [Rm.v] at hv hm ⊢
 have HV:=Lib.hid hv
 have HM:=Lib.hid hm
 have HA:=Lib.hid hA1
 have HB:=Lib.hid hB1
 have HF:=Lib.hid hf
 have s0:=hf.s0
 have s1:=hf.s1
 clear hv hm hA hB hA1 hB1 hf
 obtain ⟨i0,hi,hz0,hz1,hz2⟩:=info_parts Tryz.infoInt
 rw [show s.choices i temp out=tchTo s i temp out (s.steps+1).toNat from rfl]
 go_enter Tryz.func89,Tryz.ntmps89
 go_wp2_with fail
 refine (HV.out _ HA.out HB.out).mono ?_
 rintro e w1 ⟨A',c',B',d',rfl,hA',hB',hb1⟩
 have hW1:Below w.heap.size w w1:=((Below.refl _ _).alloc (Nat.le_refl _) _).trans (hb1.mono (by simp))
 clear HA HB HV hb1
 simp only [Rm.v]
 go_wp2_with fail
 refine (HM.out _ _ _ _ _).mono ?_
 rintro e w2 ⟨rfl,hw2⟩
 subst hw2
 have hS:RoomS s A' c' B' d' w1 (roomW s A' c' B' d' w1):=⟨by rw [← roomW_size (s:=s) (A:=A') (B:=B') (c:=c') (d:=d')]; exact Below.refl _ _,hA',hB'⟩
 have HS:=Lib.hid hS
 clear hA' hB' hS HM
 go_wp2_with fail
 go_loopw [11,20] (fun o i' wr => ∃ k:Nat,(k:Int) ≤ s.steps+1∧i' = .int .i64 k∧wr.ownsRow (w1.heap.size+2) 3 1 o (tchTo s i temp out k).length (ints (tchTo s i temp out k))∧RoomS s A' c' B' d' w1 wr)
  (fun _ i' _ => (s.steps+1).toNat - (intOf i').toNat)
 case atStart => exact ⟨0,by omega,rfl,World.ownsRow_nil _ _ _ _,HS.out⟩
 case round =>
  obtain ⟨k,hk,rfl,hown,hS⟩:=hrel
  have hlen:=tchTo_len s i temp out k
  have hsz:=hS.size
  by_cases hlt:(k:Int) < s.steps+1
  ·have hsucc:=Lib.hid (tchTo_succ s i temp out k)
   generalize hok:s.okAt i (stepT s.gain s.loss s.steps temp out ↑k)=ok at *
   have HOK:=Lib.hid hok
   clear hok
   go_wp2_with fail
   go_region_held3 (fun w' => Below wr.heap.size wr w'∧w'.cell? ⟨w1.heap.size,0,none⟩=some (.int .i64 s.gain)∧w'.cell? ⟨w1.heap.size,1,none⟩=some (.int .i64 s.loss)∧w'.cell? ⟨w1.heap.size,2,none⟩=some (.int .i64 s.steps)∧w'.cell? ⟨w1.heap.size,3,none⟩=some (.int .i64 s.power)∧w'.cell? ⟨w1.heap.size,4,none⟩=some (.slice A' s.low.length c')∧w'.cell? ⟨w1.heap.size,5,none⟩=some (.slice B' s.high.length d'))
    (first | exact hS.held (Below.refl _ _) | exact hS.held (Below.drew (Below.refl _ _)) | exact hS.held (below_drewN (by first | assumption | exact And.left (by assumption) | exact Below.refl _ _) _) | (refine hS.held (Below.trans ?_ (Below.mono (by assumption) ?_)); first | assumption | exact And.left (by assumption); exact Below.size (by first | assumption | exact And.left (by assumption) | exact Below.refl _ _)))
    (first
     | (go_at_call 82; refine ((hS.mk' (by first | assumption | exact And.left (by assumption) | exact Below.refl _ _)).call HF.out temp out _).mono ?_; rintro e w3 ⟨rfl,n3,rfl⟩)
     | (go_at_call 101; refine ((hS.mk' (by first | assumption | exact And.left (by assumption) | exact Below.refl _ _)).comf HF.out i _).mono ?_; rintro e w4 ⟨rfl,hb4⟩; rw [HOK.out]))
   have hBw:Below wr.heap.size wr w4:=by first | assumption | exact And.left (by assumption)
   have hSw:=hS.mk' hBw
   have hown4:=own_below hown hBw
   have hsz4:=hSw.size
   clear hown
   cases ok
   ·go_wp2_with fail
    go_roundw
    case rel =>
     refine ⟨k+1,by omega,by go_num,?_,hSw⟩
     rw [hsucc.out,if_neg (by simp),List.append_nil]
     exact hown4
    case measure => simp [intOf]; omega
   ·go_wp2_with (at_builtin; refine wpList_append_new _ _ rfl _ _ 22 rfl (w1.heap.size+2) 3 i0 (.int .i64 0) 1 8 Tryz.underlying22 hi hz0 hz1 hz2 rfl (by decide) (by decide) _ _ _ rfl hown4 #[.int .i64 ↑k] rfl (one_int _ _) rfl rfl (by omega) (by omega) ?_)
    intro v' w5 hown5 hb5
    clear hown4
    go_wp2
    go_roundw
    case rel =>
     refine ⟨k+1,by omega,by go_num,?_,hSw.on hb5⟩
     rw [hsucc.out,if_pos (by simp),ints_append,List.length_append]
     exact hown5
    case measure => simp [intOf]; omega
  ·have hkn:(s.steps+1).toNat=k:=by omega
   have HK:=Lib.hid hkn
   clear hkn
   go_wp2_with fail
   go_ret
   rw [HK.out]
   exact ints_out hown (by have:=hW1.size; omega) (hW1.trans (hS.from1.mono hW1.size))
theorem holdTo_none {p:Int→Bool}:∀ {n:Nat},(∀ x:Int,0 ≤ x→x < (n:Int)→p x=false)→holdTo p n=(n:Int):=by
 intro n
 induction n with
 | zero => intro _; rfl
 | succ n ih =>
  intro h
  have h1:(upto n).any p=false:=by
   rw [← Bool.not_eq_true,List.any_eq_true]
   rintro ⟨x,hx,hp⟩
   rw [mem_upto] at hx
   rw [h x hx.1 (by omega)] at hp
   cases hp
  rw [holdTo,if_neg (by simp [h1]),if_neg (by rw [h _ (by omega) (by omega)]; simp)]
  push_cast; rfl
theorem holdTo_hit {p:Int→Bool} {k:Nat} (hk:p k=true) (h:∀ x:Int,0 ≤ x→x < (k:Int)→p x=false):∀ {n:Nat},k < n→holdTo p n=(k:Int):=by
 intro n
 induction n with
 | zero => intro h; omega
 | succ n ih =>
  intro hn
  by_cases e:k=n
  ·subst e
   have h1:(upto k).any p=false:=by
    rw [← Bool.not_eq_true,List.any_eq_true]
    rintro ⟨x,hx,hp⟩
    rw [mem_upto] at hx
    rw [h x hx.1 (by omega)] at hp
    cases hp
   rw [holdTo,if_neg (by simp [h1]),if_pos hk]
  ·have h1:(upto n).any p=true:=by
    rw [List.any_eq_true]
    exact ⟨(k:Int),mem_upto.2 ⟨by omega,by omega⟩,hk⟩
   rw [holdTo,if_pos h1]
   exact ih (by omega)
section
variable {s:Rm} {A B:Option Addr} {c d:Nat} {w1 W W':World}
theorem RoomS.heldL {b o:Nat} {x:Int} (h:RoomS s A c B d w1 W) (hl:W.cell? ⟨b,o,none⟩=some (.int .i64 x)) (hb:Below W.heap.size W W'):Below W.heap.size W W'∧W'.cell? ⟨w1.heap.size,4,none⟩=some (.slice A s.low.length c)∧W'.cell? ⟨b,o,none⟩=some (.int .i64 x) :=
 ⟨hb,(h.mk' hb).cells.2.2.2.2.1,(hb.cell (p:=⟨b,o,none⟩) (World.block_lt_of_cell? _ _ hl)).trans hl⟩
end
theorem hold_out {s:Rm} {i temp out:Int} (h:i < 0 ∨ (s.low.length:Int) ≤ i):s.hold i temp out=0:=by unfold Rm.hold; rw [if_neg (by omega)]
theorem hold_in {s:Rm} {i temp out:Int} (h0:0 ≤ i) (h1:i < (s.low.length:Int)):s.hold i temp out=holdTo (fun h => decide (s.low.getD i.toNat 0 ≤ stepT s.gain s.loss s.steps temp out h)) s.steps.toNat:=by
 unfold Rm.hold; rw [if_pos ⟨h0,h1⟩]; rfl
set_option maxHeartbeats 4000000 in
theorem thold_any (r:Rm) (A B:Option Addr) (c d:Nat) (i temp out:Int) (w:World) (hA:RInts w A r.low) (hB:RInts w B r.high) :
  Calls Tryz.prog 47 #[r.v A c B d,.int .i64 i,.int .i64 temp,.int .i64 out] w fun e w' => e = .returned (.int .i64 (r.valid.hold i temp out))∧Below w.heap.size w w':=by
 have hv:=fun w' hA' hB' => valid_any r A B c d w' hA' hB'
 have hm:=model_any r.valid
 have hf:=r.fine
 generalize r.valid=s at *
 have hA1:RInts (w.alloc (.cells #[.int .i64 r.gain,.int .i64 r.loss,.int .i64 r.steps,.int .i64 r.power,.slice A r.low.length c,.slice B r.high.length d] 28)) A r.low:=hA.alloc _
 have hB1:RInts (w.alloc (.cells #[.int .i64 r.gain,.int .i64 r.loss,.int .i64 r.steps,.int .i64 r.power,.slice A r.low.length c,.slice B r.high.length d] 28)) B r.high:=hB.alloc _
 simp only [Rm.v] at hv hm ⊢
 have HV:=Lib.hid hv
 have HM:=Lib.hid hm
 have HA:=Lib.hid hA1
 have HB:=Lib.hid hB1
 have HF:=Lib.hid hf
 have s0:=hf.s0
 have s1:=hf.s1
 have hl96:=hf.len1
 clear hv hm hA hB hA1 hB1 hf
 by_cases hin:0 ≤ i∧i < (s.low.length:Int)
 ·obtain ⟨hi0,hi1⟩:=hin
  rw [hold_in hi0 hi1]
  obtain ⟨j,rfl⟩:=Int.eq_ofNat_of_zero_le hi0
  rw [Int.toNat_natCast]
  have hj:j < s.low.length:=by omega
  have hgd:=Lib.hid (getD_eq hj)
  have q1:decide ((j:Int) < 0)=false:=by simp
  have q2:decide (s.low.length ≤ j)=false:=by simp; omega
  go_enter Tryz.func47,Tryz.ntmps47
  go_wp2_with fail
  refine (HV.out _ HA.out HB.out).mono ?_
  rintro e w1 ⟨A',c',B',d',rfl,hA',hB',hb1⟩
  have hW1:Below w.heap.size w w1:=((Below.refl _ _).alloc (Nat.le_refl _) _).trans (hb1.mono (by simp))
  clear HA HB HV hb1
  simp only [Rm.v]
  go_wp2_with fail
  refine (HM.out _ _ _ _ _).mono ?_
  rintro e w2 ⟨rfl,hw2⟩
  subst hw2
  have hS0:RoomS s A' c' B' d' w1 (roomW s A' c' B' d' w1):=⟨by rw [← roomW_size (s:=s) (A:=A') (B:=B') (c:=c') (d:=d')]; exact Below.refl _ _,hA',hB'⟩
  have HS:=Lib.hid hS0
  clear hA' hB' hS0 HM
  go_wp2_with fail
  go_loopw [27] (fun i' wr => ∃ k:Nat,(k:Int) ≤ s.steps∧i' = .int .i64 k∧Hid (∀ x:Int,0 ≤ x→x < (k:Int)→decide (s.low.getD j 0 ≤ stepT s.gain s.loss s.steps temp out x)=false)∧RoomS s A' c' B' d' w1 wr)
   (fun i' _ => s.steps.toNat - (intOf i').toNat)
  case atStart => exact ⟨0,by omega,rfl,fun x h0 h1 => by omega,HS.out⟩
  case round =>
   obtain ⟨k,hk,rfl,hno,hS⟩:=hrel
   by_cases hlt:(k:Int) < s.steps
   ·obtain ⟨ba,oa,hAe,hab,hlc⟩:=hS.low.at' hj
    subst hAe
    rw [hgd.out] at hlc
    have hsb:=stepT_bd s.gain s.loss s.steps temp out k
    obtain ⟨sb0,sb1⟩:=hsb
    generalize hlo:s.low.getD j 0=lo at *
    generalize hu:stepT s.gain s.loss s.steps temp out ↑k=u at *
    have HU:=Lib.hid hu
    have HLO:=Lib.hid hlo
    clear hu hlo
    by_cases hge:lo ≤ u
    ·have hret:Hid (holdTo (fun h => decide (lo ≤ stepT s.gain s.loss s.steps temp out h)) s.steps.toNat=(k:Int)):=by
      show _=_
      exact holdTo_hit (by rw [HU.out]; simpa using hge) hno.out (by omega)
     have q3:decide (lo ≤ u)=true:=by simpa using hge
     go_wp2_with fail
     go_region_held3 (fun w' => Below wr.heap.size wr w'∧w'.cell? ⟨w1.heap.size,4,none⟩=some (.slice (some ⟨ba,oa,none⟩) s.low.length c')∧w'.cell? ⟨ba,oa+j,none⟩=some (.int .i64 lo))
      (first | exact hS.heldL hlc (Below.refl _ _) | exact hS.heldL hlc (Below.drew (Below.refl _ _)) | exact hS.heldL hlc (below_drewN (by first | assumption | exact And.left (by assumption) | exact Below.refl _ _) _))
      (first | (go_at_call 82; refine ((hS.mk' (by first | assumption | exact And.left (by assumption) | exact Below.refl _ _)).call HF.out temp out _).mono ?_; rintro e w3 ⟨rfl,n3,rfl⟩; rw [HU.out]))
     go_wp2_with fail
     go_ret
     rw [HLO.out,hret.out]
     exact ⟨rfl,hW1.trans ((hS.mk' (by first | assumption | exact And.left (by assumption) | exact below_drewN (Below.refl _ _) _)).from1.mono hW1.size)⟩
    ·have q3:decide (lo ≤ u)=false:=by simpa using hge
     have hno':Hid (∀ x:Int,0 ≤ x→x < ((k+1:Nat):Int)→decide (lo ≤ stepT s.gain s.loss s.steps temp out x)=false):=by
      intro x h0 h1
      by_cases hx:x < (k:Int)
      ·exact hno.out x h0 hx
      ·rw [show x=(k:Int) by omega,HU.out]; exact q3
     go_wp2_with fail
     go_region_held3 (fun w' => Below wr.heap.size wr w'∧w'.cell? ⟨w1.heap.size,4,none⟩=some (.slice (some ⟨ba,oa,none⟩) s.low.length c')∧w'.cell? ⟨ba,oa+j,none⟩=some (.int .i64 lo))
      (first | exact hS.heldL hlc (Below.refl _ _) | exact hS.heldL hlc (Below.drew (Below.refl _ _)) | exact hS.heldL hlc (below_drewN (by first | assumption | exact And.left (by assumption) | exact Below.refl _ _) _))
      (first | (go_at_call 82; refine ((hS.mk' (by first | assumption | exact And.left (by assumption) | exact Below.refl _ _)).call HF.out temp out _).mono ?_; rintro e w3 ⟨rfl,n3,rfl⟩; rw [HU.out]))
     go_wp2_with fail
     go_roundw
     case rel => exact ⟨k+1,by omega,by go_num,hno',hS.mk' (by first | assumption | exact And.left (by assumption) | exact below_drewN (Below.refl _ _) _)⟩
     case measure => simp [intOf]; omega
   ·obtain ⟨c0,c1,c2,c3,c4,c5⟩:=hS.cells
    have hks:s.steps=(k:Int):=by omega
    have hret:Hid (holdTo (fun h => decide (s.low.getD j 0 ≤ stepT s.gain s.loss s.steps temp out h)) s.steps.toNat=s.steps):=by
     show _=_
     rw [holdTo_none (n:=s.steps.toNat) (fun x h0 h1 => hno.out x h0 (by omega))]
     omega
    clear hks
    go_wp2_with fail
    go_ret
    exact ⟨ret_int (by rw [hgd.out]; exact hret.out.symm),hW1.trans (hS.from1.mono hW1.size)⟩
 ·rw [hold_out (by omega)]
  have hcs:i < 0 ∨ (0 ≤ i∧(s.low.length:Int) ≤ i):=by omega
  clear hin
  rcases hcs with h | ⟨h,h'⟩
  all_goals
   go_enter Tryz.func47,Tryz.ntmps47
   go_wp2_with fail
   refine (HV.out _ HA.out HB.out).mono ?_
   rintro e w1 ⟨A',c',B',d',rfl,hA',hB',hb1⟩
   have hW1:Below w.heap.size w w1:=((Below.refl _ _).alloc (Nat.le_refl _) _).trans (hb1.mono (by simp))
   clear HA HB HV hb1
   simp only [Rm.v]
   go_wp2_with fail
   go_ret
   exact ⟨rfl,hW1.alloc hW1.size _⟩
end Go.Proofs.YtnppngaabfhkpaaGreat
