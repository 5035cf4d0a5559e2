/-
  The message of which nodes store this: the reference.
-/
import Derived.Test.YtcclhhjcejmepaaGreatZR05f
import Derived.Test.YtcclhhjcejmepaaGreatZR10cd
/- The message of which nodes store this: the reference. -/
set_option maxRecDepth 100000
set_option maxHeartbeats 8000000
namespace Go.Proofs.YtcclhhjcejmepaaGreat
open Go.RowKit Fld
set_option linter.unusedVariables false
set_option linter.unusedSimpArgs false

def RMsgPost10 (K D:Nat) (xs:Nat→GF) (ys:List GF) (w:World) (e:Ending) (w':World):Prop:=Below w.heap.size w w' ∧
 ((∃ v m,e=.returned (.tuple #[v,.bool true])∧OwnG w' w.heap.size v m∧m.length=mbB K D∧∀ j,j < K→mShare K D m (xs j)=rowF (fun k=>ys.getD (j * D+k) 0) D) ∨
  (e=.returned (.tuple #[.slice none 0 0,.bool false])∧((∃ m,m.length=mbB K D∧(∃ p,p < mbB K D∧m.getD p 0 ≠ 0)∧∀ j,j < K→mShare K D m (xs j)=rowF (fun _=>0) D) ∨ ∀ m,m.length=mbB K D→¬ ∀ j,j < K→mShare K D m (xs j)=rowF (fun k=>ys.getD (j * D+k) 0) D)))
def msgFr (x0 x1 x2 x3 x8:Value) (u:Nat→Value):Array Value:=#[x0,x1,x2,x3,undef,undef,.slice none 0 0,.bool false,x8,u 9,u 10,u 11,u 12,u 13,u 14,u 15,u 16,u 17,u 18,u 19,u 20,u 21,u 22,u 23,u 24,u 25,u 26,u 27,u 28,u 29,u 30,u 31,u 32,u 33,u 34,u 35,u 36,u 37,u 38,u 39,u 40,u 41,u 42,u 43,u 44,u 45,u 46,u 47,u 48,u 49,u 50,u 51,u 52,u 53,u 54,u 55,u 56,u 57,u 58,u 59,u 60,u 61,u 62,u 63,u 64,u 65,u 66,u 67,u 68,u 69,u 70,u 71,u 72,u 73,u 74,u 75,u 76,u 77,u 78,u 79,u 80,u 81,u 82,u 83,u 84,u 85,u 86,u 87,u 88,u 89,u 90,u 91,u 92,u 93,u 94,u 95,u 96,u 97,u 98,u 99,u 100,u 101,u 102]
def MsgK (x0 x1 x2 x3:Value) (R B P:Nat) (w1:World) (a:Act) (W:World):Prop:=∃ mb mg,a={ tmps:=msgFr x0 x1 x2 x3 (.pointer (some ⟨mb,0,none⟩)) (fun i=>a.tmps.getD i undef),defers:=[] }∧Below w1.heap.size w1 W∧(w1.heap.size≤mb∧w1.heap.size≤mg∧mb ≠ mg) ∧
 W.heap[mb]? = some (.cells #[.int .i64 R,.int .i64 B,.slice (some ⟨mg,0,none⟩) P P] 96 (0,0))∧View W mg P (fun _=>0)
def msgFr2 (x0 x1 x2 x3 x8 x9 x10 x11 x12 x34 x35 x36 x37 x38 x39 x40 x41 x42 x43 x44 x45:Value) (u s:Nat→Value):Array Value:=#[x0,x1,x2,x3,undef,undef,.slice none 0 0,.bool false,x8,x9,x10,x11,x12,s 13,s 14,u 15,u 16,u 17,u 18,u 19,u 20,u 21,u 22,u 23,u 24,u 25,u 26,u 27,u 28,u 29,u 30,u 31,u 32,u 33,x34,x35,x36,x37,x38,x39,x40,x41,x42,x43,x44,x45,s 46,s 47,s 48,s 49,s 50,s 51,s 52,s 53,s 54,s 55,s 56,s 57,s 58,s 59,s 60,s 61,s 62,s 63,s 64,s 65,s 66,s 67,s 68,s 69,s 70,s 71,s 72,s 73,s 74,s 75,s 76,s 77,s 78,s 79,s 80,s 81,s 82,s 83,s 84,s 85,s 86,s 87,s 88,s 89,u 90,u 91,u 92,u 93,u 94,u 95,u 96,u 97,u 98,u 99,u 100,u 101,u 102]
def MsgK2 (x0 x1 x2 x3 x8 x9 x10 x11 x34 x35 x36 x37 x38 x39 x40 x41 x42 x43 x44 x45:Value) (u:Nat→Value) (D:Nat) (row:List GF) (wr:World) (a:Act) (W:World):Prop:=∃ sb g,a={ tmps:=msgFr2 x0 x1 x2 x3 x8 x9 x10 x11 (.pointer (some ⟨sb,0,none⟩)) x34 x35 x36 x37 x38 x39 x40 x41 x42 x43 x44 x45 u (fun i=>a.tmps.getD i undef),defers:=[] }∧Below wr.heap.size wr W∧(wr.heap.size≤sb∧wr.heap.size≤g∧sb ≠ g) ∧
 W.heap[sb]? = some (.cells #[.int .i64 1,.int .i64 D,.slice (some ⟨g,0,none⟩) D D] 96 (0,0))∧GRd W (.slice (some ⟨g,0,none⟩) D D) row
theorem view_zeros {W:World} {g N:Nat} (h:W.heap[g]? = some (.cells (Array.replicate N (.int .u8 0)) 5 (0,0))):View W g N (fun _=>0):=by
 refine ⟨lOH h,fun j hj=>⟨?_,fOH h j⟩⟩
 rw [cell_of_row _ _ _ _ _ (0,0) h]
 simp [hj]
 rfl
theorem rmsg10_any (w:World) (N K D:Nat) (nv dv:Value) (ns:List Int) (ys:List GF) (hk:1≤K∧K≤D∧D < N∧N≤9) (hn:IRd w nv ns) (hnl:ns.length=K) (hnr:∀ x ∈ ns,0≤x∧x < (N:Int)) (hy:GRd w dv ys) (hyl:ys.length=K * D) :
  Calls Tryz.prog 66 #[rb N K D,nv,dv] w (RMsgPost10 K D (fun j=>pw GF.two (ns.getD j 0).toNat) ys w):=by
 obtain ⟨an,cn,rfl⟩:=hn.form
 obtain ⟨ad,cd,rfl,hcd⟩:=hy.form
 rw [hnl] at hn ⊢
 rw [hyl] at hy hcd ⊢
 have hKD1:1≤K * D:=Nat.mul_le_mul hk.1 (show 1≤D by omega)
 obtain ⟨x00,hx00⟩:∃ x,ns[0]? = some x:=⟨_,List.getElem?_eq_getElem (by rw [hnl];omega)⟩
 obtain ⟨-,-,bn,on,rfl,hbn,-⟩:=IRd.cell hn hx00
 obtain ⟨y00,hy00⟩:∃ x,ys[0]? = some x:=⟨_,List.getElem?_eq_getElem (by rw [hyl];omega)⟩
 obtain ⟨gd,od,rfl,hgd,-⟩:=hy.at hy00
 clear hx00 hy00 hKD1
 obtain ⟨R,hR⟩:∃ R,K * D=R:=⟨_,rfl⟩
 obtain ⟨B,hB⟩:∃ B,mbB K D=B:=⟨_,rfl⟩
 obtain ⟨P,hP⟩:∃ P,R * B=P:=⟨_,rfl⟩
 have hR1:1≤R:=by rw [← hR];exact Nat.mul_le_mul hk.1 (show 1≤D by omega)
 have hRm:R≤81:=by rw [← hR];exact Nat.mul_le_mul (show K≤9 by omega) (show D≤9 by omega)
 have hB1:1≤B:=by rw [← hB];exact Nat.lt_of_le_of_lt (Nat.zero_le _) (sI_ltB (K:=K) (D:=D) (i:=0) (k:=0) (by omega) (by omega))
 have hBm:B≤81:=by
  rw [← hB,mbB_eq hk.2.1]
  have:K * D≤9 * 9:=Nat.mul_le_mul (by omega) (by omega)
  omega
 have hPm:P≤81 * 81:=by rw [← hP];exact Nat.mul_le_mul hRm hBm
 rw [hR] at hy hcd ⊢
 obtain ⟨w1,hw1⟩:∃ w1,w1=w.alloc (.cells #[.int .i64 N,.int .i64 K,.int .i64 D] 32):=⟨_,rfl⟩
 have hb1:Below w.heap.size w w1:=by rw [hw1];exact (Below.refl _ _).alloc (Nat.le_refl _) _
 have d2:w1.heap[w.heap.size]? = some (.cells #[.int .i64 N,.int .i64 K,.int .i64 D] 32 (0,0)):=by rw [hw1];exact nwA _ _
 have z0:=cOH d2 (j:=0) rfl
 have z1:=cOH d2 (j:=1) rfl
 have z2:=cOH d2 (j:=2) rfl
 have l2:=lOH d2
 have hbb0:=fun W=>rbb_any N K D W (by omega)
 rw [hB] at hbb0
 have HBB:=Hd hbb0
 have HBB1:=HBB
 have HBB2:=HBB
 have D2:=Hd d2
 have HB1:=Hd hb1
 have HN:=Hd (hn.below hb1)
 have HY:=Hd (hy.below hb1)
 have HNL:=Hd hnl
 have HNR:=Hd hnr
 have HYL:=Hd (hyl.trans hR)
 have HQ:=Hd (And.intro hR (And.intro hB hP))
 have x1:(K:Int) * (D:Int)=(R:Int):=by rw [← hR];simp
 have y1:IntKind.i64.wrap (R:Int)=(R:Int):=IntWalk.i64_in _ (by omega)
 have x2:(R:Int) * (B:Int)=(P:Int):=by rw [← hP];simp
 have y2:IntKind.i64.wrap (P:Int)=(P:Int):=IntWalk.i64_in _ (by omega)
 obtain ⟨i0,hi,hzz0,hzz1,hzz2⟩:=info_parts u8_info
 have hmk:∀ W,(Instr.makeSlice 22 (.int .i64 P) (.int .i64 P)).run Tryz.prog W=.ok (.slice (some ⟨W.heap.size,0,none⟩) P P) (W.alloc (.cells (Array.replicate P (.int .u8 0)) 5)):=fun W =>
  run_row W 22 5 i0 (.int .u8 0) Tryz.underlying22 hi hzz0 hzz1 rfl P (by rw [hzz2];omega) (by unfold maxLen;omega)
 have hmkB:∀ W,(Instr.makeSlice 22 (.int .i64 B) (.int .i64 B)).run Tryz.prog W=.ok (.slice (some ⟨W.heap.size,0,none⟩) B B) (W.alloc (.cells (Array.replicate B (.int .u8 0)) 5)):=fun W =>
  run_row W 22 5 i0 (.int .u8 0) Tryz.underlying22 hi hzz0 hzz1 rfl B (by rw [hzz2];omega) (by unfold maxLen;omega)
 have HMKB:=Hd hmkB
 clear hn hy hnl hnr hyl hR hB hP hb1 d2 hbb0 hi hzz0 hzz1 hzz2 hmkB hcd
 go_enter Tryz.func66,Tryz.ntmps66
 go_upto_region 1 with fail
 rw [← hw1]
 clear hw1
 obtain ⟨kp,hkp⟩:∃ kp:Nat→Bool,∀ j,kp j=true↔j < w1.heap.size:=⟨fun j=>decide (j < w1.heap.size),by simp⟩
 have k1:kp w.heap.size=true:=(hkp _).2 l2
 have HKP:=Hd hkp
 clear hkp
 rename_i Qx hKx
 refine wp_conseq (K1:=MsgK (rb N K D) (.slice (some ⟨bn,on,none⟩) K cn) (.slice (some ⟨gd,od,none⟩) R cd) (.pointer (some ⟨w.heap.size,0,none⟩)) R B P w1) ?reg ?rest
 case reg =>
  have hgr:=fun (w0 W:World) (p:Addr) (hp:(fun j=>kp j=true) p.block)=>g_C (w0:=w0) (keep:=(fun j=>kp j=true)) W hp
  refine w_T (fun j=>kp j=true) [6,13,15,17,18] (.sq [0,1,2,3,4,5,7,8,9,10,11,12] (.fork 6 (.fork 13 (.step 14 (.fork 15 (.sq [16,17,18] .done) 17 (.sq [15,16,18] .done))) 17 (.sq [13,14,15,16,18] .done)) 17 (.sq [6,13,14,15,16,18] .done))) (by kernel_rfl) (by kernel_rfl) ?_
  simp only [Tr.sq,List.foldr_cons,List.foldr_nil,slimTr,slimStep,Oper.slim,List.contains_cons,List.contains_nil,Option.map_none,Option.map_some,List.getElem?_toArray,List.getElem?_cons_zero,List.getElem?_cons_succ,Option.bind_some,beq_self_eq_true,Bool.or_false,Nat.reduceBEq,Nat.reduceAdd,Nat.zero_add]
  repeat' first | ((with_reducible refine w_I ?_);first | (with_reducible refine w_D ?_) | (with_reducible refine wpSlimT_fork ?_ ?_) | ((with_reducible refine w_S (fun K hK=>?_));go_simp;first | (refine hK _ _ ?_;clear hK K) | (refine ⟨by (intro kk hkk;first | (simp (disch:=(simp;omega)) only [h_D,h_N,h_A,h_S];done) | (simp [h_D,h_N,h_I,hkk];done) | (have hkk2:=(HKP.out kk).1 hkk;simp (disch:=(first | (simp;done) | (simp;omega) | omega | exact hkk2.2)) only [h_D,h_N,h_A,h_S];first | done | exact hbx.block kk hkk2.1 | exact hbd.block kk hkk2 | exact hbb.block kk hkk2 | exact hba.block kk hkk2)),hK _ _ ?_⟩;clear hK K) | (go_at_call 35;(with_reducible refine (HBB1.out _).mono ?_);rintro e wa ⟨rfl,hba0⟩;have hba:Below w1.heap.size w1 wa:=belTrans (by (repeat' (first | (with_reducible exact RowKit.Below.refl _ _) | (with_reducible assumption) | (with_reducible refine RowKit.Below.drew ?_) | (with_reducible refine RowKit.Below.alloc ?_ ?_ _) | omega | (simp;done) | (simp;omega)))) hba0;have hsa:=hba.size;clear HBB1;(try (have hz:wa.heap[w1.heap.size]? = some (.cells #[.int .i64 0,.int .i64 0,.slice none 0 0] 96 (0,0)):=keepB hba0 (nwA w1 _)));refine ⟨_,rfl,(fun kk hkk=>hba.block kk ((HKP.out kk).1 hkk)),hK _ _ ?_⟩;clear hba0 hK K) | (go_at_call 35;(with_reducible refine (HBB2.out _).mono ?_);rintro e wb ⟨rfl,hbb0⟩;have hbb:Below w1.heap.size w1 wb:=belTrans (by (repeat' (first | (with_reducible exact RowKit.Below.refl _ _) | (with_reducible assumption) | (with_reducible refine RowKit.Below.drew ?_) | (with_reducible refine RowKit.Below.alloc ?_ ?_ _) | omega | (simp;done) | (simp;omega)))) hbb0;have hab:wa.heap.size≤wb.heap.size:=(by have:=hbb0.size;first | exact this | (simp at this;omega));have hsb:=hbb.size;(first | (have hz2:wb.heap[w1.heap.size]? = some (.cells #[.int .i64 0,.int .i64 0,.slice none 0 0] 96 (0,0)):=keepB hbb0 hz;have q0:wb.cell? ⟨w1.heap.size,0,none⟩=some (.int .i64 0):=cOH hz2 rfl;have q1:wb.cell? ⟨w1.heap.size,1,none⟩=some (.int .i64 0):=cOH hz2 rfl;have q2:wb.cell? ⟨w1.heap.size,2,none⟩=some (.slice none 0 0):=cOH hz2 rfl;have q3:=fOH hz2 0;have q4:=fOH hz2 1;have q5:=fOH hz2 2;have q6:=lOH hz2) | (have hz2:wb.heap[wa.heap.size]? = some (.cells #[.int .i64 0,.int .i64 0,.slice none 0 0] 96 (0,0)):=keepB hbb0 (nwA wa _);have q0:wb.cell? ⟨wa.heap.size,0,none⟩=some (.int .i64 0):=cOH hz2 rfl;have q1:wb.cell? ⟨wa.heap.size,1,none⟩=some (.int .i64 0):=cOH hz2 rfl;have q2:wb.cell? ⟨wa.heap.size,2,none⟩=some (.slice none 0 0):=cOH hz2 rfl;have q3:=fOH hz2 0;have q4:=fOH hz2 1;have q5:=fOH hz2 2;have q6:=lOH hz2) | skip);refine ⟨_,rfl,(fun kk hkk=>hbb.block kk ((HKP.out kk).1 hkk)),hK _ _ ?_⟩;clear hbb0 hK K))) | fail
  all_goals clear hgr
  ·exact ⟨wb.heap.size+1,wb.heap.size,by kernel_rfl,(hbb.alloc hsb _).alloc (by simp;omega) _,⟨by omega,by omega,by omega⟩,nwE _ _ _ (by simp),view_zeros (keepA (nwA _ _) _)⟩
  ·exact ⟨wb.heap.size,wb.heap.size+1,by kernel_rfl,(hbb.alloc hsb _).alloc (by simp;omega) _,⟨by omega,by omega,by omega⟩,keepA (nwA _ _) _,view_zeros (nwE _ _ _ (by simp))⟩
  ·have hlz:=lOH hz2
   exact ⟨wa.heap.size,wb.heap.size,by kernel_rfl,(hbb.trans ((kp_set3 wb _ _ _ _).below hsb (by simp;omega))).alloc (by simp;omega) _,⟨by omega,by omega,by omega⟩,keepA (set3 hz2) _,view_zeros (nwE _ _ _ (by simp))⟩
  ·have hlz:=lOH hz2
   exact ⟨w1.heap.size,wb.heap.size,by kernel_rfl,(hbb.trans ((kp_set3 wb _ _ _ _).below hsb (by simp))).alloc (by simp;omega) _,⟨by omega,by omega,by omega⟩,keepA (set3 hz2) _,view_zeros (nwE _ _ _ (by simp))⟩
 case rest =>
  intro a W h
  obtain ⟨mb,mg,ha,hbW,⟨hmb,hmg,hne⟩,hmx,hv⟩:=h
  refine hKx _ _ ?_
  obtain ⟨u,hu⟩:∃ u,a={ tmps:=msgFr (rb N K D) (.slice (some ⟨bn,on,none⟩) K cn) (.slice (some ⟨gd,od,none⟩) R cd) (.pointer (some ⟨w.heap.size,0,none⟩)) (.pointer (some ⟨mb,0,none⟩)) u,defers:=[] }:=⟨_,ha⟩
  subst hu
  clear ha hKx z0 z1 z2 k1 HKP HBB1 HBB2 x1 x2 y1 y2 hmk
  obtain ⟨w2,rfl⟩:∃ w2:World,w2=W:=⟨_,rfl⟩
  obtain ⟨A,hA⟩:∃ A,msgA K D (fun j=>pw GF.two (ns.getD j 0).toNat)=A:=⟨_,rfl⟩
  have HA:=Hd hA
  have HB2:Hid (Below w.heap.size w w2):=Hd (HB1.out.trans (hbW.mono HB1.out.size))
  have D2:=Hd (keepB hbW D2.out)
  have DM:=Hd hmx
  have HV2:Hid (View w2 mg P (flat B (accQ A 0 0))):=Hd (hv.congr fun j hj=>by
   unfold flat accQ
   rw [if_neg (fun h=>h.elim (Nat.not_lt_zero _) (fun h=>Nat.not_lt_zero _ h.2))])
  have HN2:=Hd (HN.out.below hbW)
  have HY2:=Hd (HY.out.below hbW)
  have hs2:=HB2.out.size
  have hsW:=hbW.size
  have hl2:=lOH D2.out
  have hlm:=lOH hmx
  have hgl:=hv.1
  have hwm:w.heap.size < mb∧w.heap.size < mg:=by omega
  clear hA hmx hv hbW HN HY HB1
  unfold msgFr
  go_wp2
  go_loopg [9] B (fun gk i wr=>∃ I:Nat,I≤B∧gk=B - I∧i=.int .i64 I∧Hid (View wr mg P (flat B (accQ A I 0)))∧Hid (Kp [mg] w2 wr))
  case atStart=>exact ⟨0,by omega,rfl,rfl,HV2,Hd (Kp.refl _ _)⟩
  case round =>
   clear HV2
   obtain ⟨I,hI,rfl,rfl,HV,HK⟩:=hrel
   have hsr:=HK.out.size
   have E2:=HK.out.heap D2.out (by simp;omega)
   have z0:=cOH E2 (j:=0) rfl
   have z1:=cOH E2 (j:=1) rfl
   have z2:=cOH E2 (j:=2) rfl
   have hlr:=lOH E2
   clear E2
   go_wp2_with fail
   refine (HBB.out _).mono ?_
   rintro e w3 ⟨rfl,hb3⟩
   have hs3:=hb3.size
   have HK3:Hid (Kp [mg] w2 w3):=Hd (HK.out.trans (Kp.of_below hb3))
   have HV3:=Hd (HV.out.below hb3)
   have E2:=HK3.out.heap D2.out (by simp;omega)
   clear z0 z1 z2 hlr hb3 HV HK
   have z0:=cOH E2 (j:=0) rfl
   have z1:=cOH E2 (j:=1) rfl
   have z2:=cOH E2 (j:=2) rfl
   have hlr:=lOH E2
   clear E2
   by_cases hlt:I < B
   ·go_wp2_with fail
    refine (HBB.out _).mono ?_
    rintro e w4 ⟨rfl,hb4⟩
    have hs4:=hb4.size
    have HK4:Hid (Kp [mg] w2 w4):=Hd (HK3.out.trans (Kp.of_below hb4))
    have HV4:=Hd (HV3.out.below hb4)
    have hmkB:=HMKB.out
    obtain ⟨w5,hw5⟩:∃ w5,w5=w4.alloc (.cells (Array.replicate B (.int .u8 0)) 5):=⟨_,rfl⟩
    obtain ⟨og,hog⟩:∃ og,w4.heap.size=og:=⟨_,rfl⟩
    have hv5:View w5 og B (fun _=>0):=by rw [hw5,← hog];exact view_zeros (nwA _ _)
    have hb5:Below w4.heap.size w4 w5:=by rw [hw5];exact (Below.refl _ _).alloc (Nat.le_refl _) _
    have hs5:=hb5.size
    clear z0 z1 z2 hlr hb4
    go_upto_region 6 with fail
    rw [← hw5]
    clear hw5 hmkB
    obtain ⟨c1,f1⟩:=hv5.2 I hlt
    have hgl5:=hv5.1
    have i1:(0:Int)≤(I:Int)∧(I:Int) < (B:Int):=by omega
    have hv6:=hv5.set hlt 1
    obtain ⟨w6,hw6⟩:∃ w6,w6=w5.setCell ⟨og,I,none⟩ (.int .u8 1):=⟨_,rfl⟩
    have hk6:Kp [og] w5 w6:=by rw [hw6];exact (Kp.refl _ _).setCell (.inl (by simp)) _
    have hv6:View w6 og B (fun i=>(unitL B I).getD i 0):=by
     rw [hw6]
     refine View.congr hv6 fun j hj=>?_
     exact (rowF_get (fun j=>if j=I then (1:GF) else 0) hj).symm
    have HU6:Hid (GRd w6 (.slice (some ⟨og,0,none⟩) B B) (unitL B I)):=Hd (View.list hv6 (unitL_len _ _) (Nat.le_refl _))
    have HK6:Hid (Kp [mg] w2 w6):=Hd (HK4.out.trans ((Kp.of_below hb5).step hk6 (fun x hx=>.inr (by simp at hx;omega))))
    have HV6:Hid (View w6 mg P (flat B (accQ A I 0))):=Hd ((HV4.out.below hb5).kp hk6 (by simp;have:=HV4.out.1;omega))
    have hs6:=hk6.size
    have hog6:=hv6.1
    have hog2:w2.heap.size≤og:=by omega
    clear hv5 hb5 hk6 hv6 hog HK3 HV3 HK4 HV4
    go_upto_region 7 with fail
    rw [← hw6]
    clear hw6 c1 f1 i1 hgl5
    go_wp2
    go_loopg [11] K (fun gk j wr=>∃ J:Nat,J≤K∧gk=K - J∧j=.int .i64 J∧Hid (View wr mg P (flat B (accQ A I (J * D))))∧Hid (Kp [mg] w6 wr))
    case atStart=>exact ⟨0,by omega,rfl,rfl,Hd (by rw [Nat.zero_mul];exact HV6.out),Hd (Kp.refl _ _)⟩
    case round =>
     clear HV6
     obtain ⟨J,hJ,rfl,rfl,HV,HK⟩:=hrel
     have hsr:=HK.out.size
     by_cases hltj:J < K
     ·obtain ⟨x,hx⟩:∃ x,ns[J]? = some x:=⟨_,List.getElem?_eq_getElem (by rw [HNL.out];exact hltj)⟩
      have hxr:=HNR.out x (List.mem_of_getElem? hx)
      obtain ⟨jn,rfl⟩:∃ jn:Nat,x=(jn:Int):=⟨x.toNat,by omega⟩
      have hxd:ns.getD J 0=(jn:Int):=by rw [List.getD_eq_getElem?_getD,hx];rfl
      have hnr:IRd wr (.slice (some ⟨bn,on,none⟩) K cn) ns:=IRd.kp (IRd.kp HN2.out HK6.out (fun b hb hm=>by cases hb;simp at hm;omega)) HK.out (fun b hb hm=>by cases hb;simp at hm;omega)
      have c0:wr.cell? ⟨bn,on+J,none⟩=some (.int .i64 jn):=IRd.cells hnr J _ hx
      have hur:GRd wr (.slice (some ⟨og,0,none⟩) B B) (unitL B I):=HU6.out.kp HK.out (fun k hk hm=>by simp [Value.ownBlock] at hk hm;omega)
      have hKA:Kp [mg] w2 wr:=HK6.out.trans HK.out
      have E2:=hKA.heap D2.out (by simp;omega)
      have z0:=cOH E2 (j:=0) rfl
      have z1:=cOH E2 (j:=1) rfl
      have z2:=cOH E2 (j:=2) rfl
      have hlr:=lOH E2
      have hpsi:=fun W=>rpsi_any N K D jn W (by omega) (by omega)
      unfold R5PowPost at hpsi
      obtain ⟨xx,hxx⟩:∃ xx,pw GF.two jn=xx:=⟨_,rfl⟩
      rw [hxx] at hpsi
      have HPSI:=Hd hpsi
      obtain ⟨row,hrow⟩:∃ row,mShare K D (unitL B I) xx=row:=⟨_,rfl⟩
      have hrl:row.length=D:=by rw [← hrow];exact mShare_len _ _ _ _
      have hro:∀ (b b2 cap:Nat) (W:World),View W b D (fun c=>pw xx c)→View W b2 (D * D) (flat D (mM K D (unitL B I)))→Calls Tryz.prog 44 #[.agg #[.int .i64 1,.int .i64 D,.slice (some ⟨b,0,none⟩) D cap],.agg #[.int .i64 D,.int .i64 D,.slice (some ⟨b2,0,none⟩) (D * D) (D * D)]] W fun e w' =>
       ∃ b3,e=.returned (.tuple #[.agg #[.int .i64 1,.int .i64 D,.slice (some ⟨b3,0,none⟩) D D],.int .i64 0])∧W.heap.size≤b3∧b3 < w'.heap.size∧GRd w' (.slice (some ⟨b3,0,none⟩) D D) row∧Below W.heap.size W w':=fun b b2 cap W hv hm=>by
       rw [← hrow]
       exact rrow_any K D (unitL B I) xx b b2 cap W (by omega) hv hm
      have HROW:=Hd hro
      have hma:∀ W,Below wr.heap.size wr W→Calls Tryz.prog 46 #[rb N K D,.slice (some ⟨og,0,none⟩) B B] W (fun e w'=>∃ b,e=.returned (.agg #[.int .i64 D,.int .i64 D,.slice (some ⟨b,0,none⟩) (D * D) (D * D)])∧W.heap.size≤b∧View w' b (D * D) (flat D (mM K D (unitL B I)))∧Below W.heap.size W w'):=fun W hW=>by
       have:=rmat_any W N K D _ (unitL B I) (by omega) (hur.below hW) (by rw [unitL_len,HQ.out.2.1])
       exact this
      have HMAT:=Hd hma
      have HVA:Hid (∀ k,k < D→row.getD k 0=A (J * D+k) I):=Hd fun k hk=>by
       have e1:(J * D+k) / D=J:=by rw [Nat.mul_comm,Nat.mul_add_div (by omega),Nat.div_eq_of_lt hk,Nat.add_zero]
       have e2:(J * D+k) % D=k:=by rw [Nat.mul_comm,Nat.mul_add_mod,Nat.mod_eq_of_lt hk]
       rw [← HA.out]
       unfold msgA
       rw [HQ.out.2.1,e1,e2]
       show row.getD k 0=mSh K D (unitL B I) (pw GF.two (ns.getD J 0).toNat) k
       rw [hxd,Int.toNat_natCast,hxx,← hrow]
       exact rowF_get _ hk
      have HRL:=Hd hrl
      have i1:(0:Int)≤(J:Int)∧(J:Int) < (K:Int):=by omega
      obtain ⟨kp,hkp⟩:∃ kp:Nat→Bool,∀ j,kp j=true↔j < wr.heap.size:=⟨fun j=>decide (j < wr.heap.size),by simp⟩
      have k1:kp w.heap.size=true:=(hkp _).2 hlr
      have k2:kp bn=true:=(hkp _).2 (by omega)
      have HKP:=Hd hkp
      clear hx hxr hxd hnr hur hKA E2 hpsi hxx hrow hrl hro hma hkp
      go_upto_region 10 with fail
      rename_i Qx hKx
      refine wp_conseq (K1:=MsgK2 (rb N K D) (.slice (some ⟨bn,on,none⟩) K cn) (.slice (some ⟨gd,od,none⟩) R cd) (.pointer (some ⟨w.heap.size,0,none⟩)) (.pointer (some ⟨mb,0,none⟩)) (.int .i64 I) (.slice (some ⟨og,0,none⟩) B B) (.int .i64 J) (.int .i64 I) (.agg #[.int .i64 N,.int .i64 K,.int .i64 D]) (.int .i64 B) (.bool true) u38 u39 (.agg #[.int .i64 N,.int .i64 K,.int .i64 D]) (.int .i64 B) (.slice (some ⟨og,0,none⟩) B B) (.slice (some ⟨og,0,none⟩) B B) (.int .i64 I) (.pointer (some ⟨og,I,none⟩)) u D row wr) ?reg ?rest
      case reg =>
       have hgr:=fun (w0 W:World) (p:Addr) (hp:(fun kk=>kp kk=true) p.block)=>g_C (w0:=w0) (keep:=(fun kk=>kp kk=true)) W hp
       refine w_T (fun kk=>kp kk=true) [5,8,9,13,14] (.sq [0,1,2,3,4,6,7] (.fork 5 (.fork 8 (.fork 9 (.sq [10,11,12,13,14,15] .done) 13 (.sq [9,10,11,12,14,15] .done)) 13 (.sq [8,9,10,11,12,14,15] .done)) 13 (.sq [5,8,9,10,11,12,14,15] .done))) (by kernel_rfl) (by kernel_rfl) ?_
       simp only [Tr.sq,List.foldr_cons,List.foldr_nil,slimTr,slimStep,Oper.slim,List.contains_cons,List.contains_nil,Option.map_none,Option.map_some,List.getElem?_toArray,List.getElem?_cons_zero,List.getElem?_cons_succ,Option.bind_some,beq_self_eq_true,Bool.or_false,Nat.reduceBEq,Nat.reduceAdd,Nat.zero_add]
       repeat' first | ((with_reducible refine w_I ?_);first | (with_reducible refine w_D ?_) | (with_reducible refine wpSlimT_fork ?_ ?_) | ((with_reducible refine w_S (fun K hK=>?_));go_simp;first | (refine hK _ _ ?_;clear hK K) | (refine ⟨by (intro kk hkk;first | (simp (disch:=(simp;omega)) only [h_D,h_N,h_A,h_S];done) | (simp [h_D,h_N,h_I,hkk];done) | (have hkk2:=(HKP.out kk).1 hkk;simp (disch:=(first | (simp;done) | (simp;omega) | omega | exact hkk2.2)) only [h_D,h_N,h_A,h_S];first | done | exact hbx.block kk hkk2.1 | exact hbd.block kk hkk2 | exact hbb.block kk hkk2 | exact hba.block kk hkk2)),hK _ _ ?_⟩;clear hK K) | (go_at_call 45;(with_reducible refine (HPSI.out _).mono ?_);rintro e wa ⟨b,cap,rfl,hb,hv,-,hba0⟩;have hba:Below wr.heap.size wr wa:=belTrans (by (repeat' (first | (with_reducible exact RowKit.Below.refl _ _) | (with_reducible assumption) | (with_reducible refine RowKit.Below.drew ?_) | (with_reducible refine RowKit.Below.alloc ?_ ?_ _) | omega | (simp;done) | (simp;omega)))) hba0;have hsa:=hba.size;have hvl:=hv.1;(try (have hz:wa.heap[wr.heap.size]? = some (.cells #[.int .i64 0,.int .i64 0,.slice none 0 0] 96 (0,0)):=keepB hba0 (nwA wr _)));refine ⟨_,rfl,(fun kk hkk=>hba.block kk ((HKP.out kk).1 hkk)),hK _ _ ?_⟩;clear hba0 hb hK K) | (go_at_call 46;(with_reducible refine (HMAT.out _ (by (repeat' (first | (with_reducible exact RowKit.Below.refl _ _) | (with_reducible assumption) | (with_reducible refine RowKit.Below.drew ?_) | (with_reducible refine RowKit.Below.alloc ?_ ?_ _) | omega | (simp;done) | (simp;omega))))).mono ?_);rintro e wb ⟨b2,rfl,hb2,hv2,hbb0⟩;have hbb:Below wr.heap.size wr wb:=belTrans (by (repeat' (first | (with_reducible exact RowKit.Below.refl _ _) | (with_reducible assumption) | (with_reducible refine RowKit.Below.drew ?_) | (with_reducible refine RowKit.Below.alloc ?_ ?_ _) | omega | (simp;done) | (simp;omega)))) hbb0;have hsb:=hbb.size;have hab:Below wa.heap.size wa wb:=belTrans (by (repeat' (first | (with_reducible exact RowKit.Below.refl _ _) | (with_reducible assumption) | (with_reducible refine RowKit.Below.drew ?_) | (with_reducible refine RowKit.Below.alloc ?_ ?_ _) | omega | (simp;done) | (simp;omega)))) hbb0;have hsab:=hab.size;have HRW:=Hd (fun W (hW:Below wb.heap.size wb W)=>HROW.out b b2 cap W ((hv.below hab).below hW) (hv2.below hW));(first | (have hz2:wb.heap[wr.heap.size]? = some (.cells #[.int .i64 0,.int .i64 0,.slice none 0 0] 96 (0,0)):=keepB hbb0 hz) | (have hz3:wb.heap[wa.heap.size]? = some (.cells #[.int .i64 0,.int .i64 0,.slice none 0 0] 96 (0,0)):=keepB hbb0 (nwA wa _)) | skip);refine ⟨_,rfl,(fun kk hkk=>hbb.block kk ((HKP.out kk).1 hkk)),hK _ _ ?_⟩;clear hbb0 hb2 hK K) | (go_at_call 44;(with_reducible refine (HRW.out _ (by (repeat' (first | (with_reducible exact RowKit.Below.refl _ _) | (with_reducible assumption) | (with_reducible refine RowKit.Below.drew ?_) | (with_reducible refine RowKit.Below.alloc ?_ ?_ _) | omega | (simp;done) | (simp;omega))))).mono ?_);rintro e wd ⟨b3,rfl,hb3,hl3,hg3,hbd0⟩;have hbd:Below wr.heap.size wr wd:=belTrans (by (repeat' (first | (with_reducible exact RowKit.Below.refl _ _) | (with_reducible assumption) | (with_reducible refine RowKit.Below.drew ?_) | (with_reducible refine RowKit.Below.alloc ?_ ?_ _) | omega | (simp;done) | (simp;omega)))) hbd0;have hsd:=hbd.size;have hwb3:wb.heap.size≤b3:=(by first | exact hb3 | (simp at hb3;omega));(first | (have hzz:wd.heap[wr.heap.size]? = some (.cells #[.int .i64 0,.int .i64 0,.slice none 0 0] 96 (0,0)):=keepB hbd0 hz2;have q0:wd.cell? ⟨wr.heap.size,0,none⟩=some (.int .i64 0):=cOH hzz rfl;have q1:wd.cell? ⟨wr.heap.size,1,none⟩=some (.int .i64 0):=cOH hzz rfl;have q2:wd.cell? ⟨wr.heap.size,2,none⟩=some (.slice none 0 0):=cOH hzz rfl;have q3:=fOH hzz 0;have q4:=fOH hzz 1;have q5:=fOH hzz 2;have q6:=lOH hzz) | (have hzz:wd.heap[wa.heap.size]? = some (.cells #[.int .i64 0,.int .i64 0,.slice none 0 0] 96 (0,0)):=keepB hbd0 hz3;have q0:wd.cell? ⟨wa.heap.size,0,none⟩=some (.int .i64 0):=cOH hzz rfl;have q1:wd.cell? ⟨wa.heap.size,1,none⟩=some (.int .i64 0):=cOH hzz rfl;have q2:wd.cell? ⟨wa.heap.size,2,none⟩=some (.slice none 0 0):=cOH hzz rfl;have q3:=fOH hzz 0;have q4:=fOH hzz 1;have q5:=fOH hzz 2;have q6:=lOH hzz) | (have hzz:wd.heap[wb.heap.size]? = some (.cells #[.int .i64 0,.int .i64 0,.slice none 0 0] 96 (0,0)):=keepB hbd0 (nwA wb _);have q0:wd.cell? ⟨wb.heap.size,0,none⟩=some (.int .i64 0):=cOH hzz rfl;have q1:wd.cell? ⟨wb.heap.size,1,none⟩=some (.int .i64 0):=cOH hzz rfl;have q2:wd.cell? ⟨wb.heap.size,2,none⟩=some (.slice none 0 0):=cOH hzz rfl;have q3:=fOH hzz 0;have q4:=fOH hzz 1;have q5:=fOH hzz 2;have q6:=lOH hzz) | skip);refine ⟨_,rfl,(fun kk hkk=>hbd.block kk ((HKP.out kk).1 hkk)),hK _ _ ?_⟩;clear hbd0 hK K))) | fail
       all_goals clear hgr
       ·exact ⟨wd.heap.size,b3,by kernel_rfl,hbd.alloc hsd _,⟨by omega,by omega,by omega⟩,nwA _ _,hg3.below ((Below.refl _ _).alloc (Nat.le_refl _) _)⟩
       ·have hb4:wb.heap.size+1≤b3:=by simpa using hb3
        exact ⟨wb.heap.size,b3,by kernel_rfl,hbd.trans ((kp_set3 wd _ _ _ _).below hsd (by simp;omega)),⟨by omega,by omega,by omega⟩,set3 hzz,hg3.kp (kp_set3 wd _ _ _ _) (fun k hk hm=>by simp [Value.ownBlock] at hk hm;omega)⟩
       ·have hl4:=lOH hz3
        exact ⟨wa.heap.size,b3,by kernel_rfl,hbd.trans ((kp_set3 wd _ _ _ _).below hsd (by simp;omega)),⟨by omega,by omega,by omega⟩,set3 hzz,hg3.kp (kp_set3 wd _ _ _ _) (fun k hk hm=>by simp [Value.ownBlock] at hk hm;omega)⟩
       ·have hl4:=lOH hz
        exact ⟨wr.heap.size,b3,by kernel_rfl,hbd.trans ((kp_set3 wd _ _ _ _).below hsd (by simp)),⟨by omega,by omega,by omega⟩,set3 hzz,hg3.kp (kp_set3 wd _ _ _ _) (fun k hk hm=>by simp [Value.ownBlock] at hk hm;omega)⟩
      case rest =>
       intro a W h
       obtain ⟨sb,g,ha,hbW,⟨hsb,hg1,hne2⟩,hsx,hrd⟩:=h
       refine hKx _ _ ?_
       obtain ⟨s,hs⟩:∃ s,a={ tmps:=msgFr2 (rb N K D) (.slice (some ⟨bn,on,none⟩) K cn) (.slice (some ⟨gd,od,none⟩) R cd) (.pointer (some ⟨w.heap.size,0,none⟩)) (.pointer (some ⟨mb,0,none⟩)) (.int .i64 I) (.slice (some ⟨og,0,none⟩) B B) (.int .i64 J) (.pointer (some ⟨sb,0,none⟩)) (.int .i64 I) (.agg #[.int .i64 N,.int .i64 K,.int .i64 D]) (.int .i64 B) (.bool true) u38 u39 (.agg #[.int .i64 N,.int .i64 K,.int .i64 D]) (.int .i64 B) (.slice (some ⟨og,0,none⟩) B B) (.slice (some ⟨og,0,none⟩) B B) (.int .i64 I) (.pointer (some ⟨og,I,none⟩)) u s,defers:=[] }:=⟨_,ha⟩
       subst hs
       clear ha hKx z0 z1 z2 k1 k2 c0 i1 HKP HPSI HROW HMAT
       obtain ⟨w7,rfl⟩:∃ w7:World,w7=W:=⟨_,rfl⟩
       have hs7:=hbW.size
       have HK7:Hid (Kp [mg] w6 w7):=Hd (HK.out.trans (Kp.of_below hbW))
       have HV7:Hid (View w7 mg P (flat B (accQ A I (J * D+0)))):=Hd (HV.out.below hbW)
       have DS:=Hd hsx
       have HRD:=Hd hrd
       have hls:=lOH hsx
       have hgg:g < w7.heap.size:=by
        obtain ⟨y,hy⟩:∃ y,row[0]? = some y:=⟨_,List.getElem?_eq_getElem (by rw [HRL.out];omega)⟩
        obtain ⟨_,_,e,h,-⟩:=hrd.at hy
        cases e
        exact h
       clear hsx hrd hbW HV HK
       unfold msgFr2
       go_wp2
       go_loopg [14] D (fun gk k wr=>∃ k':Nat,k'≤D∧gk=D - k'∧k=.int .i64 k'∧Hid (View wr mg P (flat B (accQ A I (J * D+k'))))∧Hid (Kp [mg] w7 wr))
       case atStart=>exact ⟨0,by omega,rfl,rfl,HV7,Hd (Kp.refl _ _)⟩
       case round =>
        clear HV7
        obtain ⟨k,hk',rfl,rfl,HV,HK⟩:=hrel
        have hsr:=HK.out.size
        have hKB:Kp [mg] w2 wr:=HK6.out.trans (HK7.out.trans HK.out)
        have E2:=hKB.heap D2.out (by simp;omega)
        have z0:=cOH E2 (j:=0) rfl
        have z1:=cOH E2 (j:=1) rfl
        have z2:=cOH E2 (j:=2) rfl
        have hlr:=lOH E2
        by_cases hltk:k < D
        ·have EM:=hKB.heap DM.out (by simp;omega)
         have m2:=cOH EM (j:=2) rfl
         have ES:=HK.out.heap DS.out (by simp;omega)
         have s2:=cOH ES (j:=2) rfl
         have hlm:=lOH EM
         have hls:=lOH ES
         obtain ⟨y,hy,hyd⟩:=at_get (l:=row) (i:=k) (by rw [HRL.out];exact hltk)
         obtain ⟨_,_,e,hgw,cy⟩:=(HRD.out.kp HK.out (fun k hk hm=>by simp [Value.ownBlock] at hk hm;omega)).at hy
         cases e
         rw [Nat.zero_add] at cy
         obtain ⟨yn,hyn⟩:∃ yn,y.n=yn:=⟨_,rfl⟩
         rw [hyn] at cy
         obtain ⟨p1,hp1⟩:∃ p1,J * D=p1:=⟨_,rfl⟩
         obtain ⟨p2,hp2⟩:∃ p2,p1+k=p2:=⟨_,rfl⟩
         obtain ⟨q1,hq1⟩:∃ q1,p2 * B=q1:=⟨_,rfl⟩
         obtain ⟨q2,hq2⟩:∃ q2,q1+I=q2:=⟨_,rfl⟩
         have hp2R:p2 < R:=by rw [← hp2,← hp1,← HQ.out.1];exact off_lt hltj hltk
         have hq2P:q2 < P:=by rw [← hq2,← hq1,← HQ.out.2.2];exact off_lt hp2R hlt
         have x1:(J:Int) * (D:Int)=(p1:Int):=by rw [← hp1];simp
         have x2:(p1:Int)+(k:Int)=(p2:Int):=by omega
         have x3:(p2:Int) * (B:Int)=(q1:Int):=by rw [← hq1];simp
         have x4:(q1:Int)+(I:Int)=(q2:Int):=by omega
         have y1:IntKind.i64.wrap (p1:Int)=(p1:Int):=IntWalk.i64_in _ (by omega)
         have y2:IntKind.i64.wrap (p2:Int)=(p2:Int):=IntWalk.i64_in _ (by omega)
         have y3:IntKind.i64.wrap (q1:Int)=(q1:Int):=IntWalk.i64_in _ (by omega)
         have y4:IntKind.i64.wrap (q2:Int)=(q2:Int):=IntWalk.i64_in _ (by omega)
         have i1:(0:Int)≤(q2:Int)∧(q2:Int) < (P:Int):=by omega
         have i2:(0:Int)≤(k:Int)∧(k:Int) < (D:Int):=by omega
         have hva:=HVA.out k hltk
         rw [hyd,hp1,hp2] at hva
         have HST:Hid (∀ W,View W mg P (flat B (accQ A I (p1+k)))→View (W.setCell ⟨mg,q2,none⟩ (.int .u8 (yn:Nat))) mg P (flat B (accQ A I (p1+(k+1))))):=Hd fun W hW=>by
          have h:=hW.set hq2P y
          rw [hyn] at h
          refine View.congr h fun t ht=>?_
          rw [← HQ.out.2.2] at ht
          obtain ⟨r,c,hr,hc,rfl⟩:=off_ex (by omega) ht
          rw [flat_at (by omega) _ _ _ hc,flat_at (by omega) _ _ _ hc,← Nat.add_assoc,accQ_step,hp2]
          by_cases hh:r=p2∧c=I
          ·obtain ⟨rfl,rfl⟩:=hh
           rw [if_pos (by rw [hq1,hq2]),if_pos ⟨rfl,rfl⟩,hva]
          ·rw [if_neg hh,if_neg (fun e=>hh (off_eq hc hlt (by rw [e,← hq2,← hq1])))]
         rw [hp1] at HV
         obtain ⟨kp,hkp⟩:∃ kp:Nat→Bool,∀ j,kp j=true↔j < wr.heap.size∧j ≠ mg:=⟨fun j=>decide (j < wr.heap.size∧j ≠ mg),by simp⟩
         have k1:kp w.heap.size=true:=(hkp _).2 ⟨hlr,by omega⟩
         have k2:kp mb=true:=(hkp _).2 ⟨hlm,by omega⟩
         have k3:kp sb=true:=(hkp _).2 ⟨hls,by omega⟩
         have k4:kp g=true:=(hkp _).2 ⟨hgw,by omega⟩
         have HKP:=Hd hkp
         clear hKB E2 EM ES hy hyd hyn hp2 hq1 hq2 hva hkp
         go_upto_region 14 with fail
         have hgr:=fun (w0 W:World) (p:Addr) (hp:(fun kk=>kp kk=true) p.block)=>g_C (w0:=w0) (keep:=(fun kk=>kp kk=true)) W hp
         refine w_T (fun kk=>kp kk=true) [9,19] (.sq [0,1,2,3,4,5,6,7,8,11,13,14,15,16,17,9,10,12,18,19] .done) (by kernel_rfl) (by kernel_rfl) ?_
         simp only [Tr.sq,List.foldr_cons,List.foldr_nil,slimTr,slimStep,Oper.slim,List.contains_cons,List.contains_nil,Option.map_none,Option.map_some,List.getElem?_toArray,List.getElem?_cons_zero,List.getElem?_cons_succ,Option.bind_some,beq_self_eq_true,Bool.or_false,Nat.reduceBEq,Nat.reduceAdd,Nat.zero_add]
         repeat' first | ((with_reducible refine w_I ?_);first | (with_reducible refine w_D ?_) | ((with_reducible refine w_S (fun K hK=>?_));go_simp;first | (refine hK _ _ ?_;clear hK K) | (refine ⟨by (intro kk hkk;first | (simp (disch:=(simp;omega)) only [h_D,h_N,h_A,h_S];done) | (simp [h_D,h_N,h_I,hkk];done) | (have hkk2:=(HKP.out kk).1 hkk;simp (disch:=(first | (simp;done) | (simp;omega) | omega | exact hkk2.2)) only [h_D,h_N,h_A,h_S];first | done | exact hbx.block kk hkk2.1 | exact hbd.block kk hkk2 | exact hbb.block kk hkk2 | exact hba.block kk hkk2)),hK _ _ ?_⟩;clear hK K) | (go_at_call 35;(with_reducible refine (HBB.out _).mono ?_);rintro e wx ⟨rfl,hbx0⟩;have hbx:Below wr.heap.size wr wx:=belTrans (by (repeat' (first | (with_reducible exact RowKit.Below.refl _ _) | (with_reducible assumption) | (with_reducible refine RowKit.Below.drew ?_) | (with_reducible refine RowKit.Below.alloc ?_ ?_ _) | omega | (simp;done) | (simp;omega)))) hbx0;have hvx:=HV.out.below hbx;have hsx:=hbx.size;obtain ⟨cg,fg⟩:=hvx.2 q2 hq2P;have hgx:=hvx.1;refine ⟨_,rfl,(fun kk hkk=>hbx.block kk ((HKP.out kk).1 hkk).1),hK _ _ ?_⟩;clear hbx0 hK K))) | fail
         clear hgr
         all_goals
          have HVN:Hid (View (wx.setCell ⟨mg,q2,none⟩ (.int .u8 (yn:Nat))) mg P (flat B (accQ A I (J * D+(k+1))))):=Hd (by rw [hp1];exact HST.out wx hvx)
          have HKN:Hid (Kp [mg] w7 (wx.setCell ⟨mg,q2,none⟩ (.int .u8 (yn:Nat)))):=Hd ((HK.out.trans (Kp.of_below hbx)).setCell (.inl (by simp)) _)
          clear hvx hp1
          go_wp2
          go_roundg (D - (k+1))
          case measure=>omega
          case rel=>exact ⟨k+1,by omega,rfl,by go_num,by first | exact HVN | exact Hd HVN.out.drew,by first | exact HKN | exact Hd HKN.out.drew⟩
        ·obtain rfl:k=D:=by omega
         have HV2:Hid (View wr mg P (flat B (accQ A I ((J+1) * k)))):=Hd (by rw [Nat.succ_mul];exact HV.out)
         have HK2:Hid (Kp [mg] w6 wr):=Hd (HK7.out.trans HK.out)
         clear E2 hKB
         go_wp2
         go_roundg (K - (J+1))
         case measure=>omega
         case rel=>exact ⟨J+1,by omega,rfl,by go_num,HV2,HK2⟩
     ·have hJK:K=J:=by omega
      have HV2:Hid (View wr mg P (flat B (accQ A (I+1) 0))):=Hd (HV.out.congr fun t ht=>by
       rw [← HQ.out.2.2] at ht
       obtain ⟨r,c,hr,hc,rfl⟩:=off_ex (by omega) ht
       rw [flat_at (by omega) _ _ _ hc,flat_at (by omega) _ _ _ hc]
       refine accQ_next ?_
       rw [← hJK,HQ.out.1]
       exact hr)
      have HK2:Hid (Kp [mg] w2 wr):=Hd (HK6.out.trans HK.out)
      go_wp2
      go_roundg (B - (I+1))
      case measure=>omega
      case rel=>exact ⟨I+1,by omega,rfl,by go_num,HV2,HK2⟩
   ·obtain rfl:I=B:=by omega
    have hva:View w3 mg P (flat I A):=HV3.out.congr fun t ht=>by
     rw [← HQ.out.2.2] at ht
     obtain ⟨r,c,hr,hc,rfl⟩:=off_ex (by omega) ht
     rw [flat_at (by omega) _ _ _ hc,flat_at (by omega) _ _ _ hc]
     exact accQ_all hc
    have hyr:GRd w3 (.slice (some ⟨gd,od,none⟩) R cd) ys:=HY2.out.kp HK3.out (fun k hk hm=>by simp [Value.ownBlock] at hk hm;omega)
    have HSOL:=Hd (r5solve_any R I P mg P gd od cd A ys w3 HQ.out.2.2 (by omega) (by omega) (Nat.le_refl _) hva hyr)
    unfold R5SolPost at HSOL
    have EM:=HK3.out.heap DM.out (by simp;omega)
    have m0:=cOH EM (j:=0) rfl
    have m1:=cOH EM (j:=1) rfl
    have m2:=cOH EM (j:=2) rfl
    have hlm3:=lOH EM
    have HB3:Hid (Below w.heap.size w w3):=Hd (HB2.out.trans (HK3.out.below hs2 (by simp;omega)))
    have hD1:0 < D:=by omega
    clear hva hyr EM HV3
    go_wp2_with fail
    refine HSOL.out.mono ?_
    rintro e w9 ⟨hb9,⟨v,x,rfl,ho,hxl,hiff⟩ | ⟨rfl,hbad⟩⟩
    ·obtain ⟨a1,e1,hvf,-⟩:=ho.form
     rw [hxl] at hvf
     have hs9:=hb9.size
     have hs3:=HB3.out.size
     have HP:Hid (RMsgPost10 K D (fun j=>pw GF.two (ns.getD j 0).toNat) ys w (.returned (.tuple #[v,.bool true])) (w9.alloc (.cells #[.int .i64 I,.int .i64 1,v] 96))):=Hd (by
      have hb10:Below w9.heap.size w9 (w9.alloc (.cells #[.int .i64 I,.int .i64 1,v] 96)):=(Below.refl _ _).alloc (Nat.le_refl _) _
      refine ⟨(HB3.out.trans (hb9.mono hs3)).trans (hb10.mono (by omega)),.inl ⟨v,x,rfl,(ho.below hb10).mono hs3,by rw [hxl,HQ.out.2.1],?_⟩⟩
      refine (msgA_iff (Y:=fun r=>ys.getD r 0) hD1).1 ?_
      rw [HQ.out.1,HQ.out.2.1,HA.out]
      exact (hiff _).2 fun k _=>rfl)
     subst hvf
     clear hiff ho hxl hb9
     go_wp2
     go_ret2
     exact HP.out
    ·have hs9:=hb9.size
     have hs3:=HB3.out.size
     have HP:Hid (RMsgPost10 K D (fun j=>pw GF.two (ns.getD j 0).toNat) ys w (.returned (.tuple #[.slice none 0 0,.bool false])) (w9.alloc (.cells #[.int .i64 0,.int .i64 0,.slice none 0 0] 96))):=Hd (by
      have hb10:Below w9.heap.size w9 (w9.alloc (.cells #[.int .i64 0,.int .i64 0,.slice none 0 0] 96)):=(Below.refl _ _).alloc (Nat.le_refl _) _
      refine ⟨(HB3.out.trans (hb9.mono hs3)).trans (hb10.mono (by omega)),.inr ⟨rfl,?_⟩⟩
      rcases hbad with ⟨x,⟨p,hp,hx⟩,h⟩ | h
      ·refine .inl ⟨rowF x I,by rw [rowF_len,HQ.out.2.1],⟨p,by rw [HQ.out.2.1];exact hp,by rw [rowF_get _ hp];exact hx⟩,?_⟩
       refine (msgA_iff (Y:=fun _=>0) hD1).1 ?_
       rw [HQ.out.1,HQ.out.2.1,HA.out]
       intro r hr
       refine Eq.trans ?_ (h r hr)
       exact sm_congr fun q hq=>by rw [rowF_get _ hq]
      ·refine .inr fun m _ hm=>h (fun q=>m.getD q 0) ?_
       have:=(msgA_iff (Y:=fun r=>ys.getD r 0) hD1).2 hm
       rw [HQ.out.1,HQ.out.2.1,HA.out] at this
       exact this)
     clear hbad hb9
     go_wp2
     go_ret2
     exact HP.out
end Go.Proofs.YtcclhhjcejmepaaGreat
