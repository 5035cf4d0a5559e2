/-
  A message's shares, by the program.
-/
import Derived.Test.YtcclhhjcejmepaaGreatZMbOf
import Derived.Test.YtcclhhjcejmepaaGreatZMatG
import Derived.Test.YtcclhhjcejmepaaGreatZAppG
/- A message's shares, by the program. -/
set_option maxRecDepth 100000
set_option maxHeartbeats 8000000
namespace Go.Proofs.YtcclhhjcejmepaaGreat
open Go.RowKit Fld Go.Shelf
set_option linter.unusedVariables false
set_option linter.unusedSimpArgs false

noncomputable def mbSh (n k d:Nat) (m:List GF):List (List GF):=(List.range n).map fun j=>mShare k d m ((pows n).getD j 0)
def MbEncPost (fb n k d:Nat) (m:List GF) (w:World) (e:Ending) (w':World):Prop:=(m.length ≠ mbB k d∧e=.returned (.tuple #[.slice none 0 0,.int .i64 2])∧Below w.heap.size w w') ∨ (m.length=mbB k d∧ShPost fb (mbSh n k d m) w e w')
def encFr (lb sb:Nat) (u:Nat→Value):Array Value:=#[.pointer (some ⟨lb,0,none⟩),u 1,u 2,u 3,u 4,u 5,.pointer (some ⟨sb,0,none⟩),.int .i64 0,u 8,u 9,u 10,u 11,u 12,u 13,u 14,u 15,u 16,u 17,u 18,u 19,u 20,u 21,u 22,u 23,u 24,u 25,u 26,u 27,u 28,u 29,u 30,u 31,u 32,u 33,u 34,u 35,u 36,u 37,u 38,u 39,u 40,u 41,u 42]
def EncK1 (lb fb n d P:Nat) (F:Nat→GF) (w2:World) (a:Act) (W:World):Prop:=∃ sb g,a={ tmps:=encFr lb sb (fun i=>a.tmps.getD i undef),defers:=[] }∧Kp [fb] w2 W∧FOk W fb∧(w2.heap.size≤sb∧w2.heap.size≤g∧sb ≠ g)∧W.heap[sb]? = some (.cells #[.int .i64 n,.int .i64 d,.slice (some ⟨g,0,none⟩) P P] 66 (0,0))∧View W g P F
theorem enc_row (n k d:Nat) (m:List GF) (x:GF) (j:Nat):rowF (fun c=>flat d (mulF d (fun i c=>pw ((pows n).getD i 0) c) (mM k d m)) (j * d+c)) d=mShare k d m ((pows n).getD j 0):=by
 unfold mShare
 refine rowF_cg fun c hc=>?_
 rw [flat_at (by omega) _ _ _ hc]
 unfold mulF mSh
 rw [ev_sm,rowF_len]
 exact sm_congr fun i hi=>by rw [rowF_get _ hi,Fld.mulC]
theorem mbenc_any (w:World) (lb t1 t2 fb pb n k d:Nat) (v1 v2 mv:Value) (m:List GF) (h:MbC w lb t1 t2 fb pb n k d v1 v2) (hn:1≤k∧k≤d∧d < n∧n≤255) (hm:GRd w mv m) (hml:m.length≤1000000) (hma:Apart mv [fb]) :
  Calls Tryz.prog 15 #[.pointer (some ⟨lb,0,none⟩),mv] w (MbEncPost fb n k d m w):=by
 obtain ⟨am,cm,rfl,hcm⟩:=hm.form
 obtain ⟨L,hL⟩:∃ L,m.length=L:=⟨_,rfl⟩
 obtain ⟨B,hB⟩:∃ B,mbB k d=B:=⟨_,rfl⟩
 have hlb:=lOH h.box
 have y2:w.cell? ⟨lb,2,none⟩=some (.int .i64 k):=cOH h.box rfl
 have y3:w.cell? ⟨lb,3,none⟩=some (.int .i64 d):=cOH h.box rfl
 have hbb:=mbb_any w lb k d y2 y3 hlb (by omega)
 rw [hB] at hbb
 have HBB:=Hd hbb
 have H:=Hd h
 have HM:=Hd hm
 have HMA:=Hd hma
 have HLB:=Hd (And.intro hL hB)
 rw [hL] at HM HMA hml hcm ⊢
 clear h hm hma hL hB hbb y2 y3
 go_enter Tryz.func15,Tryz.ntmps15
 go_wp2_with fail
 refine HBB.out.mono ?_
 rintro e w2 ⟨rfl,hb2⟩
 have HB2:=Hd hb2
 clear HBB
 by_cases hLB:L=B
 case neg =>
  have hLB':¬ (L:Int)=(B:Int):=by omega
  have HP:Hid (MbEncPost fb n k d m w (.returned (.tuple #[.slice none 0 0,.int .i64 2])) w2):=Hd (.inl ⟨by rw [HLB.out.1,HLB.out.2];exact hLB,rfl,HB2.out⟩)
  clear hb2
  go_wp2
  go_ret2
  exact HP.out
 subst hLB
 have hll:m.length=mbB k d:=by rw [HLB.out.1,HLB.out.2]
 have hmp:0 < m.length:=by
  rw [hll]
  exact Nat.lt_of_le_of_lt (Nat.zero_le _) (sI_ltB (K:=k) (D:=d) (i:=0) (k:=0) (by omega) (by omega))
 obtain ⟨bb,bo,rfl⟩:∃ bb bo,am=some ⟨bb,bo,none⟩:=by
  obtain ⟨b',o',e,_,_⟩:=HM.out.at (i:=0) (List.getElem?_eq_getElem hmp)
  exact ⟨b',o',e⟩
 have hbf:bb ≠ fb:=by have:=HMA.out bb rfl;simpa using this
 obtain ⟨P,hP⟩:∃ P,n * d=P:=⟨_,rfl⟩
 obtain ⟨D2,hD2⟩:∃ D2,d * d=D2:=⟨_,rfl⟩
 have H2:=Hd (H.out.below hb2)
 have hlb2:=lOH H2.out.box
 have hfl2:=H2.out.tells.ok.lt
 have hplt:=H2.out.psi.1
 have HNE:=Hd H2.out.ne
 have y0:w2.cell? ⟨lb,0,none⟩=some (.pointer (some ⟨fb,0,none⟩)):=cOH H2.out.box rfl
 have y4:w2.cell? ⟨lb,4,none⟩=some (.int .i64 n):=cOH H2.out.box rfl
 have y5:w2.cell? ⟨lb,5,none⟩=some (.int .i64 d):=cOH H2.out.box rfl
 have y6:w2.cell? ⟨lb,6,none⟩=some (.slice (some ⟨pb,0,none⟩) P P):=by rw [← hP];exact cOH H2.out.box rfl
 have hof:∀ W,Below w2.heap.size w2 W→Calls Tryz.prog 41 #[.pointer (some ⟨lb,0,none⟩),.slice (some ⟨bb,bo,none⟩) L cm] W (MbOfPost fb k d m W):=fun W hW=>by
  have:=mbof_any W lb t1 t2 fb pb n k d bb bo cm v1 v2 m (H2.out.below hW) hn (by rw [HLB.out.1];exact (HM.out.below hb2).below hW) hll hbf
  rwa [HLB.out.1] at this
 unfold MbOfPost at hof
 rw [hD2] at hof
 have HOF:=Hd hof
 have hmul:∀ W g1,Kp [fb] w2 W→FOk W fb→w2.heap.size≤g1→View W g1 D2 (flat d (mM k d m))→Calls Tryz.prog 40 #[.pointer (some ⟨fb,0,none⟩),.agg #[.int .i64 n,.int .i64 d,.slice (some ⟨pb,0,none⟩) P P],.agg #[.int .i64 d,.int .i64 d,.slice (some ⟨g1,0,none⟩) D2 D2]] W (MulPost fb n d d (fun i c=>pw ((pows n).getD i 0) c) (mM k d m) W):=fun W g1 hk hf hg hv=>by
  have:=mul3_any fb n d d pb g1 (n * d) (d * d) (fun i c=>pw ((pows n).getD i 0) c) (mM k d m) W hf (by omega) (by omega) (by omega) (H2.out.psi.kp hk (by simpa using HNE.out.2)) (by rw [hD2];exact hv) (Nat.le_refl _) (Nat.le_refl _) HNE.out.2 (by omega)
  rwa [hP,hD2] at this
 unfold MulPost at hmul
 rw [hP] at hmul
 have HMUL:=Hd hmul
 have HPP:=Hd hP
 obtain ⟨kp,hkp⟩:∃ kp:Nat→Bool,∀ j,kp j=true↔j < w2.heap.size∧j ≠ fb:=⟨fun j=>decide (j < w2.heap.size∧j ≠ fb),by simp⟩
 have k1:kp lb=true:=(hkp _).2 ⟨hlb2,HNE.out.1⟩
 have HKP:=Hd hkp
 have HLL:=Hd hll
 clear hof hmul hP hD2 hkp hll hmp hb2
 go_upto_region 5 with fail
 rename_i Qx hKx
 refine wp_conseq (K1:=EncK1 lb fb n d P (flat d (mulF d (fun i c=>pw ((pows n).getD i 0) c) (mM k d m))) w2) ?reg ?rest
 case reg =>
  have hgr:=fun (w0 W:World) (p:Addr) (hp:(fun kk=>kp kk=true) p.block)=>g_C (w0:=w0) (keep:=(fun kk=>kp kk=true)) W hp
  refine w_T (fun kk=>kp kk=true) [10,11,15,16] (.sq [0,1,2,3,4,5,6,7,8,9] (.fork 10 (.fork 11 (.sq [12,13,14,15,16,17] .done) 15 (.sq [11,12,13,14,16,17] .done)) 15 (.sq [10,11,12,13,14,16,17] .done))) (by kernel_rfl) (by kernel_rfl) ?_
  simp only [Tr.sq,List.foldr_cons,List.foldr_nil,slimTr,slimStep,Oper.slim,List.contains_cons,List.contains_nil,Option.map_none,Option.map_some,List.getElem?_toArray,List.getElem?_cons_zero,List.getElem?_cons_succ,Option.bind_some,beq_self_eq_true,Bool.or_false,Nat.reduceBEq,Nat.reduceAdd,Nat.zero_add]
  repeat' first | ((with_reducible refine w_I ?_);first | (with_reducible refine w_D ?_) | (with_reducible refine wpSlimT_fork ?_ ?_) | ((with_reducible refine w_S (fun K hK=>?_));go_simp;first | (refine hK _ _ ?_;clear hK K) | (refine ⟨by (intro kk hkk;first | (simp (disch:=(simp;omega)) only [h_D,h_N,h_A,h_S];done) | (simp [h_D,h_N,h_I,hkk];done) | (have hkk2:=(HKP.out kk).1 hkk;simp (disch:=(first | (simp;done) | (simp;omega) | omega)) only [h_D,h_N,h_A,h_S];first | done | exact HKY.out.block kk hkk2.1 (by simpa using hkk2.2) | exact HKX.out.block kk hkk2.1 (by simpa using hkk2.2))),hK _ _ ?_⟩;clear hK K) | (go_at_call 41;(with_reducible refine (HOF.out _ (by (repeat' (first | (with_reducible exact RowKit.Below.refl _ _) | (with_reducible assumption) | (with_reducible refine RowKit.Below.drew ?_) | (with_reducible refine RowKit.Below.alloc ?_ ?_ _) | omega | (simp;done) | (simp;omega))))).mono ?_);rintro e wx ⟨g1,rfl,hg1,hvx,hkx,hfx⟩;have HKX:Hid (Kp [fb] w2 wx):=Hd (Kp.trans (Kp.of_below (by (repeat' (first | (with_reducible exact RowKit.Below.refl _ _) | (with_reducible assumption) | (with_reducible refine RowKit.Below.drew ?_) | (with_reducible refine RowKit.Below.alloc ?_ ?_ _) | omega | (simp;done) | (simp;omega))))) hkx);have HVX:=Hd hvx;have HFX:=Hd hfx;have hsx:=HKX.out.size;have hgx:=hvx.1;have hg1:w2.heap.size≤g1:=(by first | omega | (simp at hg1;omega));(try (have hz:wx.heap[w2.heap.size]? = some (.cells #[.int .i64 0,.int .i64 0,.slice none 0 0] 66 (0,0)):=hkx.heap (nwA w2 _) (by simp;omega)));refine ⟨_,rfl,(fun kk hkk=>HKX.out.block kk ((HKP.out kk).1 hkk).1 (by have:=((HKP.out kk).1 hkk).2;simpa using this)),hK _ _ ?_⟩;clear hvx hkx hfx hK K) | (go_at_call 40;(first | (with_reducible refine (HMUL.out _ _ HKX.out HFX.out hg1 HVX.out).mono ?_) | (with_reducible refine (HMUL.out _ _ (HKX.out.alloc _) (HFX.out.below ((Below.refl _ _).alloc (Nat.le_refl _) _)) hg1 (HVX.out.below ((Below.refl _ _).alloc (Nat.le_refl _) _))).mono ?_));rintro e wy ⟨g2,rfl,hg2,hvy,hky,hfy⟩;(first | (have hz2:wy.heap[w2.heap.size]? = some (.cells #[.int .i64 0,.int .i64 0,.slice none 0 0] 66 (0,0)):=hky.heap hz (by simp;omega);have q0:wy.cell? ⟨w2.heap.size,0,none⟩=some (.int .i64 0):=cOH hz2 rfl;have q1:wy.cell? ⟨w2.heap.size,1,none⟩=some (.int .i64 0):=cOH hz2 rfl;have q2:wy.cell? ⟨w2.heap.size,2,none⟩=some (.slice none 0 0):=cOH hz2 rfl;have q3:=fOH hz2 0;have q4:=fOH hz2 1;have q5:=fOH hz2 2;have q6:=lOH hz2) | (have hz2:wy.heap[wx.heap.size]? = some (.cells #[.int .i64 0,.int .i64 0,.slice none 0 0] 66 (0,0)):=hky.heap (nwA wx _) (by simp;omega);have q0:wy.cell? ⟨wx.heap.size,0,none⟩=some (.int .i64 0):=cOH hz2 rfl;have q1:wy.cell? ⟨wx.heap.size,1,none⟩=some (.int .i64 0):=cOH hz2 rfl;have q2:wy.cell? ⟨wx.heap.size,2,none⟩=some (.slice none 0 0):=cOH hz2 rfl;have q3:=fOH hz2 0;have q4:=fOH hz2 1;have q5:=fOH hz2 2;have q6:=lOH hz2) | skip);have HKY:Hid (Kp [fb] w2 wy):=Hd (by first | exact HKX.out.trans hky | exact (HKX.out.alloc _).trans hky);have HVY:=Hd hvy;have HFY:=Hd hfy;have hgy:=hvy.1;have hsy:=HKY.out.size;have hg3:w2.heap.size≤g2∧wx.heap.size≤g2:=(by first | omega | (simp at hg2;omega));refine ⟨_,rfl,(fun kk hkk=>HKY.out.block kk ((HKP.out kk).1 hkk).1 (by have:=((HKP.out kk).1 hkk).2;simpa using this)),hK _ _ ?_⟩;clear hvy hky hfy hK K))) | fail
  all_goals clear hgr
  all_goals try simp at hg2
  ·exact ⟨wy.heap.size,g2,by kernel_rfl,HKY.out.alloc _,HFY.out.below ((Below.refl _ _).alloc (Nat.le_refl _) _),⟨by omega,by omega,by omega⟩,nwA _ _,HVY.out.below ((Below.refl _ _).alloc (Nat.le_refl _) _)⟩
  ·exact ⟨wx.heap.size,g2,by kernel_rfl,HKY.out.step (kp_set3 _ _ _ _ _) (fun x hx=>.inr (by simp at hx;omega)),HFY.out.kp (kp_set3 _ _ _ _ _) (by simp;omega),⟨by omega,by omega,by omega⟩,set3 hz2,HVY.out.kp (kp_set3 _ _ _ _ _) (by simp;omega)⟩
  ·have hgz:w2.heap.size < g2:=Nat.lt_of_lt_of_le (lOH hz) hg2
   exact ⟨w2.heap.size,g2,by kernel_rfl,HKY.out.step (kp_set3 _ _ _ _ _) (fun x hx=>.inr (by simp at hx;omega)),HFY.out.kp (kp_set3 _ _ _ _ _) (by simp;omega),⟨by omega,by omega,by omega⟩,set3 hz2,HVY.out.kp (kp_set3 _ _ _ _ _) (by simp;omega)⟩
 case rest =>
  intro a W h
  obtain ⟨sb,g,ha,hkW,hfW,⟨hsb,hg,hne⟩,hs,hv⟩:=h
  refine hKx _ _ ?_
  clear y0 y4 y5 y6 k1
  obtain ⟨u,hu⟩:∃ u,a={ tmps:=encFr lb sb u,defers:=[] }:=⟨_,ha⟩
  subst hu
  clear ha hKx
  obtain ⟨w3,rfl⟩:∃ w3:World,w3=W:=⟨_,rfl⟩
  have H3:=H2.out.step hkW hfW
  have y3:w3.cell? ⟨lb,3,none⟩=some (.int .i64 d):=cOH H3.box rfl
  have ys:w3.cell? ⟨sb,2,none⟩=some (.slice (some ⟨g,0,none⟩) P P):=cOH hs rfl
  have hlb3:=lOH H3.box
  have hsb3:=lOH hs
  have hg3:=hv.1
  have HCH:Hid (Calls Tryz.prog 43 #[.slice (some ⟨g,0,none⟩) P P,.int .i64 d] w3.drew fun e w'=>e=.returned (.func (.func 83) #[] #[.pointer (some ⟨w3.heap.size,0,none⟩),.pointer (some ⟨w3.heap.size+1,0,none⟩)]) ∧
   Below w3.heap.size w3.drew w'∧w'.heap[w3.heap.size]? = some (.cells #[.slice (some ⟨g,0,none⟩) P P] 22 (0,0))∧w'.heap[w3.heap.size+1]? = some (.cells #[.int .i64 d] 3 (0,0))):=Hd (chunk_any (some ⟨g,0,none⟩) P P d w3.drew (by omega))
  have HCO:Hid (∀ W,Below w3.heap.size w3 W→W.heap[w3.heap.size]? = some (.cells #[.slice (some ⟨g,0,none⟩) P P] 22 (0,0))→W.heap[w3.heap.size+1]? = some (.cells #[.int .i64 d] 3 (0,0))→Calls Tryz.prog 42 #[.func (.func 83) #[] #[.pointer (some ⟨w3.heap.size,0,none⟩),.pointer (some ⟨w3.heap.size+1,0,none⟩)]] W (ColPost fb g P d n (flat d (mulF d (fun i c=>pw ((pows n).getD i 0) c) (mM k d m))) W)):=Hd fun W hW h1 h2 =>
   coll_any fb w3.heap.size (w3.heap.size+1) g P d n P _ W h1 h2 (hv.below hW) (hfW.below hW) (by omega) (Nat.le_refl _) HPP.out.symm (by omega) (by omega) (by have:=hkW.size;omega)
  have HK3:Hid (Kp [fb] w w3):=Hd ((Kp.of_below HB2.out).trans hkW)
  have hs2:=HB2.out.size
  have hs3:=hkW.size
  have hlf:=HNE.out.1
  have hsf:sb ≠ fb:=by omega
  clear hkW hfW hs hv H3 HOF HMUL HKP
  unfold encFr
  go_upto_region 8 with fail
  have hgr:=fun (w0 W:World) (p:Addr) (hp:(fun kk=>kk < w3.heap.size∧kk ≠ fb) p.block)=>g_C (w0:=w0) (keep:=(fun kk=>kk < w3.heap.size∧kk ≠ fb)) W hp
  refine w_T (fun kk=>kk < w3.heap.size∧kk ≠ fb) [6,7] (.sq [0,1,2,3,4,5,6,7,8,9] .done) (by kernel_rfl) (by kernel_rfl) ?_
  simp only [Tr.sq,List.foldr_cons,List.foldr_nil,slimTr,slimStep,Oper.slim,List.contains_cons,List.contains_nil,Option.map_none,Option.map_some,List.getElem?_toArray,List.getElem?_cons_zero,List.getElem?_cons_succ,Option.bind_some,beq_self_eq_true,Bool.or_false,Nat.reduceBEq,Nat.reduceAdd,Nat.zero_add]
  repeat' first | ((with_reducible refine w_I ?_);first | (with_reducible refine w_D ?_) | ((with_reducible refine w_S (fun K hK=>?_));go_simp;first | (refine hK _ _ ?_;clear hK K) | (refine ⟨by (intro kk hkk;first | (simp (disch:=(simp;omega)) only [h_D,h_N,h_A,h_S];done) | (simp [h_D,h_N,h_I,hkk];done) | (have hkk2:=(HKP.out kk).1 hkk;simp (disch:=(first | (simp;done) | (simp;omega) | omega)) only [h_D,h_N,h_A,h_S];first | done | exact HKY.out.block kk hkk2.1 (by simpa using hkk2.2) | exact HKX.out.block kk hkk2.1 (by simpa using hkk2.2))),hK _ _ ?_⟩;clear hK K) | (go_at_call 43;(with_reducible refine HCH.out.mono ?_);rintro e wx ⟨rfl,hbx,hc1,hc2⟩;have HBX:Hid (Below w3.heap.size w3 wx):=Hd (((Below.refl _ _).drew).trans hbx);have HC12:=Hd (And.intro hc1 hc2);refine ⟨_,rfl,(fun kk hkk=>HBX.out.block kk hkk.1),hK _ _ ?_⟩;clear hbx hc1 hc2 hK K) | (go_at_call 42;(with_reducible refine (HCO.out _ HBX.out HC12.out.1 HC12.out.2).mono ?_);rintro e wy ⟨v,rfl,how,hvy,hky,hfy⟩;have HKY:Hid (Kp [fb] w3 wy):=Hd ((Kp.of_below HBX.out).trans hky);have HOW:=Hd how;have HVY:=Hd hvy;have HFY:=Hd hfy;have HSX:=Hd HBX.out.size;refine ⟨_,rfl,(fun kk hkk=>HKY.out.block kk hkk.1 (by simpa using hkk.2)),hK _ _ ?_⟩;clear how hvy hky hfy hK K))) | fail
  clear hgr
  all_goals
   have hpost:MbEncPost fb n k d m w (.returned (.tuple #[v,.int .i64 0])) wy:=.inr ⟨HLL.out,HK3.out.trans HKY.out,HFY.out,v,_,rfl,⟨HOW.out.all (fun s hs=>by
    obtain ⟨j,hj,rfl⟩:=List.mem_map.1 hs
    have hj:=List.mem_range.1 hj
    rw [roC_v]
    have:=HVY.out.rd (o:=j * d) (m:=d) (by rw [← HPP.out];exact row_in hj) (Nat.le_refl _)
    exact this),?_,fun s hs A hA=>?_,fun b hb=>?_⟩⟩
   ·have HP:=Hd hpost
    clear hpost
    go_wp2
    go_ret2
    exact HP.out
   ·rw [List.map_map]
    exact List.map_congr_left fun j hj=>enc_row n k d m 0 j
   ·obtain ⟨j,hj,rfl⟩:=List.mem_map.1 hs
    cases hA
    show w.heap.size≤g
    omega
   ·have:=(HOW.out.lt b hb).1
    have:=HSX.out
    omega
end Go.Proofs.YtcclhhjcejmepaaGreat
