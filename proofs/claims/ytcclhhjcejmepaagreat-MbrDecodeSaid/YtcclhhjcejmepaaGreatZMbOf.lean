/-
  The matrix of a message, by the program.
-/
import Derived.Test.YtcclhhjcejmepaaGreatZMatG
import Derived.Test.YtcclhhjcejmepaaGreatZMbA
import Derived.Test.YtcclhhjcejmepaaGreatZAppG
/- The matrix of a message, by the program. -/
set_option maxRecDepth 100000
set_option maxHeartbeats 8000000
namespace Go.Proofs.YtcclhhjcejmepaaGreat
open Go.RowKit Fld Go.Shelf
set_option linter.unusedVariables false
set_option linter.unusedSimpArgs false

def MbOfPost (fb K D:Nat) (m:List GF) (w:World) (e:Ending) (w':World):Prop:=∃ g,e=.returned (.agg #[.int .i64 D,.int .i64 D,.slice (some ⟨g,0,none⟩) (D * D) (D * D)])∧w.heap.size≤g∧View w' g (D * D) (flat D (mM K D m))∧Kp [fb] w w'∧FOk w' fb
def ofFr1 (lb bb bo L cap r4 mb:Nat) (u:Nat→Value):Array Value:=#[.pointer (some ⟨lb,0,none⟩),.slice (some ⟨bb,bo,none⟩) L cap,u 2,u 3,.pointer (some ⟨r4,0,none⟩),.pointer (some ⟨mb,0,none⟩),u 6,u 7,u 8,u 9,u 10,u 11,u 12,u 13,u 14,u 15,u 16,u 17,u 18,u 19,u 20,u 21,u 22,u 23,u 24,u 25,u 26,u 27,u 28,u 29,u 30,u 31,u 32,u 33,u 34,u 35,u 36,u 37,u 38,u 39,u 40,u 41,u 42,u 43,u 44,u 45,u 46,u 47,u 48,u 49,u 50,u 51,u 52,u 53,u 54,u 55,u 56,u 57,u 58,u 59,u 60,u 61,u 62,u 63,u 64,u 65,u 66,u 67,u 68,u 69,u 70,u 71,u 72,u 73,u 74,u 75,u 76,u 77,u 78,u 79,u 80,u 81,u 82,u 83,u 84,u 85,u 86,u 87,u 88,u 89,u 90,u 91,u 92,u 93,u 94,u 95,u 96,u 97,u 98,u 99,u 100,u 101,u 102,u 103,u 104,u 105,u 106,u 107,u 108,u 109,u 110,u 111,u 112,u 113,u 114,u 115,u 116,u 117,u 118,u 119,u 120,u 121,u 122,u 123,u 124,u 125,u 126,u 127,u 128,u 129,u 130,u 131,u 132,u 133,u 134]
def ofFr2 (lb bb bo L cap r4 mb sb:Nat) (u:Nat→Value):Array Value:=#[.pointer (some ⟨lb,0,none⟩),.slice (some ⟨bb,bo,none⟩) L cap,u 2,u 3,.pointer (some ⟨r4,0,none⟩),.pointer (some ⟨mb,0,none⟩),.pointer (some ⟨sb,0,none⟩),u 7,u 8,u 9,u 10,u 11,u 12,u 13,u 14,u 15,u 16,u 17,u 18,u 19,u 20,u 21,u 22,u 23,u 24,u 25,u 26,u 27,u 28,u 29,u 30,u 31,u 32,u 33,u 34,u 35,u 36,u 37,u 38,u 39,u 40,u 41,u 42,u 43,u 44,u 45,u 46,u 47,u 48,u 49,u 50,u 51,u 52,u 53,u 54,u 55,u 56,u 57,u 58,u 59,u 60,u 61,u 62,u 63,u 64,u 65,u 66,u 67,u 68,u 69,u 70,u 71,u 72,u 73,u 74,u 75,u 76,u 77,u 78,u 79,u 80,u 81,u 82,u 83,u 84,u 85,u 86,u 87,u 88,u 89,u 90,u 91,u 92,u 93,u 94,u 95,u 96,u 97,u 98,u 99,u 100,u 101,u 102,u 103,u 104,u 105,u 106,u 107,u 108,u 109,u 110,u 111,u 112,u 113,u 114,u 115,u 116,u 117,u 118,u 119,u 120,u 121,u 122,u 123,u 124,u 125,u 126,u 127,u 128,u 129,u 130,u 131,u 132,u 133,u 134]
def OfK1 (lb bb bo L cap r4 D M:Nat) (w1:World) (a:Act) (W:World):Prop:=∃ mb g,a={ tmps:=ofFr1 lb bb bo L cap r4 mb (fun i=>a.tmps.getD i undef),defers:=[] }∧Below w1.heap.size w1 W∧(w1.heap.size≤mb∧w1.heap.size≤g∧mb ≠ g)∧W.heap[mb]? = some (.cells #[.int .i64 D,.int .i64 D,.slice (some ⟨g,0,none⟩) M M] 66 (0,0))∧W.heap[g]? = some (.cells (Array.replicate M (.int .u8 0)) 5 (0,0))
def OfK2 (lb bb bo L cap r4 mb fb K N:Nat) (b:List GF) (w2:World) (a:Act) (W:World):Prop:=∃ sb g,a={ tmps:=ofFr2 lb bb bo L cap r4 mb sb (fun i=>a.tmps.getD i undef),defers:=[] }∧Kp [fb] w2 W∧FOk W fb∧(w2.heap.size≤sb∧w2.heap.size≤g∧sb ≠ g)∧W.heap[sb]? = some (.cells #[.int .i64 K,.int .i64 K,.slice (some ⟨g,0,none⟩) N N] 66 (0,0))∧View W g N (flat K (fun r c=>b.getD (sI K r c) 0))
theorem mbof_any (w:World) (lb t1 t2 fb pb n k d bb bo cap:Nat) (v1 v2:Value) (m:List GF) (h:MbC w lb t1 t2 fb pb n k d v1 v2) (hn:1≤k∧k≤d∧d < n∧n≤255) (hm:GRd w (.slice (some ⟨bb,bo,none⟩) m.length cap) m) (hml:m.length=mbB k d) (hbf:bb ≠ fb) :
  Calls Tryz.prog 41 #[.pointer (some ⟨lb,0,none⟩),.slice (some ⟨bb,bo,none⟩) m.length cap] w (MbOfPost fb k d m w):=by
 obtain ⟨L,hL⟩:∃ L,m.length=L:=⟨_,rfl⟩
 obtain ⟨M,hM⟩:∃ M,d * d=M:=⟨_,rfl⟩
 have hMb:M≤255 * 255:=by rw [← hM];exact Nat.mul_le_mul (by omega) (by omega)
 obtain ⟨i0,hi,hz0,hz1,hz2⟩:=info_parts u8_info
 have hmk:∀ W,(Instr.makeSlice 22 (.int .i64 M) (.int .i64 M)).run Tryz.prog W=.ok (.slice (some ⟨W.heap.size,0,none⟩) M M) (W.alloc (.cells (Array.replicate M (.int .u8 0)) 5)):=fun W =>
  run_row W 22 5 i0 (.int .u8 0) Tryz.underlying22 hi hz0 hz1 rfl M (by rw [hz2];omega) (by unfold maxLen;omega)
 obtain ⟨w1,hw1⟩:∃ w1,w1=w.alloc (.cells #[.int .i64 0,.int .i64 0,.slice none 0 0] 66):=⟨_,rfl⟩
 have hb1:Below w.heap.size w w1:=by rw [hw1];exact (Below.refl _ _).alloc (Nat.le_refl _) _
 have d4:w1.heap[w.heap.size]? = some (.cells #[.int .i64 0,.int .i64 0,.slice none 0 0] 66 (0,0)):=by rw [hw1];exact nwA _ _
 have HS1:Hid (w1.heap.size=w.heap.size+1):=Hd (by rw [hw1];simp)
 have H1:=Hd (h.below hb1)
 have y2:=cOH H1.out.box (j:=2) rfl
 have y3:=cOH H1.out.box (j:=3) rfl
 have hlb:=lOH H1.out.box
 have hlw:=lOH h.box
 have hfw:=h.tells.ok.lt
 have D4:=Hd d4
 have HM1:=Hd (hm.below hb1)
 have HB1:=Hd hb1
 have HMM:=Hd hM
 have HLL:=Hd (And.intro hL hml)
 have HNE:=Hd h.ne
 have x1:(d:Int) * (d:Int)=(M:Int):=by rw [← hM];simp
 have x2:IntKind.i64.wrap (M:Int)=(M:Int):=IntWalk.i64_in _ (by omega)
 have hmp:0 < m.length:=by
  rw [hml]
  exact Nat.lt_of_le_of_lt (Nat.zero_le _) (sI_ltB (K:=k) (D:=d) (i:=0) (k:=0) (by omega) (by omega))
 have hbw:bb < w.heap.size:=by
  obtain ⟨b',o',e,h1,_⟩:=hm.at (i:=0) (List.getElem?_eq_getElem hmp)
  cases e
  exact h1
 unfold MbOfPost
 rw [hL] at HM1 hmp ⊢
 rw [hM]
 have hLc:L≤cap:=HM1.out.len.2
 obtain ⟨r4,hr4⟩:∃ r4,w.heap.size=r4:=⟨_,rfl⟩
 have HR4:=Hd hr4
 clear h hm hml hL hM hb1 d4 hi hz0 hz1 hz2 hr4
 go_enter Tryz.func41,Tryz.ntmps41
 go_upto_region 1 with fail
 rw [← hw1]
 clear hw1
 rw [HR4.out]
 rw [HR4.out] at D4
 rename_i Kx Qx hKx
 refine wp_conseq (K1:=OfK1 lb bb bo L cap r4 d M w1) ?reg ?rest
 case reg =>
  have hgr:=fun (w0 W:World) (p:Addr) (hp:(fun kk=>kk < w1.heap.size) p.block)=>g_C (w0:=w0) (keep:=(fun kk=>kk < w1.heap.size)) W hp
  refine w_T (fun kk=>kk < w1.heap.size) [17,19,20] (.sq [0,1,2,3,4,5,6,7,8,9,10,11,12,13,14,15,16] (.fork 17 (.sq [18,19,20] .done) 19 (.sq [17,18,20] .done))) (by kernel_rfl) (by kernel_rfl) ?_
  simp only [Tr.sq,List.foldr_cons,List.foldr_nil,slimTr,slimStep,Oper.slim,List.contains_cons,List.contains_nil,Option.map_none,Option.map_some,List.getElem?_toArray,List.getElem?_cons_zero,List.getElem?_cons_succ,Option.bind_some,beq_self_eq_true,Bool.or_false,Nat.reduceBEq,Nat.reduceAdd,Nat.zero_add]
  repeat' first | ((with_reducible refine w_I ?_);first | (with_reducible refine w_D ?_) | (with_reducible refine wpSlimT_fork ?_ ?_) | ((refine wpSlimT_append _ _ _ rfl rfl rfl rfl rfl hap (fun kk hkk=>HKA.out kk hkk) ?_)) | ((with_reducible refine w_S (fun K hK=>?_));go_simp;first | (refine hK _ _ ?_;clear hK K) | (refine ⟨by (intro kk hkk;first | (simp (disch:=(simp;omega)) only [h_D,h_N,h_A,h_S];done) | (simp [h_D,h_N,h_I,hkk];done) | (have hkk2:=(HKP.out kk).1 hkk;simp (disch:=(first | (simp;done) | (simp;omega) | omega)) only [h_D,h_N,h_A,h_S];first | done | exact HKY.out.block kk hkk2.1 (by simpa using hkk2.2) | exact hbx2.block kk hkk2.1)),hK _ _ ?_⟩;clear hK K))) | fail
  all_goals clear hgr
  ·exact ⟨w1.heap.size+1,w1.heap.size,by kernel_rfl,by (repeat' (first | (with_reducible exact RowKit.Below.refl _ _) | (with_reducible assumption) | (with_reducible refine RowKit.Below.drew ?_) | (with_reducible refine RowKit.Below.alloc ?_ ?_ _) | omega | (simp;done) | (simp;omega))),⟨by omega,by omega,by omega⟩,nwE _ _ _ (by simp),keepA (nwA _ _) _⟩
  ·exact ⟨w1.heap.size,w1.heap.size+1,by kernel_rfl,by (repeat' (first | (with_reducible exact RowKit.Below.refl _ _) | (with_reducible assumption) | (with_reducible refine RowKit.Below.drew ?_) | (with_reducible refine RowKit.Below.alloc ?_ ?_ _) | omega | (simp;done) | (simp;omega))),⟨by omega,by omega,by omega⟩,keepA (nwA _ _) _,nwE _ _ _ (by simp)⟩
 case rest =>
  intro a W h
  obtain ⟨mb,g,ha,hbW,⟨hmb,hg,hne⟩,hm,hgz⟩:=h
  refine hKx _ _ ?_
  clear y2 y3
  obtain ⟨u,hu⟩:∃ u,a={ tmps:=ofFr1 lb bb bo L cap r4 mb u,defers:=[] }:=⟨_,ha⟩
  subst hu
  clear ha hKx
  obtain ⟨w2,rfl⟩:∃ w2:World,w2=W:=⟨_,rfl⟩
  have H2:=Hd (H1.out.below hbW)
  have hs12:=hbW.size
  have HM2:=Hd (HM1.out.below hbW)
  have D4:=Hd (keepB hbW D4.out)
  have HV2:Hid (View w2 g M (flat d (mofF k d m 0 0))):=Hd ⟨lOH hgz,fun j hj=>⟨by
   have e:flat d (mofF k d m 0 0) j=0:=by unfold flat;exact mofF_zero _ _
   rw [e,cell_of_row _ _ _ _ _ (0,0) hgz]
   simp [hj]
   rfl,fOH hgz j⟩⟩
  have HMB:=Hd hm
  have HB2:Hid (Below w.heap.size w w2):=Hd (HB1.out.trans (hbW.mono HB1.out.size))
  have hr4w:w.heap.size=r4:=HR4.out
  have hw1s:=HS1.out
  have y2:w2.cell? ⟨lb,2,none⟩=some (.int .i64 k):=cOH H2.out.box rfl
  have y3:w2.cell? ⟨lb,3,none⟩=some (.int .i64 d):=cOH H2.out.box rfl
  have hlb2:=lOH H2.out.box
  have hmg:mb < w2.heap.size∧g < w2.heap.size:=⟨lOH hm,lOH hgz⟩
  have hord:r4 < mb∧r4 < g∧lb < r4∧fb < r4∧bb < r4:=by omega
  clear hbW hm hgz H1 HM1 HB1 hlb hlw hfw hbw hmb hg hr4w hw1s hs12
  obtain ⟨T,hT⟩:∃ T,tri k k=T:=⟨_,rfl⟩
  obtain ⟨E,hE⟩:∃ E,d - k=E:=⟨_,rfl⟩
  obtain ⟨R,hR⟩:∃ R,k * E=R:=⟨_,rfl⟩
  obtain ⟨N,hN⟩:∃ N,k * k=N:=⟨_,rfl⟩
  have hLT:T+R=L:=by rw [← HLL.out.1,HLL.out.2,mbB,hE,hR,hT]
  have hNb:N≤255 * 255:=by rw [← hN];exact Nat.mul_le_mul (by omega) (by omega)
  have HIN:Hid (∀ W,Below w2.heap.size w2 W→Calls Tryz.prog 81 #[.pointer (some ⟨lb,0,none⟩)] W fun e w'=>e=.returned (.int .i64 T)∧Below W.heap.size W w'):=Hd fun W h=>by
   have:=mbinner_any W lb k ((h.cell (p:=⟨lb,2,none⟩) hlb2).trans y2) (Nat.lt_of_lt_of_le hlb2 h.size) (by omega)
   rwa [hT] at this
  have htake:(m.take T).length=T:=by rw [List.length_take,HLL.out.1];omega
  have hsym:∀ W,Below w2.heap.size w2 W→Calls Tryz.prog 80 #[.int .i64 k,.slice (some ⟨bb,bo,none⟩) T cap] W (SymPost fb k (m.take T) W):=fun W h=>by
   have hm1:=GRd.frontK (k:=T) (HM2.out.below h) (by omega)
   have:=msym_any fb k bb bo cap (m.take T) W (H2.out.tells.ok.below h) (by omega) (by rw [htake];exact hm1) (by rw [htake,hT]) hbf
   rwa [htake] at this
  unfold SymPost at hsym
  rw [hN] at hsym
  have HSYM:=Hd hsym
  have hsl:=slice_frontO bb bo T L cap hLc (by omega)
  have HNUM:=Hd (And.intro hT (And.intro hE (And.intro hR hN)))
  have HTK:=Hd htake
  obtain ⟨kp,hkp⟩:∃ kp:Nat→Bool,∀ j,kp j=true↔j < w2.heap.size∧j ≠ fb:=⟨fun j=>decide (j < w2.heap.size∧j ≠ fb),by simp⟩
  have k1:kp lb=true:=(hkp _).2 ⟨hlb2,HNE.out.1⟩
  have HKP:=Hd hkp
  clear hT hE hR hN hsym htake hkp x1 x2 hmk
  unfold ofFr1
  go_upto_region 2 with fail
  rename_i Kx2 Qx2 hKx2
  refine wp_conseq (K1:=OfK2 lb bb bo L cap r4 mb fb k N (m.take T) w2) ?reg2 ?rest2
  case reg2 =>
   have hgr:=fun (w0 W:World) (p:Addr) (hp:(fun kk=>kp kk=true) p.block)=>g_C (w0:=w0) (keep:=(fun kk=>kp kk=true)) W hp
   refine w_T (fun kk=>kp kk=true) [6,8,12,13] (.sq [0,1,2,3,4,5] (.fork 6 (.step 7 (.fork 8 (.sq [9,10,11,12,13,14] .done) 12 (.sq [8,9,10,11,13,14] .done))) 12 (.sq [6,7,8,9,10,11,13,14] .done))) (by kernel_rfl) (by kernel_rfl) ?_
   simp only [Tr.sq,List.foldr_cons,List.foldr_nil,slimTr,slimStep,Oper.slim,List.contains_cons,List.contains_nil,Option.map_none,Option.map_some,List.getElem?_toArray,List.getElem?_cons_zero,List.getElem?_cons_succ,Option.bind_some,beq_self_eq_true,Bool.or_false,Nat.reduceBEq,Nat.reduceAdd,Nat.zero_add]
   repeat' first | ((with_reducible refine w_I ?_);first | (with_reducible refine w_D ?_) | (with_reducible refine wpSlimT_fork ?_ ?_) | ((refine wpSlimT_append _ _ _ rfl rfl rfl rfl rfl hap (fun kk hkk=>HKA.out kk hkk) ?_)) | ((with_reducible refine w_S (fun K hK=>?_));go_simp;first | (refine hK _ _ ?_;clear hK K) | (refine ⟨by (intro kk hkk;first | (simp (disch:=(simp;omega)) only [h_D,h_N,h_A,h_S];done) | (simp [h_D,h_N,h_I,hkk];done) | (have hkk2:=(HKP.out kk).1 hkk;simp (disch:=(first | (simp;done) | (simp;omega) | omega)) only [h_D,h_N,h_A,h_S];first | done | exact HKY.out.block kk hkk2.1 (by simpa using hkk2.2) | exact hbx2.block kk hkk2.1)),hK _ _ ?_⟩;clear hK K) | (go_at_call 81;(with_reducible refine (HIN.out _ (by (repeat' (first | (with_reducible exact RowKit.Below.refl _ _) | (with_reducible assumption) | (with_reducible refine RowKit.Below.drew ?_) | (with_reducible refine RowKit.Below.alloc ?_ ?_ _) | omega | (simp;done) | (simp;omega))))).mono ?_);rintro e wx ⟨rfl,hbx⟩;have hbx2:Below w2.heap.size w2 wx:=Below.trans (by (repeat' (first | (with_reducible exact RowKit.Below.refl _ _) | (with_reducible assumption) | (with_reducible refine RowKit.Below.drew ?_) | (with_reducible refine RowKit.Below.alloc ?_ ?_ _) | omega | (simp;done) | (simp;omega)))) (hbx.mono (by first | (simp;done) | (simp;omega) | omega));have hsx:=hbx2.size;(try (have hz:wx.heap[w2.heap.size]? = some (.cells #[.int .i64 0,.int .i64 0,.slice none 0 0] 66 (0,0)):=keepB hbx (nwA w2 _)));refine ⟨_,rfl,(fun kk hkk=>hbx2.block kk ((HKP.out kk).1 hkk).1),hK _ _ ?_⟩;clear hbx hK K) | (go_at_call 80;(with_reducible refine (HSYM.out _ (by (repeat' (first | (with_reducible exact RowKit.Below.refl _ _) | (with_reducible assumption) | (with_reducible refine RowKit.Below.drew ?_) | (with_reducible refine RowKit.Below.alloc ?_ ?_ _) | omega | (simp;done) | (simp;omega))))).mono ?_);rintro e wy ⟨g2,rfl,hg2,hvy,hky,hfy⟩;have HKY:Hid (Kp [fb] w2 wy):=Hd (Kp.trans (Kp.of_below (by (repeat' (first | (with_reducible exact RowKit.Below.refl _ _) | (with_reducible assumption) | (with_reducible refine RowKit.Below.drew ?_) | (with_reducible refine RowKit.Below.alloc ?_ ?_ _) | omega | (simp;done) | (simp;omega))))) hky);(first | (have hz2:wy.heap[w2.heap.size]? = some (.cells #[.int .i64 0,.int .i64 0,.slice none 0 0] 66 (0,0)):=hky.heap hz (by simp;omega);(have q0:wy.cell? ⟨w2.heap.size,0,none⟩=some (.int .i64 0):=cOH hz2 rfl;have q1:wy.cell? ⟨w2.heap.size,1,none⟩=some (.int .i64 0):=cOH hz2 rfl;have q2:wy.cell? ⟨w2.heap.size,2,none⟩=some (.slice none 0 0):=cOH hz2 rfl;have q3:=fOH hz2 0;have q4:=fOH hz2 1;have q5:=fOH hz2 2;have q6:=lOH hz2)) | (have hz2:wy.heap[wx.heap.size]? = some (.cells #[.int .i64 0,.int .i64 0,.slice none 0 0] 66 (0,0)):=hky.heap (nwA wx _) (by simp;omega);(have q0:wy.cell? ⟨wx.heap.size,0,none⟩=some (.int .i64 0):=cOH hz2 rfl;have q1:wy.cell? ⟨wx.heap.size,1,none⟩=some (.int .i64 0):=cOH hz2 rfl;have q2:wy.cell? ⟨wx.heap.size,2,none⟩=some (.slice none 0 0):=cOH hz2 rfl;have q3:=fOH hz2 0;have q4:=fOH hz2 1;have q5:=fOH hz2 2;have q6:=lOH hz2)) | skip);have HVY:=Hd hvy;have HFY:=Hd hfy;have hgy:=hvy.1;have hsy:=HKY.out.size;have hg3:w2.heap.size≤g2∧wx.heap.size≤g2:=(by first | omega | (simp at hg2;omega));refine ⟨_,rfl,(fun kk hkk=>HKY.out.block kk ((HKP.out kk).1 hkk).1 (by have:=((HKP.out kk).1 hkk).2;simpa using this)),hK _ _ ?_⟩;clear hvy hky hfy hK K))) | fail
   all_goals clear hgr
   all_goals try simp at hg2
   ·exact ⟨wy.heap.size,g2,by kernel_rfl,HKY.out.alloc _,HFY.out.below ((Below.refl _ _).alloc (Nat.le_refl _) _),⟨by omega,by omega,by omega⟩,nwA _ _,HVY.out.below ((Below.refl _ _).alloc (Nat.le_refl _) _)⟩
   ·exact ⟨wx.heap.size,g2,by kernel_rfl,HKY.out.step (kp_set3 _ _ _ _ _) (fun x hx=>.inr (by simp at hx;omega)),HFY.out.kp (kp_set3 _ _ _ _ _) (by simp;omega),⟨by omega,by omega,by omega⟩,set3 hz2,HVY.out.kp (kp_set3 _ _ _ _ _) (by simp;omega)⟩
   ·have hgz:w2.heap.size < g2:=Nat.lt_of_lt_of_le (lOH hz) hg2
    exact ⟨w2.heap.size,g2,by kernel_rfl,HKY.out.step (kp_set3 _ _ _ _ _) (fun x hx=>.inr (by simp at hx;omega)),HFY.out.kp (kp_set3 _ _ _ _ _) (by simp;omega),⟨by omega,by omega,by omega⟩,set3 hz2,HVY.out.kp (kp_set3 _ _ _ _ _) (by simp;omega)⟩
  case rest2 =>
   intro a W h
   obtain ⟨sb,g2,ha,hkW,hfW,⟨hsb,hg2,hne2⟩,hs,hv2⟩:=h
   refine hKx2 _ _ ?_
   obtain ⟨u,hu⟩:∃ u,a={ tmps:=ofFr2 lb bb bo L cap r4 mb sb u,defers:=[] }:=⟨_,ha⟩
   subst hu
   clear ha hKx2
   obtain ⟨w3,rfl⟩:∃ w3:World,w3=W:=⟨_,rfl⟩
   have hord2:g < sb∧g < g2:=by omega
   have HNM:Hid (mb ≠ fb∧g ≠ fb∧r4 ≠ fb):=Hd ⟨by omega,by omega,by omega⟩
   have H3:=Hd (H2.out.step hkW hfW)
   have HM3:=Hd (HM2.out.kp hkW (fun b hb hm=>by simp [Value.ownBlock] at hb hm;omega))
   have D4:=Hd (hkW.heap D4.out (by simpa using HNM.out.2.2))
   have HMB:=Hd (hkW.heap HMB.out (by simpa using HNM.out.1))
   have HV3:=Hd (HV2.out.kp hkW (by simpa using HNM.out.2.1))
   have HB3:Hid (Kp [fb] w w3):=Hd ((Kp.of_below HB2.out).trans hkW)
   have hs23:=hkW.size
   have hsl2:sb < w3.heap.size∧g2 < w3.heap.size:=⟨lOH hs,hv2.1⟩
   have HSB:=Hd hs
   have HVS:=Hd hv2
   have HF3:=Hd hfW
   have y2:w3.cell? ⟨lb,2,none⟩=some (.int .i64 k):=cOH H3.out.box rfl
   have hlb3:=lOH H3.out.box
   obtain ⟨o2,hsl3,ho2⟩:=slice_from bb bo T L cap (by omega) hLc
   obtain ⟨C2,hC2⟩:∃ C2,cap - T=C2:=⟨_,rfl⟩
   rw [show L - T=R by omega,hC2] at hsl3
   have HO2:Hid ((0 < R→o2=bo+T)∧R≤C2):=Hd ⟨fun h=>ho2 (by omega),by omega⟩
   have hin:=mbinner_any w3 lb k y2 hlb3 (by omega)
   rw [HNUM.out.1] at hin
   have HIN3:=Hd hin
   clear hkW hfW hs hv2 hsb hg2 hin ho2 hC2 HIN HSYM HKP H2 HM2 HV2 HB2 k1 hsl hlb2
   unfold ofFr2
   go_wp2_with fail
   refine HIN3.out.mono ?_
   rintro e w4 ⟨rfl,hb4⟩
   have hs34:=hb4.size
   have H4:=Hd (H3.out.below hb4)
   have HM4:=Hd (HM3.out.below hb4)
   have D4:=Hd (keepB hb4 D4.out)
   have HMB:=Hd (keepB hb4 HMB.out)
   have HV4:=Hd (HV3.out.below hb4)
   have HB4:Hid (Kp [fb] w w4):=Hd (HB3.out.below_step hb4)
   have HSB:=Hd (keepB hb4 HSB.out)
   have HVS:=Hd (HVS.out.below hb4)
   have HF4:=Hd (HF3.out.below hb4)
   have y2:w4.cell? ⟨lb,2,none⟩=some (.int .i64 k):=cOH H4.out.box rfl
   have hlb4:=lOH H4.out.box
   clear hb4 H3 HM3 HV3 HB3 HF3 HIN3 hlb3
   go_wp2
   go_loopg [8,52] k (fun gk s i wr=>∃ (I o3 S cp X:Nat),I≤k∧gk=k - I∧s=.slice (some ⟨bb,o3,none⟩) S cp∧i=.int .i64 I∧Hid (I * E=X)∧S+X=R∧S≤cp∧(0 < S→o3=bo+T+X)∧Hid (Kp [g] w4 wr)∧Hid (View wr g M (flat d (mofF k d m I 0))))
   case atStart=>exact ⟨0,o2,R,C2,0,by omega,rfl,rfl,rfl,Hd (by simp),by omega,HO2.out.2,fun h=>by have:=HO2.out.1 h;omega,Hd (Kp.refl _ _),HV4⟩
   case round =>
    clear HV4 HO2 hsl3 y2
    obtain ⟨I,o3,S,cp,X,hI,rfl,rfl,rfl,HX,hSX,hScp,ho3,HK,HV⟩:=hrel
    have hsr:=HK.out.size
    have hlbg:lb ∉ [g]:=by simp;omega
    have hb:=HK.out.heap H4.out.box hlbg
    have y2:wr.cell? ⟨lb,2,none⟩=some (.int .i64 k):=cOH hb rfl
    have y3:wr.cell? ⟨lb,3,none⟩=some (.int .i64 d):=cOH hb rfl
    have hlbr:=lOH hb
    have hsb':=HK.out.heap HSB.out (by simp;omega)
    have ys:wr.cell? ⟨sb,2,none⟩=some (.slice (some ⟨g2,0,none⟩) N N):=cOH hsb' rfl
    have hsbr:=lOH hsb'
    clear hb hsb'
    by_cases hlt:I < k
    ·obtain ⟨P,hP⟩:∃ P,I * k=P:=⟨_,rfl⟩
     obtain ⟨Q,hQ⟩:∃ Q,P+k=Q:=⟨_,rfl⟩
     obtain ⟨I1,hI1⟩:∃ I1,I+1=I1:=⟨_,rfl⟩
     have hQ2:I1 * k=Q:=by rw [← hI1,Nat.add_mul,Nat.one_mul,hP,hQ]
     have hQN:Q≤N:=by rw [← hQ2,← HNUM.out.2.2.2];exact Nat.mul_le_mul_right _ (by omega)
     have hXE:I1 * E=X+E:=by rw [← hI1,Nat.add_mul,Nat.one_mul,HX.out]
     have hXR:X+E≤R:=by rw [← hXE,← HNUM.out.2.2.1];exact Nat.mul_le_mul_right _ (by omega)
     have x1:(I:Int) * (k:Int)=(P:Int):=by rw [← hP];simp
     have x2:IntKind.i64.wrap (P:Int)=(P:Int):=IntWalk.i64_in _ (by omega)
     have x3:(I:Int)+1=(I1:Int):=by omega
     have x4:IntKind.i64.wrap (I1:Int)=(I1:Int):=IntWalk.i64_in _ (by omega)
     have x5:(I1:Int) * (k:Int)=(Q:Int):=by rw [← hQ2];simp
     have x6:IntKind.i64.wrap (Q:Int)=(Q:Int):=IntWalk.i64_in _ (by omega)
     have x7:(d:Int) - (k:Int)=(E:Int):=by have:=HNUM.out.2.1;omega
     have x8:IntKind.i64.wrap (E:Int)=(E:Int):=IntWalk.i64_in _ (by omega)
     have hs1:=slice_mid g2 P Q N k (by omega) hQ hQN
     have hs2:=slice_frontO bb o3 E S cp hScp (by omega)
     obtain ⟨o4,hs3,ho4⟩:=slice_from bb o3 E S cp (by omega) hScp
     obtain ⟨S2,hS2⟩:∃ S2,S - E=S2:=⟨_,rfl⟩
     obtain ⟨cp2,hcp2⟩:∃ cp2,cp - E=cp2:=⟨_,rfl⟩
     rw [hS2,hcp2] at hs3
     have HNX:Hid ((I1 * E=X+E)∧S2+(X+E)=R∧S2≤cp2∧(0 < S2→o4=bo+T+(X+E))):=Hd ⟨hXE,by omega,by omega,fun h=>by have h1:=ho4 (by omega);have h2:=ho3 (by omega);omega⟩
     have hl1:GRd wr.drew (.slice (some ⟨g2,P,none⟩) k k) (rowF (fun c=>(m.take T).getD (sI k I c) 0) k):=by
      have h1:=((HVS.out.kp HK.out (by simp;omega)).below ((Below.refl _ _).drew)).rd (o:=P) (m:=k) (by omega) (Nat.le_refl _)
      have h2:(List.range k).map (fun j=>flat k (fun r c=>(m.take T).getD (sI k r c) 0) (P+j))=rowF (fun c=>(m.take T).getD (sI k I c) 0) k:=by
       refine List.map_congr_left fun j hj=>?_
       have:=List.mem_range.1 hj
       rw [← hP,flat_at (by omega) _ _ _ (by omega)]
      rwa [h2] at h1
     have hl2:GRd wr.drew (.slice (some ⟨bb,o3,none⟩) E cp) (rowF (fun e=>m.getD (T+X+e) 0) E):=by
      rcases Nat.eq_zero_or_pos E with h0 | h0
      ·rw [h0]
       exact GRd.none0
      ·have e3:=ho3 (by omega)
       rw [e3,Nat.add_assoc]
       exact part_rdO ((HM4.out.kp HK.out (fun b hb hm=>by simp [Value.ownBlock] at hb hm;omega)).below ((Below.refl _ _).drew)) (by omega) (by omega)
     obtain ⟨v6,wa,hap,hrow,hba,b',o',c',rfl,hb'⟩:=app_fullG hl1 hl2 (by omega)
     rw [← HX.out,of_row hlt (by omega) HNUM.out.1 HNUM.out.2.1] at hrow
     have hkE:k+E=d:=by have:=HNUM.out.2.1;omega
     rw [hkE] at hap hrow
     have HROW:=Hd hrow
     have hwad:wr.drew.heap.size=wr.heap.size:=rfl
     rw [hwad] at hb'
     have hba2:Below wr.heap.size wr wa:=((Below.refl _ _).drew).trans hba
     have HKA:Hid (∀ kk,kk < wr.heap.size→wa.heap[kk]? = wr.drew.heap[kk]?):=Hd fun kk hkk=>hba2.block kk hkk
     have HBA:=Hd hba2
     have hsa:=hba2.size
     have HVA:=Hd (HV.out.below hba2)
     have HKW:Hid (Kp [g] w4 wa):=Hd (HK.out.below_step hba2)
     have hgr:g < wr.heap.size:=by omega
     have hbg:b' ≠ g:=by rcases hb' with h | h <;> omega
     have y2a:wa.cell? ⟨lb,2,none⟩=some (.int .i64 k):=(hba2.cell (p:=⟨lb,2,none⟩) hlbr).trans y2
     have y3a:wa.cell? ⟨lb,3,none⟩=some (.int .i64 d):=(hba2.cell (p:=⟨lb,3,none⟩) hlbr).trans y3
     have hlba:lb < wa.heap.size:=by omega
     obtain ⟨wo,rfl⟩:∃ wo:World,wo=wr:=⟨_,rfl⟩
     have HI1:=Hd hI1
     clear hkE hl1 hl2 hrow hba hba2 hwad hb' HV HK hXE hS2 hcp2 ho4 hP hQ2 hI1 ho3
     go_upto_region 7 with fail
     have hgr:=fun (w0 W:World) (p:Addr) (hp:(fun kk=>kk < wo.heap.size) p.block)=>g_C (w0:=w0) (keep:=(fun kk=>kk < wo.heap.size)) W hp
     refine w_T (fun kk=>kk < wo.heap.size) [34] (.sq [0,1,2,3,4,5,6,7,8,9,10,11,12,13,14,15,16,17,18,19,20,21,22,23,24,25,26,27,28,29,30,31,32,33,34,35] .done) (by kernel_rfl) (by kernel_rfl) ?_
     simp only [Tr.sq,List.foldr_cons,List.foldr_nil,slimTr,slimStep,Oper.slim,List.contains_cons,List.contains_nil,Option.map_none,Option.map_some,List.getElem?_toArray,List.getElem?_cons_zero,List.getElem?_cons_succ,Option.bind_some,beq_self_eq_true,Bool.or_false,Nat.reduceBEq,Nat.reduceAdd,Nat.zero_add]
     repeat' first | ((with_reducible refine w_I ?_);first | (with_reducible refine w_D ?_) | ((refine wpSlimT_append _ _ _ rfl rfl rfl rfl rfl hap (fun kk hkk=>HKA.out kk hkk) ?_)) | ((with_reducible refine w_S (fun K hK=>?_));go_simp;first | (refine hK _ _ ?_;clear hK K) | (refine ⟨by (intro kk hkk;first | (simp (disch:=(simp;omega)) only [h_D,h_N,h_A,h_S];done) | (simp [h_D,h_N,h_I,hkk];done) | (have hkk2:=(HKP.out kk).1 hkk;simp (disch:=(first | (simp;done) | (simp;omega) | omega)) only [h_D,h_N,h_A,h_S];first | done | exact HKY.out.block kk hkk2.1 (by simpa using hkk2.2) | exact hbx2.block kk hkk2.1)),hK _ _ ?_⟩;clear hK K))) | fail
     clear hgr
     clear hap y2 y3 ys
     go_upto_region 8 with fail
     have hgr:=fun (w0 W:World) (p:Addr) (hp:(fun kk=>kk < wa.heap.size) p.block)=>g_C (w0:=w0) (keep:=(fun kk=>kk < wa.heap.size)) W hp
     refine w_T (fun kk=>kk < wa.heap.size) [] (.sq [0,1,2,3,4,5,6,7,8,9,10,11] .done) (by kernel_rfl) (by kernel_rfl) ?_
     simp only [Tr.sq,List.foldr_cons,List.foldr_nil,slimTr,slimStep,Oper.slim,List.contains_cons,List.contains_nil,Option.map_none,Option.map_some,List.getElem?_toArray,List.getElem?_cons_zero,List.getElem?_cons_succ,Option.bind_some,beq_self_eq_true,Bool.or_false,Nat.reduceBEq,Nat.reduceAdd,Nat.zero_add]
     repeat' first | ((with_reducible refine w_I ?_);first | (with_reducible refine w_D ?_) | ((refine wpSlimT_append _ _ _ rfl rfl rfl rfl rfl hap (fun kk hkk=>HKA.out kk hkk) ?_)) | ((with_reducible refine w_S (fun K hK=>?_));go_simp;(refine hK _ _ ?_;clear hK K))) | fail
     clear hgr
     clear hs1 hs2 hs3 x1 x2 x3 x4 x5 x6 x7 x8 y2a y3a
     go_wp2
     go_loopg [103] d (fun gk i wr=>∃ J:Nat,J≤d∧gk=d - J∧i=.int .i64 J∧Hid (Kp [g] wa wr)∧Hid (View wr g M (flat d (mofF k d m I J))))
     case atStart=>exact ⟨0,by omega,rfl,rfl,Hd (Kp.refl _ _).drew,Hd (HVA.out.below ((Below.refl _ _).drew))⟩
     case round =>
      clear HVA
      obtain ⟨J,hJ,rfl,rfl,HK,HV⟩:=hrel
      have hsr:=HK.out.size
      by_cases hlj:J < d
      ·have hId:I < d:=by omega
       obtain ⟨z,hz⟩:∃ z,(mM k d m I J).n=z:=⟨_,rfl⟩
       have cx:wr.cell? ⟨b',o'+J,none⟩=some (.int .u8 (z:Nat)):=by
        obtain ⟨b1,o1,e,_,h2⟩:=(HROW.out.kp HK.out (fun b hb hm=>by simp [Value.ownBlock] at hb hm;omega)).at (rowF_at? (mM k d m I) hlj)
        cases e
        rw [h2,hz]
       have hbr:b' < wr.heap.size:=by
        obtain ⟨b1,o1,e,h1,_⟩:=(HROW.out.kp HK.out (fun b hb hm=>by simp [Value.ownBlock] at hb hm;omega)).at (rowF_at? (mM k d m I) hlj)
        cases e
        exact h1
       obtain ⟨A1,hA1⟩:∃ A1,I * d=A1:=⟨_,rfl⟩
       obtain ⟨A2,hA2⟩:∃ A2,J * d=A2:=⟨_,rfl⟩
       obtain ⟨p1,hp1⟩:∃ p1,A1+J=p1:=⟨_,rfl⟩
       obtain ⟨p2,hp2⟩:∃ p2,A2+I=p2:=⟨_,rfl⟩
       have hl1:p1 < M:=by rw [← HMM.out,← hp1,← hA1];exact off_lt hId hlj
       have hl2:p2 < M:=by rw [← HMM.out,← hp2,← hA2];exact off_lt hlj hId
       have HSET:Hid (∀ W,View W g M (flat d (mofF k d m I J))→View ((W.setCell ⟨g,p1,none⟩ (.int .u8 (z:Nat))).setCell ⟨g,p2,none⟩ (.int .u8 (z:Nat))) g M (flat d (mofF k d m I (J+1)))):=Hd fun W h=>by
        rw [← hz]
        exact ((h.set hl1 _).set hl2 _).congr fun j hj=>by rw [← hp1,← hp2,← hA1,← hA2];exact mofF_step hId hlj (by rw [HMM.out];exact hj)
       obtain ⟨c1,f1⟩:=HV.out.2 p1 hl1
       obtain ⟨c2,f2⟩:=HV.out.2 p2 hl2
       obtain ⟨v1,hv1⟩:∃ v1,(flat d (mofF k d m I J) p1).n=v1:=⟨_,rfl⟩
       obtain ⟨v2,hv2⟩:∃ v2,(flat d (mofF k d m I J) p2).n=v2:=⟨_,rfl⟩
       rw [hv1] at c1
       rw [hv2] at c2
       have hKK:=HKW.out.trans HK.out
       have hb:=hKK.heap H4.out.box (by simp;omega)
       have y3:wr.cell? ⟨lb,3,none⟩=some (.int .i64 d):=cOH hb rfl
       have hm2:=hKK.heap HMB.out (by simp;omega)
       have ym:wr.cell? ⟨mb,2,none⟩=some (.slice (some ⟨g,0,none⟩) M M):=cOH hm2 rfl
       have hlbr2:=lOH hb
       have hmbr:=lOH hm2
       have hgr2:=HV.out.1
       have x1:(I:Int) * (d:Int)=(A1:Int):=by rw [← hA1];simp
       have x2:IntKind.i64.wrap (A1:Int)=(A1:Int):=IntWalk.i64_in _ (by omega)
       have x3:(A1:Int)+(J:Int)=(p1:Int):=by omega
       have x4:IntKind.i64.wrap (p1:Int)=(p1:Int):=IntWalk.i64_in _ (by omega)
       have x5:(J:Int) * (d:Int)=(A2:Int):=by rw [← hA2];simp
       have x6:IntKind.i64.wrap (A2:Int)=(A2:Int):=IntWalk.i64_in _ (by omega)
       have x7:(A2:Int)+(I:Int)=(p2:Int):=by omega
       have x8:IntKind.i64.wrap (p2:Int)=(p2:Int):=IntWalk.i64_in _ (by omega)
       have q1:(0:Int)≤(J:Int)∧(J:Int) < (d:Int):=by omega
       have q2:(0:Int)≤(p1:Int)∧(p1:Int) < (M:Int):=by omega
       have q3:(0:Int)≤(p2:Int)∧(p2:Int) < (M:Int):=by omega
       have HNN:Hid (¬ I=J→¬ p1=p2):=Hd fun h e=>h (by
        rw [← hp1,← hp2,← hA1,← hA2] at e
        exact (off_eq hlj hId e).1)
       obtain ⟨kp2,hkp⟩:∃ kp:Nat→Bool,∀ k,kp k=true↔k < wr.heap.size∧k ≠ g:=⟨fun k=>decide (k < wr.heap.size∧k ≠ g),by simp⟩
       have k1:kp2 lb=true:=(hkp _).2 ⟨by omega,by omega⟩
       have k2:kp2 mb=true:=(hkp _).2 ⟨by omega,by omega⟩
       have HKP:=Hd hkp
       clear hz hv1 hv2 hKK hb hm2 hkp
       by_cases hij:I=J
       ·subst hij
        obtain rfl:A1=A2:=by rw [← hA1,← hA2]
        obtain rfl:p1=p2:=by rw [← hp1,← hp2]
        clear HNN hA1 hA2 hp1 hp2
        go_upto_region 12 with fail
        have hgr:=fun (w0 W:World) (p:Addr) (hp:(fun kk=>kp2 kk=true) p.block)=>g_C (w0:=w0) (keep:=(fun kk=>kp2 kk=true)) W hp
        refine w_T (fun kk=>kp2 kk=true) [23,25] (.sq [0,1,2,3,4,5,6,7,8,9,10,11,12,13,14,15,16,17,18,19,20,21,22,23,24,25] .done) (by kernel_rfl) (by kernel_rfl) ?_
        simp only [Tr.sq,List.foldr_cons,List.foldr_nil,slimTr,slimStep,Oper.slim,List.contains_cons,List.contains_nil,Option.map_none,Option.map_some,List.getElem?_toArray,List.getElem?_cons_zero,List.getElem?_cons_succ,Option.bind_some,beq_self_eq_true,Bool.or_false,Nat.reduceBEq,Nat.reduceAdd,Nat.zero_add]
        repeat' first | ((with_reducible refine w_I ?_);first | (with_reducible refine w_D ?_) | ((refine wpSlimT_append _ _ _ rfl rfl rfl rfl rfl hap (fun kk hkk=>HKA.out kk hkk) ?_)) | ((with_reducible refine w_S (fun K hK=>?_));go_simp;first | (refine hK _ _ ?_;clear hK K) | (refine ⟨by (intro kk hkk;first | (simp (disch:=(simp;omega)) only [h_D,h_N,h_A,h_S];done) | (simp [h_D,h_N,h_I,hkk];done) | (have hkk2:=(HKP.out kk).1 hkk;simp (disch:=(first | (simp;done) | (simp;omega) | omega)) only [h_D,h_N,h_A,h_S];first | done | exact HKY.out.block kk hkk2.1 (by simpa using hkk2.2) | exact hbx2.block kk hkk2.1)),hK _ _ ?_⟩;clear hK K))) | fail
        clear hgr
        all_goals
         have hv7:=HSET.out wr HV.out
         have hk7:Kp [g] wr ((wr.setCell ⟨g,p1,none⟩ (.int .u8 (z:Nat))).setCell ⟨g,p1,none⟩ (.int .u8 (z:Nat))).drew:=(((Kp.refl [g] wr).setCell (.inl (by simp)) _).setCell (.inl (by simp)) _).drew
         have HV7:=Hd (hv7.below ((Below.refl _ _).drew))
         obtain ⟨w7,hw7⟩:∃ w7,w7=((wr.setCell ⟨g,p1,none⟩ (.int .u8 (z:Nat))).setCell ⟨g,p1,none⟩ (.int .u8 (z:Nat))).drew:=⟨_,rfl⟩
         rw [← hw7] at HV7 hk7 ⊢
         have HK7:Hid (Kp [g] wa w7):=Hd (HK.out.trans hk7)
         clear hw7 hk7 hv7
         go_wp2
         go_roundg (d - (I+1))
         case measure=>omega
         case rel=>exact ⟨I+1,by omega,rfl,by go_num,HK7,HV7⟩
       ·have hnp:=HNN.out hij
        have hnp2:¬ p2=p1:=fun e=>hnp e.symm
        clear hA1 hA2 hp1 hp2
        go_upto_region 12 with fail
        have hgr:=fun (w0 W:World) (p:Addr) (hp:(fun kk=>kp2 kk=true) p.block)=>g_C (w0:=w0) (keep:=(fun kk=>kp2 kk=true)) W hp
        refine w_T (fun kk=>kp2 kk=true) [23,25] (.sq [0,1,2,3,4,5,6,7,8,9,10,11,12,13,14,15,16,17,18,19,20,21,22,23,24,25] .done) (by kernel_rfl) (by kernel_rfl) ?_
        simp only [Tr.sq,List.foldr_cons,List.foldr_nil,slimTr,slimStep,Oper.slim,List.contains_cons,List.contains_nil,Option.map_none,Option.map_some,List.getElem?_toArray,List.getElem?_cons_zero,List.getElem?_cons_succ,Option.bind_some,beq_self_eq_true,Bool.or_false,Nat.reduceBEq,Nat.reduceAdd,Nat.zero_add]
        repeat' first | ((with_reducible refine w_I ?_);first | (with_reducible refine w_D ?_) | ((refine wpSlimT_append _ _ _ rfl rfl rfl rfl rfl hap (fun kk hkk=>HKA.out kk hkk) ?_)) | ((with_reducible refine w_S (fun K hK=>?_));go_simp;first | (refine hK _ _ ?_;clear hK K) | (refine ⟨by (intro kk hkk;first | (simp (disch:=(simp;omega)) only [h_D,h_N,h_A,h_S];done) | (simp [h_D,h_N,h_I,hkk];done) | (have hkk2:=(HKP.out kk).1 hkk;simp (disch:=(first | (simp;done) | (simp;omega) | omega)) only [h_D,h_N,h_A,h_S];first | done | exact HKY.out.block kk hkk2.1 (by simpa using hkk2.2) | exact hbx2.block kk hkk2.1)),hK _ _ ?_⟩;clear hK K))) | fail
        clear hgr
        all_goals
         have hv7:=HSET.out wr HV.out
         have hk7:Kp [g] wr ((wr.setCell ⟨g,p1,none⟩ (.int .u8 (z:Nat))).setCell ⟨g,p2,none⟩ (.int .u8 (z:Nat))).drew:=(((Kp.refl [g] wr).setCell (.inl (by simp)) _).setCell (.inl (by simp)) _).drew
         have HV7:=Hd (hv7.below ((Below.refl _ _).drew))
         obtain ⟨w7,hw7⟩:∃ w7,w7=((wr.setCell ⟨g,p1,none⟩ (.int .u8 (z:Nat))).setCell ⟨g,p2,none⟩ (.int .u8 (z:Nat))).drew:=⟨_,rfl⟩
         rw [← hw7] at HV7 hk7 ⊢
         have HK7:Hid (Kp [g] wa w7):=Hd (HK.out.trans hk7)
         clear hw7 hk7 hv7
         go_wp2
         go_roundg (d - (J+1))
         case measure=>omega
         case rel=>exact ⟨J+1,by omega,rfl,by go_num,HK7,HV7⟩
      ·obtain rfl:J=d:=by omega
       have HV9:Hid (View wr g M (flat J (mofF k J m (I+1) 0))):=Hd (HV.out.congr fun j hj=>by
        obtain ⟨r,c,hr,hc,rfl⟩:=off_ex (R:=J) (C:=J) (by omega) (by rw [HMM.out];exact hj)
        rw [flat_at (by omega) _ _ _ hc,flat_at (by omega) _ _ _ hc,mofF_next _ _ hr hc])
       have HK9:=Hd (HKW.out.trans HK.out)
       have HX9:Hid ((I+1) * E=X+E):=Hd (by rw [HI1.out];exact HNX.out.1)
       go_wp2
       go_roundg (k - (I+1))
       case measure=>omega
       case rel=>exact ⟨I+1,o4,S2,cp2,X+E,by omega,rfl,rfl,by go_num,HX9,HNX.out.2.1,HNX.out.2.2.1,HNX.out.2.2.2,HK9,HV9⟩
    ·obtain rfl:I=k:=by omega
     have hm2:=HK.out.heap HMB.out (by simp;omega)
     have m0:wr.cell? ⟨mb,0,none⟩=some (.int .i64 d):=cOH hm2 rfl
     have m1:wr.cell? ⟨mb,1,none⟩=some (.int .i64 d):=cOH hm2 rfl
     have m2:wr.cell? ⟨mb,2,none⟩=some (.slice (some ⟨g,0,none⟩) M M):=cOH hm2 rfl
     have hd4:=HK.out.heap D4.out (by simp;omega)
     have y0:wr.cell? ⟨r4,0,none⟩=some (.int .i64 0):=cOH hd4 rfl
     have y1:wr.cell? ⟨r4,1,none⟩=some (.int .i64 0):=cOH hd4 rfl
     have y5:wr.cell? ⟨r4,2,none⟩=some (.slice none 0 0):=cOH hd4 rfl
     have z0:=fOH hd4 0
     have z1:=fOH hd4 1
     have z2:=fOH hd4 2
     have g1:=lOH hm2
     have g4:=lOH hd4
     have h9:=set3 (x:=.int .i64 d) (y:=.int .i64 d) (z:=.slice (some ⟨g,0,none⟩) M M) hd4
     have hk9:=kp_set3 wr r4 (.int .i64 d) (.int .i64 d) (.slice (some ⟨g,0,none⟩) M M)
     have H9:=Hd h9
     have HK9:=Hd hk9
     clear h9 hk9 hd4 hm2 y2 y3 ys
     go_wp2
     have c0:=cOH (v:=.int .i64 d) (j:=0) H9.out rfl
     have c1:=cOH (v:=.int .i64 d) (j:=1) H9.out rfl
     have c2:=cOH (v:=.slice (some ⟨g,0,none⟩) M M) (j:=2) H9.out rfl
     refine bodyPost_ret (v:=.agg #[.int .i64 d,.int .i64 d,.slice (some ⟨g,0,none⟩) M M]) (by simp [results,Tryz.results41,go_sem,c0,c1,c2]) rfl ?_
     have hwr:w.heap.size=r4:=HR4.out
     refine ⟨g,rfl,by omega,?_,?_,(HF4.out.kp HK.out (by simp;omega)).kp HK9.out (by simp;omega)⟩
     ·refine (HV.out.kp HK9.out (by simp;omega)).congr fun j hj=>?_
      obtain ⟨r,c,hr,hc,rfl⟩:=off_ex (R:=d) (C:=d) (by omega) (by rw [HMM.out];exact hj)
      rw [flat_at (by omega) _ _ _ hc,flat_at (by omega) _ _ _ hc,mofF_all (by omega) _ _ hr hc]
     ·exact (HB4.out.step HK.out (fun x hx=>.inr (by simp at hx;omega))).step HK9.out (fun x hx=>.inr (by simp at hx;omega))
end Go.Proofs.YtcclhhjcejmepaaGreat
