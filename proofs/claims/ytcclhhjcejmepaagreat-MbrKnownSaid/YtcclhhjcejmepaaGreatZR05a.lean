import Derived.Test.YtcclhhjcejmepaaGreatZRefsA
set_option linter.all false
set_option maxRecDepth 100000
set_option maxHeartbeats 8000000
namespace Go.Proofs.YtcclhhjcejmepaaGreat
open Go.RowKit Fld
noncomputable def zsu (N:Nat) (A B:Nat→Nat→GF):Nat→Nat→GF:=fun i k=>sm N fun j=>A i j*B j k
theorem zc8 (R C:Nat) (a:Option Addr) (len cap:Nat) (w:World) (hR:R≤65536) (hC:C≤65536) (hl:len=R*C) :
  Calls Tryz.prog 84 #[.agg #[.int .i64 R,.int .i64 C,.slice a len cap]] w fun e w'=>e=.returned (.bool true)∧Below w.heap.size w w':=by
 have hRC:R*C≤65536*65536:=Zai hR hC;have e1:=zE6 (len:Int) (by omega);have e2:((R:Int)*(C:Int))=(len:Int):=by rw[hl];simp
 have h1:(0:Int)≤(R:Int):=by omega
 have h2:(0:Int)≤(C:Int):=by omega
 have h3:(R:Int)≤65536:=by omega
 have h4:(C:Int)≤65536:=by omega
 clear hl hRC;go_enter Tryz.func84,Tryz.ntmps84;go_wp2
 all_goals
  go_ret;exact⟨rfl,(Zaa _ _).alloc (zE3 _) _⟩
theorem zgy (R C N:Nat) (w:World) (hN:R*C=N) (hNm:N≤4294967296) (hR:R≤4294967296) (hC:C≤4294967296) :
  Calls Tryz.prog 85 #[.int .i64 R,.int .i64 C] w (zro R C N w):=by
 obtain⟨i0,hi,hz0,hz1,hz2⟩:=info_parts zbi;have e1:IntKind.i64.wrap ((R:Int)*(C:Int))=(N:Int):=by rw[show ((R:Int)*(C:Int))=((R*C:Nat):Int) from by simp,hN];exact Zbd _ (by omega)
 have e2:((R:Int)*(C:Int))=(N:Int):=by rw[←hN];simp
 have hmk:∀W,(Instr.makeSlice 22 (.int .i64 N) (.int .i64 N)).run Tryz.prog W=.ok (.slice (some ⟨W.heap.size,0,none⟩) N N) (W.alloc (.cells (Array.replicate N (.int .u8 0)) 5)):=fun W =>
  zb4 W 22 5 i0 (.int .u8 0) Tryz.underlying22 hi hz0 hz1 rfl N (by rw[hz2];omega) (by unfold maxLen;omega)
 clear hN hi hz0 hz1 hz2;go_enter Tryz.func85,Tryz.ntmps85;go_wp2;refine bodyPost_ret (v:=.agg #[.int .i64 R,.int .i64 C,.slice (some ⟨w.heap.size+1,0,none⟩) N N]) (by simp[results,Tryz.results85,go_sem]) rfl ⟨w.heap.size+1,rfl,by omega,?_,((Zaa _ _).alloc (zE3 _) _).alloc (by simp) _⟩;have hh:((w.alloc (.cells #[.int .i64 R,.int .i64 C,.slice (some ⟨w.heap.size+1,0,none⟩) N N] 96)).alloc (.cells (Array.replicate N (.int .u8 0)) 5)).heap[w.heap.size+1]? = some (.cells (Array.replicate N (.int .u8 0)) 5 (0,0)):=by
  have:=nwA (w.alloc (.cells #[.int .i64 R,.int .i64 C,.slice (some ⟨w.heap.size+1,0,none⟩) N N] 96)) (.cells (Array.replicate N (.int .u8 0)) 5)
  simpa using this
 refine⟨lOH hh,fun j hj=>⟨?_,fOH hh j⟩⟩;rw[cell_of_row _ _ _ _ _ (0,0) hh];simp[hj];rfl
noncomputable def zlc (N:Nat) (A B:Nat→Nat→GF) (I k J:Nat):Nat→Nat→GF:=fun r c=>if r<I∨r=I∧c<k then zsu N A B r c else if r=I∧c=k then sm J fun j=>A r j*B j c else 0
theorem yeo {N I k J:Nat} {A B:Nat→Nat→GF} (r c:Nat):zlc N A B I k (J+1) r c=if r=I∧c=k then zlc N A B I k J I k+A I J*B J k else zlc N A B I k J r c:=by
 unfold zlc;by_cases h:r=I∧c=k
 ·obtain⟨rfl,rfl⟩:=h;rw[if_neg (by omega),if_pos ⟨rfl,rfl⟩,if_pos ⟨rfl,rfl⟩,if_neg (by omega),if_pos ⟨rfl,rfl⟩];rfl
 ·rw[if_neg h,if_neg h,if_neg h]
theorem yen {N I k:Nat} {A B:Nat→Nat→GF} (r c:Nat):zlc N A B I k N r c=zlc N A B I (k+1) 0 r c:=by
 unfold zlc;by_cases h:r<I∨r=I∧c<k
 ·rw[if_pos h,if_pos (by omega)]
 ·rw[if_neg h];by_cases h2:r=I∧c=k
  ·rw[if_pos h2,if_pos (by omega)];rfl
  ·rw[if_neg h2,if_neg (by omega)];by_cases h3:r=I∧c=k+1
   ·rw[if_pos h3];rfl
   ·rw[if_neg h3]
theorem yep {N C I:Nat} {A B:Nat→Nat→GF} (r c:Nat) (hc:c<C):zlc N A B I C 0 r c=zlc N A B (I+1) 0 0 r c:=by
 unfold zlc;by_cases h:r<I∨r=I∧c<C
 ·rw[if_pos h,if_pos (by omega)]
 ·rw[if_neg h,if_neg (by omega),if_neg (by omega)];by_cases h3:r=I+1∧c=0
  ·rw[if_pos h3];rfl
  ·rw[if_neg h3]
theorem zcy {C r c i k:Nat} (hc:c<C) (hk:k<C) (e:r*C+c=i*C+k):r=i∧c=k:=by have h1:r=i:=(zdo (i:=r) (a:=i) hc).1 ⟨by omega,by omega⟩;subst h1;exact⟨rfl,by omega⟩
theorem zmz {w:World} {b R C:Nat} {F G:Nat→Nat→GF} (h:zag w b (R*C) (flat C F)) (hC:0<C) (e:∀r c,r<R→c<C→F r c=G r c):zag w b (R*C) (flat C G):=h.congr fun j hj=>by obtain⟨r,c,hr,hc,rfl⟩:=za2 hC hj;rw[zab hC _ _ _ hc,zab hC _ _ _ hc];exact e r c hr hc
def zjr (R N C:Nat) (A B:Nat→Nat→GF) (w:World) (e:Ending) (w':World):Prop:=∃b,e=.returned (.tuple #[.agg #[.int .i64 R,.int .i64 C,.slice (some ⟨b,0,none⟩) (R*C) (R*C)],.int .i64 0])∧w.heap.size≤b∧zag w' b (R*C) (flat C (zsu N A B))∧Below w.heap.size w w'
theorem zu8 (R N C pa pb ca cb:Nat) (A B:Nat→Nat→GF) (w:World) (hR:1≤R∧R≤256) (hN:1≤N∧N≤256) (hC:1≤C∧C≤256) (ha:zag w pa (R*N) (flat N A)) (hb:zag w pb (N*C) (flat C B)) :
  Calls Tryz.prog 44 #[.agg #[.int .i64 R,.int .i64 N,.slice (some ⟨pa,0,none⟩) (R*N) ca],.agg #[.int .i64 N,.int .i64 C,.slice (some ⟨pb,0,none⟩) (N*C) cb]] w (zjr R N C A B w):=by
 obtain⟨P1,hP1⟩:=zE4 (R*N);obtain⟨P2,hP2⟩:=zE4 (N*C);obtain⟨P3,hP3⟩:=zE4 (R*C);have hb1:P1≤256*256:=by rw[←hP1];exact Zai hR.2 hN.2
 have hb2:P2≤256*256:=by rw[←hP2];exact Zai hN.2 hC.2
 have hb3:P3≤256*256:=by rw[←hP3];exact Zai hR.2 hC.2
 have HRA:=Hd (fun W=>zc8 R N (some ⟨pa,0,none⟩) P1 ca W (by omega) (by omega) hP1.symm);have HRB:=Hd (fun W=>zc8 N C (some ⟨pb,0,none⟩) P2 cb W (by omega) (by omega) hP2.symm);have HNO:=Hd (fun W=>zgy R C P3 W hP3 (by omega) (by omega) (by omega));rw[hP1] at ha ⊢;rw[hP2] at hb ⊢;have HP:=Hd (Zao hP1 (Zao hP2 hP3));obtain⟨w3,hw3⟩:=zE5 (((w.alloc (.cells #[.int .i64 R,.int .i64 N,.slice (some ⟨pa,0,none⟩) P1 ca] 96)).alloc (.cells #[.int .i64 N,.int .i64 C,.slice (some ⟨pb,0,none⟩) P2 cb] 96)).alloc (.cells #[.int .i64 0,.int .i64 0,.slice none 0 0] 96));have hw:Below w.heap.size w w3:=by rw[hw3];exact (((Zaa _ _).alloc (zE3 _) _).alloc (by simp) _).alloc (by simp;omega) _
 have d2:w3.heap[w.heap.size]? = some (.cells #[.int .i64 R,.int .i64 N,.slice (some ⟨pa,0,none⟩) P1 ca] 96 (0,0)):=by rw[hw3];exact zaw (zaw (nwA _ _) _) _
 have d3:w3.heap[w.heap.size+1]? = some (.cells #[.int .i64 N,.int .i64 C,.slice (some ⟨pb,0,none⟩) P2 cb] 96 (0,0)):=by rw[hw3];exact zaw (nwE _ _ _ (by simp)) _
 have d4:w3.heap[w.heap.size+1+1]? = some (.cells #[.int .i64 0,.int .i64 0,.slice none 0 0] 96 (0,0)):=by rw[hw3];exact nwE _ _ _ (by simp)
 have l2:=lOH d2;have l3:=lOH d3;have l4:=lOH d4;have z20:=cOH d2 (j:=0) rfl;have z21:=cOH d2 (j:=1) rfl;have z22:=cOH d2 (j:=2) rfl;have z30:=cOH d3 (j:=0) rfl;have z31:=cOH d3 (j:=1) rfl;have z32:=cOH d3 (j:=2) rfl;obtain⟨q,hq⟩:=zE4 ((16777216:Int).tdiv (R:Int));have hq1:(256:Int)≤q∧q≤16777216:=by rw[←hq,Int.tdiv_eq_ediv_of_nonneg (by omega)];refine⟨(Int.le_ediv_iff_mul_le (by omega)).2 (by omega),Int.ediv_le_self _ (by omega)⟩
 have hq2:=zE6 q (by omega);have hq3:¬q<(C:Int):=by omega
 have hq4:(C:Int)≤q:=by omega
 have hn0:¬(R:Int)=0:=by omega
 have hn1:(0:Int)<(R:Int):=by omega
 have hn2:¬R=0:=by omega
 have D2:=Hd d2;have D3:=Hd d3;have D4:=Hd d4;have HA:=Hd (ha.below hw);have HB:=Hd (hb.below hw);have HW:=Hd hw;have hal:=ha.1;have hbl:=hb.1;clear ha hb hP1 hP2 hP3 hw d2 d3 d4;go_enter Tryz.func44,Tryz.ntmps44;go_upto_region 1 with fail
 rw[←hw3];clear hw3;have hgr:=hgK (fun k=>k<w3.heap.size);refine za7 (fun k=>k<w3.heap.size) [1,5] (.sq [0,1,2,3,4,5,6,7,8,9,10,11,12,13,14,15,16,17,18,19,20,21,22,23,24,25,26,27] .done) (.step 0 (.step 1 (.step 2 (.step 3 (.unit 3 false (.step 4 (.step 5 (.step 6 .done))) 7 6 (.step 8 (.unit 8 false (.step 9 (.step 10 (.step 11 (.step 12 (.step 13 .done))))) 14 13 (.step 15 (.unit 15 false (.step 16 (.step 17 (.step 18 (.step 19 (.unit 19 true (.step 20 (.step 21 (.step 22 (.step 23 (.step 24 (.step 25 .done)))))) 26 25 .done))))) 27 26 .done))))))))) (by kernel_rfl) (by kernel_rfl) (by kernel_rfl) (by kernel_rfl) ?_;simp only[zkc,zgg,ztv,Oper.slim,List.contains_cons,List.contains_nil,Option.map_none,Zbv,List.getElem?_toArray,Zbj,List.getElem?_cons_succ,Option.bind_some,beq_self_eq_true,Bool.or_false,Nat.reduceBEq,Nat.reduceAdd,Zbe,Option.getD_some,Option.isSome_some,Option.isSome_none,Bool.false_and,Bool.true_and,Bool.false_eq_true,if_false,if_true,Option.some_beq_some,Option.some_beq_none,Option.none_beq_some,reduceCtorEq,ite_true,ite_false]
 repeat ((with_reducible refine zac (fun K hK=>?_));go_simp;first|(refine hK _ _ ?_;clear hK K)|(refine⟨by (intro kk hkk;first|exact hkk.elim|(simp (disch:=(simp;omega)) only[h_D,h_N,h_A,h_S];done)|(simp[h_D,h_N,h_I,hkk];done)|(have hkk2:=(HKP.out kk).1 hkk;simp (disch:=(first|exact hkk2|(simp;done)|(simp;omega))) only[h_D,h_N,h_A,h_S];done)),hK _ _ ?_⟩;clear hK K)| (go_at_call 84;first|((with_reducible refine (HRA.out _).mono ?_);rintro e wx ⟨rfl,hbx⟩;have HBX:Hid (Below w3.heap.size w3 wx):=Hd (((Zaa w3.heap.size w3).drew).trans hbx);refine⟨_,rfl,(fun kk hkk=>HBX.out.block kk hkk),hK _ _ ?_⟩;clear hbx hK K)|((with_reducible refine (HRB.out _).mono ?_);rintro e wy ⟨rfl,hby⟩;refine⟨_,rfl,(fun kk hkk=>(HBX.out.trans (hby.mono HBX.out.size)).block kk hkk),hK _ _ ?_⟩;clear hK K)))
 refine zap (x:=?_) (by rfl) ?_ ?_;rotate_left
 ·intro hgd
  repeat ((with_reducible refine zac (fun K hK=>?_));go_simp;first|(refine hK _ _ ?_;clear hK K)|(refine⟨by (intro kk hkk;first|exact hkk.elim|(simp (disch:=(simp;omega)) only[h_D,h_N,h_A,h_S];done)|(simp[h_D,h_N,h_I,hkk];done)|(have hkk2:=(HKP.out kk).1 hkk;simp (disch:=(first|exact hkk2|(simp;done)|(simp;omega))) only[h_D,h_N,h_A,h_S];done)),hK _ _ ?_⟩;clear hK K)| (go_at_call 84;first|((with_reducible refine (HRA.out _).mono ?_);rintro e wx ⟨rfl,hbx⟩;have HBX:Hid (Below w3.heap.size w3 wx):=Hd (((Zaa w3.heap.size w3).drew).trans hbx);refine⟨_,rfl,(fun kk hkk=>HBX.out.block kk hkk),hK _ _ ?_⟩;clear hbx hK K)|((with_reducible refine (HRB.out _).mono ?_);rintro e wy ⟨rfl,hby⟩;refine⟨_,rfl,(fun kk hkk=>(HBX.out.trans (hby.mono HBX.out.size)).block kk hkk),hK _ _ ?_⟩;clear hK K)))
  exact zah ⟨by rfl,by (repeat' (first|with_reducible (first|exact Zaa _ _|assumption|refine Zac ?_|refine Zab ?_ ?_ _)|omega|(simp;done)|(simp;omega)))⟩
 intro js wu hbu;simp only[UT.dsts,zct,SOp.dst,Option.toList_some,Option.toList_none,Zas,Zav,Zal,cond_true,cond_false]
 repeat ((with_reducible refine zac (fun K hK=>?_));go_simp;first|(refine hK _ _ ?_;clear hK K)|(refine⟨by (intro kk hkk;first|exact hkk.elim|(simp (disch:=(simp;omega)) only[h_D,h_N,h_A,h_S];done)|(simp[h_D,h_N,h_I,hkk];done)|(have hkk2:=(HKP.out kk).1 hkk;simp (disch:=(first|exact hkk2|(simp;done)|(simp;omega))) only[h_D,h_N,h_A,h_S];done)),hK _ _ ?_⟩;clear hK K)| (go_at_call 84;first|((with_reducible refine (HRA.out _).mono ?_);rintro e wx ⟨rfl,hbx⟩;have HBX:Hid (Below w3.heap.size w3 wx):=Hd (((Zaa w3.heap.size w3).drew).trans hbx);refine⟨_,rfl,(fun kk hkk=>HBX.out.block kk hkk),hK _ _ ?_⟩;clear hbx hK K)|((with_reducible refine (HRB.out _).mono ?_);rintro e wy ⟨rfl,hby⟩;refine⟨_,rfl,(fun kk hkk=>(HBX.out.trans (hby.mono HBX.out.size)).block kk hkk),hK _ _ ?_⟩;clear hK K)))
 refine zax (x:=?_) (by rfl) ?_ ?_;rotate_left
 ·intro hgd
  repeat ((with_reducible refine zac (fun K hK=>?_));go_simp;first|(refine hK _ _ ?_;clear hK K)|(refine⟨by (intro kk hkk;first|exact hkk.elim|(simp (disch:=(simp;omega)) only[h_D,h_N,h_A,h_S];done)|(simp[h_D,h_N,h_I,hkk];done)|(have hkk2:=(HKP.out kk).1 hkk;simp (disch:=(first|exact hkk2|(simp;done)|(simp;omega))) only[h_D,h_N,h_A,h_S];done)),hK _ _ ?_⟩;clear hK K)| (go_at_call 84;first|((with_reducible refine (HRA.out _).mono ?_);rintro e wx ⟨rfl,hbx⟩;have HBX:Hid (Below w3.heap.size w3 wx):=Hd (((Zaa w3.heap.size w3).drew).trans hbx);refine⟨_,rfl,(fun kk hkk=>HBX.out.block kk hkk),hK _ _ ?_⟩;clear hbx hK K)|((with_reducible refine (HRB.out _).mono ?_);rintro e wy ⟨rfl,hby⟩;refine⟨_,rfl,(fun kk hkk=>(HBX.out.trans (hby.mono HBX.out.size)).block kk hkk),hK _ _ ?_⟩;clear hK K)))
  exact zah ⟨by rfl,rfl⟩
 intro js;simp only[UT.dsts,zct,SOp.dst,Option.toList_some,Option.toList_none,Zas,Zav,Zal,cond_true,cond_false]
 repeat ((with_reducible refine zac (fun K hK=>?_));go_simp;first|(refine hK _ _ ?_;clear hK K)|(refine⟨by (intro kk hkk;first|exact hkk.elim|(simp (disch:=(simp;omega)) only[h_D,h_N,h_A,h_S];done)|(simp[h_D,h_N,h_I,hkk];done)|(have hkk2:=(HKP.out kk).1 hkk;simp (disch:=(first|exact hkk2|(simp;done)|(simp;omega))) only[h_D,h_N,h_A,h_S];done)),hK _ _ ?_⟩;clear hK K)| (go_at_call 84;first|((with_reducible refine (HRA.out _).mono ?_);rintro e wx ⟨rfl,hbx⟩;have HBX:Hid (Below w3.heap.size w3 wx):=Hd (((Zaa w3.heap.size w3).drew).trans hbx);refine⟨_,rfl,(fun kk hkk=>HBX.out.block kk hkk),hK _ _ ?_⟩;clear hbx hK K)|((with_reducible refine (HRB.out _).mono ?_);rintro e wy ⟨rfl,hby⟩;refine⟨_,rfl,(fun kk hkk=>(HBX.out.trans (hby.mono HBX.out.size)).block kk hkk),hK _ _ ?_⟩;clear hK K)))
 refine zax (x:=?_) (by rfl) ?_ ?_;rotate_left
 ·intro hgd
  repeat ((with_reducible refine zac (fun K hK=>?_));go_simp;first|(refine hK _ _ ?_;clear hK K)|(refine⟨by (intro kk hkk;first|exact hkk.elim|(simp (disch:=(simp;omega)) only[h_D,h_N,h_A,h_S];done)|(simp[h_D,h_N,h_I,hkk];done)|(have hkk2:=(HKP.out kk).1 hkk;simp (disch:=(first|exact hkk2|(simp;done)|(simp;omega))) only[h_D,h_N,h_A,h_S];done)),hK _ _ ?_⟩;clear hK K)| (go_at_call 84;first|((with_reducible refine (HRA.out _).mono ?_);rintro e wx ⟨rfl,hbx⟩;have HBX:Hid (Below w3.heap.size w3 wx):=Hd (((Zaa w3.heap.size w3).drew).trans hbx);refine⟨_,rfl,(fun kk hkk=>HBX.out.block kk hkk),hK _ _ ?_⟩;clear hbx hK K)|((with_reducible refine (HRB.out _).mono ?_);rintro e wy ⟨rfl,hby⟩;refine⟨_,rfl,(fun kk hkk=>(HBX.out.trans (hby.mono HBX.out.size)).block kk hkk),hK _ _ ?_⟩;clear hK K)))
  refine zax (x:=?_) (by rfl) ?_ ?_;rotate_left
  ·intro hgd
   repeat ((with_reducible refine zac (fun K hK=>?_));go_simp;first|(refine hK _ _ ?_;clear hK K)|(refine⟨by (intro kk hkk;first|exact hkk.elim|(simp (disch:=(simp;omega)) only[h_D,h_N,h_A,h_S];done)|(simp[h_D,h_N,h_I,hkk];done)|(have hkk2:=(HKP.out kk).1 hkk;simp (disch:=(first|exact hkk2|(simp;done)|(simp;omega))) only[h_D,h_N,h_A,h_S];done)),hK _ _ ?_⟩;clear hK K)| (go_at_call 84;first|((with_reducible refine (HRA.out _).mono ?_);rintro e wx ⟨rfl,hbx⟩;have HBX:Hid (Below w3.heap.size w3 wx):=Hd (((Zaa w3.heap.size w3).drew).trans hbx);refine⟨_,rfl,(fun kk hkk=>HBX.out.block kk hkk),hK _ _ ?_⟩;clear hbx hK K)|((with_reducible refine (HRB.out _).mono ?_);rintro e wy ⟨rfl,hby⟩;refine⟨_,rfl,(fun kk hkk=>(HBX.out.trans (hby.mono HBX.out.size)).block kk hkk),hK _ _ ?_⟩;clear hK K)))
   exact zah ⟨by rfl,rfl⟩
  intro js;simp only[UT.dsts,zct,SOp.dst,Option.toList_some,Option.toList_none,Zas,Zav,Zal,cond_true,cond_false]
  try go_simp
  exact zah ⟨by rfl,rfl⟩
 intro js;simp only[UT.dsts,zct,SOp.dst,Option.toList_some,Option.toList_none,Zas,Zav,Zal,cond_true,cond_false]
 try go_simp
 refine zah ?_
 try go_simp
 clear hgr;have HBU:Hid (Below w3.heap.size w3 wu):=Hd (HBX.out.trans (hbu.mono HBX.out.size));have D2:=Hd (zad HBU.out D2.out);have D3:=Hd (zad HBU.out D3.out);have D4:=Hd (zad HBU.out D4.out);have HA:=Hd (HA.out.below HBU.out);have HB:=Hd (HB.out.below HBU.out);have HW:=Hd (HW.out.trans (HBU.out.mono HW.out.size));have hsu:=HBU.out.size;have l2:=lOH D2.out;have l3:=lOH D3.out;have l4:=lOH D4.out;have z20:=cOH D2.out (j:=0) rfl;have z31:=cOH D3.out (j:=1) rfl;clear hbu HBX;go_wp2_with fail;refine (HNO.out wu).mono ?_;rintro e w5 ⟨g,rfl,hg,hv5,hb5⟩;obtain⟨w6,hw6⟩:=zE5 (w5.alloc (.cells #[.int .i64 R,.int .i64 C,.slice (some ⟨g,0,none⟩) P3 P3] 96));have hb6:Below w5.heap.size w5 w6:=by rw[hw6];exact (Zaa _ _).alloc (zE3 _) _
 obtain⟨mb,hmb⟩:=zE4 w5.heap.size;have d6:w6.heap[mb]? = some (.cells #[.int .i64 R,.int .i64 C,.slice (some ⟨g,0,none⟩) P3 P3] 96 (0,0)):=by rw[hw6,←hmb];exact nwA _ _
 have hb56:=hb5.trans (hb6.mono hb5.size);have hgm:g<mb:=by rw[←hmb];exact hv5.1
 have D2:=Hd (zad hb56 D2.out);have D3:=Hd (zad hb56 D3.out);have D4:=Hd (zad hb56 D4.out);have D6:=Hd d6;have HA:=Hd (HA.out.below hb56);have HB:=Hd (HB.out.below hb56);have HW:=Hd (HW.out.trans (hb56.mono HW.out.size));have hsz6:=hb56.size;have HV6:Hid (zag w6 g P3 (flat C (zlc N A B 0 0 0))):=Hd ((hv5.below hb6).congr fun j hj=>by
  unfold flat zlc;rw[if_neg (fun h=>h.elim (Zcm _) (fun h=>Zcm _ h.2))];by_cases h:j / C=0∧j % C=0
  ·rw[if_pos h];rfl
  ·rw[if_neg h])
 have hmb6:=lOH d6;clear hv5 hb5 hb6 hb56 d6 z20 z21 z22 z30 z31 z32 hq hq1 hq2 hq3 hq4 hn0 hn1 hn2 HRA HRB HNO;go_wp2;rw[←hw6];clear hw6;have HVF:Hid (∀(W:World) (F G:Nat→Nat→GF),zag W g P3 (flat C F)→(∀r c,r<R→c<C→F r c=G r c)→zag W g P3 (flat C G)):=Hd fun W F G h e=>by rw[←HP.out.2.2] at h ⊢;exact zmz h hC.1 e
 go_loopg [7] R (fun gk i wr=>∃I:Nat,I≤R∧gk=R-I∧i=.int .i64 I∧Hid (zag wr g P3 (flat C (zlc N A B I 0 0)))∧Hid (Kp [g] w6 wr))
 case atStart=>exact⟨0,by omega,rfl,rfl,HV6,Hd (Kp.refl _ _)⟩
 case round =>
  clear HV6;obtain⟨I,hI,rfl,rfl,HV,HK⟩:=hrel;have hsr:=HK.out.size;have E2:=HK.out.heap D2.out (by simp;omega);have z20:=cOH E2 (j:=0) rfl;clear E2;by_cases hlt:I<R
  ·go_wp2;clear z20 hsr;go_loopg [8] C (fun gk i wr=>∃k:Nat,k≤C∧gk=C-k∧i=.int .i64 k∧Hid (zag wr g P3 (flat C (zlc N A B I k 0)))∧Hid (Kp [g] w6 wr))
   case atStart=>exact⟨0,by omega,rfl,rfl,HV,HK⟩
   case round =>
    clear HV HK;obtain⟨k,hk,rfl,rfl,HV,HK⟩:=hrel;have hsr:=HK.out.size;have E3:=HK.out.heap D3.out (by simp;omega);have z31:=cOH E3 (j:=1) rfl;clear E3;by_cases hltk:k<C
    ·go_wp2;clear z31 hsr;go_loopg [9] N (fun gk i wr=>∃J:Nat,J≤N∧gk=N-J∧i=.int .i64 J∧Hid (zag wr g P3 (flat C (zlc N A B I k J)))∧Hid (Kp [g] w6 wr))
     case atStart=>exact⟨0,by omega,rfl,rfl,HV,HK⟩
     case round =>
      clear HV HK;obtain⟨J,hJ,rfl,rfl,HV,HK⟩:=hrel;have hsr:=HK.out.size;have E2:=HK.out.heap D2.out (by simp;omega);have z21:=cOH E2 (j:=1) rfl;have z22:=cOH E2 (j:=2) rfl;have E3:=HK.out.heap D3.out (by simp;omega);have z31:=cOH E3 (j:=1) rfl;have z32:=cOH E3 (j:=2) rfl;have E6:=HK.out.heap D6.out (by simp;omega);have z62:=cOH E6 (j:=2) rfl;clear E2 E3 E6;by_cases hltj:J<N
      ·obtain⟨p1,hp1⟩:=zE4 (I*C);obtain⟨p2,hp2⟩:=zE4 (p1+k);obtain⟨q1,hq1⟩:=zE4 (I*N);obtain⟨q2,hq2⟩:=zE4 (q1+J);obtain⟨s1,hs1⟩:=zE4 (J*C);obtain⟨s2,hs2⟩:=zE4 (s1+k);have hp3:p2<P3:=by rw[←hp2,←hp1,←HP.out.2.2];exact zaz hlt hltk
       have hq3:q2<P1:=by rw[←hq2,←hq1,←HP.out.1];exact zaz hlt hltj
       have hs3:s2<P2:=by rw[←hs2,←hs1,←HP.out.2.1];exact zaz hltj hltk
       have x1:(I:Int)*(C:Int)=(p1:Int):=by rw[←hp1];simp
       have x2:(p1:Int)+(k:Int)=(p2:Int):=by omega
       have x3:(I:Int)*(N:Int)=(q1:Int):=by rw[←hq1];simp
       have x4:(q1:Int)+(J:Int)=(q2:Int):=by omega
       have x5:(J:Int)*(C:Int)=(s1:Int):=by rw[←hs1];simp
       have x6:(s1:Int)+(k:Int)=(s2:Int):=by omega
       have w1:=zE6 (p1:Int) (by omega);have w2:=zE6 (p2:Int) (by omega);have w3':IntKind.i64.wrap (q1:Int)=(q1:Int):=Zbd _ (by omega);have w4:=zE6 (q2:Int) (by omega);have w5':IntKind.i64.wrap (s1:Int)=(s1:Int):=Zbd _ (by omega);have w6':IntKind.i64.wrap (s2:Int)=(s2:Int):=Zbd _ (by omega);have i1:(0:Int)≤(p2:Int)∧(p2:Int)<(P3:Int):=by omega
       have i2:(0:Int)≤(q2:Int)∧(q2:Int)<(P1:Int):=by omega
       have i3:(0:Int)≤(s2:Int)∧(s2:Int)<(P2:Int):=by omega
       have ca1:=((HA.out.kp HK.out (by simp;omega)).2 q2 hq3).1;have cb1:=((HB.out.kp HK.out (by simp;omega)).2 s2 hs3).1;rw[←hq2,←hq1,zab (by omega) _ _ _ hltj,hq1,hq2] at ca1;rw[←hs2,←hs1,zab (by omega) _ _ _ hltk,hs1,hs2] at cb1;obtain⟨cg,fg⟩:=HV.out.2 p2 hp3;rw[←hp2,←hp1,zab (by omega) _ _ _ hltk,hp1,hp2] at cg;rw[←hp2,←hp1] at fg;rw[hp1,hp2] at fg;have hgl:=HV.out.1;obtain⟨an,han⟩:=zE4 ((A I J).n);obtain⟨bn,hbn⟩:=zE4 ((B J k).n);have HMUL:=Hd (zg1 an bn wr.drew (by rw[←han];exact (A I J).lt) (by rw[←hbn];exact (B J k).lt));have hmn:zb9 an bn=(A I J*B J k).n:=by rw[←han,←hbn];rfl
       rw[hmn] at HMUL;have hxor:=GF.u8_xor (zlc N A B I k J I k) (A I J*B J k);obtain⟨mn,hmn2⟩:=zE4 ((A I J*B J k).n);obtain⟨on,hon⟩:=zE4 ((zlc N A B I k J I k).n);obtain⟨y,hy⟩:=zE4 (zlc N A B I k J I k+A I J*B J k);obtain⟨yn,hyn⟩:=zE4 y.n;rw[hmn2] at HMUL;rw[hy,hon,hmn2,hyn] at hxor;rw[han] at ca1;rw[hbn] at cb1;rw[hon] at cg;have hvs:=HV.out.set hp3 y;rw[hyn] at hvs;have HV7:Hid (zag (wr.setCell ⟨g,p2,none⟩ (.int .u8 (yn:Nat))) g P3 (flat C (zlc N A B I k (J+1)))):=Hd (by
        refine zag.congr hvs fun j hj=>?_;rw[←HP.out.2.2] at hj;obtain⟨r,c,hr,hc,rfl⟩:=za2 hC.1 hj;rw[zab hC.1 _ _ _ hc,zab hC.1 _ _ _ hc,yeo];by_cases h:r=I∧c=k
        ·obtain⟨rfl,rfl⟩:=h;rw[if_pos (by rw[hp1,hp2]),if_pos ⟨rfl,rfl⟩,hy]
        ·rw[if_neg h,if_neg (fun e=>h (zcy hc hltk (by rw[e,←hp2,←hp1])))])
       have HK7:Hid (Kp [g] w6 (wr.setCell ⟨g,p2,none⟩ (.int .u8 (yn:Nat)))):=Hd (HK.out.setCell (.inl (by simp)) _);obtain⟨kp,hkp⟩:∃kp:Nat→Bool,∀j,kp j=true↔j≠g:=⟨fun j=>decide (j≠g),by simp⟩;have k1:kp w.heap.size=true:=(hkp _).2 (by omega);have k2:kp (w.heap.size+1)=true:=(hkp _).2 (by omega);have k3:kp mb=true:=(hkp _).2 (by omega);have k4:kp pa=true:=(hkp _).2 (by omega);have k5:kp pb=true:=(hkp _).2 (by omega);have HKP:=Hd hkp;clear hkp hp1 hp2 hq1 hq2 hs1 hs2 han hbn hmn hmn2 hon hy hyn hvs HV HK;go_upto_region 13 with fail
       have hgr:=hgK (fun j=>kp j=true);refine w_T (fun j=>kp j=true) [17,38,41] (.sq [0,1,2,3,4,5,6,7,8,9,10,11,12,13,14,15,16,18,19,20,21,22,23,24,25,26,27,28,29,30,31,32,33,34,35,36,37] (.fork 17 (.sq [38,39,40,41] .done) 38 (.sq [17,39,40,41] .done))) (by kernel_rfl) (by kernel_rfl) ?_;simp only[TQ,Oper.slim,Nat.reduceBEq,Nat.reduceAdd]
       repeat' first|((with_reducible refine w_I ?_);first|(with_reducible refine w_D ?_)|(with_reducible refine zaf ?_ ?_)|((with_reducible refine w_S (fun K hK=>?_));go_simp;first|(refine hK _ _ ?_;clear hK K)|(refine⟨by (intro kk hkk;first|(simp (disch:=(simp;omega)) only[h_D,h_N,h_A,h_S];done)|(simp[h_D,h_N,h_I,hkk];done)|(have hkk2:=(HKP.out kk).1 hkk;simp (disch:=(first|exact hkk2|(simp;done)|(simp;omega))) only[h_D,h_N,h_A,h_S];done)),hK _ _ ?_⟩;clear hK K)|(go_at_call 49;(with_reducible refine HMUL.out.mono ?_);rintro e wx ⟨rfl,hwx⟩;subst hwx;refine⟨_,rfl,(fun kk hkk=>rfl),hK _ _ ?_⟩;clear hK K)))|fail
       all_goals clear hgr
       all_goals go_wp2
       all_goals go_roundg (N-(J+1))
       all_goals first
        | omega
        | exact⟨J+1,by omega,rfl,by go_num,by first|exact HV7|exact Hd HV7.out.drew,by first|exact HK7|exact Hd HK7.out.drew⟩
      ·obtain rfl:J=N:=by omega
       have HV2:=Hd (HVF.out _ _ _ HV.out fun r c _ _=>yen r c);go_wp2;go_roundg (C-(k+1))
       case measure=>omega
       case rel=>exact⟨k+1,by omega,rfl,by go_num,HV2,HK⟩
    ·obtain rfl:k=C:=by omega
     have HV2:=Hd (HVF.out _ _ _ HV.out fun r c _ hc=>yep r c hc);go_wp2;go_roundg (R-(I+1))
     case measure=>omega
     case rel=>exact⟨I+1,by omega,rfl,by go_num,HV2,HK⟩
  ·obtain rfl:I=R:=by omega
   have E4:=HK.out.heap D4.out (by simp;omega);have E6:=HK.out.heap D6.out (by simp;omega);have m0:=cOH E6 (j:=0) rfl;have m1:=cOH E6 (j:=1) rfl;have m2:=cOH E6 (j:=2) rfl;have y0:=cOH E4 (j:=0) rfl;have y1:=cOH E4 (j:=1) rfl;have y2:=cOH E4 (j:=2) rfl;have f0:=fOH E4 0;have f1:=fOH E4 1;have f2:=fOH E4 2;have l4r:=lOH E4;have l6r:=lOH E6;have h6:=hSS (hSS (hSS E4 0 (.int .i64 I)) 1 (.int .i64 C)) 2 (.slice (some ⟨g,0,none⟩) P3 P3);have h7:(((wr.setCell ⟨w.heap.size+1+1,0,none⟩ (.int .i64 I)).setCell ⟨w.heap.size+1+1,1,none⟩ (.int .i64 C)).setCell ⟨w.heap.size+1+1,2,none⟩ (.slice (some ⟨g,0,none⟩) P3 P3)).heap[w.heap.size+1+1]? = some (.cells #[.int .i64 I,.int .i64 C,.slice (some ⟨g,0,none⟩) P3 P3] 96 (0,0)):=by simpa using h6
   have c0:=cOH h7 (j:=0) rfl;have c1:=cOH h7 (j:=1) rfl;have c2:=cOH h7 (j:=2) rfl;have hkk:Kp [w.heap.size+1+1] wr (((wr.setCell ⟨w.heap.size+1+1,0,none⟩ (.int .i64 I)).setCell ⟨w.heap.size+1+1,1,none⟩ (.int .i64 C)).setCell ⟨w.heap.size+1+1,2,none⟩ (.slice (some ⟨g,0,none⟩) P3 P3)) :=
    (((Kp.refl _ _).setCell (.inl (by simp)) _).setCell (.inl (by simp)) _).setCell (.inl (by simp)) _
   have HPO:Hid (zjr I N C A B w (.returned (.tuple #[.agg #[.int .i64 I,.int .i64 C,.slice (some ⟨g,0,none⟩) P3 P3],.int .i64 0])) (((wr.setCell ⟨w.heap.size+1+1,0,none⟩ (.int .i64 I)).setCell ⟨w.heap.size+1+1,1,none⟩ (.int .i64 C)).setCell ⟨w.heap.size+1+1,2,none⟩ (.slice (some ⟨g,0,none⟩) P3 P3))):=Hd ⟨g,by rw[HP.out.2.2],by omega,by
    rw[HP.out.2.2];refine (HVF.out _ _ _ HV.out fun r c hr hc=>?_).kp hkk (by simp;omega);unfold zlc;rw[if_pos (.inl hr)],(HW.out.trans (HK.out.below (by have:=HW.out.size;omega) (by simp;omega))).trans (hkk.below (by have:=HW.out.size;omega) (by simp;omega))⟩
   clear E4 E6 h6 h7 hkk;go_wp2;refine bodyPost_ret (v:=.tuple #[.agg #[.int .i64 I,.int .i64 C,.slice (some ⟨g,0,none⟩) P3 P3],.int .i64 0]) ?_ rfl HPO.out;simp[results,Tryz.results44,go_sem,c0,c1,c2]
