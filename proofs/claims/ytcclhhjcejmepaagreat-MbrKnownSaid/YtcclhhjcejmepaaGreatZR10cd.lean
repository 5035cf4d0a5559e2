import Derived.Test.YtcclhhjcejmepaaGreatZR10
import Derived.Test.YtcclhhjcejmepaaGreatZSk
set_option linter.all false
set_option maxRecDepth 100000
set_option maxHeartbeats 8000000
namespace Go.Proofs.YtcclhhjcejmepaaGreat
open Go.RowKit Fld
theorem zu9 (a c:Value) (x:Option Addr) (n k:Nat) (W:World):(Instr.field 96 (.agg #[a,c,.slice x n k]) 2).run Tryz.prog W=.ok (.slice x n k) W:=by kernel_rfl
def zg9 (n d:Nat) (f t:Int) (sh:List GF) (w:World) (e:Ending) (w':World):Prop:=∃(b:GF) (c:Int),e=.returned (.tuple #[.int .u8 (b.n:Nat),.int .i64 c])∧ze2 n d f t sh b c∧Below w.heap.size w w'
theorem zsk (w:World) (n k d:Nat) (sv:Value) (from_ to_:Int) (sh:List GF) (hn:1≤d∧d<n∧n≤255) (hs:GRd w sv sh) (hsl:sh.length≤1000000) :
  Calls Tryz.prog 18 #[rb n k d,.int .i64 from_,.int .i64 to_,sv] w (zg9 n d from_ to_ sh w):=by
 obtain⟨as_,cs_,rfl,hcs⟩:=hs.form;obtain⟨L,hL⟩:=zE4 sh.length;obtain⟨w1,hw1⟩:=zE5 (w.alloc (.cells #[.int .i64 n,.int .i64 k,.int .i64 d] 32));have hb1:Below w.heap.size w w1:=by rw[hw1];exact (Zaa _ _).alloc (zE3 _) _
 have d4:w1.heap[w.heap.size]? = some (.cells #[.int .i64 n,.int .i64 k,.int .i64 d] 32 (0,0)):=by rw[hw1];exact nwA _ _
 have z0:=cOH d4 (j:=0) rfl;have z1:=cOH d4 (j:=1) rfl;have z2:=cOH d4 (j:=2) rfl;have l4:=lOH d4;have HS:=Hd (hs.below hb1);have HL:=Hd hL;have HB1:=Hd hb1;have HPSI:=Hd (fun (j:Nat) (hj:j≤255)=>zlt n k d j w1 hj (by omega));rw[hL] at HS hsl ⊢;clear hs hL hcs hb1 d4;go_enter Tryz.func18,Tryz.ntmps18;go_upto_region 1 with fail
 rw[←hw1];clear hw1;refine zbk (.step 0 (.step 1 (.step 2 (.unit 2 false (.step 3 (.step 4 (.step 5 (.step 6 .done)))) 7 6 (.step 8 (.unit 8 false (.step 9 (.step 10 .done)) 11 10 (.step 12 (.unit 12 false (.step 13 (.step 14 (.step 15 (.step 16 .done)))) 17 16 (.step 18 (.unit 18 false (.step 19 (.step 20 (.step 21 .done))) 22 21 (.step 23 (.unit 23 false (.step 24 (.step 25 (.step 26 (.step 27 (.step 28 .done))))) 29 28 .done)))))))))))) (by kernel_rfl) (by kernel_rfl) ?_;simp only[zkc,zgg,ztv,Oper.slim,List.contains_cons,List.contains_nil,Option.map_none,Zbv,List.getElem?_toArray,Zbj,List.getElem?_cons_succ,Option.bind_some,beq_self_eq_true,Bool.or_false,Nat.reduceBEq,Nat.reduceAdd,Zbe,Option.getD_some,Option.isSome_some,Option.isSome_none,Bool.false_and,Bool.true_and,Bool.false_eq_true,if_false,if_true,Option.some_beq_some,Option.some_beq_none,Option.none_beq_some,reduceCtorEq,ite_true,ite_false]
 repeat ((with_reducible refine zac (fun K hK=>?_));go_simp;first|(refine hK _ _ ?_;clear hK K)|(refine⟨by (intro kk hkk;first|exact hkk.elim|(simp (disch:=(simp;omega)) only[h_D,h_N,h_A,h_S];done)|(simp[h_D,h_N,h_I,hkk];done)|fail),hK _ _ ?_⟩;clear hK K))
 iterate 5
  refine zax (x:=?_) (by rfl) ?_ ?_;rotate_left
  ·intro hgd
   repeat ((with_reducible refine zac (fun K hK=>?_));go_simp;first|(refine hK _ _ ?_;clear hK K)|(refine⟨by (intro kk hkk;first|exact hkk.elim|(simp (disch:=(simp;omega)) only[h_D,h_N,h_A,h_S];done)|(simp[h_D,h_N,h_I,hkk];done)|fail),hK _ _ ?_⟩;clear hK K))
   exact zah ⟨by rfl,rfl⟩
  intro js;simp only[UT.dsts,zct,SOp.dst,Option.toList_some,Option.toList_none,Zas,Zav,Zal,cond_true,cond_false]
  repeat ((with_reducible refine zac (fun K hK=>?_));go_simp;first|(refine hK _ _ ?_;clear hK K)|(refine⟨by (intro kk hkk;first|exact hkk.elim|(simp (disch:=(simp;omega)) only[h_D,h_N,h_A,h_S];done)|(simp[h_D,h_N,h_I,hkk];done)|fail),hK _ _ ?_⟩;clear hK K))
 try go_simp
 refine zah ?_
 try go_simp
 have hgd:(decide (from_<0) || decide ((n:Int)≤from_) || decide (to_<0) || decide ((n:Int)≤to_) || from_ == to_ || (L:Int) != (d:Int))=false↔((0≤from_∧from_<(n:Int))∧(0≤to_∧to_<(n:Int))∧from_≠to_∧L=d):=by simp only[Bool.or_eq_false_iff,decide_eq_false_iff_not,beq_eq_false_iff_ne,bne_eq_false_iff_eq,ne_eq];omega
 generalize hq:(decide (from_<0) || decide ((n:Int)≤from_) || decide (to_<0) || decide ((n:Int)≤to_) || from_ == to_ || (L:Int) != (d:Int))=q at *;have HGD:=Hd hgd;clear hgd hq;cases q
 case true =>
  have HP:Hid (zg9 n d from_ to_ sh w (.returned (.tuple #[.int .u8 0,.int .i64 2])) w1):=Hd
   ⟨0,2,rfl,.inl ⟨(fun hg=>by rw[HL.out] at hg;exact absurd (HGD.out.2 hg) (by simp)),rfl,rfl⟩,HB1.out⟩
  go_wp2;go_ret2;exact HP.out
 case false =>
  have hg:=HGD.out.1 (by trivial);obtain⟨T,rfl⟩:∃T:Nat,to_=(T:Int):=⟨to_.toNat,by omega⟩;have hTn:T<n:=by omega
  have HG:=Hd hg;obtain⟨-,-,-,rfl⟩:=hg;obtain⟨F,hF⟩:∃F:Nat→GF,F=fun i=>sh.getD i 0*pw ((za9 n).getD T 0) i:=⟨_,rfl⟩;have HFF:=Hd hF;obtain⟨X,hX⟩:=zE4 (pw GF.two T);have HX:Hid ((za9 n).getD T 0=X):=Hd (by rw[zfi hTn,hX]);have HPS:=Hd (HPSI.out T (by omega));rw[hX] at HPS;unfold zch at HPS;have hs1:=HB1.out.size;clear hF hX HPSI;go_wp2_with fail;refine HPS.out.mono ?_;rintro e w2 ⟨b,cap,rfl,hb,hv,-,hb2⟩;have HV:=Hd hv;have HS2:=Hd (HS.out.below hb2);have HB2:Hid (Below w.heap.size w w2):=Hd (HB1.out.trans (hb2.mono hs1));clear hv hb2 HS HB1 z0 z1 z2 HPS;have hfd:=fun W=>zu9 (.int .i64 1) (.int .i64 L) (some ⟨b,0,none⟩) L cap W;go_wp2;clear hfd;go_loopg [11,12] L (fun gk s i wr=>∃(I v:Nat),I≤L∧gk=L-I∧s=.int .u8 (v:Nat)∧i=.int .i64 I∧Hid ((sm I F).n=v)∧Hid (Below w2.heap.size w2 wr))
  case atStart=>exact⟨0,0,by omega,rfl,rfl,rfl,Hd rfl,Hd (Zaa _ _)⟩
  case round =>
   obtain⟨I,v,hI,rfl,rfl,rfl,HVV,HB⟩:=hrel;have hsr:=HB.out.size;by_cases hlt:I<L
   ·obtain⟨x,hx⟩:∃x,sh[I]? = some x:=⟨_,zE1 (by rw[HL.out];exact hlt)⟩;obtain⟨bs,os,rfl,hbs,cx⟩:=(HS2.out.below HB.out).at hx;have hvr:=HV.out.below HB.out;have cp:wr.cell? ⟨b,I,none⟩=some (.int .u8 ((pw X I).n:Nat)):=(hvr.2 I hlt).1;have hpl:=hvr.1;obtain⟨z,hz⟩:=zE4 (pw X I);rw[hz] at cp;have hFI:F I=x*z:=by rw[HFF.out];show sh.getD I 0*pw ((za9 n).getD T 0) I=x*z;rw[HX.out,hz,zE2,hx];rfl
    have hsm:sm (I+1) F=sm I F+x*z:=by rw[←hFI];rfl
    have hxor:=GF.u8_xor (sm I F) (x*z);obtain⟨xn,hxn⟩:=zE4 x.n;obtain⟨zn,hzn⟩:=zE4 z.n;have HMUL:=Hd (zg1 xn zn wr.drew (by rw[←hxn];exact x.lt) (by rw[←hzn];exact z.lt));have hmn:zb9 xn zn=(x*z).n:=by rw[←hxn,←hzn];rfl
    rw[hmn] at HMUL;obtain⟨mn,hmn2⟩:=zE4 ((x*z).n);obtain⟨sn,hsn⟩:=zE4 ((sm (I+1) F).n);rw[←hsm,HVV.out,hmn2,hsn] at hxor;rw[hmn2] at HMUL;rw[hxn] at cx;rw[hzn] at cp;have HV2:=Hd hsn;have HB3:Hid (Below w2.heap.size w2 wr.drew):=Hd HB.out.drew;have i1:(0:Int)≤(I:Int)∧(I:Int)<(L:Int):=by omega
    clear hx hvr hz hFI hsm hxn hzn hmn hmn2 hsn;go_upto_region 8 with fail
    have hgr:=hgK (fun j=>j<wr.heap.size);refine w_T (fun j=>j<wr.heap.size) [9] (.sq [0,1,2,3,4,5,6,7,8,9,10,11] .done) (by kernel_rfl) (by kernel_rfl) ?_;simp only[TQ,Oper.slim,Nat.reduceBEq,Nat.reduceAdd]
    repeat' first|((with_reducible refine w_I ?_);first|(with_reducible refine w_D ?_)|((with_reducible refine w_S (fun K hK=>?_));go_simp;first|(refine hK _ _ ?_;clear hK K)|(refine⟨by (intro kk hkk;first|(simp (disch:=(simp;omega)) only[h_D,h_N,h_A,h_S];done)|(simp[h_D,h_N,h_I,hkk];done)|fail),hK _ _ ?_⟩;clear hK K)|(go_at_call 49;(with_reducible refine HMUL.out.mono ?_);rintro e wx ⟨rfl,hwx⟩;subst hwx;refine⟨_,rfl,(fun kk hkk=>rfl),hK _ _ ?_⟩;clear hK K)))|fail
    clear hgr;go_wp2;go_roundg (L-(I+1))
    case measure=>omega
    case rel=>exact⟨I+1,sn,by omega,rfl,rfl,by go_num,HV2,HB3⟩
   ·obtain rfl:I=L:=by omega
    have HP:Hid (zg9 n I from_ (T:Int) sh w (.returned (.tuple #[.int .u8 (v:Nat),.int .i64 0])) wr):=Hd
     ⟨sm I F,0,by rw[HVV.out],.inr ⟨by rw[HL.out];exact⟨HG.out.1,HG.out.2.1,HG.out.2.2.1,rfl⟩,by rw[HFF.out,Zam],rfl⟩,HB2.out.trans (HB.out.mono HB2.out.size)⟩
    go_wp2;go_ret2;exact HP.out
noncomputable def ph1 (K D:Nat) (m:List GF) (I k:Nat):Nat→Nat→GF:=fun r c=>if r<K∧c<K∧(min r c<I∨min r c=I∧max r c<k) then mM K D m r c else 0
noncomputable def ph2 (K D:Nat) (m:List GF) (I k:Nat):Nat→Nat→GF:=fun r c=>if r<K∧c<K∨min r c<K∧max r c<D∧(min r c<I∨min r c=I∧max r c<k) then mM K D m r c else 0
theorem zyk {K D I k:Nat} {m:List GF} (hI:I<K) (hIk:I≤k) (hk:k<K) (r c:Nat):ph1 K D m I (k+1) r c=if r=k∧c=I then m.getD (tri K I+(k-I)) 0 else if r=I∧c=k then m.getD (tri K I+(k-I)) 0 else ph1 K D m I k r c:=by
 have hv:mM K D m I k=m.getD (tri K I+(k-I)) 0:=by rw[zwc m hI hk,zo2 hIk]
 unfold ph1;by_cases h1:r=k∧c=I
 ·rw[if_pos h1];obtain⟨rfl,rfl⟩:=h1;rw[if_pos (by omega),zeg,hv]
 ·rw[if_neg h1];by_cases h2:r=I∧c=k
  ·rw[if_pos h2];obtain⟨rfl,rfl⟩:=h2;rw[if_pos (by omega),hv]
  ·rw[if_neg h2];by_cases h3:r<K∧c<K∧(min r c<I∨min r c=I∧max r c<k)
   ·rw[if_pos h3,if_pos (by omega)]
   ·rw[if_neg h3,if_neg (by omega)]
theorem ybo {K D I:Nat} {m:List GF} (r c:Nat):ph1 K D m I K r c=ph1 K D m (I+1) (I+1) r c:=by
 unfold ph1;by_cases h:r<K∧c<K∧(min r c<I∨min r c=I∧max r c<K)
 ·rw[if_pos h,if_pos (by omega)]
 ·rw[if_neg h,if_neg (by omega)]
theorem yfx {K D:Nat} {m:List GF} (hKD:K≤D) (r c:Nat):ph1 K D m K K r c=ph2 K D m 0 K r c:=by
 unfold ph1 ph2;by_cases h:r<K∧c<K
 ·rw[if_pos (by omega),if_pos (.inl h)]
 ·rw[if_neg (by omega),if_neg (by omega)]
theorem zyj {K D I k:Nat} {m:List GF} (hI:I<K) (hIk:K≤k) (hk:k<D) (r c:Nat):ph2 K D m I (k+1) r c=if r=k∧c=I then m.getD (tI K D I k) 0 else if r=I∧c=k then m.getD (tI K D I k) 0 else ph2 K D m I k r c:=by
 have hv:mM K D m I k=m.getD (tI K D I k) 0:=zwb m hI hIk hk;unfold ph2;by_cases h1:r=k∧c=I
 ·rw[if_pos h1];obtain⟨rfl,rfl⟩:=h1;rw[if_pos (by omega),zeg,hv]
 ·rw[if_neg h1];by_cases h2:r=I∧c=k
  ·rw[if_pos h2];obtain⟨rfl,rfl⟩:=h2;rw[if_pos (by omega),hv]
  ·rw[if_neg h2];by_cases h3:r<K∧c<K∨min r c<K∧max r c<D∧(min r c<I∨min r c=I∧max r c<k)
   ·rw[if_pos h3,if_pos (by omega)]
   ·rw[if_neg h3,if_neg (by omega)]
theorem ybm {K D I:Nat} {m:List GF} (hKD:K≤D) (r c:Nat):ph2 K D m I D r c=ph2 K D m (I+1) K r c:=by
 unfold ph2;by_cases h:r<K∧c<K∨min r c<K∧max r c<D∧(min r c<I∨min r c=I∧max r c<D)
 ·rw[if_pos h,if_pos (by omega)]
 ·rw[if_neg h,if_neg (by omega)]
theorem ybn {K D r c:Nat} {m:List GF} (hKD:K≤D) (hr:r<D) (hc:c<D):ph2 K D m K K r c=mM K D m r c:=by
 unfold ph2;by_cases h:r<K∧c<K∨min r c<K∧max r c<D∧(min r c<K∨min r c=K∧max r c<K)
 ·rw[if_pos h]
 ·rw[if_neg h,yb6 m (by omega) (by omega)]
def zia (K D:Nat) (m:List GF) (w:World) (e:Ending) (w':World):Prop:=∃b,e=.returned (.agg #[.int .i64 D,.int .i64 D,.slice (some ⟨b,0,none⟩) (D*D) (D*D)])∧w.heap.size≤b∧zag w' b (D*D) (flat D (mM K D m))∧Below w.heap.size w w'
theorem zqi (w:World) (n K D:Nat) (mv:Value) (m:List GF) (hk:1≤K∧K≤D∧D≤255) (hm:GRd w mv m) (hl:m.length=mbB K D) :
  Calls Tryz.prog 46 #[rb n K D,mv] w (zia K D m w):=by
 obtain⟨as_,cs_,rfl,hcs⟩:=hm.form;obtain⟨L,hL⟩:=zE4 m.length;obtain⟨DD,hDD⟩:=zE4 (D*D);have hDb:DD≤255*255:=by rw[←hDD];exact Zai hk.2.2 hk.2.2
 have HNO:=Hd (fun W=>zgy D D DD W hDD (by omega) (by omega) (by omega));obtain⟨w1,hw1⟩:=zE5 ((w.alloc (.cells #[.int .i64 n,.int .i64 K,.int .i64 D] 32)).alloc (.cells #[.int .i64 0,.int .i64 0,.slice none 0 0] 96));have hb1:Below w.heap.size w w1:=by rw[hw1];exact ((Zaa _ _).alloc (zE3 _) _).alloc (by simp) _
 have d2:w1.heap[w.heap.size]? = some (.cells #[.int .i64 n,.int .i64 K,.int .i64 D] 32 (0,0)):=by rw[hw1];exact zaw (nwA _ _) _
 have d4:w1.heap[w.heap.size+1]? = some (.cells #[.int .i64 0,.int .i64 0,.slice none 0 0] 96 (0,0)):=by rw[hw1];exact nwE _ _ _ (by simp)
 have z2:=cOH d2 (j:=2) rfl;have l2:=lOH d2;have l4:=lOH d4;have D2:=Hd d2;have D4:=Hd d4;have HB1:=Hd hb1;have HM:=Hd hm;have HL:=Hd hL;have HLB:=Hd hl;have HDD:=Hd hDD;have hLb:L≤DD:=by rw[←hL,hl,zhl hk.2.1,←hDD];have:=Zar D hk.2.1;omega
 rw[hL] at HM ⊢;have HM0:=HM;clear hm hL hl hDD d2 d4 hb1 hcs;go_enter Tryz.func46,Tryz.ntmps46;go_upto_region 1 with fail
 rw[←hw1];clear hw1;go_wp2_with fail;refine (HNO.out w1).mono ?_;rintro e w4 ⟨g,rfl,hg,hv4,hb4⟩;obtain⟨w5,hw5⟩:=zE5 (w4.alloc (.cells #[.int .i64 D,.int .i64 D,.slice (some ⟨g,0,none⟩) DD DD] 96));have hb5:Below w4.heap.size w4 w5:=by rw[hw5];exact (Zaa _ _).alloc (zE3 _) _
 obtain⟨mb,hmb⟩:=zE4 w4.heap.size;have d5:w5.heap[mb]? = some (.cells #[.int .i64 D,.int .i64 D,.slice (some ⟨g,0,none⟩) DD DD] 96 (0,0)):=by rw[hw5,←hmb];exact nwA _ _
 have hb45:=hb4.trans (hb5.mono hb4.size);have hgm:g<mb:=by rw[←hmb];exact hv4.1
 have D2:=Hd (zad hb45 D2.out);have D4:=Hd (zad hb45 D4.out);have D5:=Hd d5;have HW:=Hd (HB1.out.trans (hb45.mono HB1.out.size));have hwg:w.heap.size≤g:=by have:=HB1.out.size;omega
 have HM:=Hd (HM.out.below HW.out);have hmb5:=lOH d5;have HV5:Hid (zag w5 g DD (flat D (ph1 K D m 0 0))):=Hd ((hv4.below hb5).congr fun j hj=>by
  unfold flat ph1;rw[if_neg (fun h=>h.2.2.elim (Zcm _) (fun h=>Zcm _ h.2))])
 clear hv4 hb4 hb5 hb45 d5 z2 HNO;go_wp2;rw[←hw5];clear hw5;have HVF:Hid (∀(W:World) (F G:Nat→Nat→GF),zag W g DD (flat D F)→(∀r c,r<D→c<D→F r c=G r c)→zag W g DD (flat D G)):=Hd fun W F G h e=>by rw[←HDD.out] at h ⊢;exact zmz h (by omega) e
 go_loopg [6,7] K (fun gk a i wr=>∃(I P:Nat),I≤K∧gk=K-I∧a=.int .i64 P∧i=.int .i64 I∧Hid (P=tri K I)∧Hid (zag wr g DD (flat D (ph1 K D m I I)))∧Hid (Kp [g] w5 wr))
 case atStart=>exact⟨0,0,by omega,rfl,rfl,rfl,Hd rfl,HV5,Hd (Kp.refl _ _)⟩
 case round =>
  clear HV5;obtain⟨I,P,hI,rfl,rfl,rfl,HPP,HV,HK⟩:=hrel;have hsr:=HK.out.size;have E2:=HK.out.heap D2.out (by simp;omega);have z21:=cOH E2 (j:=1) rfl;clear E2;by_cases hlt:I<K
  ·have hID:I<D:=by omega
   go_wp2;clear z21 hsr;go_loopg [6,8] (K-I) (fun gk a i wr=>∃(k P:Nat),I≤k∧k≤K∧gk=K-k∧a=.int .i64 P∧i=.int .i64 k∧Hid (P=tri K I+(k-I))∧Hid (zag wr g DD (flat D (ph1 K D m I k)))∧Hid (Kp [g] w5 wr))
   case atStart=>exact⟨I,P,by omega,by omega,rfl,rfl,rfl,Hd (by rw[HPP.out];omega),HV,HK⟩
   case round =>
    clear HPP HV HK;obtain⟨k,P,hIk,hkK,rfl,rfl,rfl,HPP,HV,HK⟩:=hrel;have hsr:=HK.out.size;have E2:=HK.out.heap D2.out (by simp;omega);have z21:=cOH E2 (j:=1) rfl;clear E2;by_cases hltk:k<K
    ·have hkD:k<D:=by omega
     have hPl:P<m.length:=by
      have:=znd (D:=D) hlt hltk
      rw[zo2 hIk] at this;rw[HLB.out,HPP.out];exact this
     have hPL:P<L:=by rw[←HL.out];exact hPl
     obtain⟨v,hv⟩:∃v,m[P]? = some v:=⟨_,zE1 hPl⟩;have hvd:m.getD P 0=v:=by rw[zE2,hv];rfl
     obtain⟨bm,om,rfl,hbm,-⟩:=HM0.out.at hv;obtain⟨vn,hvn⟩:=zE4 v.n;obtain⟨p1,hp1⟩:=zE4 (I*D);obtain⟨p2,hp2⟩:=zE4 (p1+k);obtain⟨q1,hq1⟩:=zE4 (k*D);obtain⟨q2,hq2⟩:=zE4 (q1+I);have hp3:p2<DD:=by rw[←hp2,←hp1,←HDD.out];exact zaz hID hkD
     have hq3:q2<DD:=by rw[←hq2,←hq1,←HDD.out];exact zaz hkD hID
     have x1:(I:Int)*(D:Int)=(p1:Int):=by rw[←hp1];simp
     have x2:(p1:Int)+(k:Int)=(p2:Int):=by omega
     have x3:(k:Int)*(D:Int)=(q1:Int):=by rw[←hq1];simp
     have x4:(q1:Int)+(I:Int)=(q2:Int):=by omega
     have y1:=zE6 (p1:Int) (by omega);have y2:=zE6 (p2:Int) (by omega);have y3:=zE6 (q1:Int) (by omega);have y4:=zE6 (q2:Int) (by omega);have i1:(0:Int)≤(p2:Int)∧(p2:Int)<(DD:Int):=by omega
     have i2:(0:Int)≤(q2:Int)∧(q2:Int)<(DD:Int):=by omega
     have i3:(0:Int)≤(P:Int)∧(P:Int)<(L:Int):=by omega
     have hbg:bm≠g:=by omega
     have hap:za0 (.slice (some ⟨bm,om,none⟩) L cs_) [g]:=fun b hb hm=>by simp[Value.ownBlock] at hb hm;omega
     have hsr:=HK.out.size;have E2:=HK.out.heap D2.out (by simp;omega);have E5:=HK.out.heap D5.out (by simp;omega);have z22:=cOH E2 (j:=2) rfl;have z52:=cOH E5 (j:=2) rfl;obtain⟨_,_,e,-,cm⟩:=(HM.out.kp HK.out hap).at hv;cases e;rw[hvn] at cm;obtain⟨cg,fg⟩:=HV.out.2 p2 hp3;have hgl:=HV.out.1;obtain⟨w7,hw7⟩:=zE5 ((wr.setCell ⟨g,p2,none⟩ (.int .u8 (vn:Nat))).drew);have hv7:=HV.out.set hp3 v;rw[hvn] at hv7;have hV7:zag w7 g DD (fun j=>if j=p2 then v else flat D (ph1 K D m I k) j):=by rw[hw7];exact hv7.drew
     have hK7:Kp [g] w5 w7:=by rw[hw7];exact (HK.out.setCell (.inl (by simp)) _).drew
     have E2':=hK7.heap D2.out (by simp;omega);have E5':=hK7.heap D5.out (by simp;omega);have zz22:=cOH E2' (j:=2) rfl;have zz52:=cOH E5' (j:=2) rfl;obtain⟨_,_,e,-,ccm⟩:=(HM.out.kp hK7 hap).at hv;cases e;rw[hvn] at ccm;obtain⟨ccg,ffg⟩:=hV7.2 q2 hq3;have hgl7:=hV7.1;have hs7:=hK7.size;obtain⟨w8,hw8⟩:=zE5 ((w7.setCell ⟨g,q2,none⟩ (.int .u8 (vn:Nat))).drew);have hv8:=hV7.set hq3 v;rw[hvn] at hv8;have HV8:Hid (zag w8 g DD (flat D (ph1 K D m I (k+1)))):=Hd (by
      rw[hw8];refine zag.congr hv8.drew fun j hj=>?_;rw[←HDD.out] at hj;obtain⟨r,c,hr,hc,rfl⟩:=za2 (by omega) hj;simp only[zab (show 0<D by omega) _ _ _ hc];rw[zyk hlt hIk hltk,←HPP.out,hvd];by_cases h1:r=k∧c=I
      ·rw[if_pos h1,if_pos (by rw[h1.1,h1.2,hq1,hq2])]
      ·rw[if_neg h1,if_neg (fun e=>h1 (zcy hc hID (by rw[e,←hq2,←hq1])))];by_cases h2:r=I∧c=k
       ·rw[if_pos h2,if_pos (by rw[h2.1,h2.2,hp1,hp2])]
       ·rw[if_neg h2,if_neg (fun e=>h2 (zcy hc hkD (by rw[e,←hp2,←hp1])))])
     have HK8:Hid (Kp [g] w5 w8):=Hd (by rw[hw8];exact (hK7.setCell (.inl (by simp)) _).drew);obtain⟨kp,hkp⟩:∃kp:Nat→Bool,∀j,kp j=true↔j≠g:=⟨fun j=>decide (j≠g),by simp⟩;have k1:kp w.heap.size=true:=(hkp _).2 (by omega);have k2:kp mb=true:=(hkp _).2 (by omega);have k3:kp bm=true:=(hkp _).2 hbg;have HKP:=Hd hkp;obtain⟨cgn,hcgn⟩:∃t,(flat D (ph1 K D m I k) p2).n=t:=⟨_,rfl⟩;rw[hcgn] at cg;have HW8:=Hd hw8;clear hkp hvd hvn hp1 hp2 hq1 hq2 E2 E5 E2' E5' hv7 hV7 hK7 hv8 hw8 hcgn HV HK hv hap;go_upto_region 9 with fail
     have hgr:=hgK (fun j=>kp j=true);refine w_T (fun j=>kp j=true) [13] (.sq [0,1,2,3,4,5,6,7,8,9,10,11,12,13] .done) (by kernel_rfl) (by kernel_rfl) ?_;simp only[TQ,Oper.slim,Nat.reduceBEq,Nat.reduceAdd]
     repeat' first|((with_reducible refine w_I ?_);first|(with_reducible refine w_D ?_)|((with_reducible refine w_S (fun K hK=>?_));go_simp;first|(refine hK _ _ ?_;clear hK K)|(refine⟨by (intro kk hkk;first|(simp (disch:=(simp;omega)) only[h_D,h_N,h_A,h_S];done)|(simp[h_D,h_N,h_I,hkk];done)|(have hkk2:=(HKP.out kk).1 hkk;simp (disch:=(first|exact hkk2|(simp;done)|(simp;omega))) only[h_D,h_N,h_A,h_S];done)),hK _ _ ?_⟩;clear hK K)))|fail
     clear hgr;clear z22 z52 cm cg fg;go_upto_region 10 with fail
     rw[←hw7];clear hw7;have hgr:=hgK (fun j=>kp j=true);refine w_T (fun j=>kp j=true) [13] (.sq [0,1,2,3,4,5,6,7,8,9,10,11,12,13] .done) (by kernel_rfl) (by kernel_rfl) ?_;simp only[TQ,Oper.slim,Nat.reduceBEq,Nat.reduceAdd]
     repeat' first|((with_reducible refine w_I ?_);first|(with_reducible refine w_D ?_)|((with_reducible refine w_S (fun K hK=>?_));go_simp;first|(refine hK _ _ ?_;clear hK K)|(refine⟨by (intro kk hkk;first|(simp (disch:=(simp;omega)) only[h_D,h_N,h_A,h_S];done)|(simp[h_D,h_N,h_I,hkk];done)|(have hkk2:=(HKP.out kk).1 hkk;simp (disch:=(first|exact hkk2|(simp;done)|(simp;omega))) only[h_D,h_N,h_A,h_S];done)),hK _ _ ?_⟩;clear hK K)))|fail
     clear hgr;go_wp2;rw[←HW8.out];go_roundg (K-(k+1))
     case measure=>omega
     case rel=>exact⟨k+1,P+1,by omega,by omega,rfl,by go_num,by go_num,Hd (by rw[HPP.out];omega),HV8,HK8⟩
    ·obtain rfl:k=K:=by omega
     have HV2:=Hd (HVF.out _ _ _ HV.out fun r c _ _=>ybo r c);have HP2:Hid (P=tri k (I+1)):=Hd (by rw[HPP.out,zb0]);go_wp2;go_roundg (k-(I+1))
     case measure=>omega
     case rel=>exact⟨I+1,P,by omega,rfl,rfl,by go_num,HP2,HV2,HK⟩
  ·have hIK:K=I:=by omega
   subst hIK;have HV2:=Hd (HVF.out _ _ _ HV.out fun r c _ _=>yfx hk.2.1 r c);clear hlt hI hsr;go_wp2;clear z21;go_loopg [6,9] K (fun gk a i wr=>∃(I P:Nat),I≤K∧gk=K-I∧a=.int .i64 P∧i=.int .i64 I∧Hid (P=tri K K+I*(D-K))∧Hid (zag wr g DD (flat D (ph2 K D m I K)))∧Hid (Kp [g] w5 wr))
   case atStart=>exact⟨0,P,by omega,rfl,rfl,rfl,Hd (by rw[HPP.out];simp),HV2,HK⟩
   case round =>
    clear HPP HV HK HV2;obtain⟨I,P,hI,rfl,rfl,rfl,HPP,HV,HK⟩:=hrel;have hsr:=HK.out.size;have E2:=HK.out.heap D2.out (by simp;omega);have z21:=cOH E2 (j:=1) rfl;clear E2;by_cases hlt:I<K
    ·have hID:I<D:=by omega
     go_wp2;clear z21 hsr;go_loopg [6,10] (D-K) (fun gk a i wr=>∃(k P:Nat),K≤k∧k≤D∧gk=D-k∧a=.int .i64 P∧i=.int .i64 k∧Hid (P=tI K D I k)∧Hid (zag wr g DD (flat D (ph2 K D m I k)))∧Hid (Kp [g] w5 wr))
     case atStart=>exact⟨K,P,by omega,by omega,rfl,rfl,rfl,Hd (by rw[HPP.out];unfold tI;rw[Nat.sub_self,Nat.add_zero]),HV,HK⟩
     case round =>
      clear HPP HV HK;obtain⟨k,P,hIk,hkD',rfl,rfl,rfl,HPP,HV,HK⟩:=hrel;by_cases hkD:k<D
      ·have hPl:P<m.length:=by
        rw[HLB.out,HPP.out];exact ya8 hlt hkD hIk
       have hPL:P<L:=by rw[←HL.out];exact hPl
       obtain⟨v,hv⟩:∃v,m[P]? = some v:=⟨_,zE1 hPl⟩;have hvd:m.getD P 0=v:=by rw[zE2,hv];rfl
       obtain⟨bm,om,rfl,hbm,-⟩:=HM0.out.at hv;obtain⟨vn,hvn⟩:=zE4 v.n;obtain⟨p1,hp1⟩:=zE4 (I*D);obtain⟨p2,hp2⟩:=zE4 (p1+k);obtain⟨q1,hq1⟩:=zE4 (k*D);obtain⟨q2,hq2⟩:=zE4 (q1+I);have hp3:p2<DD:=by rw[←hp2,←hp1,←HDD.out];exact zaz hID hkD
       have hq3:q2<DD:=by rw[←hq2,←hq1,←HDD.out];exact zaz hkD hID
       have x1:(I:Int)*(D:Int)=(p1:Int):=by rw[←hp1];simp
       have x2:(p1:Int)+(k:Int)=(p2:Int):=by omega
       have x3:(k:Int)*(D:Int)=(q1:Int):=by rw[←hq1];simp
       have x4:(q1:Int)+(I:Int)=(q2:Int):=by omega
       have y1:=zE6 (p1:Int) (by omega);have y2:=zE6 (p2:Int) (by omega);have y3:=zE6 (q1:Int) (by omega);have y4:=zE6 (q2:Int) (by omega);have i1:(0:Int)≤(p2:Int)∧(p2:Int)<(DD:Int):=by omega
       have i2:(0:Int)≤(q2:Int)∧(q2:Int)<(DD:Int):=by omega
       have i3:(0:Int)≤(P:Int)∧(P:Int)<(L:Int):=by omega
       have hbg:bm≠g:=by omega
       have hap:za0 (.slice (some ⟨bm,om,none⟩) L cs_) [g]:=fun b hb hm=>by simp[Value.ownBlock] at hb hm;omega
       have hsr:=HK.out.size;have E2:=HK.out.heap D2.out (by simp;omega);have E5:=HK.out.heap D5.out (by simp;omega);have z22:=cOH E2 (j:=2) rfl;have z52:=cOH E5 (j:=2) rfl;obtain⟨_,_,e,-,cm⟩:=(HM.out.kp HK.out hap).at hv;cases e;rw[hvn] at cm;obtain⟨cg,fg⟩:=HV.out.2 p2 hp3;have hgl:=HV.out.1;obtain⟨w7,hw7⟩:=zE5 ((wr.setCell ⟨g,p2,none⟩ (.int .u8 (vn:Nat))).drew);have hv7:=HV.out.set hp3 v;rw[hvn] at hv7;have hV7:zag w7 g DD (fun j=>if j=p2 then v else flat D (ph2 K D m I k) j):=by rw[hw7];exact hv7.drew
       have hK7:Kp [g] w5 w7:=by rw[hw7];exact (HK.out.setCell (.inl (by simp)) _).drew
       have E2':=hK7.heap D2.out (by simp;omega);have E5':=hK7.heap D5.out (by simp;omega);have zz22:=cOH E2' (j:=2) rfl;have zz52:=cOH E5' (j:=2) rfl;obtain⟨_,_,e,-,ccm⟩:=(HM.out.kp hK7 hap).at hv;cases e;rw[hvn] at ccm;obtain⟨ccg,ffg⟩:=hV7.2 q2 hq3;have hgl7:=hV7.1;have hs7:=hK7.size;obtain⟨w8,hw8⟩:=zE5 ((w7.setCell ⟨g,q2,none⟩ (.int .u8 (vn:Nat))).drew);have hv8:=hV7.set hq3 v;rw[hvn] at hv8;have HV8:Hid (zag w8 g DD (flat D (ph2 K D m I (k+1)))):=Hd (by
        rw[hw8];refine zag.congr hv8.drew fun j hj=>?_;rw[←HDD.out] at hj;obtain⟨r,c,hr,hc,rfl⟩:=za2 (by omega) hj;simp only[zab (show 0<D by omega) _ _ _ hc];rw[zyj hlt hIk hkD,←HPP.out,hvd];by_cases h1:r=k∧c=I
        ·rw[if_pos h1,if_pos (by rw[h1.1,h1.2,hq1,hq2])]
        ·rw[if_neg h1,if_neg (fun e=>h1 (zcy hc hID (by rw[e,←hq2,←hq1])))];by_cases h2:r=I∧c=k
         ·rw[if_pos h2,if_pos (by rw[h2.1,h2.2,hp1,hp2])]
         ·rw[if_neg h2,if_neg (fun e=>h2 (zcy hc hkD (by rw[e,←hp2,←hp1])))])
       have HK8:Hid (Kp [g] w5 w8):=Hd (by rw[hw8];exact (hK7.setCell (.inl (by simp)) _).drew);obtain⟨kp,hkp⟩:∃kp:Nat→Bool,∀j,kp j=true↔j≠g:=⟨fun j=>decide (j≠g),by simp⟩;have k1:kp w.heap.size=true:=(hkp _).2 (by omega);have k2:kp mb=true:=(hkp _).2 (by omega);have k3:kp bm=true:=(hkp _).2 hbg;have HKP:=Hd hkp;obtain⟨cgn,hcgn⟩:∃t,(flat D (ph2 K D m I k) p2).n=t:=⟨_,rfl⟩;rw[hcgn] at cg;have HW8:=Hd hw8;clear hkp hvd hvn hp1 hp2 hq1 hq2 E2 E5 E2' E5' hv7 hV7 hK7 hv8 hw8 hcgn HV HK hv hap;go_upto_region 18 with fail
       have hgr:=hgK (fun j=>kp j=true);refine w_T (fun j=>kp j=true) [13] (.sq [0,1,2,3,4,5,6,7,8,9,10,11,12,13] .done) (by kernel_rfl) (by kernel_rfl) ?_;simp only[TQ,Oper.slim,Nat.reduceBEq,Nat.reduceAdd]
       repeat' first|((with_reducible refine w_I ?_);first|(with_reducible refine w_D ?_)|((with_reducible refine w_S (fun K hK=>?_));go_simp;first|(refine hK _ _ ?_;clear hK K)|(refine⟨by (intro kk hkk;first|(simp (disch:=(simp;omega)) only[h_D,h_N,h_A,h_S];done)|(simp[h_D,h_N,h_I,hkk];done)|(have hkk2:=(HKP.out kk).1 hkk;simp (disch:=(first|exact hkk2|(simp;done)|(simp;omega))) only[h_D,h_N,h_A,h_S];done)),hK _ _ ?_⟩;clear hK K)))|fail
       clear hgr;clear z22 z52 cm cg fg;go_upto_region 19 with fail
       rw[←hw7];clear hw7;have hgr:=hgK (fun j=>kp j=true);refine w_T (fun j=>kp j=true) [13] (.sq [0,1,2,3,4,5,6,7,8,9,10,11,12,13] .done) (by kernel_rfl) (by kernel_rfl) ?_;simp only[TQ,Oper.slim,Nat.reduceBEq,Nat.reduceAdd]
       repeat' first|((with_reducible refine w_I ?_);first|(with_reducible refine w_D ?_)|((with_reducible refine w_S (fun K hK=>?_));go_simp;first|(refine hK _ _ ?_;clear hK K)|(refine⟨by (intro kk hkk;first|(simp (disch:=(simp;omega)) only[h_D,h_N,h_A,h_S];done)|(simp[h_D,h_N,h_I,hkk];done)|(have hkk2:=(HKP.out kk).1 hkk;simp (disch:=(first|exact hkk2|(simp;done)|(simp;omega))) only[h_D,h_N,h_A,h_S];done)),hK _ _ ?_⟩;clear hK K)))|fail
       clear hgr;go_wp2;rw[←HW8.out];go_roundg (D-(k+1))
       case measure=>omega
       case rel=>exact⟨k+1,P+1,by omega,by omega,rfl,by go_num,by go_num,Hd (by rw[HPP.out];unfold tI;omega),HV8,HK8⟩
      ·obtain rfl:k=D:=by omega
       have hsr:=HK.out.size;have E2:=HK.out.heap D2.out (by simp;omega);have z22':=cOH E2 (j:=2) rfl;clear E2;have HV2:=Hd (HVF.out _ _ _ HV.out fun r c _ _=>ybm hk.2.1 r c);have HP2:Hid (P=tri K K+(I+1)*(k-K)):=Hd (by rw[HPP.out];unfold tI;rw[Zcc,Zbw]);go_wp2;go_roundg (K-(I+1))
       case measure=>omega
       case rel=>exact⟨I+1,P,by omega,rfl,rfl,by go_num,HP2,HV2,HK⟩
    ·have hIK:K=I:=by omega
     subst hIK;have E4:=HK.out.heap D4.out (by simp;omega);have E6:=HK.out.heap D5.out (by simp;omega);have m0:=cOH E6 (j:=0) rfl;have m1:=cOH E6 (j:=1) rfl;have m2:=cOH E6 (j:=2) rfl;have y0:=cOH E4 (j:=0) rfl;have y1:=cOH E4 (j:=1) rfl;have y2:=cOH E4 (j:=2) rfl;have f0:=fOH E4 0;have f1:=fOH E4 1;have f2:=fOH E4 2;have l4r:=lOH E4;have l6r:=lOH E6;have h6:=hSS (hSS (hSS E4 0 (.int .i64 D)) 1 (.int .i64 D)) 2 (.slice (some ⟨g,0,none⟩) DD DD);have h7:(((wr.setCell ⟨w.heap.size+1,0,none⟩ (.int .i64 D)).setCell ⟨w.heap.size+1,1,none⟩ (.int .i64 D)).setCell ⟨w.heap.size+1,2,none⟩ (.slice (some ⟨g,0,none⟩) DD DD)).heap[w.heap.size+1]? = some (.cells #[.int .i64 D,.int .i64 D,.slice (some ⟨g,0,none⟩) DD DD] 96 (0,0)):=by simpa using h6
     have c0:=cOH h7 (j:=0) rfl;have c1:=cOH h7 (j:=1) rfl;have c2:=cOH h7 (j:=2) rfl;have hkk:Kp [w.heap.size+1] wr (((wr.setCell ⟨w.heap.size+1,0,none⟩ (.int .i64 D)).setCell ⟨w.heap.size+1,1,none⟩ (.int .i64 D)).setCell ⟨w.heap.size+1,2,none⟩ (.slice (some ⟨g,0,none⟩) DD DD)) :=
      (((Kp.refl _ _).setCell (.inl (by simp)) _).setCell (.inl (by simp)) _).setCell (.inl (by simp)) _
     have hszw:=HW.out.size;have HPO:Hid (zia K D m w (.returned (.agg #[.int .i64 D,.int .i64 D,.slice (some ⟨g,0,none⟩) DD DD])) (((wr.setCell ⟨w.heap.size+1,0,none⟩ (.int .i64 D)).setCell ⟨w.heap.size+1,1,none⟩ (.int .i64 D)).setCell ⟨w.heap.size+1,2,none⟩ (.slice (some ⟨g,0,none⟩) DD DD))):=Hd ⟨g,by rw[HDD.out],hwg,by
      rw[HDD.out];exact (HVF.out _ _ _ HV.out fun r c hr hc=>ybn hk.2.1 hr hc).kp hkk (by simp;omega),(HW.out.trans (HK.out.below (by omega) (by simp;omega))).trans (hkk.below (by have:=HK.out.size;omega) (by simp))⟩
     clear E4 E6 h6 h7 hkk;go_wp2;refine bodyPost_ret (v:=.agg #[.int .i64 D,.int .i64 D,.slice (some ⟨g,0,none⟩) DD DD]) ?_ rfl HPO.out;simp[results,Tryz.results46,go_sem,c0,c1,c2]
theorem zqd (K D:Nat) (m:List GF) (x:GF) (b b2 cap:Nat) (W:World) (hD:1≤D∧D≤255) (hv:zag W b D (fun c=>pw x c)) (hm:zag W b2 (D*D) (flat D (mM K D m))) :
  Calls Tryz.prog 44 #[.agg #[.int .i64 1,.int .i64 D,.slice (some ⟨b,0,none⟩) D cap],.agg #[.int .i64 D,.int .i64 D,.slice (some ⟨b2,0,none⟩) (D*D) (D*D)]] W fun e w' =>
   ∃b3,e=.returned (.tuple #[.agg #[.int .i64 1,.int .i64 D,.slice (some ⟨b3,0,none⟩) D D],.int .i64 0])∧W.heap.size≤b3∧b3<w'.heap.size∧GRd w' (.slice (some ⟨b3,0,none⟩) D D) (zau K D m x)∧Below W.heap.size W w':=by
 have h:=zu8 1 D D b b2 cap (D*D) (fun _ c=>pw x c) (mM K D m) W (by omega) (by omega) (by omega) (by
  rw[Zbw];exact hv.congr fun j hj=>by unfold flat;rw[Zbl hj]) hm
 unfold zjr at h;rw[Zbw] at h;refine h.mono ?_;rintro e w' ⟨b3,rfl,hb,hv3,hbe⟩;refine⟨b3,rfl,hb,hv3.1,zag.list (hv3.congr fun j hj=>?_) (za5 _ _ _ _) (zE3 _),hbe⟩;have e1:flat D (zsu D (fun _ c=>pw x c) (mM K D m)) j=zsu D (fun _ c=>pw x c) (mM K D m) 0 j:=by unfold flat;rw[Zbl hj,Nat.div_eq_of_lt hj]
 have e2:(zau K D m x).getD j 0=mSh K D m x j:=zam _ hj;rw[e1,e2];unfold zsu mSh;rw[zg4,zaa];exact zaj fun i hi=>by rw[zam _ hi,Fld.mulC]
def zgl (N K D:Nat) (m:List GF) (w:World) (e:Ending) (w':World):Prop:=Below w.heap.size w w'∧((m.length≠mbB K D∧e=.returned (.tuple #[.slice none 0 0,.int .i64 2])) ∨
 (m.length=mbB K D∧∃v S,e=.returned (.tuple #[v,.int .i64 0])∧zgk w' w.heap.size v S∧S.map Ro.d=(List.range N).map fun j=>zau K D m (pw GF.two j)))
theorem zgq.mono {w:World} {B B':Nat} {v:Value} {l:List Ro} (h:zgq w B v l) (hb:B'≤B):zgq w B' v l:=by
 rcases h.2 with ⟨rfl,h2⟩|⟨g,cap,cur,rfl,h2,h3⟩
 ·exact⟨h.1,.inl ⟨rfl,h2⟩⟩
 ·exact⟨h.1,.inr ⟨g,cap,cur,rfl,Zat hb h2,h3⟩⟩
def ye3 (x0 x1 x2 x6 x7 x8 x11 x12:Value) (u:Nat→Value):Array Value:=#[x0,x1,x2,undef,.slice none 0 0,.int .i64 0,x6,x7,x8,u 9,x1,x11,x12,x11,.bool false,u 15,u 16,u 17,u 18,u 19,u 20,u 21,u 22,u 23,u 24,u 25,u 26,u 27,u 28,u 29,u 30,u 31,u 32,u 33,u 34,u 35,undef]
def RbK (x0 x1 x2 x6 x7 x11 x12:Value) (D:Nat) (row:List GF) (wr:World) (a:Act) (W:World):Prop:=∃sb g,a={ tmps:=ye3 x0 x1 x2 x6 x7 (.pointer (some ⟨sb,0,none⟩)) x11 x12 (fun i=>a.tmps.getD i undef),defers:=[] }∧Below wr.heap.size wr W∧wr.heap.size≤g∧g<W.heap.size ∧
 W.heap[sb]? = some (.cells #[.int .i64 1,.int .i64 D,.slice (some ⟨g,0,none⟩) D D] 96 (0,0))∧GRd W (.slice (some ⟨g,0,none⟩) D D) row
theorem zi4 (w:World) (N K D:Nat) (mv:Value) (m:List GF) (hk:1≤K∧K≤D∧D<N∧N≤255) (hm:GRd w mv m) (hml:m.length≤1000000) :
  Calls Tryz.prog 16 #[rb N K D,mv] w (zgl N K D m w):=by
 obtain⟨as_,cs_,rfl,hcs⟩:=hm.form;obtain⟨L,hL⟩:=zE4 m.length;obtain⟨B,hB⟩:=zE4 (mbB K D);obtain⟨w1,hw1⟩:=zE5 (w.alloc (.cells #[.int .i64 N,.int .i64 K,.int .i64 D] 32));have hb1:Below w.heap.size w w1:=by rw[hw1];exact (Zaa _ _).alloc (zE3 _) _
 have d2:w1.heap[w.heap.size]? = some (.cells #[.int .i64 N,.int .i64 K,.int .i64 D] 32 (0,0)):=by rw[hw1];exact nwA _ _
 have z0:=cOH d2 (j:=0) rfl;have z1:=cOH d2 (j:=1) rfl;have z2:=cOH d2 (j:=2) rfl;have l2:=lOH d2;have D2:=Hd d2;have HB1:=Hd hb1;have HM:=Hd (hm.below hb1);have HL:=Hd hL;have HB:=Hd hB;have hbb:=zo5 N K D w1 (by omega);rw[hB] at hbb;have HBB:=Hd hbb;rw[hL] at HM hml ⊢;clear hm hL hB hcs hb1 d2 hbb;go_enter Tryz.func16,Tryz.ntmps16;go_upto_region 1 with fail
 rw[←hw1];clear hw1;go_wp2_with fail;refine HBB.out.mono ?_;rintro e w2 ⟨rfl,hb2⟩;have HB2:Hid (Below w.heap.size w w2):=Hd (HB1.out.trans (hb2.mono HB1.out.size));have HM2:=Hd (HM.out.below hb2);have D2:=Hd (zad hb2 D2.out);have hs2:=hb2.size;clear hb2 HM HB1 HBB z0 z1 z2;by_cases hLB:L=B
 case neg =>
  have hLB':¬(L:Int)=(B:Int):=by omega
  have HP:Hid (zgl N K D m w (.returned (.tuple #[.slice none 0 0,.int .i64 2])) w2):=Hd ⟨HB2.out,.inl ⟨by rw[HL.out,HB.out];exact hLB,rfl⟩⟩;go_wp2;go_ret2;exact HP.out
 subst hLB;go_wp2;have hll:m.length=mbB K D:=by rw[HL.out,HB.out]
 have HLL:=Hd hll;have HMAT:Hid (∀W,GRd W (.slice as_ L cs_) m→Calls Tryz.prog 46 #[rb N K D,.slice as_ L cs_] W (zia K D m W)):=Hd fun W h=>zqi W N K D _ m (by omega) h hll;clear hll;go_loopg [6,7] N (fun gk v i wr=>∃(V:Value) (S:List Ro) (J:Nat),V=v∧J≤N∧gk=N-J∧i=.int .i64 J∧Hid (zgk wr w2.heap.size V S)∧Hid (S.map Ro.d=(List.range J).map fun j=>zau K D m (pw GF.two j))∧Hid (Below w2.heap.size w2 wr))
 case atStart=>exact⟨_,[],0,rfl,by omega,rfl,rfl,Hd (zgk.nil _ _),Hd rfl,Hd (Zaa _ _)⟩
 case round =>
  obtain⟨V,S,J,rfl,hJ,rfl,rfl,HO,HS,HBR⟩:=hrel;have hsr:=HBR.out.size;have E2:=zad HBR.out D2.out;have z0:=cOH E2 (j:=0) rfl;have z1:=cOH E2 (j:=1) rfl;have z2:=cOH E2 (j:=2) rfl;clear E2;by_cases hlt:J<N
  ·have hpsi:=fun W=>zlt N K D J W (by omega) (by omega);obtain⟨x,hx⟩:=zE4 (pw GF.two J);rw[hx] at hpsi;unfold zch at hpsi;have HPSI:=Hd hpsi;have HROW:=Hd (fun (b b2 cap:Nat) (W:World) hv hm=>zqd K D m x b b2 cap W (by omega) hv hm);unfold zia at HMAT;have HMAT:Hid (∀W,Below wr.heap.size wr W→Calls Tryz.prog 46 #[rb N K D,.slice as_ L cs_] W (fun e w'=>∃b,e=.returned (.agg #[.int .i64 D,.int .i64 D,.slice (some ⟨b,0,none⟩) (D*D) (D*D)])∧W.heap.size≤b∧zag w' b (D*D) (flat D (mM K D m))∧Below W.heap.size W w')):=Hd fun W hW=>HMAT.out W ((HM2.out.below HBR.out).below hW);have HX:=Hd hx;obtain⟨row,hrow⟩:=zE4 (zau K D m x);have hrl:row.length=D:=by rw[←hrow];exact za5 _ _ _ _
   rw[hrow] at HROW;have HRR:=Hd (Zao hrow hrl);have hlw:w.heap.size<wr.heap.size:=by omega
   obtain⟨kp,hkp⟩:∃kp:Nat→Bool,∀j,kp j=true↔j<wr.heap.size:=⟨fun j=>decide (j<wr.heap.size),by simp⟩;have k1:kp w.heap.size=true:=(hkp _).2 hlw;have HKP:=Hd hkp;clear hpsi hx hrow hrl hkp;go_upto_region 7 with fail
   rename_i Qx hKx;refine zcc (K1:=RbK (rb N K D) (.slice as_ L cs_) (.pointer (some ⟨w.heap.size,0,none⟩)) V (.int .i64 J) (.int .i64 L) (.agg #[.int .i64 N,.int .i64 K,.int .i64 D]) D row wr) ?reg ?rest
   case reg =>
    have hgr:=hgK (fun kk=>kp kk=true);refine w_T (fun kk=>kp kk=true) [2,5,6,10,11] (.sq [0,1,3,4] (.fork 2 (.fork 5 (.fork 6 (.sq [7,8,9,10,11,12] .done) 10 (.sq [6,7,8,9,11,12] .done)) 10 (.sq [5,6,7,8,9,11,12] .done)) 10 (.sq [2,5,6,7,8,9,11,12] .done))) (by kernel_rfl) (by kernel_rfl) ?_;simp only[TQ,Oper.slim,Nat.reduceBEq,Nat.reduceAdd]
    repeat' first|((with_reducible refine w_I ?_);first|(with_reducible refine w_D ?_)|(with_reducible refine zaf ?_ ?_)|((with_reducible refine w_S (fun K hK=>?_));go_simp;first|(refine hK _ _ ?_;clear hK K)|(refine⟨by (intro kk hkk;first|(simp (disch:=(simp;omega)) only[h_D,h_N,h_A,h_S];done)|(simp[h_D,h_N,h_I,hkk];done)|(have hkk2:=(HKP.out kk).1 hkk;simp (disch:=(first|(simp;done)|(simp;omega)|omega)) only[h_D,h_N,h_A,h_S];first|done|exact hbd.block kk hkk2|exact hbb.block kk hkk2|exact hba.block kk hkk2)),hK _ _ ?_⟩;clear hK K)|(go_at_call 45;(with_reducible refine (HPSI.out _).mono ?_);rintro e wa ⟨b,cap,rfl,hb,hv,-,hba0⟩;have hba:Below wr.heap.size wr wa:=zbh (by (repeat' (first|with_reducible (first|exact Zaa _ _|assumption|refine Zac ?_|refine Zab ?_ ?_ _)|omega|(simp;done)|(simp;omega)))) hba0;have hsa:=hba.size;have hvl:=hv.1;(try (have hz:wa.heap[wr.heap.size]? = some (.cells #[.int .i64 0,.int .i64 0,.slice none 0 0] 96 (0,0)):=zad hba0 (nwA wr _)));refine⟨_,rfl,(fun kk hkk=>hba.block kk ((HKP.out kk).1 hkk)),hK _ _ ?_⟩;clear hba0 hb hK K)|(go_at_call 46;(with_reducible refine (HMAT.out _ (by (repeat' (first|with_reducible (first|exact Zaa _ _|assumption|refine Zac ?_|refine Zab ?_ ?_ _)|omega|(simp;done)|(simp;omega))))).mono ?_);rintro e wb ⟨b2,rfl,hb2,hv2,hbb0⟩;have hbb:Below wr.heap.size wr wb:=zbh (by (repeat' (first|with_reducible (first|exact Zaa _ _|assumption|refine Zac ?_|refine Zab ?_ ?_ _)|omega|(simp;done)|(simp;omega)))) hbb0;have hsb:=hbb.size;have hab:Below wa.heap.size wa wb:=zbh (by (repeat' (first|with_reducible (first|exact Zaa _ _|assumption|refine Zac ?_|refine Zab ?_ ?_ _)|omega|(simp;done)|(simp;omega)))) hbb0;have hsab:=hab.size;have HRW:=Hd (fun W (hW:Below wb.heap.size wb W)=>HROW.out b b2 cap W ((hv.below hab).below hW) (hv2.below hW));(first|(have hz2:wb.heap[wr.heap.size]? = some (.cells #[.int .i64 0,.int .i64 0,.slice none 0 0] 96 (0,0)):=zad hbb0 hz)|(have hz3:wb.heap[wa.heap.size]? = some (.cells #[.int .i64 0,.int .i64 0,.slice none 0 0] 96 (0,0)):=zad hbb0 (nwA wa _))|skip);refine⟨_,rfl,(fun kk hkk=>hbb.block kk ((HKP.out kk).1 hkk)),hK _ _ ?_⟩;clear hbb0 hb2 hK K)|(go_at_call 44;(with_reducible refine (HRW.out _ (by (repeat' (first|with_reducible (first|exact Zaa _ _|assumption|refine Zac ?_|refine Zab ?_ ?_ _)|omega|(simp;done)|(simp;omega))))).mono ?_);rintro e wd ⟨b3,rfl,hb3,hl3,hg3,hbd0⟩;have hbd:Below wr.heap.size wr wd:=zbh (by (repeat' (first|with_reducible (first|exact Zaa _ _|assumption|refine Zac ?_|refine Zab ?_ ?_ _)|omega|(simp;done)|(simp;omega)))) hbd0;have hsd:=hbd.size;have hwb3:wb.heap.size≤b3:=(by first|exact hb3|(simp at hb3;omega));(first|(have hzz:wd.heap[wr.heap.size]? = some (.cells #[.int .i64 0,.int .i64 0,.slice none 0 0] 96 (0,0)):=zad hbd0 hz2;have q0:wd.cell? ⟨wr.heap.size,0,none⟩=some (.int .i64 0):=cOH hzz rfl;have q1:wd.cell? ⟨wr.heap.size,1,none⟩=some (.int .i64 0):=cOH hzz rfl;have q2:wd.cell? ⟨wr.heap.size,2,none⟩=some (.slice none 0 0):=cOH hzz rfl;have q3:=fOH hzz 0;have q4:=fOH hzz 1;have q5:=fOH hzz 2;have q6:=lOH hzz)|(have hzz:wd.heap[wa.heap.size]? = some (.cells #[.int .i64 0,.int .i64 0,.slice none 0 0] 96 (0,0)):=zad hbd0 hz3;have q0:wd.cell? ⟨wa.heap.size,0,none⟩=some (.int .i64 0):=cOH hzz rfl;have q1:wd.cell? ⟨wa.heap.size,1,none⟩=some (.int .i64 0):=cOH hzz rfl;have q2:wd.cell? ⟨wa.heap.size,2,none⟩=some (.slice none 0 0):=cOH hzz rfl;have q3:=fOH hzz 0;have q4:=fOH hzz 1;have q5:=fOH hzz 2;have q6:=lOH hzz)|(have hzz:wd.heap[wb.heap.size]? = some (.cells #[.int .i64 0,.int .i64 0,.slice none 0 0] 96 (0,0)):=zad hbd0 (nwA wb _);have q0:wd.cell? ⟨wb.heap.size,0,none⟩=some (.int .i64 0):=cOH hzz rfl;have q1:wd.cell? ⟨wb.heap.size,1,none⟩=some (.int .i64 0):=cOH hzz rfl;have q2:wd.cell? ⟨wb.heap.size,2,none⟩=some (.slice none 0 0):=cOH hzz rfl;have q3:=fOH hzz 0;have q4:=fOH hzz 1;have q5:=fOH hzz 2;have q6:=lOH hzz)|skip);refine⟨_,rfl,(fun kk hkk=>hbd.block kk ((HKP.out kk).1 hkk)),hK _ _ ?_⟩;clear hbd0 hK K)))|fail
    all_goals clear hgr
    ·exact⟨wd.heap.size,b3,by kernel_rfl,hbd.alloc hsd _,by omega,(by simp;omega),nwA _ _,hg3.below ((Zaa _ _).alloc (zE3 _) _)⟩
    ·have hb4:wb.heap.size+1≤b3:=by simpa using hb3
     exact⟨wb.heap.size,b3,by kernel_rfl,hbd.trans ((zaq wd _ _ _ _).below hsd (by simp;omega)),by omega,(by simp;omega),zlq hzz,hg3.kp (zaq wd _ _ _ _) (fun k hk hm=>by simp[Value.ownBlock] at hk hm;omega)⟩
    ·have hl4:=lOH hz3;exact⟨wa.heap.size,b3,by kernel_rfl,hbd.trans ((zaq wd _ _ _ _).below hsd (by simp;omega)),by omega,(by simp;omega),zlq hzz,hg3.kp (zaq wd _ _ _ _) (fun k hk hm=>by simp[Value.ownBlock] at hk hm;omega)⟩
    ·have hl4:=lOH hz;exact⟨wr.heap.size,b3,by kernel_rfl,hbd.trans ((zaq wd _ _ _ _).below hsd (by simp)),by omega,(by simp;omega),zlq hzz,hg3.kp (zaq wd _ _ _ _) (fun k hk hm=>by simp[Value.ownBlock] at hk hm;omega)⟩
   case rest =>
    intro a W h;obtain⟨sb,g,ha,hbW,hg1,hg2,hs,hrd⟩:=h;refine hKx _ _ ?_;clear z0 z1 z2 k1;obtain⟨u,hu⟩:∃u,a={ tmps:=ye3 (rb N K D) (.slice as_ L cs_) (.pointer (some ⟨w.heap.size,0,none⟩)) V (.int .i64 J) (.pointer (some ⟨sb,0,none⟩)) (.int .i64 L) (.agg #[.int .i64 N,.int .i64 K,.int .i64 D]) u,defers:=[] }:=⟨_,ha⟩;subst hu;clear ha hKx;obtain⟨w3,rfl⟩:=zE5 (W:World);have hs3:=hbW.size;have m2:=cOH hs (j:=2) rfl;have hls:=lOH hs;have ho:=HO.out.below hbW;obtain⟨v1,w4,hap,ho1,-,hb4⟩:=ycz (s:=⟨some ⟨g,0,none⟩,D,row⟩) ho (by unfold Ro.v;rw[HRR.out.2];exact hrd) (fun a ha=>by
     cases ha;refine⟨(by show w2.heap.size≤g;omega),fun e=>?_,hg2⟩;have:=(HO.out.row.lt g e).2
     omega) (by
      have:=congrArg List.length HS.out
      simp at this;omega) (by omega) (ad:=w3.heap.size) rfl
    dsimp only at hap;rw[HRR.out.2] at hap;have HO4:=Hd ho1;have HS4:Hid ((S++[(⟨some ⟨g,0,none⟩,D,row⟩:Ro)]).map Ro.d=(List.range (J+1)).map fun j=>zau K D m (pw GF.two j)):=Hd (by
     rw[Zaw,HS.out,Zbh,Zaw,←HRR.out.1,←HX.out];rfl)
    have HB4:Hid (Below w2.heap.size w2 w4):=Hd ((HBR.out.trans (hbW.mono hsr)).trans hb4);clear ho ho1 hb4 hs hrd hbW;unfold ye3;go_wp2_with (at_builtin;refine zae rfl _ _ _ rfl rfl rfl hap ?_);go_roundg (N-(J+1))
    case measure=>omega
    case rel=>exact⟨_,_,J+1,rfl,by omega,rfl,by go_num,HO4,HS4,HB4⟩
  ·obtain rfl:J=N:=by omega
   have HP:Hid (zgl J K D m w (.returned (.tuple #[V,.int .i64 0])) wr):=Hd ⟨HB2.out.trans (HBR.out.mono HB2.out.size),.inr ⟨HLL.out,V,S,rfl,⟨zgq.mono HO.out.row HB2.out.size,HO.out.each,fun s hs a ha=>by have h1:=HO.out.new s hs a ha;have:=HB2.out.size;exact⟨by omega,h1.2⟩⟩,HS.out⟩⟩;go_wp2;go_ret2;exact HP.out
