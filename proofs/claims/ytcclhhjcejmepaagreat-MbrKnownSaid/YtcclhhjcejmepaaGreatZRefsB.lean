import Derived.Test.YtcclhhjcejmepaaGreatZRefsA
set_option linter.all false
set_option maxRecDepth 100000
set_option maxHeartbeats 8000000
namespace Go.Proofs.YtcclhhjcejmepaaGreat
open Go.RowKit Fld
theorem ybp (w:World) (l:List GF) {n:Nat} (hn:l.length=n) (hl:l.length≤1000000):zao (w.alloc (.cells (gv l).toArray 5)) w.heap.size (.slice (some ⟨w.heap.size,0,none⟩) n n) l:=by subst hn;exact⟨by rw[zji];simp,.inr ⟨w.heap.size,l.length,(gv l).toArray,rfl,zE3 _,heap_alloc_new w _,zE3 _,by unfold maxLen;omega,by simp[gv],by simp[gv];exact Zca (by simp)⟩⟩
theorem yee (i:Nat):(gv (List.replicate i (0:GF))).toArray=Array.replicate i (.int .u8 0):=by simp[gv];exact .inr rfl
theorem zvc (w:World) (i:Nat) (hi:i≤1000000):zao (w.alloc (.cells (Array.replicate i (.int .u8 0)) 5)) w.heap.size (.slice (some ⟨w.heap.size,0,none⟩) i i) (List.replicate i 0):=by rw[←yee];exact ybp w _ (by simp) (by simp;exact hi)
noncomputable def ztr (I:Nat) (c:GF) (m:List GF) (K:Nat):List GF:=List.replicate I 0++rowF (fun k=>c*m.getD k 0) K
theorem zly (I:Nat) (c:GF) (m:List GF) (K:Nat):(ztr I c m K).length=I+K:=by simp[ztr,zaa]
theorem zuy (I:Nat) (c:GF) (m:List GF) (K:Nat):ztr I c m (K+1)=ztr I c m K++[c*m.getD K 0]:=by simp[ztr,zbq]
theorem zzz {W:World} {B:Nat} {V:Value} {I K:Nat} {c d:GF} {m:List GF} (h:zao W B V (ztr I c m K)) (hJ:I+K≤1000000) (hb:B≤W.heap.size) (hd:m.getD K 0=d) {n:Nat} (hn:(c*d).n=n) {ad:Nat} (had:ad=W.heap.size) :
  ∃v1 w3,(Builtin.append_ #[22,22] 22 #[V,.slice (some ⟨ad,0,none⟩) 1 1]).run Tryz.prog (W.alloc (.cells #[.int .u8 (n:Int)] 5))=.ok v1 w3 ∧
   zao w3 B v1 (ztr I c m (K+1))∧Below B W w3:=by
 obtain⟨v1,w3,h1,h2,_,h3,_⟩:=zcb (c*d) h (by rw[zly];exact hJ) hb hn had;exact⟨v1,w3,h1,by rw[zuy,hd];exact h2,h3⟩
structure yfr (w wo:World) (l m:List GF) (I:Nat) (V:Value) (p:List GF):Prop where
 own:zao wo w.heap.size V p
 trim:zfp p
 eval:∀x,ev p x=ev (l.take I) x*ev m x
 len:p.length≤I-1+m.length
 nul:I=0→p=[]
 below:Below w.heap.size w wo
def zmq (l m:List GF) (w:World) (e:Ending) (w':World):Prop :=
 ∃v p,e=.returned v∧zao w' w.heap.size v p∧zfp p∧(∀x,ev p x=ev l x*ev m x)∧p.length≤l.length-1+m.length∧Below w.heap.size w w'
theorem znf (u v:Value) (l m:List GF) (w:World) (hu:GRd w u l) (hv:GRd w v m) (hl:l.length≤30000) (hm:m.length≤30000) :
  Calls Tryz.prog 100 #[u,v] w (zmq l m w):=by
 obtain⟨a,cap,rfl,hcap⟩:=hu.form;obtain⟨b,capb,rfl,hcapb⟩:=hv.form;obtain⟨i0,hi,hz0,hz1,hz2⟩:=info_parts zbi;obtain⟨L,hL⟩:=zE4 l.length;obtain⟨M,hM⟩:=zE4 m.length;have hmk:∀I:Nat,I≤30000→∀W,(Instr.makeSlice 22 (.int .i64 I) (.int .i64 I)).run Tryz.prog W=.ok (.slice (some ⟨W.heap.size,0,none⟩) I I) (W.alloc (.cells (Array.replicate I (.int .u8 0)) 5)):=fun I hI W =>
  zb4 W 22 5 i0 (.int .u8 0) Tryz.underlying22 hi hz0 hz1 rfl I (by rw[hz2];omega) (by unfold maxLen;omega)
 have HMK:=Hd hmk;have HL:=Hd hL;have HM:=Hd hM;rw[hL] at hl hcap hu ⊢;rw[hM] at hm hcapb hv ⊢;have HU:=Hd hu;have HV:=Hd hv;clear hu hv hL hM hmk hi hz0 hz1 hz2;go_enter Tryz.func100,Tryz.ntmps100;go_wp2;go_loopg [5,6] L (fun gk y i wr=>∃(V:Value) (I:Nat) (p:List GF),V=y∧I≤L∧gk=L-I∧i=.int .i64 I∧Hid (yfr w wr l m I V p))
 case atStart=>exact⟨_,0,[],rfl,by omega,rfl,rfl,Hd ⟨zao.nil _ _,.inl rfl,fun x=>by rw[List.take_zero,zei,zmul],by simp,fun _=>rfl,Zaa _ _⟩⟩
 case round =>
  obtain⟨V,I,p,rfl,hI,rfl,rfl,HI⟩:=hrel;obtain⟨wo,rfl⟩:=zE5 (wr:World);have hs:=HI.out.below.size;by_cases hlt:I<L
  ·obtain⟨c,hc,hd⟩:=zbt (l:=l) (i:=I) (by rw[HL.out];omega);obtain⟨ba,oa,rfl,hba,cxa⟩:=HU.out.at hc;have hmkI:=HMK.out I (by omega);obtain⟨W1,hW1⟩:=zE5 (wo.alloc (.cells (Array.replicate I (.int .u8 0)) 5));have HO1:Hid (zao W1 wo.heap.size (.slice (some ⟨wo.heap.size,0,none⟩) I I) (ztr I c m 0)):=Hd (by
    rw[hW1];simpa[ztr,rowF] using zvc wo I (by omega))
   have HB1:Hid (Below wo.heap.size wo W1):=Hd (by rw[hW1];exact (Zaa _ _).alloc (zE3 _) _);have HC:=Hd (Zao hc hd);have HW1:=Hd hW1;clear hc hd hW1 cxa;go_wp2;rw[←HW1.out];go_loopg [7,8] M (fun gk y k wr=>∃(V2:Value) (K:Nat),V2=y∧K≤M∧gk=M-K∧k=.int .i64 K∧Hid (zao wr wo.heap.size V2 (ztr I c m K))∧Hid (Below wo.heap.size wo wr))
   case atStart=>exact⟨_,0,rfl,by omega,rfl,rfl,HO1,HB1⟩
   case round =>
    clear HO1 HB1 HW1;obtain⟨V2,K,rfl,hK,rfl,rfl,HO,HB⟩:=hrel;have hsk:=HB.out.size;by_cases hlt2:K<M
    ·obtain⟨c2,hc2,hd2⟩:=zbt (l:=m) (i:=K) (by rw[HM.out];omega);have hbel:Below w.heap.size w wr:=HI.out.below.trans (HB.out.mono hs);obtain⟨ba',oa',e',hba',cx1⟩:=(HU.out.below hbel).at HC.out.1;cases e';obtain⟨bb,ob,rfl,hbb0,-⟩:=HV.out.at hc2;obtain⟨bb',ob',e',hbb,cx2⟩:=(HV.out.below hbel).at hc2;cases e';have HMU:=Hd (fun W=>zkn c c2 W);obtain⟨s,hs2⟩:∃t,(c*c2).n=t:=⟨_,rfl⟩;obtain⟨v1,w6,hap,ho6,hb6⟩:=zzz (W:=wr.drew) HO.out (by omega) (by exact hsk) hd2 hs2 (ad:=wr.heap.size) rfl;have HO6:=Hd ho6;have HB6:=Hd (((Zaa wo.heap.size wr).drew).trans hb6);have HBK:=Hd (HB.out.trans HB6.out);obtain⟨cn,hcn⟩:∃t,c.n=t:=⟨_,rfl⟩;obtain⟨dn,hdn⟩:∃t,c2.n=t:=⟨_,rfl⟩;rw[hcn] at cx1 HMU;rw[hdn] at cx2 HMU;rw[hs2] at HMU;obtain⟨kp,hkp⟩:∃kp:Nat→Bool,∀j,kp j=true↔j<wo.heap.size:=⟨fun j=>decide (j<wo.heap.size),by simp⟩;have hka:kp ba=true:=(hkp _).2 (by omega);have hkb:kp bb=true:=(hkp _).2 (by omega);have HKP:=Hd hkp;clear hkp ho6 hb6 hc2 hd2 hcn hdn hs2 hbel hbb0;go_upto_region 9 with fail
     have hgr:=hgK (fun j=>kp j=true);refine w_T (fun j=>kp j=true) [9,10,11] (.sq [0,1,2,3,4,5,6,7,8,9,10,11,12] .done) (by kernel_rfl) (by kernel_rfl) ?_;simp only[TQ,Oper.slim,Nat.reduceBEq,Nat.reduceAdd]
     repeat' first|((with_reducible refine w_I ?_);first|(with_reducible refine w_D ?_)|(refine zai _ _ _ rfl rfl rfl rfl rfl hap (fun kk hkk=>HB6.out.block kk ((HKP.out kk).1 hkk)) ?_)|((with_reducible refine w_S (fun K hK=>?_));go_simp;first|(refine hK _ _ ?_;clear hK K)|(refine⟨by (intro kk hkk;first|(simp (disch:=(simp;omega)) only[h_D,h_N,h_A,h_S];done)|(simp[h_D,h_N,h_I,hkk];done)|(have hkk2:=(HKP.out kk).1 hkk;simp (disch:=(simp;omega)) only[h_D,h_N,h_A,h_S];done)),hK _ _ ?_⟩;clear hK K)|(go_at_call 49;(with_reducible refine (HMU.out _).mono ?_);rintro e w7 ⟨rfl,rfl⟩;refine⟨_,rfl,(fun kk hkk=>rfl),hK _ _ ?_⟩;clear hK K)))|fail
     clear hgr;go_wp2;go_roundg (M-(K+1))
     case measure=>omega
     case rel=>exact⟨v1,K+1,rfl,by omega,rfl,by go_num,HO6,HBK⟩
    ·obtain rfl:K=M:=by omega
     have HADD:=Hd (zql V V2 p (ztr I c m K) wr (HI.out.own.rd.below HB.out) HO.out.rd (by have:=HI.out.len;rw[HM.out] at this;omega) (by rw[zly];omega));go_wp2_with fail;refine HADD.out.mono ?_;rintro e w9 ⟨v9,q,rfl,ho9,ht9,hev,hlq,hb9⟩;have HI2:Hid (yfr w w9 l m (I+1) v9 q):=Hd ⟨ho9.mono (by omega),ht9,fun x=>by
      have hr:ev (ztr I c m K) x=pw x I*(c*ev m x):=by
       have:=zx9 I c m x
       rwa[HM.out] at this
      rw[hev,HI.out.eval,hr,zt7 l (by rw[HL.out];exact hlt),HC.out.2,dam,Fld.mulA],by
      rw[zly] at hlq;have h1:=HI.out.len;rw[HM.out] at h1 ⊢;by_cases h0:I=0
      ·rw[HI.out.nul h0] at hlq;simp at hlq;omega
      ·omega,fun h=>by omega,(HI.out.below.trans (HB.out.mono hs)).trans (hb9.mono (by omega))⟩
     clear ho9 ht9 hev hlq hb9;go_wp2;go_roundg (L-(I+1))
     case measure=>omega
     case rel=>exact⟨v9,I+1,q,rfl,by omega,rfl,by go_num,HI2⟩
  ·obtain rfl:I=L:=by omega
   have HP:Hid (zmq l m w (.returned V) wo):=Hd ⟨V,p,rfl,HI.out.own,HI.out.trim,fun x=>by
    have:=HI.out.eval x
    rwa[Zca (by rw[HL.out];exact zE3 _)] at this,by rw[HL.out];exact HI.out.len,HI.out.below⟩
   go_wp2;go_ret;exact HP.out
def zld (xs:List GF) (w:World) (e:Ending) (w':World):Prop :=
 ∃v p,e=.returned v∧GRd w' v p∧(∀y,ev p y=zi6 (fun i=>xs.getD i 0) y xs.length)∧p.length≤xs.length+1∧Below w.heap.size w w'
theorem zr8 (u:Value) (xs:List GF) (w:World) (hu:GRd w u xs) (hl:xs.length≤10000) :
  Calls Tryz.prog 96 #[u] w (zld xs w):=by
 obtain⟨a,cap,rfl,hcap⟩:=hu.form;obtain⟨L,hL⟩:=zE4 xs.length;have HL:=Hd hL;rw[hL] at hl hcap hu ⊢;have HU:=Hd hu;clear hu hL;have h0:GRd (w.alloc (.cells #[.int .u8 1] 5)) (.slice (some ⟨w.heap.size,0,none⟩) 1 1) [1]:=GRd.lit [1] (nwA _ _) rfl;have H0:=Hd h0;clear h0;go_enter Tryz.func96,Tryz.ntmps96;go_wp2;go_loopg [3,4] L (fun gk y i wr=>∃(V:Value) (I:Nat) (p:List GF),V=y∧I≤L∧gk=L-I∧i=.int .i64 I∧Hid (GRd wr V p)∧Hid (∀y,ev p y=zi6 (fun i=>xs.getD i 0) y I)∧Hid (p.length≤I+1)∧Hid (Below w.heap.size w wr))
 case atStart=>exact⟨_,0,[1],rfl,by omega,rfl,rfl,H0,Hd (fun y=>zwy 1 y),Hd (by simp),Hd ((Zaa _ _).alloc (zE3 _) _)⟩
 case round =>
  clear H0;obtain⟨V,I,p,rfl,hI,rfl,rfl,HG,HE,HLEN,HB⟩:=hrel;have hs:=HB.out.size;by_cases hlt:I<L
  ·obtain⟨c,hc,hd⟩:=zbt (l:=xs) (i:=I) (by rw[HL.out];omega);obtain⟨b1,o1,rfl,hb1,cx⟩:=(HU.out.below HB.out).at hc;have hb2:Below wr.heap.size wr (wr.alloc (.cells #[.int .u8 (c.n:Nat),.int .u8 1] 5)):=(Zaa _ _).alloc (zE3 _) _;have HMUL:=Hd (znf V (.slice (some ⟨wr.heap.size,0,none⟩) 2 2) p [c,1] (wr.alloc (.cells #[.int .u8 (c.n:Nat),.int .u8 1] 5)) (HG.out.below hb2) (GRd.lit [c,1] (nwA _ _) rfl) (by have:=HLEN.out;omega) (by simp));have HB2:=Hd hb2;have HC:=Hd hd;obtain⟨cn,hcn⟩:∃t,c.n=t:=⟨_,rfl⟩;rw[hcn] at cx HMUL HB2;clear hb2 hc hd hcn;go_wp2_with fail;refine HMUL.out.mono ?_;rintro e w9 ⟨v9,q,rfl,ho9,ht9,hev,hlq,hb9⟩;have HG2:=Hd ho9.rd;have HE2:Hid (∀y,ev q y=zi6 (fun i=>xs.getD i 0) y (I+1)):=Hd fun y=>by rw[hev,HE.out,yef,zi6,HC.out]
   have HLEN2:Hid (q.length≤I+1+1):=Hd (by have:=HLEN.out;simp at hlq;omega);have HB9:Hid (Below w.heap.size w w9):=Hd ((HB.out.trans (HB2.out.mono hs)).trans (hb9.mono (by simp;omega)));clear ho9 ht9 hev hlq hb9;go_wp2;go_roundg (L-(I+1))
   case measure=>omega
   case rel=>exact⟨v9,I+1,q,rfl,by omega,rfl,by go_num,HG2,HE2,HLEN2,HB9⟩
  ·obtain rfl:I=L:=by omega
   have HP:Hid (zld xs w (.returned V) wr):=Hd ⟨V,p,rfl,HG.out,by rw[HL.out];exact HE.out,by rw[HL.out];exact HLEN.out,HB.out⟩;go_wp2;go_ret;exact HP.out
def zs4 (xs:List GF) (I:Nat):List GF:=xs.take I++xs.drop (I+1)
theorem zgb {xs:List GF} {I:Nat} (h:I<xs.length):(zs4 xs I).length+1=xs.length:=by simp[zs4];omega
theorem zq1 {xs:List GF} {I:Nat} (h:I<xs.length) (t:Nat):(zs4 xs I).getD t 0=if t<I then xs.getD t 0 else xs.getD (t+1) 0:=by
 rw[zs4,zE2];by_cases ht:t<I
 ·rw[if_pos ht,List.getElem?_append_left (by rw[Zan];omega),List.getElem?_take,if_pos ht,zE2]
 ·rw[if_neg ht,Zch (by rw[Zan];omega),Zan,Zbn (by omega),List.getElem?_drop,zE2];congr 2;omega
theorem zwh {xs:List GF} {I j:Nat} (hI:I<xs.length) (hj:j<xs.length) (hne:j≠I):zi6 (fun i=>(zs4 xs I).getD i 0) (xs.getD j 0) (zs4 xs I).length=0:=by
 refine (zf3 _ _ _).2 ⟨if j<I then j else j-1,?_,?_⟩
 ·have:=zgb hI
  split<;>omega
 ·rw[zq1 hI];by_cases h:j<I
  ·rw[if_pos h,if_pos h]
  ·rw[if_neg h,if_neg (by omega),show j-1+1=j by omega]
theorem zwi {xs:List GF} {I:Nat} (hn:xs.Nodup) (hI:I<xs.length):zi6 (fun i=>(zs4 xs I).getD i 0) (xs.getD I 0) (zs4 xs I).length≠0:=by
 intro h;obtain⟨t,ht,e⟩:=(zf3 _ _ _).1 h;have hl:=zgb hI;rw[zq1 hI] at e;by_cases h2:t<I
 ·rw[if_pos h2] at e;have:=zgf hn (by omega) hI e;omega
 ·rw[if_neg h2] at e;have:=zgf hn (by omega) hI e;omega
structure zxl (w wr:World) (xs ys:List GF) (I:Nat) (V:Value) (p:List GF):Prop where
 own:zao wr w.heap.size V p
 trim:zfp p
 len:p.length≤xs.length
 val:∀j,j<xs.length→ev p (xs.getD j 0)=if j<I then ys.getD j 0 else 0
 below:Below w.heap.size w wr
theorem zxl.step {w wr w9:World} {xs ys:List GF} {I:Nat} {V V9:Value} {p q r s:List GF} {c:GF} (h:zxl w wr xs ys I V p) (hn:xs.Nodup) (hI:I<xs.length)
  (hq:∀y,ev q y=zi6 (fun i=>(zs4 xs I).getD i 0) y (zs4 xs I).length) (hql:q.length≤(zs4 xs I).length+1) (hc:c=ys.getD I 0*Fld.inv (ev q (xs.getD I 0)))
  (hr:∀y,ev r y=ev q y*ev [c] y) (hrl:r.length≤q.length-1+1) (hs:∀y,ev s y=ev p y+ev r y) (hsl:s.length≤max p.length r.length) (ht:zfp s) (hrd:zao w9 w.heap.size V9 s) (hb:Below w.heap.size w w9):zxl w w9 xs ys (I+1) V9 s:=by
 have hll:=zgb hI;have hpl:=h.len;refine⟨hrd,ht,by omega,fun j hj=>?_,hb⟩;rw[hs,hr,zwy,h.val j hj];by_cases e:j=I
 ·subst e;rw[if_neg (by omega),if_pos (by omega),zadd,hc,ydx,zsz _ (by rw[hq];exact zwi hn hI),mone]
 ·rw[hq,zwh hI hj e,zmul,addz];by_cases h2:j<I
  ·rw[if_pos h2,if_pos (by omega)]
  ·rw[if_neg h2,if_neg (by omega)]
def zha (xs ys:List GF) (w:World) (e:Ending) (w':World):Prop :=
 ∃v p,e=.returned (.tuple #[v,.int .i64 0])∧zao w' w.heap.size v p∧yfd xs ys p∧Below w.heap.size w w'
theorem zr7 (u v:Value) (xs ys:List GF) (w:World) (hu:GRd w u xs) (hv:GRd w v ys) (hn:xs.Nodup) (hl:xs.length≤1000) (hxy:ys.length=xs.length) :
  Calls Tryz.prog 58 #[u,v] w (zha xs ys w):=by
 obtain⟨a,cap,rfl,hcap⟩:=hu.form;obtain⟨b,capb,rfl,hcapb⟩:=hv.form;obtain⟨L,hL⟩:=zE4 xs.length;have HL:=Hd hL;have HY:=Hd (hxy.trans hL);have HN:=Hd hn;rw[hxy] at hv hcapb ⊢;rw[hL] at hl hcap hcapb hu hv ⊢;have HU:=Hd hu;have HV:=Hd hv;clear hu hv hL hxy hn;go_enter Tryz.func58,Tryz.ntmps58;go_wp2;go_loopg [6,7] L (fun gk y i wr=>∃(V:Value) (I:Nat) (p:List GF),V=y∧I≤L∧gk=L-I∧i=.int .i64 I∧Hid (zxl w wr xs ys I V p))
 case atStart=>exact⟨_,0,[],rfl,by omega,rfl,rfl,Hd ⟨zao.nil w w.heap.size,.inl rfl,by simp,fun j hj=>by rw[zei,if_neg (by omega)],Zaa _ _⟩⟩
 case round =>
  obtain⟨V,I,p,rfl,hI,rfl,rfl,HI⟩:=hrel;have hs:=HI.out.below.size;by_cases hlt:I<L
  ·have hIx:I<xs.length:=by rw[HL.out];exact hlt
   obtain⟨c,hc,hd⟩:=zbt (l:=xs) (i:=I) hIx;obtain⟨d,hc2,hd2⟩:=zbt (l:=ys) (i:=I) (by rw[HY.out];exact hlt);obtain⟨b1,o1,rfl,hb1,-⟩:=HU.out.at hc;obtain⟨b2,o2,rfl,hb2,-⟩:=HV.out.at hc2;have HC:=Hd (Zao hc hd);have HD:=Hd (Zao hc2 hd2);obtain⟨sa,sc,hsl1,hs1,-⟩:=zoy (some ⟨b1,o1,none⟩) L cap I (by omega);obtain⟨v1,w3,hap1,ho3,hb3⟩:=zpw (hs1 wr xs (HU.out.below HI.out.below) (by omega)) (by rw[Zan];omega);have hw3:Below w.heap.size w w3:=HI.out.below.trans (hb3.mono hs);have hs3:=hb3.size;obtain⟨sb,sd,hsl2,hs2,hne⟩:=zul (some ⟨b1,o1,none⟩) L cap (I+1) (by omega) (by omega);obtain⟨B,rfl⟩:∃B,sb=some B:=by
    cases sb with
    | none=>exact absurd rfl (hne (by simp))
    | some B=>exact⟨B,rfl⟩
   obtain⟨v2,w4,hap2,ho4,-,hb4⟩:=zrh ho3 (hs2 w3 xs (HU.out.below hw3)) (by rw[Zan];omega) (by rw[List.length_drop,HL.out];omega) hs3;have HO4:Hid (zao w4 wr.heap.size v2 (zs4 xs I)):=Hd ho4;have HB4:=Hd (hb3.trans hb4);have hs4:=HB4.out.size;have hcast:((I+1:Nat):Int)=(I:Int)+1:=by omega
   rw[hcast] at hsl2;clear hc hd hc2 hd2 hs1 hs2 ho3 ho4 hb3 hb4 hw3 hne hcast;have HROOT:=Hd (zr8 v2 (zs4 xs I) w4 HO4.out.rd (by have:=zgb (xs:=xs) (I:=I) (by rw[HL.out];exact hlt);rw[HL.out] at this;omega));go_upto_region 9 with (at_builtin;refine zae rfl _ _ _ rfl rfl rfl hap1 ?_)
   clear hap1;go_upto_region 10 with (at_builtin;refine zae rfl _ _ _ rfl rfl rfl hap2 ?_)
   clear hap2;go_wp2_with fail;refine HROOT.out.mono ?_;rintro e w5 ⟨v5,q,rfl,hg5,hev5,hq5,hb5⟩;have HB5:Hid (Below wr.heap.size wr w5):=Hd (HB4.out.trans (hb5.mono hs4));have HBW5:Hid (Below w.heap.size w w5):=Hd (HI.out.below.trans (HB5.out.mono hs));have hs5:=HB5.out.size;have HG5:=Hd hg5;have HQ:=Hd (Zao hev5 hq5);clear hg5 hev5 hq5 hb5 HROOT HB4 HO4;obtain⟨b1',o1',e1,hb1',cx⟩:=(HU.out.below HBW5.out).at HC.out.1;cases e1;obtain⟨b2',o2',e2,hb2',cy⟩:=(HV.out.below HBW5.out).at HD.out.1;cases e2;have hql:q.length≤L:=by have h1:=zgb (xs:=xs) (I:=I) (by rw[HL.out];exact hlt);have h2:=HQ.out.2;rw[HL.out] at h1;omega
   have hne0:ev q c≠0:=by rw[HQ.out.1,←HC.out.2];exact zwi HN.out (by rw[HL.out];exact hlt)
   have HAT:Hid (∀W,Below w5.heap.size w5 W→Calls Tryz.prog 98 #[v5,.int .u8 (c.n:Nat)] W fun e w'=>e=.returned (.int .u8 ((ev q c).n:Nat))∧W=w'):=Hd fun W hW=>zu6 v5 q c W (HG5.out.below hW) (by omega);have HDIV:Hid (∀W,Calls Tryz.prog 97 #[.int .u8 (d.n:Nat),.int .u8 ((ev q c).n:Nat)] W fun e w'=>e=.returned (.tuple #[.int .u8 ((d*Fld.inv (ev q c)).n:Nat),.bool true])∧W=w'):=Hd fun W=>by
    have:=zyf d (ev q c) W
    rwa[decide_eq_true hne0] at this
   obtain⟨f,hf⟩:=zE5 (d*Fld.inv (ev q c));rw[←hf] at HDIV;have HF:Hid (f=ys.getD I 0*Fld.inv (ev q (xs.getD I 0))):=Hd (by rw[hf,HC.out.2,HD.out.2]);have HMUL:Hid (Calls Tryz.prog 100 #[v5,.slice (some ⟨w5.heap.size,0,none⟩) 1 1] (w5.alloc (.cells #[.int .u8 (f.n:Nat)] 5)).drew (zmq q [f] (w5.alloc (.cells #[.int .u8 (f.n:Nat)] 5)).drew)):=Hd
    (znf v5 _ q [f] _ (HG5.out.below (((Zaa _ _).alloc (zE3 _) _).drew)) (GRd.lit [f] (by exact nwA _ _) rfl) (by omega) (by simp))
   obtain⟨cn,hcn⟩:∃t,c.n=t:=⟨_,rfl⟩;obtain⟨dn,hdn⟩:∃t,d.n=t:=⟨_,rfl⟩;obtain⟨en,hen⟩:∃t,(ev q c).n=t:=⟨_,rfl⟩;obtain⟨fn,hfn⟩:∃t,f.n=t:=⟨_,rfl⟩;rw[hcn] at cx HAT;rw[hdn] at cy HDIV;rw[hen] at HAT HDIV;rw[hfn] at HDIV HMUL;obtain⟨kp,hkp⟩:∃kp:Nat→Bool,∀j,kp j=true↔j<w5.heap.size:=⟨fun j=>decide (j<w5.heap.size),by simp⟩;have hk1:kp b1=true:=(hkp _).2 hb1';have hk2:kp b2=true:=(hkp _).2 hb2';have HKP:=Hd hkp;clear hkp hcn hdn hen hfn hf hne0;go_upto_region 11 with fail
   have hgr:=hgK (fun j=>kp j=true);refine w_T (fun j=>kp j=true) [9,10] (.sq [0,1,2,3,4,5,6,7,8,9,10,11,12,13,14,15] .done) (by kernel_rfl) (by kernel_rfl) ?_;simp only[TQ,Oper.slim,Nat.reduceBEq,Nat.reduceAdd]
   repeat' first|((with_reducible refine w_I ?_);first|(with_reducible refine w_D ?_)|((with_reducible refine w_S (fun K hK=>?_));go_simp;first|(refine hK _ _ ?_;clear hK K)|(refine⟨by (intro kk hkk;first|(simp (disch:=(simp;omega)) only[h_D,h_N,h_A,h_S];done)|(simp[h_D,h_N,h_I,hkk];done)|(have hkk2:=(HKP.out kk).1 hkk;simp (disch:=(simp;omega)) only[h_D,h_N,h_A,h_S];done)),hK _ _ ?_⟩;clear hK K)|(go_at_call 98;(with_reducible refine (HAT.out _ (by (repeat' (first|with_reducible (first|exact Zaa _ _|assumption|refine Zac ?_|refine Zab ?_ ?_ _)|omega|(simp;done)|(simp;omega))))).mono ?_);rintro e w7 ⟨rfl,rfl⟩;refine⟨_,rfl,(fun kk hkk=>rfl),hK _ _ ?_⟩;clear hK K)|(go_at_call 97;(with_reducible refine (HDIV.out _).mono ?_);rintro e w7 ⟨rfl,rfl⟩;refine⟨_,rfl,(fun kk hkk=>rfl),hK _ _ ?_⟩;clear hK K)))|fail
   clear hgr;go_wp2_with fail;refine HMUL.out.mono ?_;rintro e w8 ⟨v8,r,rfl,ho8,-,hev8,hr8,hb8⟩;have HB8:Hid (Below w5.heap.size w5 w8):=Hd ((show Below w5.heap.size w5 _ from by (repeat' (first|with_reducible (first|exact Zaa _ _|assumption|refine Zac ?_|refine Zab ?_ ?_ _)|omega|(simp;done)|(simp;omega)))).trans (hb8.mono (by simp)));have hs8:=HB8.out.size;have HB58:Hid (Below wr.heap.size wr w8):=Hd (HB5.out.trans (HB8.out.mono hs5));have HR:=Hd (Zao hev8 hr8);have HADD:=Hd (zql V v8 p r w8 (HI.out.own.rd.below HB58.out) ho8.rd (by have:=HI.out.len;rw[HL.out] at this;omega) (by simp at hr8;omega));clear ho8 hev8 hr8 hb8;go_wp2_with fail;refine HADD.out.mono ?_;rintro e w9 ⟨v9,s,rfl,ho9,ht9,hev9,hl9,hb9⟩;have HI9:Hid (zxl w w9 xs ys (I+1) v9 s):=Hd (HI.out.step HN.out (by rw[HL.out];exact hlt) HQ.out.1 HQ.out.2 HF.out HR.out.1 HR.out.2 hev9 hl9 ht9 (ho9.mono (by omega)) ((HI.out.below.trans (HB58.out.mono hs)).trans (hb9.mono (by omega))));clear ho9 ht9 hev9 hl9 hb9 HADD HMUL HDIV HAT HB58 HB8 HB5 HR HQ HF;go_wp2;go_roundg (L-(I+1))
   case measure=>omega
   case rel=>exact⟨v9,I+1,s,rfl,by omega,rfl,by go_num,HI9⟩
  ·obtain rfl:I=L:=by omega
   have HP:Hid (zha xs ys w (.returned (.tuple #[V,.int .i64 0])) wr):=Hd ⟨V,p,rfl,HI.out.own,⟨HI.out.trim,HI.out.len,fun j hj=>by rw[HI.out.val j hj,if_pos (by rw[HL.out] at hj;exact hj)]⟩,HI.out.below⟩;go_wp2;go_ret2;exact HP.out
