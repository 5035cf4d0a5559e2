import Derived.Test.YtcclhhjcejmepaaGreatZWorks
import Derived.Test.YtcclhhjcejmepaaGreatZR10cd
set_option linter.all false
set_option maxRecDepth 100000
set_option maxHeartbeats 4000000
namespace Go.Proofs.YtcclhhjcejmepaaGreat
open Go.RowKit Fld
def ze0 (l m:List Ro) (w:World) (e:Ending) (w':World):Prop:=∃b,e=.returned (.bool b)∧Below w.heap.size w w'∧(b=true↔l.map Ro.d=m.map Ro.d)
theorem zo1 {l m:List Ro} {I:Nat} {s t:Ro} (hs:l[I]? = some s) (ht:m[I]? = some t) (h:(l.take I).map Ro.d=(m.take I).map Ro.d) (h2:s.d=t.d) :
  (l.take (I+1)).map Ro.d=(m.take (I+1)).map Ro.d:=by
 rw[Zaz,Zaz,hs,ht,Zaw,Zaw,h];simp[h2]
theorem zut {l m:List Ro} {I:Nat} {s t:Ro} (hs:l[I]? = some s) (ht:m[I]? = some t) (h:l.map Ro.d=m.map Ro.d):s.d=t.d:=by have h2:=congrArg (fun x:List (List GF)=>x[I]?) h;simp only[Zae,hs,ht,Zbv,Option.some.injEq] at h2;exact h2
theorem zj7 (u v:Value) (l m:List Ro) (w:World) (h:zdv w u l) (h':zdv w v m) (hll:l.length≤1000000) :
  Calls Tryz.prog 19 #[u,v] w (ze0 l m w):=by
 obtain⟨a,cap,rfl⟩:=h.rd.form;obtain⟨a',cap',rfl⟩:=h'.rd.form;obtain⟨L,hL⟩:=zE4 l.length;obtain⟨M,hM⟩:=zE4 m.length;have H:=Hd h;have H':=Hd h';have HL:=Hd hL;have HM:=Hd hM;rw[hL] at H hll ⊢;rw[hM] at H' ⊢;clear h h' hL hM;by_cases hne:L=M
 case neg =>
  have hne':¬(L:Int)=(M:Int):=by omega
  have HP:Hid (ze0 l m w (.returned (.bool false)) w):=Hd ⟨false,rfl,Zaa _ _,(fun h=>by cases h),fun h=>by
   have:=congrArg List.length h
   simp at this;rw[HL.out,HM.out] at this;exact absurd this hne⟩
  clear hne;go_enter Tryz.func19,Tryz.ntmps19;go_wp2;go_ret;exact HP.out
 subst hne;go_enter Tryz.func19,Tryz.ntmps19;go_wp2;go_loopg [5] L (fun gk i wr=>∃I:Nat,I≤L∧gk=L-I∧i=.int .i64 I∧Hid (Below w.heap.size w wr)∧Hid ((l.take I).map Ro.d=(m.take I).map Ro.d))
 case atStart=>exact⟨0,by omega,rfl,rfl,Hd (Zaa _ _),Hd rfl⟩
 case round =>
  obtain⟨I,hI,rfl,rfl,HB,HG⟩:=hrel;have hsr:=HB.out.size;by_cases hlt:I<L
  ·obtain⟨s,hs⟩:∃s,l[I]? = some s:=⟨_,zE1 (by rw[HL.out];exact hlt)⟩;obtain⟨t,ht⟩:∃t,m[I]? = some t:=⟨_,zE1 (by rw[HM.out];exact hlt)⟩;have hA:=H.out.below HB.out;have hA':=H'.out.below HB.out;obtain⟨-,-,b,o,rfl,hb,hat⟩:=SRd.at hA.rd hs;obtain⟨-,-,b',o',rfl,hb',hat'⟩:=SRd.at hA'.rd ht;have c1:wr.cell? ⟨b,o+I,none⟩=some s.v:=by have:=hat 0 _ rfl;rwa[Nat.mul_one] at this
   have d1:wr.cell? ⟨b',o'+I,none⟩=some t.v:=by have:=hat' 0 _ rfl;rwa[Nat.mul_one] at this
   have q1:=hA.each s (Zad hs);have q2:=hA'.each t (Zad ht);obtain⟨ax,cx,es,-⟩:=q1.form;obtain⟨ay,cy,et,-⟩:=q2.form;rw[es] at c1 q1;rw[et] at d1 q2;have v1:=zat.conv (GRd.below q1 (Zaa _ _).drew)
   have v2:=zat.conv (GRd.below q2 (Zaa _ _).drew)
   have hst:za1 (s.d.map GF.n)=za1 (t.d.map GF.n)↔s.d=t.d:=(zdk q1.1 q2.1).trans ⟨fun e=>zeu e,fun e=>by rw[e]⟩;obtain⟨st1,hst1⟩:∃st,za1 (s.d.map GF.n)=st:=⟨_,rfl⟩;obtain⟨st2,hst2⟩:∃st,za1 (t.d.map GF.n)=st:=⟨_,rfl⟩;rw[hst1] at v1 hst;rw[hst2] at v2 hst;have HLT:=Hd hlt;have HBD:Hid (Below w.heap.size w wr.drew):=Hd HB.out.drew;have HST:=Hd (Zao hs (Zao ht hst));obtain⟨kp,hkp⟩:∃kp:Nat→Bool,∀j,kp j=true↔j<wr.heap.size:=⟨fun j=>decide (j<wr.heap.size),by simp⟩;have k1:kp b=true:=(hkp _).2 hb;have k2:kp b'=true:=(hkp _).2 hb';have HKP:=Hd hkp;have i1:(0:Int)≤(I:Int)∧(I:Int)<(L:Int):=by omega
   clear hat hat' hs ht hA hA' q1 q2 hst hst1 hst2 hkp es et;by_cases hss:st1=st2
   ·subst hss;have HG2:=Hd (zo1 HST.out.1 HST.out.2.1 HG.out (HST.out.2.2.1 rfl));go_upto_region 6 with fail
    have hgr:=hgK (fun j=>kp j=true);refine w_T (fun j=>kp j=true) [4,9] (.sq [0,1,2,3,5,6,7,8] (.fork 4 (.step 9 (.step 10 .done)) 9 (.step 4 (.step 10 .done)))) (by kernel_rfl) (by kernel_rfl) ?_;simp only[TQ,Oper.slim,Nat.reduceBEq,Nat.reduceAdd]
    repeat' first|((with_reducible refine w_I ?_);first|(with_reducible refine w_D ?_)|(with_reducible refine zaf ?_ ?_)|((with_reducible refine w_S (fun K hK=>?_));go_simp;first|(refine hK _ _ ?_;clear hK K)|(refine⟨by (intro kk hkk;first|(simp (disch:=(simp;omega)) only[h_D,h_N,h_A,h_S];done)|(simp[h_D,h_N,h_I,hkk];done)|fail),hK _ _ ?_⟩;clear hK K)))|fail
    all_goals clear hgr
    all_goals go_wp2
    all_goals go_roundg (L-(I+1))
    all_goals first
     | omega
     | exact Nat.sub_lt_sub_left HLT.out (Nat.lt_succ_self I)
     | exact⟨I+1,HLT.out,rfl,by go_num,HBD,HG2⟩
   ·have hsl:¬st1.data.toList=st2.data.toList:=fun e=>hss (by
     have e2:st1.data=st2.data:=Array.toList_inj.1 e;cases st1;cases st2;simp only at e2;rw[e2])
    have hb1:(st1.data.toList == st2.data.toList)=false:=by simpa using hsl
    have hb2:(st1.toList == st2.toList)=false:=by rw[ByteArray.toList_eq,ByteArray.toList_eq];exact hb1
    have HP:Hid (ze0 l m w (.returned (.bool false)) wr.drew):=Hd ⟨false,rfl,HBD.out,(fun h=>by cases h),fun h=>absurd (HST.out.2.2.2 (zut HST.out.1 HST.out.2.1 h)) hss⟩;go_upto_region 6 with fail
    have hgr:=hgK (fun j=>kp j=true);refine w_T (fun j=>kp j=true) [4,9] (.sq [0,1,2,3,5,6,7,8] (.fork 4 (.step 9 (.step 10 .done)) 9 (.step 4 (.step 10 .done)))) (by kernel_rfl) (by kernel_rfl) ?_;simp only[TQ,Oper.slim,Nat.reduceBEq,Nat.reduceAdd]
    repeat' first|((with_reducible refine w_I ?_);first|(with_reducible refine w_D ?_)|(with_reducible refine zaf ?_ ?_)|((with_reducible refine w_S (fun K hK=>?_));go_simp;first|(refine hK _ _ ?_;clear hK K)|(refine⟨by (intro kk hkk;first|(simp (disch:=(simp;omega)) only[h_D,h_N,h_A,h_S];done)|(simp[h_D,h_N,h_I,hkk];done)|fail),hK _ _ ?_⟩;clear hK K)))|fail
    all_goals clear hgr
    all_goals go_wp2
    all_goals go_ret
    all_goals exact HP.out
  ·obtain rfl:I=L:=by omega
   have HP:Hid (ze0 l m w (.returned (.bool true)) wr):=Hd ⟨true,rfl,HB.out,(fun _=>by have:=HG.out;rwa[←HL.out,Zbs,show l.length=m.length by rw[HL.out,HM.out],Zbs] at this),fun _=>rfl⟩;go_wp2;go_ret;exact HP.out
theorem yfw (u v:Value) (l m:List Ro) (w:World) (hu:zdv w u l) (hv:zdv w v m) (hl:l.length≤1000000) (he:l.map Ro.d=m.map Ro.d) :
  Calls Tryz.prog 19 #[u,v] w fun e w'=>e=.returned (.bool true)∧Below w.heap.size w w':=by
 refine (zj7 u v l m w hu hv hl).mono ?_;rintro e w' ⟨b,rfl,hb,hbb⟩;rw[hbb.2 he];exact⟨rfl,hb⟩
def ze4 (n k d:Nat) (ms:List GF) (D:List (List GF)) (c:Int):Prop:=(ms.length=mbB k d∧D=znp n k d ms∧c=0)∨(ms.length≠mbB k d∧D=[]∧c=2)
theorem ze4.one {n k d:Nat} {ms:List GF} {D D':List (List GF)} {c c':Int} (h:ze4 n k d ms D c) (h':ze4 n k d ms D' c'):D=D'∧c=c':=by
 rcases h with ⟨a,rfl,rfl⟩|⟨a,rfl,rfl⟩<;>rcases h' with ⟨b,rfl,rfl⟩|⟨b,rfl,rfl⟩
 ·exact⟨rfl,rfl⟩
 ·exact absurd a b
 ·exact absurd b a
 ·exact⟨rfl,rfl⟩
theorem ze4.len {n k d:Nat} {ms:List GF} {D:List (List GF)} {c:Int} (h:ze4 n k d ms D c):D.length≤n:=by rcases h with ⟨a,rfl,rfl⟩|⟨a,rfl,rfl⟩<;>simp[znp]
theorem ydq (w:World):zdv w (.slice none 0 0) []:=⟨(zgq.nil w 0).all (by simp) |>.rd,by simp⟩
theorem zgk.kpA {S:List Nat} {w w':World} {B:Nat} {v:Value} {l:List Ro} (h:zgk w B v l) (hk:Kp S w w') (hS:∀x∈S,x<B):zdv w' v l :=
 zgq.all (h.row.kp hk (fun k hkk hm=>by have:=(h.row.lt k hkk).1;have:=hS k hm;omega)) fun s hs=>(h.each s hs).kp hk (fun k hkk hm=>by
  cases e:s.a with
  | none=>rw[Ro.v,e] at hkk;simp[Value.ownBlock] at hkk
  | some a =>
   rw[Ro.v,e] at hkk;simp only[Value.ownBlock,Option.some.injEq] at hkk;have h1:=(h.new s hs a e).1;have:=hS k hm;omega)
theorem ye1 {n k d:Nat} {m:List GF} (hn:n≤255):(List.range n).map (fun j=>zau k d m (pw GF.two j))=znp n k d m:=by unfold znp;exact Zbu fun j hj=>by rw[zfi (Zaj.1 hj)]
theorem zs3 (n k d f t:Int) (mv sv:Value) (m s:List GF) (w:World) (hnb:I64 n∧I64 k∧I64 d) (hm:GRd w mv m) (hs:GRd w sv s) :
  Calls Tryz.prog 3 #[.int .i64 n,.int .i64 k,.int .i64 d,mv,.int .i64 f,.int .i64 t,sv] w fun e w'=>e=.returned (.bool true)∧Below w.heap.size w w':=by
 have HW:=Hd (yf6 w);have HFN:=Hd (fun W=>zjk W);have HNB:=Hd hnb;obtain⟨am,cm,rfl,hcm⟩:=hm.form;obtain⟨az,cz,rfl,hcz⟩:=hs.form;have hslt:∀(i:Nat) (x:GF),s[i]? = some x→∀b,(Value.slice az s.length cz).ownBlock=some b→b<w.heap.size:=fun i x hx b hb=>by obtain⟨b',o',rfl,h,-⟩:=hs.at hx;cases hb;exact h
 obtain⟨L,hL⟩:=zE4 m.length;obtain⟨Z,hZ⟩:=zE4 s.length;have HM:=Hd hm;have HS:=Hd hs;have HL:=Hd hL;have HZ:=Hd hZ;have HSLT:=Hd hslt;rw[hL] at HM ⊢;rw[hZ] at HS HSLT ⊢;clear hm hs hL hZ hcm hcz hnb hslt;go_enter Tryz.func3,Tryz.ntmps3;go_wp2_with fail;refine (zds n k d w).mono ?_;rintro e w' ⟨b,rfl,rfl,hb⟩;have HBW:Hid (Below w.heap.size w w):=Hd (Zaa _ _);cases b
 ·clear hb;go_wp2_with fail;refine (HW.out _ HBW.out).mono ?_;rintro e w20 ⟨rfl,HB20⟩;go_wp2;go_ret;exact⟨rfl,HB20.out⟩
 have h9:=Hd (hb.1 rfl);clear hb;by_cases h60:60<L
 ·have h60':(60:Int)<(L:Int):=by omega
  go_wp2_with fail;refine (HW.out _ HBW.out).mono ?_;rintro e w20 ⟨rfl,HB20⟩;go_wp2;go_ret;exact⟨rfl,HB20.out⟩
 have h60':¬(60:Int)<(L:Int):=by omega
 by_cases z60:60<Z
 ·have z60':(60:Int)<(Z:Int):=by omega
  go_wp2_with fail;refine (HW.out _ HBW.out).mono ?_;rintro e w20 ⟨rfl,HB20⟩;go_wp2;go_ret;exact⟨rfl,HB20.out⟩
 have z60':¬(60:Int)<(Z:Int):=by omega
 clear HBW;go_wp2_with fail;refine (HFN.out _).mono ?_;rintro e w1 ⟨fb,rfl,hfb0,hf1,hb1⟩;have HFO:=Hd hf1;have HB0:=Hd hb1;have HFB:=Hd hfb0;have hs1:=hf1.lt;clear hf1 hb1 hfb0;go_wp2_with fail;refine (zbo fb n k d w1 HFO.out HNB.out.1 HNB.out.2.1 HNB.out.2.2 (fun h=>by simp only[zbl];first|omega|(have:=h9.out;omega))).mono ?_;rintro e w2 ⟨hk2,hf2,hcase⟩;have HB2:Hid (Below w.heap.size w w2):=Hd (HB0.out.trans (hk2.below HB0.out.size (by have:=HFB.out;simp;omega)));have HF2:=Hd hf2;have hfl2:=hf2.lt;have hs2:=HB2.out.size;clear hk2 hf2 HFO HB0;rcases hcase with ⟨N,K,D,rfl,rfl,rfl,hNK,lb,t1,t2,pb,cv,cv2,rfl,hlb,hc2⟩|⟨hno,rfl⟩
 case inr =>
  have HBW:=HB2;clear hno;go_wp2_with fail;refine (HW.out _ HBW.out).mono ?_;rintro e w20 ⟨rfl,HB20⟩;go_wp2;go_ret;exact⟨rfl,HB20.out⟩
 obtain⟨wa,hwa⟩:=zE5 (w2.alloc (.cells #[.int .i64 N,.int .i64 K,.int .i64 D] 32));have hba:Below w2.heap.size w2 wa:=by rw[hwa];exact (Zaa _ _).alloc (zE3 _) _
 have hda:wa.heap[w2.heap.size]? = some (.cells #[.int .i64 N,.int .i64 K,.int .i64 D] 32 (0,0)):=by rw[hwa];exact nwA _ _
 have HBA:=Hd (HB2.out.trans (hba.mono hs2));have hsa:=hba.size;have hrl:=lOH hda;have HDA:=Hd hda;have HCA:=Hd (hc2.below hba);have hMa:=HM.out.below HBA.out;obtain⟨st,cc,w3,hcv1,hcv2,hcc,hvw,hb3⟩:=zl2 wa hMa;have hrw:=zag.list hvw rfl hcc;rw[HL.out] at hcv2 hcc hrw;have HC3:=Hd (HCA.out.below hb3);have HB3:Hid (Below w.heap.size w w3):=Hd (HBA.out.trans (hb3.mono HBA.out.size));have HR3:=Hd hrw;have HD3:=Hd (zad hb3 HDA.out);have hs3:=hb3.size;have hs33:=hvw.1;have HNK:=Hd hNK;have h99:=h9.out;clear hc2 hMa hvw hb3 hrw hba hda HDA HCA hNK;have hcw:=hcv1;conv at hcw=>lhs;rw[hwa]
 clear hcv1 hwa;go_wp2_with fail;refine (zef w3 lb t1 t2 fb pb N K D cv cv2 _ m HC3.out HNK.out HR3.out (by rw[HL.out];omega) (fun k hk hm=>by simp[Value.ownBlock] at hk hm;omega)).mono ?_;rintro e w4 hcase;have hx4:Kp [fb] w3 w4∧FOk w4 fb∧∃v S DD c,e=.returned (.tuple #[v,.int .i64 c])∧(∀W,Kp [fb] w4 W→zdv W v S)∧S.map Ro.d=DD∧ze4 N K D m DD c:=by
  rcases hcase with ⟨hne,rfl,h⟩|⟨heq,hk,hf,v,S,rfl,hsh⟩
  ·exact⟨Kp.of_below h,HC3.out.tells.ok.below h,_,[],[],2,rfl,fun _ _=>ydq _,rfl,.inr ⟨hne,rfl,rfl⟩⟩
  ·exact⟨hk,hf,v,S,_,0,rfl,fun W hW=>(hsh.kp hW (by simp;omega)).all,hsh.eq,.inl ⟨heq,rfl,rfl⟩⟩
 obtain⟨hk4,hf4,v4,S4,DD,c,rfl,hro4,hd4,hans⟩:=hx4;have hfbw:=HFB.out;have HB4:Hid (Below w.heap.size w w4):=Hd (HB3.out.trans (hk4.below HB3.out.size (by simp;omega)));have HC4:=Hd (HC3.out.step hk4 hf4);have HO4:=Hd hro4;have HR4:=Hd (HR3.out.kp hk4 (fun k hk hm=>by simp[Value.ownBlock] at hk hm;omega));have hfb2:w2.heap.size≠fb:=by omega
 have HD4:=Hd (hk4.heap HD3.out (by simpa using hfb2));have hs4:=hk4.size;have hlr4:=lOH HD4.out;have HM4:=Hd (HM.out.below HB4.out);have y0:=cOH HD4.out (j:=0) rfl;have y1:=cOH HD4.out (j:=1) rfl;have y2:=cOH HD4.out (j:=2) rfl;have HANS:=Hd hans;have HD:=Hd hd4;have HREN:=Hd (zi4 w4 N K D _ m HNK.out HM4.out (by rw[HL.out];omega));clear hcase hk4 hf4 hro4 hd4 hans HC3 HR3 HD3 hcw hcv2 hcc;go_wp2_with fail;refine HREN.out.mono ?_;rintro e w5 ⟨hb5,hcase⟩;have hx5:∃v S,e=.returned (.tuple #[v,.int .i64 c])∧(∀W,Kp [fb] w5 W→zdv W v S)∧S.map Ro.d=DD:=by
  rcases hcase with ⟨hne,rfl⟩|⟨heq,v,S,rfl,hro,he⟩
  ·obtain⟨rfl,rfl⟩:=HANS.out.one (.inr ⟨hne,rfl,rfl⟩);exact⟨_,[],rfl,fun _ _=>ydq _,rfl⟩
  ·obtain⟨rfl,rfl⟩:=HANS.out.one (.inl ⟨heq,rfl,rfl⟩);exact⟨v,S,rfl,fun W hW=>hro.kpA hW (by simp;omega),he.trans (ye1 HNK.out.2.2.2)⟩
 obtain⟨v5,S5,rfl,hro5,hd5⟩:=hx5;have HB5:Hid (Below w.heap.size w w5):=Hd (HB4.out.trans (hb5.mono HB4.out.size));have HC5:=Hd (HC4.out.below hb5);have HK5:Hid (Kp [fb] w4 w5):=Hd (Kp.of_below hb5);have HP5:=Hd hro5;have HD5:=Hd (zad hb5 HD4.out);have HE:=Hd (HD.out.trans hd5.symm);have hs5:=hb5.size;clear hcase hb5 hro5 hd5 HC4 y0 y1 y2 HREN HM4;go_wp2_with fail;refine (zkx w5 lb t1 t2 fb pb N K D cv cv2 _ f t s HC5.out (by have:=HNK.out;omega) (HS.out.below HB5.out) (fun hne b hb hm=>by
  obtain⟨x,hx⟩:∃x,s[0]? = some x:=⟨_,zE1 (List.length_pos_iff.2 hne)⟩;have:=HSLT.out 0 x hx b hb;simp at hm;omega) (by rw[HZ.out];omega)).mono ?_
 rintro e w6 ⟨x,i,rfl,hi,hk6,hf6⟩;have HB6:Hid (Below w.heap.size w w6):=Hd (HB5.out.trans (hk6.below HB5.out.size (by simp;omega)));have HK6:Hid (Kp [fb] w4 w6):=Hd (HK5.out.trans hk6);have HK56:=Hd hk6;have HD6:=Hd (hk6.heap HD5.out (by simpa using hfb2));have HI:=Hd hi;have y0:=cOH HD6.out (j:=0) rfl;have y1:=cOH HD6.out (j:=1) rfl;have y2:=cOH HD6.out (j:=2) rfl;have hlr6:=lOH HD6.out;have HRH:=Hd (zsk w6 N K D _ f t s (by have:=HNK.out;omega) (HS.out.below HB6.out) (by rw[HZ.out];omega));clear hk6 hf6 hi HC5 HD5 HK5;go_wp2_with fail;refine HRH.out.mono ?_;rintro e w7 ⟨x',i',rfl,hi',hb7⟩;obtain⟨rfl,rfl⟩:=HI.out.one hi';have HB7:Hid (Below w.heap.size w w7):=Hd (HB6.out.trans (hb7.mono HB6.out.size));have HK7:Hid (Kp [fb] w4 w7):=Hd (HK6.out.trans (Kp.of_below hb7));have HK57:Hid (Kp [fb] w5 w7):=Hd (HK56.out.trans (Kp.of_below hb7));have HR7:=Hd (HR4.out.kp HK7.out (fun k hk hm=>by simp[Value.ownBlock] at hk hm;omega));have HSL:Hid (S4.length≤1000000):=Hd (by
  have h1:=HANS.out.len;have h2:=HNK.out;rw[←HD.out,Zag] at h1;omega)
 clear hb7 hi' HK6 HK56 HRH y0 y1 y2;go_wp2_with fail;refine (yfw _ _ _ _ w7 (HO4.out _ HK7.out) (HP5.out _ HK57.out) HSL.out HE.out).mono ?_;rintro e w8 ⟨rfl,hb8⟩;have HB8:Hid (Below w.heap.size w w8):=Hd (HB7.out.trans (hb8.mono HB7.out.size));have HR8:=Hd (HR7.out.below hb8);clear hb8 HR7;go_wp2_with fail;refine (zfx _ _ m w8 HR8.out (HM.out.below HB8.out)).mono ?_;rintro e w9 ⟨rfl,rfl⟩;have HBW:=HB8;go_wp2_with fail;refine (HW.out _ HBW.out).mono ?_;rintro e w20 ⟨rfl,HB20⟩;go_wp2;go_ret;exact⟨rfl,HB20.out⟩
end Go.Proofs.YtcclhhjcejmepaaGreat
namespace Go.Proofs.YtcclhhjcejmepaaGreat
open Go.RowKit
end Go.Proofs.YtcclhhjcejmepaaGreat
