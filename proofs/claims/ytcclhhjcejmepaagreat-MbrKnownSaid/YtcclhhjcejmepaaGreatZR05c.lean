import Derived.Test.YtcclhhjcejmepaaGreatZAppG
set_option linter.all false
set_option maxRecDepth 100000
set_option maxHeartbeats 8000000
namespace Go.Proofs.YtcclhhjcejmepaaGreat
open Go.RowKit Fld
def zhc (g P C I k:Nat) (M:Nat→Nat→GF) (w:World) (e:Ending) (w':World):Prop:=e=.returned (.tuple #[])∧Kp [g] w w'∧zag w' g P (flat C (swR I k M))
theorem zsm (R C P g cap I k:Nat) (M:Nat→Nat→GF) (w:World) (hP:R*C=P) (hPm:P≤16777216) (hC:0<C) (hI:I<R) (hk:k<R) (hv:zag w g P (flat C M)) :
  Calls Tryz.prog 160 #[.agg #[.int .i64 R,.int .i64 C,.slice (some ⟨g,0,none⟩) P cap],.int .i64 I,.int .i64 k] w (zhc g P C I k M w):=by
 obtain⟨w1,hw1⟩:=zE5 (w.alloc (.cells #[.int .i64 R,.int .i64 C,.slice (some ⟨g,0,none⟩) P cap] 96));have hb1:Below w.heap.size w w1:=by rw[hw1];exact (Zaa _ _).alloc (zE3 _) _
 have d2:w1.heap[w.heap.size]? = some (.cells #[.int .i64 R,.int .i64 C,.slice (some ⟨g,0,none⟩) P cap] 96 (0,0)):=by rw[hw1];exact nwA _ _
 obtain⟨p1,hp1⟩:=zE4 (I*C);obtain⟨q1,hq1⟩:=zE4 (k*C);have hap:p1=q1∨p1+C≤q1∨q1+C≤p1:=by
  by_cases e:I=k
  ·left;rw[←hp1,←hq1,e]
  ·right;rw[←hp1,←hq1];exact zfz e
 have hpP:p1+C≤P:=by rw[←hp1,←hP];have:=Zar C hI;rw[Nat.succ_mul] at this;exact this
 have hqP:q1+C≤P:=by rw[←hq1,←hP];have:=Zar C hk;rw[Nat.succ_mul] at this;exact this
 have hgl:=hv.1;have l2:=lOH d2;have x1:(I:Int)*(C:Int)=(p1:Int):=by rw[←hp1];simp
 have x2:(k:Int)*(C:Int)=(q1:Int):=by rw[←hq1];simp
 have y1:=zE6 (p1:Int) (by omega);have y2:=zE6 (q1:Int) (by omega);have HV1:=Hd (hv.below hb1);have D2:=Hd d2;have HB1:=Hd hb1;have HAP:=Hd hap;have HPQ:=Hd (Zao hp1 hq1);have HPP:=Hd hP;clear hv hb1 d2 hap hp1 hq1 hP;obtain⟨G,hG⟩:=zE4 (flat C M);have HG:=Hd hG;rw[hG] at HV1;clear hG;go_enter Tryz.func160,Tryz.ntmps160;go_upto_region 1 with fail
 rw[←hw1];clear hw1;go_wp2;go_loopg [6] C (fun gk i wr=>∃c:Nat,c≤C∧gk=C-c∧i=.int .i64 c∧Hid (zag wr g P (swF p1 q1 c G))∧Hid (Kp [g] w1 wr))
 case atStart=>exact⟨0,by omega,rfl,rfl,Hd (by rw[zp3];exact HV1.out),Hd (Kp.refl _ _)⟩
 case round =>
  clear HV1;obtain⟨c,hc,rfl,rfl,HV,HK⟩:=hrel;have hsr:=HK.out.size;have E2:=HK.out.heap D2.out (by simp;omega);have z1:=cOH E2 (j:=1) rfl;have z2:=cOH E2 (j:=2) rfl;clear E2;by_cases hlt:c<C
  ·obtain⟨p2,hp2⟩:=zE4 (p1+c);obtain⟨q2,hq2⟩:=zE4 (q1+c);have hp3:p2<P:=by omega
   have hq3:q2<P:=by omega
   have x3:(p1:Int)+(c:Int)=(p2:Int):=by omega
   have x4:(q1:Int)+(c:Int)=(q2:Int):=by omega
   have y3:=zE6 (p2:Int) (by omega);have y4:=zE6 (q2:Int) (by omega);have i1:(0:Int)≤(p2:Int)∧(p2:Int)<(P:Int):=by omega
   have i2:(0:Int)≤(q2:Int)∧(q2:Int)<(P:Int):=by omega
   obtain⟨o1,o2⟩:=zuf HAP.out hlt G;rw[hp2] at o1;rw[hq2] at o2;obtain⟨cp,fp⟩:=HV.out.2 p2 hp3;obtain⟨cq,fq⟩:=HV.out.2 q2 hq3;rw[o1] at cp;rw[o2] at cq;have hgl:=HV.out.1;have hvs:=(HV.out.set hp3 (G q2)).set hq3 (G p2);have hvs2:zag ((wr.setCell ⟨g,p2,none⟩ (.int .u8 ((G q2).n:Nat))).setCell ⟨g,q2,none⟩ (.int .u8 ((G p2).n:Nat))) g P (swF p1 q1 (c+1) G):=by have h:=zp4 HAP.out hlt G;rw[hp2,hq2] at h;rw[←h];exact hvs
   obtain⟨pn,hpn⟩:=zE4 ((G p2).n);obtain⟨qn,hqn⟩:=zE4 ((G q2).n);rw[hpn] at cp hvs2;rw[hqn] at cq hvs2;have HVN:=Hd hvs2;obtain⟨v',c3⟩:=cell?_setCell_some (w:=wr) (p:=⟨g,p2,none⟩) (x:=.int .u8 (qn:Nat)) (q:=⟨g,q2,none⟩) (v:=.int .u8 (qn:Nat)) cq;have HKN:Hid (Kp [g] w1 ((wr.setCell ⟨g,p2,none⟩ (.int .u8 (qn:Nat))).setCell ⟨g,q2,none⟩ (.int .u8 (pn:Nat)))):=Hd ((HK.out.setCell (.inl (by simp)) _).setCell (.inl (by simp)) _);obtain⟨kp,hkp⟩:∃kp:Nat→Bool,∀j,kp j=true↔j≠g:=⟨fun j=>decide (j≠g),by simp⟩;have k1:kp w.heap.size=true:=(hkp _).2 (by omega);have HKP:=Hd hkp;clear hkp o1 o2 hvs hvs2 hpn hqn hp2 hq2 HV HK;go_upto_region 4 with fail
   have hgr:=hgK (fun j=>kp j=true);refine w_T (fun j=>kp j=true) [25,35,37,39] (.sq [0,1,2,3,4,5,6,7,8,9,10,11,12,13,14,15,16,17,18,19,20,21,22,23,24,26,27,28,29,30,31,32,33,34] (.fork 25 (.sq [35,36,37,38,39] .done) 35 (.sq [25,36,37,38,39] .done))) (by kernel_rfl) (by kernel_rfl) ?_;simp only[TQ,Oper.slim,Nat.reduceBEq,Nat.reduceAdd]
   repeat' first|((with_reducible refine w_I ?_);first|(with_reducible refine w_D ?_)|(with_reducible refine zaf ?_ ?_)|((with_reducible refine w_S (fun K hK=>?_));go_simp;first|(refine hK _ _ ?_;clear hK K)|(refine⟨by (intro kk hkk;first|(simp (disch:=(simp;omega)) only[h_D,h_N,h_A,h_S];done)|(simp[h_D,h_N,h_I,hkk];done)|(have hkk2:=(HKP.out kk).1 hkk;simp (disch:=(first|exact hkk2|(simp;done)|(simp;omega))) only[h_D,h_N,h_A,h_S];done)),hK _ _ ?_⟩;clear hK K)))|fail
   all_goals clear hgr
   all_goals go_wp2
   all_goals go_roundg (C-(c+1))
   all_goals first
    | omega
    | exact⟨c+1,by omega,rfl,by go_num,by first|exact HVN|exact Hd HVN.out.drew,by first|exact HKN|exact Hd HKN.out.drew⟩
  ·obtain rfl:c=C:=by omega
   have HP:Hid (zhc g P c I k M w (.returned (.tuple #[])) wr):=Hd ⟨rfl,(Kp.of_below HB1.out).trans HK.out,HV.out.congr fun j hj=>by
    rw[←HG.out,←HPQ.out.1,←HPQ.out.2];rw[←HPP.out] at hj;exact zp5 hC I k M hj⟩
   clear z2;go_wp2;go_end0;exact HP.out
theorem zgs (g o p q n L C:Nat) (hn:0<n) (hpq:p+n=q) (hq:q≤C):∀W:World,(Instr.slice 22 (.slice (some ⟨g,o,none⟩) L C) (some (.int .i64 (p:Nat))) (some (.int .i64 (q:Nat))) none).run Tryz.prog W=.ok (.slice (some ⟨g,o+p,none⟩) n (C-p)) W:=fun W=>by rw[run_slice_lh (P:=Tryz.prog) (w:=W) 22 (some ⟨g,o,none⟩) L C (by kernel_rfl) .i64 .i64 (p:Int) (q:Int) (by omega) (by omega) (by omega),zcw];simp only[Result.andThen_ok,sliced,Zam];rw[if_neg (by omega)];simp[Addr.add_lit];omega
noncomputable def zjw (C:Nat) (A:Nat→Nat→GF) (Y:Nat→GF):Nat→Nat→GF:=fun i k=>if k<C then A i k else Y i
theorem ycx {C i:Nat} {A:Nat→Nat→GF} {Y:Nat→GF}:rowF (flat (C+1) (zjw C A Y)) (i*(C+1))++(rowF (fun e=>flat C A (i*C+e)) C++[Y i])=rowF (flat (C+1) (zjw C A Y)) ((i+1)*(C+1)):=by
 rw[Nat.succ_mul,zh3,zbq];congr 1;have h1:∀e,e<C→flat (C+1) (zjw C A Y) (i*(C+1)+e)=flat C A (i*C+e):=fun e he=>by rw[zab (by omega) _ _ _ (by omega),zab (by omega) _ _ _ he];unfold zjw;rw[if_pos he]
 have h2:flat (C+1) (zjw C A Y) (i*(C+1)+C)=Y i:=by rw[zab (by omega) _ _ _ (by omega)];unfold zjw;rw[if_neg (by omega)]
 rw[h2];congr 1;exact zd1 fun e he=>(h1 e he).symm
def zgn (R C:Nat) (A:Nat→Nat→GF) (Y:Nat→GF) (w:World) (e:Ending) (w':World):Prop :=
 ∃b cap,e=.returned (.agg #[.int .i64 R,.int .i64 (C+1:Nat),.slice (some ⟨b,0,none⟩) (R*(C+1)) cap])∧w.heap.size≤b∧zag w' b (R*(C+1)) (flat (C+1) (zjw C A Y))∧Below w.heap.size w w'
theorem zva (R C P g cap gb ob cb:Nat) (A:Nat→Nat→GF) (y:List GF) (w:World) (hP:R*C=P) (hPm:P≤500000) (hR:1≤R∧R≤400000) (hC:1≤C∧C≤500000) (hcap:P≤cap) (hv:zag w g P (flat C A)) (hy:GRd w (.slice (some ⟨gb,ob,none⟩) R cb) y) :
  Calls Tryz.prog 132 #[.agg #[.int .i64 R,.int .i64 C,.slice (some ⟨g,0,none⟩) P cap],.agg #[.int .i64 R,.int .i64 1,.slice (some ⟨gb,ob,none⟩) R cb]] w (zgn R C A (fun i=>y.getD i 0) w):=by
 obtain⟨C1,hC1⟩:=zE4 (C+1);obtain⟨w1,hw1⟩:=zE5 ((((w.alloc (.cells #[.int .i64 R,.int .i64 C,.slice (some ⟨g,0,none⟩) P cap] 96)).alloc (.cells #[.int .i64 R,.int .i64 1,.slice (some ⟨gb,ob,none⟩) R cb] 96)).alloc (.cells #[.int .i64 0,.int .i64 0,.slice none 0 0] 96)).alloc (.cells #[.int .i64 R,.int .i64 C1,.slice none 0 0] 96));have hb1:Below w.heap.size w w1:=by rw[hw1];exact ((((Zaa _ _).alloc (zE3 _) _).alloc (by simp) _).alloc (by simp;omega) _).alloc (by simp;omega) _
 have d2:w1.heap[w.heap.size]? = some (.cells #[.int .i64 R,.int .i64 C,.slice (some ⟨g,0,none⟩) P cap] 96 (0,0)):=by rw[hw1];exact zaw (zaw (zaw (nwA _ _) _) _) _
 have d3:w1.heap[w.heap.size+1]? = some (.cells #[.int .i64 R,.int .i64 1,.slice (some ⟨gb,ob,none⟩) R cb] 96 (0,0)):=by rw[hw1];exact zaw (zaw (nwE _ _ _ (by simp)) _) _
 have d4:w1.heap[w.heap.size+1+1]? = some (.cells #[.int .i64 0,.int .i64 0,.slice none 0 0] 96 (0,0)):=by rw[hw1];exact zaw (nwE _ _ _ (by simp)) _
 have d5:w1.heap[w.heap.size+1+1+1]? = some (.cells #[.int .i64 R,.int .i64 C1,.slice none 0 0] 96 (0,0)):=by rw[hw1];exact nwE _ _ _ (by simp)
 have hsz:w1.heap.size=w.heap.size+1+1+1+1:=by rw[hw1];simp
 have x1:(C:Int)+1=(C1:Int):=by omega
 have y1:=zE6 (C1:Int) (by omega);have hgl:=hv.1;have HC1:=Hd hC1;have D2:=Hd d2;have D3:=Hd d3;have D4:=Hd d4;have D5:=Hd d5;have HSZ:=Hd hsz;have HB1:=Hd hb1;have HA:=Hd (hv.below hb1);have HY0:=Hd hy;have HYL:Hid (y.length=R):=Hd (by
  obtain⟨_,_,e,-⟩:=hy.form;cases e;rfl)
 have HP:=Hd hP;have hpr:R*C1≤1000000:=by rw[←hC1,Nat.mul_add,hP];omega
 have HPR:=Hd hpr;clear hC1 hv hy hb1 d2 d3 d4 d5 hsz hP hpr;go_enter Tryz.func132,Tryz.ntmps132;go_wp2;rw[←hw1];obtain⟨rb,hrb⟩:=zE4 (w.heap.size+1+1);obtain⟨mb,hmb⟩:=zE4 (rb+1);rw[hrb] at D4 D5 HSZ ⊢;rw[hmb] at D5 HSZ ⊢;clear hw1 x1 y1;have hgm:g<mb:=by omega
 have hB:mb+1≤w1.heap.size:=by rw[HSZ.out];exact zE3 _
 go_loopg [6] R (fun gk i wr=>∃(I:Nat) (V:Value),I≤R∧gk=R-I∧i=.int .i64 I∧Hid (wr.heap[mb]? = some (.cells #[.int .i64 R,.int .i64 C1,V] 96 (0,0)))∧Hid (zao wr (mb+1) V (rowF (flat (C+1) (zjw C A (fun i=>y.getD i 0))) (I*(C+1))))∧Hid (Kp [mb] w1 wr))
 case atStart=>exact⟨0,_,by omega,rfl,rfl,D5,Hd (by rw[Nat.zero_mul];exact zao.nil _ _),Hd (Kp.refl _ _)⟩
 case round =>
  clear D5;obtain⟨I,V,hI,rfl,rfl,HD,HO,HK⟩:=hrel;have hsr:=HK.out.size;have E2:=HK.out.heap D2.out (by simp;omega);have a0:=cOH E2 (j:=0) rfl;have a1:=cOH E2 (j:=1) rfl;have a2:=cOH E2 (j:=2) rfl;clear E2;by_cases hlt:I<R
  ·obtain⟨p1,hp1⟩:=zE4 (I*C);obtain⟨p2,hp2⟩:=zE4 (p1+C);have hp2P:p2≤P:=by
    rw[←hp2,←hp1,←HP.out];have:=Zar C hlt;rw[Nat.succ_mul] at this;exact this
   have x1:(I:Int)*(C:Int)=(p1:Int):=by rw[←hp1];simp
   have x2:(p1:Int)+(C:Int)=(p2:Int):=by omega
   have y1:=zE6 (p1:Int) (by omega);have y2:=zE6 (p2:Int) (by omega);have hsl:∀W:World,(Instr.slice 22 (.slice (some ⟨g,0,none⟩) P cap) (some (.int .i64 (p1:Nat))) (some (.int .i64 (p2:Nat))) none).run Tryz.prog W=.ok (.slice (some ⟨g,p1,none⟩) C (cap-p1)) W:=by
    have:=zgs g 0 p1 p2 C P cap (by omega) hp2 (by omega)
    rwa[Zbe] at this
   have hrow:GRd wr.drew (.slice (some ⟨g,p1,none⟩) C (cap-p1)) (rowF (fun e=>flat C A (p1+e)) C):=(HA.out.kp HK.out (by simp;omega)).rd (o:=p1) (m:=C) (by omega) (by omega);have hpl2:I*(C+1)+C≤1000000:=by have h1:=HPR.out;have h2:=Zar C1 hlt;rw[Nat.succ_mul] at h2;have h3:=HC1.out;rw[HC1.out];omega
   have hpl:I*(C+1)≤1000000:=by omega
   obtain⟨v1,w3,hap,ho1,hk1,hb3,-⟩:=zdt (W:=wr.drew) HO.out hrow (by rw[zaa];exact hpl) (by rw[zaa];omega) (by show mb+1≤wr.heap.size;omega);obtain⟨a1',e1,hv1,-⟩:=ho1.form;have hVm:mb∉V.ownBlock.toList:=fun hm=>by
    have:=(HO.out.lt mb (by simpa using hm)).1
    omega
   have hd3:w3.heap[mb]? = some (.cells #[.int .i64 R,.int .i64 C1,V] 96 (0,0)):=hk1.heap HD.out hVm;have hs3:wr.heap.size≤w3.heap.size:=hk1.size;have c2:=cOH hd3 (j:=2) rfl;have f2:=fOH hd3 2;have m2:=cOH HD.out (j:=2) rfl;have hlr:=lOH HD.out;have hl3:=lOH hd3;obtain⟨w4,hw4⟩:=zE5 (w3.setCell ⟨mb,2,none⟩ v1);have hk4:Kp [mb] w3 w4:=by rw[hw4];exact (Kp.refl _ _).setCell (.inl (by simp)) _
   have hd4:w4.heap[mb]? = some (.cells #[.int .i64 R,.int .i64 C1,v1] 96 (0,0)):=by rw[hw4];have:=hSS hd3 2 v1;simpa using this
   have ho4:zao w4 (mb+1) v1 (rowF (flat (C+1) (zjw C A (fun i=>y.getD i 0))) (I*(C+1))++rowF (fun e=>flat C A (p1+e)) C):=ho1.kp hk4 (fun b hb hm=>by have:=(ho1.lt b hb).1;simp at hm;omega);have hk14:Kp [mb] w1 w4:=(HK.out.step ((Kp.refl V.ownBlock.toList wr).drew.trans hk1) (fun x hx=>.inr (by
    have:=(HO.out.lt x (by simpa using hx)).1
    have:=HSZ.out
    omega))).trans hk4
   have hs4:=hk4.size;obtain⟨yv,hyv⟩:∃c,y[I]? = some c:=⟨_,zE1 (by rw[HYL.out];exact hlt)⟩;obtain⟨_,_,e,hgb,-⟩:=HY0.out.at hyv;cases e;have hbm:gb<mb:=by omega
   obtain⟨q,hq⟩:=zE4 (I+1);have x3:(I:Int)+1=(q:Int):=by omega
   have y3:=zE6 (q:Int) (by omega);have y4:=zE6 (I:Int) (by omega);have hcbR:R≤cb:=by obtain⟨_,_,e,h⟩:=HY0.out.form;cases e;rw[HYL.out] at h;exact h
   have hsl2:=zgs gb ob I q 1 R cb (by omega) hq (by omega);have hrow2:GRd w4 (.slice (some ⟨gb,ob+I,none⟩) 1 (cb-I)) [y.getD I 0]:=by
    have:=zqm (P:=I) (E:=1) (cp:=cb-I) ((HY0.out.below HB1.out).kp hk14 (fun k hk hm=>by simp[Value.ownBlock] at hk hm;omega)) (by omega) (by omega)
    exact this
   obtain⟨v2,w6,hap2,ho2,hk2,hb6,-⟩:=zdt (W:=w4.drew) ho4 hrow2 (by rw[Zak,zaa,zaa];exact hpl2) (by simp) (by show mb+1≤w4.heap.size;omega);have hVm2:mb∉v1.ownBlock.toList:=fun hm=>by
    have:=(ho4.lt mb (by simpa using hm)).1
    omega
   have hd6:w6.heap[mb]? = some (.cells #[.int .i64 R,.int .i64 C1,v1] 96 (0,0)):=hk2.heap hd4 hVm2;have hs6:w4.heap.size≤w6.heap.size:=hk2.size;obtain⟨a2',e2,hv2,-⟩:=ho2.form;obtain⟨w7,hw7⟩:=zE5 (w6.setCell ⟨mb,2,none⟩ v2);have hk7:Kp [mb] w6 w7:=by rw[hw7];exact (Kp.refl _ _).setCell (.inl (by simp)) _
   have HD7:Hid (w7.heap[mb]? = some (.cells #[.int .i64 R,.int .i64 C1,v2] 96 (0,0))):=Hd (by
    rw[hw7];have:=hSS hd6 2 v2;simpa using this)
   have HO7:Hid (zao w7 (mb+1) v2 (rowF (flat (C+1) (zjw C A (fun i=>y.getD i 0))) ((I+1)*(C+1)))):=Hd (by
    have h:=ycx (C:=C) (i:=I) (A:=A) (Y:=fun i=>y.getD i 0);rw[hp1,←List.append_assoc] at h;rw[←h];exact ho2.kp hk7 (fun b hb hm=>by have:=(ho2.lt b hb).1;simp at hm;omega))
   have HK7:Hid (Kp [mb] w1 w7):=Hd ((hk14.step ((Kp.refl v1.ownBlock.toList w4).drew.trans hk2) (fun x hx=>.inr (by
    have:=(ho4.lt x (by simpa using hx)).1
    have:=HSZ.out
    omega))).trans hk7)
   have n2:=cOH hd4 (j:=2) rfl;have d2:=cOH hd6 (j:=2) rfl;have g2:=fOH hd6 2;have hl4:=lOH hd4;have hl6:=lOH hd6;have E3:=hk14.heap D3.out (by simp;omega);have b0:=cOH E3 (j:=1) rfl;have b2:=cOH E3 (j:=2) rfl;obtain⟨L1,hL1⟩:∃L1,(rowF (flat (C+1) (zjw C A (fun i=>y.getD i 0))) (I*(C+1))++rowF (fun e=>flat C A (p1+e)) C).length=L1:=⟨_,rfl⟩;rw[hL1] at hv1;obtain⟨L2,hL2⟩:∃L2,((rowF (flat (C+1) (zjw C A (fun i=>y.getD i 0))) (I*(C+1))++rowF (fun e=>flat C A (p1+e)) C)++[y.getD I 0]).length=L2:=⟨_,rfl⟩;rw[hL2] at hv2;have hsz4:(w4.drew).heap.size=w4.heap.size:=rfl;have HBX:Hid (Below (mb+1) wr.drew w3):=Hd hb3;have HBY:Hid (Below (mb+1) w4.drew w6):=Hd hb6;obtain⟨kp,hkp⟩:∃kp:Nat→Bool,∀j,kp j=true↔j<mb+1∧j≠mb:=⟨fun j=>decide (j<mb+1∧j≠mb),by simp⟩;have k1:kp w.heap.size=true:=(hkp _).2 (by omega);have k2:kp (w.heap.size+1)=true:=(hkp _).2 (by omega);have HKP:=Hd hkp;clear hkp hL1 hL2 hp1 hp2 hq hrow hrow2 ho1 hk1 hb3 hd3 hk4 hd4 ho4 hk14 hyv hd6 ho2 hk2 hb6 hk7 hVm hVm2 hpl E3 HO HK HD hsz4 hpl2 hs3 hs4 hs6;subst hv1;subst hv2;go_upto_region 5 with fail
   have hgr:=hgK (fun j=>kp j=true);refine w_T (fun j=>kp j=true) [1,16,18] (.sq [0,2,3,4,5,6,7,8,9,10,11,12,13,14,15,1,16,17,18] .done) (by kernel_rfl) (by kernel_rfl) ?_;simp only[TQ,Oper.slim,Nat.reduceBEq,Nat.reduceAdd]
   repeat' first|((with_reducible refine w_I ?_);first|(with_reducible refine w_D ?_)|(refine zai _ _ _ rfl rfl rfl rfl rfl hap (fun kk hkk=>HBX.out.block kk ((HKP.out kk).1 hkk).1) ?_)|((with_reducible refine w_S (fun K hK=>?_));go_simp;first|(refine hK _ _ ?_;clear hK K)|(refine⟨by (intro kk hkk;first|(simp (disch:=(simp;omega)) only[h_D,h_N,h_A,h_S];done)|(simp[h_D,h_N,h_I,hkk];done)|(have hkk2:=(HKP.out kk).1 hkk;simp (disch:=(first|exact hkk2.2|(simp;done)|(simp;omega))) only[h_D,h_N,h_A,h_S];first|done|exact HBX.out.block kk hkk2.1)),hK _ _ ?_⟩;clear hK K)))|fail
   clear hgr;rw[←hw4];clear hw4 HBX hap hsl m2 c2 f2 a1 a2;obtain⟨hap,HBX⟩:=Zao hap2 HBY;go_upto_region 6 with fail
   have hgr:=hgK (fun j=>kp j=true);refine w_T (fun j=>kp j=true) [1,16,18] (.sq [0,2,3,4,5,6,7,8,9,10,11,12,13,14,15,1,16,17,18] .done) (by kernel_rfl) (by kernel_rfl) ?_;simp only[TQ,Oper.slim,Nat.reduceBEq,Nat.reduceAdd]
   repeat' first|((with_reducible refine w_I ?_);first|(with_reducible refine w_D ?_)|(refine zai _ _ _ rfl rfl rfl rfl rfl hap (fun kk hkk=>HBX.out.block kk ((HKP.out kk).1 hkk).1) ?_)|((with_reducible refine w_S (fun K hK=>?_));go_simp;first|(refine hK _ _ ?_;clear hK K)|(refine⟨by (intro kk hkk;first|(simp (disch:=(simp;omega)) only[h_D,h_N,h_A,h_S];done)|(simp[h_D,h_N,h_I,hkk];done)|(have hkk2:=(HKP.out kk).1 hkk;simp (disch:=(first|exact hkk2.2|(simp;done)|(simp;omega))) only[h_D,h_N,h_A,h_S];first|done|exact HBX.out.block kk hkk2.1)),hK _ _ ?_⟩;clear hK K)))|fail
   clear hgr;rw[←hw7];clear hw7;go_wp2;go_roundg (R-(I+1))
   case measure=>omega
   case rel=>exact⟨I+1,_,by omega,rfl,by go_num,HD7,HO7,HK7⟩
  ·have hRI:R=I:=by omega
   subst hRI;obtain⟨b,cap2,rfl,hbB,hcap2,hv⟩:=HO.out.view (by
    intro e;have:=congrArg List.length e;rw[zaa] at this;have h1:=Zai hR.1 (show 1≤C+1 by omega);simp at this;omega)
   rw[zaa] at hcap2 hv;obtain⟨P1,hP1⟩:=zE4 (R*(C+1));rw[hP1] at hcap2 hv;have hd4:=HK.out.heap D4.out (by simp;omega);have m0:=cOH HD.out (j:=0) rfl;have m1:=cOH HD.out (j:=1) rfl;have m2:=cOH HD.out (j:=2) rfl;rw[zaa,hP1] at m2;have y0:=cOH hd4 (j:=0) rfl;have y1:=cOH hd4 (j:=1) rfl;have y2:=cOH hd4 (j:=2) rfl;have f0:=fOH hd4 0;have f1:=fOH hd4 1;have f2:=fOH hd4 2;have l4r:=lOH hd4;have l6r:=lOH HD.out;have h7:=zlq (x:=.int .i64 R) (y:=.int .i64 C1) (z:=.slice (some ⟨b,0,none⟩) P1 cap2) hd4;have c0:=cOH h7 (j:=0) rfl;have c1:=cOH h7 (j:=1) rfl;have c2:=cOH h7 (j:=2) rfl;have hkk:=zaq wr rb (.int .i64 R) (.int .i64 C1) (.slice (some ⟨b,0,none⟩) P1 cap2);have hsz:=HB1.out.size;have hszr:=HK.out.size;have HPO:Hid (zgn R C A (fun i=>y.getD i 0) w (.returned (.agg #[.int .i64 R,.int .i64 C1,.slice (some ⟨b,0,none⟩) P1 cap2])) (((wr.setCell ⟨rb,0,none⟩ (.int .i64 R)).setCell ⟨rb,1,none⟩ (.int .i64 C1)).setCell ⟨rb,2,none⟩ (.slice (some ⟨b,0,none⟩) P1 cap2))):=Hd
    ⟨b,cap2,by rw[hP1,HC1.out],by omega,by
     rw[hP1];refine (hv.congr fun j hj=>?_).kp hkk (by simp;omega);exact zam _ hj,(HB1.out.trans (HK.out.below (by omega) (by simp;omega))).trans (hkk.below (by omega) (by simp;omega))⟩
   clear hd4 h7 hkk hv hbB hsz hszr HO HK HD hP1 a1 a2;go_wp2;refine bodyPost_ret (v:=.agg #[.int .i64 R,.int .i64 C1,.slice (some ⟨b,0,none⟩) P1 cap2]) ?_ rfl HPO.out;simp[results,Tryz.results132,go_sem,c0,c1,c2]
