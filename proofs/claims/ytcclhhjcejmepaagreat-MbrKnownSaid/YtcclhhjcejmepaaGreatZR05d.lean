import Derived.Test.YtcclhhjcejmepaaGreatZR05c
set_option linter.all false
set_option maxRecDepth 100000
set_option maxHeartbeats 16000000
namespace Go.Proofs.YtcclhhjcejmepaaGreat
open Go.RowKit Fld
namespace Fld
variable {F:Type} [Fld F]
def elP (a:Nat) (T:Nat→F) (I k:Nat) (M:Nat→Nat→F):Nat→Nat→F:=fun r x=>if r≠a∧(r<I∨r=I∧x<k) then M r x+M a x*T r else M r x
theorem zzj (a:Nat) (T:Nat→F) (M:Nat→Nat→F) (r x:Nat):elP a T 0 0 M r x=M r x:=by unfold elP;rw[if_neg (by omega)]
theorem ycp {a:Nat} {T:Nat→F} {I k:Nat} {M:Nat→Nat→F}:elP a T I k M I k=M I k:=by unfold elP;rw[if_neg (by omega)]
theorem yco {a:Nat} {T:Nat→F} {I k x:Nat} {M:Nat→Nat→F}:elP a T I k M a x=M a x:=by unfold elP;rw[if_neg (by omega)]
theorem yfb {a:Nat} {T:Nat→F} {I c:Nat} {M:Nat→Nat→F}:elP a T I 0 M I c=M I c:=by unfold elP;rw[if_neg (by omega)]
theorem zzk {a:Nat} {T:Nat→F} {I k:Nat} {M:Nat→Nat→F} (hI:I≠a) (r x:Nat):elP a T I (k+1) M r x=if r=I∧x=k then M I k+T I*M a k else elP a T I k M r x:=by
 unfold elP;by_cases h:r=I∧x=k
 ·obtain⟨rfl,rfl⟩:=h;rw[if_pos (by omega),if_pos ⟨rfl,rfl⟩,mulC]
 ·rw[if_neg h];by_cases h2:r≠a∧(r<I∨r=I∧x<k)
  ·rw[if_pos h2,if_pos (by omega)]
  ·rw[if_neg h2,if_neg (by omega)]
theorem zzm {a:Nat} {T:Nat→F} {I C:Nat} {M:Nat→Nat→F} {r x:Nat} (hx:x<C):elP a T I C M r x=elP a T (I+1) 0 M r x:=by
 unfold elP;by_cases h:r≠a∧(r<I∨r=I∧x<C)
 ·rw[if_pos h,if_pos (by omega)]
 ·rw[if_neg h,if_neg (by omega)]
theorem zzl {a:Nat} {T:Nat→F} {k:Nat} {M:Nat→Nat→F} {r x:Nat}:elP a T a k M r x=elP a T (a+1) 0 M r x:=by
 unfold elP;by_cases h:r≠a∧(r<a∨r=a∧x<k)
 ·rw[if_pos h,if_pos (by omega)]
 ·rw[if_neg h,if_neg (by omega)]
theorem ycq {a:Nat} {T:Nat→F} {R:Nat} {M:Nat→Nat→F} {r x:Nat} (hr:r<R):elP a T R 0 M r x=elR a T M r x:=by
 unfold elP elR;by_cases h:r=a
 ·rw[if_neg (by omega),if_pos h,h]
 ·rw[if_pos (by omega),if_neg h]
end Fld
def zdp (C:Nat) (N:Nat→Nat→GF):Nat→Nat→GF:=fun i _=>N i C
theorem zy1 {R C a fr c:Nat} {N:Nat→Nat→GF} (ha:a<R) (hf:fr<R) (hne:N fr c≠0) (x z:Nat→GF):zd5 R C 1 (zff a fr c N N) (zdp C (zff a fr c N N)) x z↔zd5 R C 1 N (zdp C N) x z :=
 zqv (D:=1) (B:=zdp C N) ha hf hne
def zgm (R C1 C P:Nat) (M:Nat→Nat→GF) (w:World) (e:Ending) (w':World):Prop :=
 ∃b v zs p N,e=.returned (.tuple #[.agg #[.int .i64 R,.int .i64 C1,.slice (some ⟨b,0,none⟩) P P],v])∧w.heap.size≤b∧zag w' b P (flat C1 N)∧za4 w' w.heap.size v zs ∧
  Ech R C zs.length N p∧(∀x z,zd5 R C 1 N (zdp C N) x z↔zd5 R C 1 M (zdp C M) x z)∧Below w.heap.size w w'
theorem zu7 (R C1 C P g cap:Nat) (M:Nat→Nat→GF) (w:World) (hP:R*C1=P) (hPm:P≤1000000) (hR:R≤1000000) (hC1:C1≤1000000) (hC:C<C1) (hv:zag w g P (flat C1 M)) :
  Calls Tryz.prog 131 #[.agg #[.int .i64 R,.int .i64 C1,.slice (some ⟨g,0,none⟩) P cap],.int .i64 C] w (zgm R C1 C P M w):=by
 have HNO:=Hd (fun W=>zgy R C1 P W hP (by omega) (by omega) (by omega));obtain⟨w1,hw1⟩:=zE5 ((w.alloc (.cells #[.int .i64 R,.int .i64 C1,.slice (some ⟨g,0,none⟩) P cap] 96)).alloc (.cells #[.int .i64 0,.int .i64 0,.slice none 0 0] 96));have hb1:Below w.heap.size w w1:=by rw[hw1];exact ((Zaa _ _).alloc (zE3 _) _).alloc (by simp) _
 have d2:w1.heap[w.heap.size]? = some (.cells #[.int .i64 R,.int .i64 C1,.slice (some ⟨g,0,none⟩) P cap] 96 (0,0)):=by rw[hw1];exact zaw (nwA _ _) _
 have d4:w1.heap[w.heap.size+1]? = some (.cells #[.int .i64 0,.int .i64 0,.slice none 0 0] 96 (0,0)):=by rw[hw1];exact nwE _ _ _ (by simp)
 have z0:=cOH d2 (j:=0) rfl;have z1:=cOH d2 (j:=1) rfl;have l2:=lOH d2;have l4:=lOH d4;have hgl:=hv.1;have D2:=Hd d2;have D4:=Hd d4;have HB1:=Hd hb1;have HM:=Hd (hv.below hb1);have HPP:=Hd hP;have hsz1:=hb1.size;clear hv hb1 d2 d4 hP;go_enter Tryz.func131,Tryz.ntmps131;go_upto_region 1 with fail
 rw[←hw1];clear hw1;go_wp2_with fail;refine (HNO.out w1).mono ?_;rintro e w4 ⟨b,rfl,hb,hv4,hb4⟩;obtain⟨w5,hw5⟩:=zE5 (w4.alloc (.cells #[.int .i64 R,.int .i64 C1,.slice (some ⟨b,0,none⟩) P P] 96));have hb5:Below w4.heap.size w4 w5:=by rw[hw5];exact (Zaa _ _).alloc (zE3 _) _
 obtain⟨mb,hmb⟩:=zE4 w4.heap.size;have d5:w5.heap[mb]? = some (.cells #[.int .i64 R,.int .i64 C1,.slice (some ⟨b,0,none⟩) P P] 96 (0,0)):=by rw[hw5,←hmb];exact nwA _ _
 have hb45:=hb4.trans (hb5.mono hb4.size);have hbm:b<mb:=by rw[←hmb];exact hv4.1
 have D2:=Hd (zad hb45 D2.out);have D4:=Hd (zad hb45 D4.out);have D5:=Hd d5;have HW:=Hd (HB1.out.trans (hb45.mono HB1.out.size));have HM:=Hd (HM.out.below hb45);have hmb5:=lOH d5;have HV5:Hid (zag w5 b P (fun x=>if x<0 then flat C1 M x else 0)):=Hd ((hv4.below hb5).congr fun j hj=>by rw[if_neg (Zcm _)]);have hwb:w.heap.size+1<b:=by omega
 have HV4:Hid (w4.heap.size=mb):=Hd hmb;clear hv4 hb4 hb5 hb45 d5 z0 z1 HNO;go_wp2;rw[←hw5];clear hw5 hmb;go_loopg [7] P (fun gk i wr=>∃j:Nat,j≤P∧gk=P-j∧i=.int .i64 j∧Hid (zag wr b P (fun x=>if x<j then flat C1 M x else 0))∧Hid (Kp [b] w5 wr))
 case atStart=>exact⟨0,by omega,rfl,rfl,HV5,Hd (Kp.refl _ _)⟩
 case round =>
  clear HV5;obtain⟨j,hj,rfl,rfl,HV,HK⟩:=hrel;have hsr:=HK.out.size;have E2:=HK.out.heap D2.out (by simp;omega);have z2:=cOH E2 (j:=2) rfl;have E5:=HK.out.heap D5.out (by simp;omega);have m2:=cOH E5 (j:=2) rfl;clear E2 E5;by_cases hlt:j<P
  ·obtain⟨cm,-⟩:=(HM.out.kp HK.out (by simp;omega)).2 j hlt;obtain⟨cb,fb⟩:=HV.out.2 j hlt;have hbl:=HV.out.1;obtain⟨x,hx⟩:=zE4 (flat C1 M j);have hvs:=HV.out.set hlt x;rw[hx] at cm;obtain⟨xn,hxn⟩:=zE4 x.n;obtain⟨on,hon⟩:∃on,(if j<j then flat C1 M j else (0:GF)).n=on:=⟨_,rfl⟩;rw[hxn] at cm hvs;rw[hon] at cb;have HVN:Hid (zag (wr.setCell ⟨b,j,none⟩ (.int .u8 (xn:Nat))) b P (fun y=>if y<j+1 then flat C1 M y else 0)):=Hd (hvs.congr fun y hy=>by
    by_cases e:y=j
    ·rw[if_pos e,if_pos (by omega),e,hx]
    ·rw[if_neg e];by_cases h:y<j
     ·rw[if_pos h,if_pos (by omega)]
     ·rw[if_neg h,if_neg (by omega)])
   have HKN:Hid (Kp [b] w5 (wr.setCell ⟨b,j,none⟩ (.int .u8 (xn:Nat)))):=Hd (HK.out.setCell (.inl (by simp)) _);have i1:(0:Int)≤(j:Int)∧(j:Int)<(P:Int):=by omega
   obtain⟨kp,hkp⟩:∃kp:Nat→Bool,∀j,kp j=true↔j≠b:=⟨fun j=>decide (j≠b),by simp⟩;have k1:kp w.heap.size=true:=(hkp _).2 (by omega);have k2:kp mb=true:=(hkp _).2 (by omega);have k3:kp g=true:=(hkp _).2 (by omega);have HKP:=Hd hkp;clear hkp hx hxn hon hvs HV HK;go_upto_region 5 with fail
   have hgr:=hgK (fun j=>kp j=true);refine w_T (fun j=>kp j=true) [9] (.sq [0,1,2,3,4,5,6,7,8,9] .done) (by kernel_rfl) (by kernel_rfl) ?_;simp only[TQ,Oper.slim,Nat.reduceBEq,Nat.reduceAdd]
   repeat' first|((with_reducible refine w_I ?_);first|(with_reducible refine w_D ?_)|((with_reducible refine w_S (fun K hK=>?_));go_simp;first|(refine hK _ _ ?_;clear hK K)|(refine⟨by (intro kk hkk;first|(simp (disch:=(simp;omega)) only[h_D,h_N,h_A,h_S];done)|(simp[h_D,h_N,h_I,hkk];done)|(have hkk2:=(HKP.out kk).1 hkk;simp (disch:=(first|exact hkk2|(simp;done)|(simp;omega))) only[h_D,h_N,h_A,h_S];done)),hK _ _ ?_⟩;clear hK K)))|fail
   clear hgr;go_wp2;go_roundg (P-(j+1))
   case measure=>omega
   case rel=>exact⟨j+1,by omega,rfl,by go_num,by first|exact HVN|exact Hd HVN.out.drew,by first|exact HKN|exact Hd HKN.out.drew⟩
  ·obtain rfl:j=P:=by omega
   obtain⟨w6,rfl⟩:=zE5 (wr:World);have HV6:Hid (zag w6 b j (flat C1 M)):=Hd (HV.out.congr fun y hy=>by rw[if_pos hy]);have HK56:=HK;have hs6:=HK.out.size;have D4:=Hd (HK.out.heap D4.out (by simp;omega));have D5:=Hd (HK.out.heap D5.out (by simp;omega));clear HV HK hlt hj m2 D2 HM;go_wp2;clear z2;go_loopg [8,9] C (fun gk v i wr=>∃(V:Value) (zs:List Int) (a c:Nat) (p:Nat→Nat) (N:Nat→Nat→GF),V=v∧c≤C∧a≤R∧gk=C-c∧i=.int .i64 c∧Hid (za4 wr w6.heap.size V zs∧zs.length=a)∧Hid (zag wr b j (flat C1 N))∧Hid (Ech R c a N p)∧Hid (∀x z,zd5 R C 1 N (zdp C N) x z↔zd5 R C 1 M (zdp C M) x z)∧Hid (Kp [b] w6 wr)∧Hid (a≤c))
   case atStart=>exact⟨_,[],0,0,fun _=>0,M,rfl,by omega,by omega,rfl,rfl,Hd ⟨za4.nil _ _,rfl⟩,HV6,Hd (Ech.zero _ _),Hd (fun x z=>Iff.rfl),Hd (Kp.refl _ _),Hd (zE3 _)⟩
   case round =>
    clear HV6;obtain⟨V,zs,a,c,p,N,rfl,hcC,haR,rfl,rfl,HO,HV,HE,HMET,HK,HAC⟩:=hrel;have hsr:=HK.out.size;obtain⟨av,cv,hVf⟩:∃av cv,V=.slice av a cv:=by
     have:=HO.out.1.rd.form
     rw[HO.out.2] at this;exact this
    subst hVf;by_cases hltc:c<C
    ·obtain⟨wo,rfl⟩:=zE5 (wr:World);go_wp2;go_loopg [11] (R-a) (fun gk f wr=>∃F:Nat,a≤F∧F≤R∧gk=R-F∧f=.int .i64 F∧wr=wo∧Hid (∀i,a≤i→i<F→N i c=0))
     case atStart=>exact⟨a,zE3 _,haR,rfl,rfl,rfl,Hd (fun i h1 h2=>by omega)⟩
     case round =>
      obtain⟨F,haF,hFR,rfl,rfl,rfl,HZ⟩:=hrel;have hE5:=HK.out.heap D5.out (by simp;omega);have m0:=cOH hE5 (j:=0) rfl;have m1:=cOH hE5 (j:=1) rfl;have m2:=cOH hE5 (j:=2) rfl;clear hE5;by_cases hltF:F<R
      ·obtain⟨p1,hp1⟩:=zE4 (F*C1);obtain⟨p2,hp2⟩:=zE4 (p1+c);have hcC1:c<C1:=by omega
       have hp3:p2<j:=by rw[←hp2,←hp1,←HPP.out];exact zaz hltF hcC1
       have x1:(F:Int)*(C1:Int)=(p1:Int):=by rw[←hp1];simp
       have x2:(p1:Int)+(c:Int)=(p2:Int):=by omega
       have y1:=zE6 (p1:Int) (by omega);have y2:=zE6 (p2:Int) (by omega);have i1:(0:Int)≤(p2:Int)∧(p2:Int)<(j:Int):=by omega
       obtain⟨cc,-⟩:=HV.out.2 p2 hp3;rw[←hp2,←hp1,zab (by omega) _ _ _ hcC1,hp1,hp2] at cc;clear hp1 hp2;by_cases hz:N F c=0
       ·rw[hz,show (((0:GF).n:Nat):Int)=0 from rfl] at cc;have HZ2:Hid (∀i,a≤i→i<F+1→N i c=0):=Hd fun i h1 h2=>by
         by_cases e:i=F
         ·rw[e];exact hz
         ·exact HZ.out i h1 (by omega)
        clear hz;go_wp2;go_roundg (R-(F+1))
        case measure=>omega
        case rel=>exact⟨F+1,by omega,by omega,rfl,by go_num,rfl,HZ2⟩
       ·have haR':a<R:=by omega
        have HNE:=Hd hz;have hnz:(((N F c).n:Int) == 0)=false:=by have:=GF.ne0.1 hz;simpa using this
        obtain⟨tn,htn⟩:=zE4 ((N F c).n);rw[htn] at cc hnz;have HTN:=Hd htn;have hFne:¬(F:Int)=(R:Int):=by omega
        have HSW:=Hd (zsm R C1 j b j a F N wr HPP.out (by omega) (by omega) haR' hltF HV.out);unfold zhc at HSW;clear hz htn;go_wp2_with fail;refine HSW.out.mono ?_;rintro e w7 ⟨rfl,hk7,hv7⟩;have hsz7:=hk7.size;have HZL:=Hd HO.out.2;have hbw6:b<w6.heap.size:=by omega
        have hoa:za0 (.slice av a cv) [b]:=fun kk hkk hm=>by have h1:=(HO.out.1.lt kk hkk).1;simp at hm;omega
        have HO7:Hid (za4 w7 w6.heap.size (.slice av a cv) zs):=Hd (HO.out.1.kp hk7 hoa);have HOA:=Hd hoa;have HK7:Hid (Kp [b] w6 w7):=Hd (HK.out.trans hk7);obtain⟨v,hv⟩:=zE4 (Fld.inv (N F c));obtain⟨vn,hvn⟩:=zE4 v.n;have HINV:Hid (∀W,Calls Tryz.prog 118 #[.int .u8 (tn:Nat)] W fun e w'=>e=.returned (.tuple #[.int .u8 (vn:Nat),.bool true])∧W=w'):=Hd fun W=>by
         have:=zqj (N F c) W
         rwa[decide_eq_true HNE.out,HTN.out,hv,hvn] at this
        have HVV:=Hd (Zao hv hvn);obtain⟨N1,hN1⟩:=zE4 (swR a F N);have hN1c:N1 a c=N F c:=by rw[←hN1];unfold swR;rw[if_pos rfl]
        rw[hN1] at hv7;have HN1:=Hd hN1;obtain⟨s1,hs1⟩:=zE4 (a*C1);obtain⟨s2,hs2⟩:=zE4 (s1+c);have hs3:s2<j:=by rw[←hs2,←hs1,←HPP.out];exact zaz haR' hcC1
        have hs1C:s1+C1≤j:=by rw[←hs1,←HPP.out];have:=Zar C1 haR';rw[Nat.succ_mul] at this;exact this
        have x3:(a:Int)*(C1:Int)=(s1:Int):=by rw[←hs1];simp
        have x4:(s1:Int)+(c:Int)=(s2:Int):=by omega
        have y3:=zE6 (s1:Int) (by omega);have y4:=zE6 (s2:Int) (by omega);have i2:(0:Int)≤(s2:Int)∧(s2:Int)<(j:Int):=by omega
        obtain⟨cc7,-⟩:=hv7.2 s2 hs3;rw[←hs2,←hs1,zab (by omega) _ _ _ hcC1,hs1,hs2,hN1c,HTN.out] at cc7;have HV7:=Hd hv7;have HS1:=Hd hs1;clear m0 m1 m2 cc x1 x2 y1 y2 i1 hv hvn hN1 hN1c hs1 hs2 hv7 hk7 hoa HO HV HK HSW hnz hFne;have hE5:=HK7.out.heap D5.out (by simp;omega);have m0:=cOH hE5 (j:=0) rfl;have m1:=cOH hE5 (j:=1) rfl;have m2:=cOH hE5 (j:=2) rfl;clear hE5;go_wp2_with fail;refine (HINV.out _).mono ?_;rintro e w8 ⟨rfl,rfl⟩;go_wp2;clear cc7 x4 y4 i2 HINV m0 m1 m2;obtain⟨G,hG⟩:=zE4 (flat C1 N1);rw[hG] at HV7;have HGG:=Hd hG;clear hG;go_loopg [14] C1 (fun gk i wr=>∃k:Nat,k≤C1∧gk=C1-k∧i=.int .i64 k∧Hid (zag wr b j (scF s1 k v G))∧Hid (Kp [b] w7 wr))
        case atStart=>exact⟨0,by omega,rfl,rfl,Hd (by rw[zqa];exact HV7.out),Hd (Kp.refl _ _)⟩
        case round =>
         clear HV7;obtain⟨k,hk,rfl,rfl,HV,HK⟩:=hrel;have hsr:=HK.out.size;have hE5:=(HK7.out.trans HK.out).heap D5.out (by simp;omega);have m0:=cOH hE5 (j:=0) rfl;have m1:=cOH hE5 (j:=1) rfl;have m2:=cOH hE5 (j:=2) rfl;clear hE5;by_cases hltk:k<C1
         ·obtain⟨q2,hq2⟩:=zE4 (s1+k);have hq3:q2<j:=by omega
          have x4:(s1:Int)+(k:Int)=(q2:Int):=by omega
          have y4:=zE6 (q2:Int) (by omega);have i1:(0:Int)≤(q2:Int)∧(q2:Int)<(j:Int):=by omega
          obtain⟨cg,fg⟩:=HV.out.2 q2 hq3;have hgl:=HV.out.1;have ho:=zur s1 k v G;rw[hq2] at ho;rw[ho] at cg;obtain⟨gn,hgn⟩:=zE4 ((G q2).n);have HMUL:=Hd (zg1 gn vn wr.drew (by rw[←hgn];exact (G q2).lt) (by rw[←HVV.out.2];exact v.lt));have hmn:zb9 gn vn=(G q2*v).n:=by rw[←hgn,←HVV.out.2];rfl
          rw[hmn] at HMUL;obtain⟨y,hy⟩:=zE4 (G q2*v);obtain⟨yn,hyn⟩:=zE4 y.n;rw[hy,hyn] at HMUL;rw[hgn] at cg;have hvs:=HV.out.set hq3 y;rw[hyn] at hvs;have HVN:Hid (zag (wr.setCell ⟨b,q2,none⟩ (.int .u8 (yn:Nat))) b j (scF s1 (k+1) v G)):=Hd (by
           have h:=zqb s1 k v G;rw[hq2,hy] at h;rw[←h];exact hvs)
          have HKN:Hid (Kp [b] w7 (wr.setCell ⟨b,q2,none⟩ (.int .u8 (yn:Nat)))):=Hd (HK.out.setCell (.inl (by simp)) _);obtain⟨kp,hkp⟩:∃kp:Nat→Bool,∀j,kp j=true↔j≠b:=⟨fun j=>decide (j≠b),by simp⟩;have k2:kp mb=true:=(hkp _).2 (by omega);have HKP:=Hd hkp;clear hkp ho hgn hmn hy hyn hvs hq2 HV HK;go_upto_region 20 with fail
          have hgr:=hgK (fun j=>kp j=true);refine w_T (fun j=>kp j=true) [17,19,21] (.sq [0,1,2,3,4,5,6,7,8,9,10,11,12,13,14,15,16,18,17,19,20,21] .done) (by kernel_rfl) (by kernel_rfl) ?_;simp only[TQ,Oper.slim,Nat.reduceBEq,Nat.reduceAdd]
          repeat' first|((with_reducible refine w_I ?_);first|(with_reducible refine w_D ?_)|((with_reducible refine w_S (fun K hK=>?_));go_simp;first|(refine hK _ _ ?_;clear hK K)|(refine⟨by (intro kk hkk;first|(simp (disch:=(simp;omega)) only[h_D,h_N,h_A,h_S];done)|(simp[h_D,h_N,h_I,hkk];done)|(have hkk2:=(HKP.out kk).1 hkk;simp (disch:=(first|exact hkk2|(simp;done)|(simp;omega))) only[h_D,h_N,h_A,h_S];done)),hK _ _ ?_⟩;clear hK K)|(go_at_call 49;(with_reducible refine HMUL.out.mono ?_);rintro e wx ⟨rfl,hwx⟩;subst hwx;refine⟨_,rfl,(fun kk hkk=>rfl),hK _ _ ?_⟩;clear hK K)))|fail
          clear hgr
          all_goals go_wp2
          all_goals go_roundg (C1-(k+1))
          all_goals first
           | omega
           | exact⟨k+1,by omega,rfl,by go_num,by first|exact HVN|exact Hd HVN.out.drew,by first|exact HKN|exact Hd HKN.out.drew⟩
         ·obtain rfl:k=C1:=by omega
          obtain⟨w8,rfl⟩:=zE5 (wr:World);obtain⟨N2,hN2⟩:=zE4 (scR a v N1);have HV8:Hid (zag w8 b j (flat k N2)):=Hd (HV.out.congr fun x hx=>by
           rw[←HPP.out] at hx;rw[←HGG.out,←HS1.out,←hN2];exact zqc (by omega) a v N1 hx)
          have HN2:=Hd hN2;have HK8:Hid (Kp [b] w6 w8):=Hd (HK7.out.trans HK.out);have HO8:Hid (za4 w8 w6.heap.size (.slice av a cv) zs):=Hd (HO7.out.kp HK.out HOA.out);obtain⟨T,hT⟩:∃T:Nat→GF,(fun r=>N2 r c)=T:=⟨_,rfl⟩;have HT:Hid (∀r,N2 r c=T r):=Hd fun r=>by rw[←hT]
          have HTT:=Hd hT;clear hN2 hT HV HK HO7 HK7;go_wp2;clear m0 m1 m2;go_loopg [15] R (fun gk i wr=>∃I:Nat,I≤R∧gk=R-I∧i=.int .i64 I∧Hid (zag wr b j (flat k (elP a T I 0 N2)))∧Hid (Kp [b] w8 wr))
          case atStart=>exact⟨0,by omega,rfl,rfl,Hd (HV8.out.congr fun x hx=>(zzj a T N2 _ _).symm),Hd (Kp.refl _ _)⟩
          case round =>
           clear HV8;obtain⟨I,hI,rfl,rfl,HV,HK⟩:=hrel;have hsr:=HK.out.size;have hE5:=(HK8.out.trans HK.out).heap D5.out (by simp;omega);have m0:=cOH hE5 (j:=0) rfl;have m1:=cOH hE5 (j:=1) rfl;have m2:=cOH hE5 (j:=2) rfl;clear hE5;by_cases hltI:I<R
           ·obtain⟨p1,hp1⟩:=zE4 (I*k);obtain⟨p2,hp2⟩:=zE4 (p1+c);have hp3:p2<j:=by rw[←hp2,←hp1,←HPP.out];exact zaz hltI hcC1
            have hp1C:p1+k≤j:=by rw[←hp1,←HPP.out];have:=Zar k hltI;rw[Nat.succ_mul] at this;exact this
            have x1:(I:Int)*(k:Int)=(p1:Int):=by rw[←hp1];simp
            have x2:(p1:Int)+(c:Int)=(p2:Int):=by omega
            have y1:=zE6 (p1:Int) (by omega);have y2:=zE6 (p2:Int) (by omega);have i1:(0:Int)≤(p2:Int)∧(p2:Int)<(j:Int):=by omega
            obtain⟨ct,-⟩:=HV.out.2 p2 hp3;rw[←hp2,←hp1,zab (by omega) _ _ _ hcC1,hp1,hp2,yfb,HT.out] at ct;obtain⟨un,hun⟩:=zE4 ((T I).n);rw[hun] at ct;have HUN:=Hd hun;have HP1:=Hd hp1;clear hp1 hp2 hun;go_wp2;clear ct x2 y2 i1 m0 m1 m2;go_loopg [17] k (fun gk i wr=>∃x:Nat,x≤k∧gk=k-x∧i=.int .i64 x∧(I=a→x=0)∧Hid (zag wr b j (flat k (elP a T I x N2)))∧Hid (Kp [b] w8 wr))
            case atStart=>exact⟨0,by omega,rfl,rfl,fun _=>rfl,HV,HK⟩
            case round =>
             clear HV HK;obtain⟨x,hx,rfl,rfl,hx0,HV,HK⟩:=hrel;have hsr:=HK.out.size;have hE5:=(HK8.out.trans HK.out).heap D5.out (by simp;omega);have m0:=cOH hE5 (j:=0) rfl;have m1:=cOH hE5 (j:=1) rfl;have m2:=cOH hE5 (j:=2) rfl;clear hE5;by_cases hIa:I=a
             ·obtain rfl:x=0:=hx0 hIa;have HV2:Hid (zag wr b j (flat k (elP a T (I+1) 0 N2))):=Hd (HV.out.congr fun y hy=>by
               unfold flat;rw[hIa];exact zzl)
              have hkp:0<k:=by omega
              have hIa':(I:Int)=(a:Int):=by omega
              clear hx0 hIa;go_wp2;go_roundg (R-(I+1))
              case measure=>omega
              case rel=>exact⟨I+1,by omega,rfl,by go_num,HV2,HK⟩
             ·have hne:¬(I:Int)=(a:Int):=by omega
              by_cases hltx:x<k
              ·obtain⟨p2,hp2⟩:=zE4 (p1+x);obtain⟨q2,hq2⟩:=zE4 (s1+x);have hp3:p2<j:=by omega
               have hq3:q2<j:=by omega
               have x2:(p1:Int)+(x:Int)=(p2:Int):=by omega
               have x4:(s1:Int)+(x:Int)=(q2:Int):=by omega
               have y2:=zE6 (p2:Int) (by omega);have y4:=zE6 (q2:Int) (by omega);have i1:(0:Int)≤(p2:Int)∧(p2:Int)<(j:Int):=by omega
               have i2:(0:Int)≤(q2:Int)∧(q2:Int)<(j:Int):=by omega
               obtain⟨cp,fp⟩:=HV.out.2 p2 hp3;obtain⟨cq,-⟩:=HV.out.2 q2 hq3;rw[←hp2,←HP1.out,zab (by omega) _ _ _ hltx,HP1.out,hp2,ycp] at cp;rw[←hq2,←HS1.out,zab (by omega) _ _ _ hltx,HS1.out,hq2,yco] at cq;have hgl:=HV.out.1;obtain⟨on,hon⟩:=zE4 ((N2 I x).n);obtain⟨an,han⟩:=zE4 ((N2 a x).n);have HMUL:=Hd (zg1 un an wr.drew (by rw[←HUN.out];exact (T I).lt) (by rw[←han];exact (N2 a x).lt));have hmn:zb9 un an=(T I*N2 a x).n:=by rw[←HUN.out,←han];rfl
               rw[hmn] at HMUL;have hxor:=GF.u8_xor (N2 I x) (T I*N2 a x);obtain⟨mn,hmn2⟩:=zE4 ((T I*N2 a x).n);obtain⟨y,hy⟩:=zE4 (N2 I x+T I*N2 a x);obtain⟨yn,hyn⟩:=zE4 y.n;rw[hmn2] at HMUL;rw[hy,hon,hmn2,hyn] at hxor;rw[hon] at cp;rw[han] at cq;have hvs:=HV.out.set hp3 y;rw[hyn] at hvs;have HVN:Hid (zag (wr.setCell ⟨b,p2,none⟩ (.int .u8 (yn:Nat))) b j (flat k (elP a T I (x+1) N2))):=Hd (by
                refine zag.congr hvs fun t ht=>?_;rw[←HPP.out] at ht;obtain⟨r,d,hr,hd,rfl⟩:=za2 (show 0<k by omega) ht;rw[zab (by omega) _ _ _ hd,zab (by omega) _ _ _ hd,zzk hIa];by_cases h:r=I∧d=x
                ·obtain⟨rfl,rfl⟩:=h;rw[if_pos (by rw[HP1.out,hp2]),if_pos ⟨rfl,rfl⟩,hy]
                ·rw[if_neg h,if_neg (fun e=>h (zcy hd hltx (by rw[e,←hp2,←HP1.out])))])
               have HKN:Hid (Kp [b] w8 (wr.setCell ⟨b,p2,none⟩ (.int .u8 (yn:Nat)))):=Hd (HK.out.setCell (.inl (by simp)) _);obtain⟨kp,hkp⟩:∃kp:Nat→Bool,∀j,kp j=true↔j≠b:=⟨fun j=>decide (j≠b),by simp⟩;have k2:kp mb=true:=(hkp _).2 (by omega);have HKP:=Hd hkp;have HIA:=Hd hIa;clear hkp hon han hmn hmn2 hy hyn hvs hp2 hq2 HV HK hx0 hIa;go_upto_region 28 with fail
               have hgr:=hgK (fun j=>kp j=true);refine w_T (fun j=>kp j=true) [17,28,29,32] (.sq [0,1,2,3,4,5,6,7,8,9,10,11,12,13,14,15,16,18,19,20,21,22,23,24,25,26,27] (.fork 17 (.sq [28,29,30,31,32] .done) 28 (.fork 17 (.sq [29,30,31,32] .done) 29 (.sq [17,30,31,32] .done)))) (by kernel_rfl) (by kernel_rfl) ?_;simp only[TQ,Oper.slim,Nat.reduceBEq,Nat.reduceAdd]
               repeat' first|((with_reducible refine w_I ?_);first|(with_reducible refine w_D ?_)|(with_reducible refine zaf ?_ ?_)|((with_reducible refine w_S (fun K hK=>?_));go_simp;first|(refine hK _ _ ?_;clear hK K)|(refine⟨by (intro kk hkk;first|(simp (disch:=(simp;omega)) only[h_D,h_N,h_A,h_S];done)|(simp[h_D,h_N,h_I,hkk];done)|(have hkk2:=(HKP.out kk).1 hkk;simp (disch:=(first|exact hkk2|(simp;done)|(simp;omega))) only[h_D,h_N,h_A,h_S];done)),hK _ _ ?_⟩;clear hK K)|(go_at_call 49;(with_reducible refine HMUL.out.mono ?_);rintro e wx ⟨rfl,hwx⟩;subst hwx;refine⟨_,rfl,(fun kk hkk=>rfl),hK _ _ ?_⟩;clear hK K)))|fail
               all_goals clear hgr
               all_goals go_wp2
               all_goals go_roundg (k-(x+1))
               all_goals first
                | omega
                | exact⟨x+1,by omega,rfl,by go_num,fun h=>absurd h HIA.out,by first|exact HVN|exact Hd HVN.out.drew,by first|exact HKN|exact Hd HKN.out.drew⟩
              ·obtain rfl:x=k:=by omega
               have HV2:Hid (zag wr b j (flat x (elP a T (I+1) 0 N2))):=Hd (HV.out.congr fun y hy=>by
                rw[←HPP.out] at hy;obtain⟨r,d,hr,hd,rfl⟩:=za2 (show 0<x by omega) hy;rw[zab (by omega) _ _ _ hd,zab (by omega) _ _ _ hd];exact zzm hd)
               clear hx0;go_wp2;go_roundg (R-(I+1))
               case measure=>omega
               case rel=>exact⟨I+1,by omega,rfl,by go_num,HV2,HK⟩
           ·obtain rfl:I=R:=by omega
            obtain⟨N3,hN3⟩:=zE4 (zff a F c N N);have hN3':elR a T N2=N3:=by rw[←hN3,←HTT.out,←HN2.out,←HN1.out,←HVV.out.1];rfl
            have hv9:zag wr b j (flat k N3):=HV.out.congr fun y hy=>by rw[←HPP.out] at hy;obtain⟨r,d,hr,hd,rfl⟩:=za2 (show 0<k by omega) hy;rw[zab (by omega) _ _ _ hd,zab (by omega) _ _ _ hd,←hN3'];exact ycq hr
            have ho9:=HO8.out.kp HK.out HOA.out;have hk9:=HK8.out.trans HK.out;obtain⟨v1,w9,hap,ho1,hka,hba,hat⟩:=zdf (W:=wr) (c:Int) ho9 (by rw[HZL.out];omega) hk9.size (ad:=wr.heap.size) rfl;have hnb:b∉(Value.slice av a cv).ownBlock.toList:=fun hm=>by
             have:=(ho9.lt b (by simpa using hm)).1
             omega
            have HO10:Hid (za4 w9 w6.heap.size v1 (zs++[(c:Int)])∧(zs++[(c:Int)]).length=a+1):=Hd ⟨ho1,by rw[Zak,HZL.out];rfl⟩;have HV10:Hid (zag w9 b j (flat k N3)):=Hd (hv9.kp hka hnb);have HK10:Hid (Kp [b] w6 w9):=Hd (hk9.step hka (fun y hy=>.inr (by
             have:=(ho9.lt y (by simpa using hy)).1
             exact this)))
            have HE10:Hid (Ech I (c+1) (a+1) N3 (fun r=>if r=a then c else p r)):=Hd (by rw[←hN3];exact HE.out.step haF hltF HNE.out);have HMET10:Hid (∀x z,zd5 I C 1 N3 (zdp C N3) x z↔zd5 I C 1 M (zdp C M) x z):=Hd fun x z=>by rw[←hN3];exact (zy1 haR' hltF HNE.out x z).trans (HMET.out x z)
            have HAC10:Hid (a+1≤c+1):=Hd (Nat.succ_le_succ HAC.out);clear hN3 hN3' hv9 ho9 hk9 ho1 hka hba hat hnb HV HK;go_wp2_with (at_builtin;refine zae rfl _ _ _ rfl rfl rfl hap ?_);go_roundg (C-(c+1))
            case measure=>omega
            case rel=>exact⟨v1,_,a+1,c+1,_,N3,rfl,by omega,by omega,rfl,by go_num,HO10,HV10,HE10,HMET10,HK10,HAC10⟩
      ·obtain rfl:F=R:=by omega
       have HE2:Hid (Ech F (c+1) a N p):=Hd (HE.out.skip HZ.out);have HAC2:Hid (a≤c+1):=Hd (Nat.le_succ_of_le HAC.out);go_wp2;go_roundg (C-(c+1))
       case measure=>omega
       case rel=>exact⟨_,zs,a,c+1,p,N,rfl,by omega,by omega,rfl,by go_num,HO,HV,HE2,HMET,HK,HAC2⟩
    ·obtain rfl:c=C:=by omega
     have E4:=HK.out.heap D4.out (by simp;omega);have y0:=cOH E4 (j:=0) rfl;have y1:=cOH E4 (j:=1) rfl;have y2:=cOH E4 (j:=2) rfl;have f0:=fOH E4 0;have f1:=fOH E4 1;have f2:=fOH E4 2;have l4r:=lOH E4;have hE5:=HK.out.heap D5.out (by simp;omega);have m0:=cOH hE5 (j:=0) rfl;have m1:=cOH hE5 (j:=1) rfl;have m2:=cOH hE5 (j:=2) rfl;clear hE5;have h6:=hSS (hSS (hSS E4 0 (.int .i64 R)) 1 (.int .i64 C1)) 2 (.slice (some ⟨b,0,none⟩) j j);have h7:(((wr.setCell ⟨w.heap.size+1,0,none⟩ (.int .i64 R)).setCell ⟨w.heap.size+1,1,none⟩ (.int .i64 C1)).setCell ⟨w.heap.size+1,2,none⟩ (.slice (some ⟨b,0,none⟩) j j)).heap[w.heap.size+1]? = some (.cells #[.int .i64 R,.int .i64 C1,.slice (some ⟨b,0,none⟩) j j] 96 (0,0)):=by simpa using h6
     have c0:=cOH h7 (j:=0) rfl;have c1:=cOH h7 (j:=1) rfl;have c2:=cOH h7 (j:=2) rfl;have hkk:Kp [w.heap.size+1] wr (((wr.setCell ⟨w.heap.size+1,0,none⟩ (.int .i64 R)).setCell ⟨w.heap.size+1,1,none⟩ (.int .i64 C1)).setCell ⟨w.heap.size+1,2,none⟩ (.slice (some ⟨b,0,none⟩) j j)) :=
      (((Kp.refl _ _).setCell (.inl (by simp)) _).setCell (.inl (by simp)) _).setCell (.inl (by simp)) _
     have hww:w.heap.size+1<w6.heap.size:=by omega
     have HPO:Hid (zgm R C1 c j M w (.returned (.tuple #[.agg #[.int .i64 R,.int .i64 C1,.slice (some ⟨b,0,none⟩) j j],.slice av a cv])) (((wr.setCell ⟨w.heap.size+1,0,none⟩ (.int .i64 R)).setCell ⟨w.heap.size+1,1,none⟩ (.int .i64 C1)).setCell ⟨w.heap.size+1,2,none⟩ (.slice (some ⟨b,0,none⟩) j j))):=Hd
      ⟨b,_,zs,p,N,rfl,by omega,HV.out.kp hkk (by simp;omega),(HO.out.1.kp hkk (fun kk hkk2 hm=>by
       have:=(HO.out.1.lt kk hkk2).1
       simp at hm;omega)).mono (by omega),by rw[HO.out.2];exact HE.out,HMET.out,((HW.out.trans (HK56.out.below (by have:=HW.out.size;omega) (by simp;omega))).trans (HK.out.below (by omega) (by simp;omega))).trans (hkk.below (by omega) (by simp))⟩
     clear E4 h6 h7 hkk;go_wp2;refine bodyPost_ret (v:=.tuple #[.agg #[.int .i64 R,.int .i64 C1,.slice (some ⟨b,0,none⟩) j j],.slice av a cv]) ?_ rfl HPO.out;simp[results,Tryz.results131,go_sem,c0,c1,c2]
