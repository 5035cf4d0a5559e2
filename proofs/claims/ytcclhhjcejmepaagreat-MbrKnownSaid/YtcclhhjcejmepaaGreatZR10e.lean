import Derived.Test.YtcclhhjcejmepaaGreatZR10
import Derived.Test.YtcclhhjcejmepaaGreatZRefsB
import Derived.Test.YtcclhhjcejmepaaGreatZSk
import Derived.Test.YtcclhhjcejmepaaGreatZWorks
set_option linter.all false
set_option maxRecDepth 100000
set_option maxHeartbeats 8000000
namespace Go.Proofs.YtcclhhjcejmepaaGreat
open Go.RowKit Fld
theorem zsd (n E:Nat) (pv hv:Value) (m:List GF) (l:List Sy) (w:World) (hn:n≤300) (hE:E≤300) (hp:GRd w pv m) (hpl:m.length≤1000000) (hl:zby w hv l) (hll:l.length≤1000) (hsz:∀s∈l,s.d.length=1) :
  Calls Tryz.prog 59 #[pv,.int .i64 E,.int .i64 n,hv] w (zxn (Sy.nodes l) (rowF (fun i=>ev m (pw GF.two (E+i))) n) (ysL l) n w):=by
 have hWg:∀p,p<n→(rowF (fun i=>ev m (pw GF.two (E+i))) n).getD p 0=ev m (pw GF.two (E+p)):=fun p hp=>zam _ hp;obtain⟨W,hW⟩:∃W,rowF (fun i=>ev m (pw GF.two (E+i))) n=W:=⟨_,rfl⟩;rw[hW] at hWg ⊢;have hql:(Sy.nodes l).length=l.length:=by simp[Sy.nodes]
 obtain⟨ps,hps⟩:=zE4 (Sy.nodes l);obtain⟨ys,hys⟩:=zE4 (ysL l);have hpg:∀I s,l[I]? = some s→ps.getD I 0=s.node:=fun I s hs=>by rw[←hps];exact zc9 hs
 have hyg:∀I s,l[I]? = some s→ys.getD I 0=s.d.getD 0 0:=fun I s hs=>by rw[←hys];exact zp0 hs
 rw[hps] at hql ⊢;rw[hys];obtain⟨am,cm,rfl,hcm⟩:=hp.form;obtain⟨ah,ch,rfl⟩:=hl.rd.form;obtain⟨L,hL⟩:=zE4 l.length;obtain⟨M,hM⟩:=zE4 m.length;have HL:=Hd hL;have HS:=Hd hl;have HSZ:=Hd hsz;have HP:=Hd hp;have HM:=Hd hM;have HWG:=Hd hWg;have HPG:=Hd hpg;have HYG:=Hd hyg;have HQ:=Hd (hql.trans hL);rw[hL] at HS hll ⊢;rw[hM] at HP hpl hcm ⊢;clear hp hl hsz hL hM hW hWg hps hys hpg hyg hql hcm;go_enter Tryz.func59,Tryz.ntmps59;go_wp2;go_loopg [9,10] n (fun gk l i wr=>∃(V:Value) (p:Nat),V=l∧p≤n∧gk=n-p∧i=.int .i64 p∧Hid (za4 wr w.heap.size V (wrR ps W ys p))∧Hid (Below w.heap.size w wr))
 case atStart=>exact⟨_,0,rfl,by omega,rfl,rfl,Hd (za4.nil _ _),Hd (Zaa _ _)⟩
 case round =>
  obtain⟨V,p,rfl,hpN,rfl,rfl,HO,HB⟩:=hrel;have hs:=HB.out.size;by_cases hlt:p<n
  ·have hlen0:p*L≤300*1000:=Zai (by omega) hll;have hlen:=ztx ps W ys p;rw[HQ.out] at hlen;have HLEN:Hid ((wrR ps W ys p).length≤500000):=Hd (by omega);clear hlen hlen0;go_wp2;go_loopg [9,11] L (fun gk l i wr=>∃(V:Value) (I:Nat),V=l∧I≤L∧gk=L-I∧i=.int .i64 I∧Hid (za4 wr w.heap.size V (wrR ps W ys p++inR ps W ys p I))∧Hid (Below w.heap.size w wr))
   case atStart=>exact⟨_,0,rfl,by omega,rfl,rfl,by rw[zzc,Zal];exact HO,HB⟩
   case round =>
    clear HO HB hs;obtain⟨V,I,rfl,hI,rfl,rfl,HO,HB⟩:=hrel;have hs:=HB.out.size;by_cases hlt2:I<L
    ·obtain⟨s,hs0⟩:∃s,l[I]? = some s:=⟨_,zE1 (by rw[HL.out];exact hlt2)⟩;obtain⟨-,hcap,b,o,rfl,hb,hat⟩:=SRd.at (HS.out.below HB.out).rd hs0;have c0:wr.cell? ⟨b,o+I*2,none⟩=some (.int .i64 s.node):=hat 0 _ rfl;have c1:wr.cell? ⟨b,o+I*2+1,none⟩=some (.slice s.a s.d.length s.cp):=hat 1 _ rfl;have hsd:s.d.length=1:=HSZ.out s (Zad hs0);rw[hsd] at c1;have hxd:=HPG.out I s hs0;have hyd0:=HYG.out I s hs0;obtain⟨y,hy,hyd⟩:=zbt (l:=s.d) (i:=0) (by rw[hsd];exact Nat.one_pos);have hsrd:=HS.out.each s (Zad hs0);unfold Sy.rd at hsrd;rw[hsd] at hsrd;obtain⟨sa,sd,hsa⟩:∃sa sd,sa=s.a∧sd=s.cp:=⟨_,_,rfl,rfl⟩;rw[←hsa.1,←hsa.2] at hsrd c1;obtain⟨bd,od,rfl,hbd,-⟩:=hsrd.at hy;obtain⟨_,_,e,-,cy⟩:=(hsrd.below HB.out).at hy;cases e;rw[Nat.add_zero] at cy;obtain⟨x,hx⟩:=zE4 s.node;rw[hx] at c0 hxd;have HXD:=Hd hxd;have HBD:Hid (Below w.heap.size w wr.drew):=Hd HB.out.drew;obtain⟨kp,hkp⟩:∃kp:Nat→Bool,∀j,kp j=true↔j<wr.heap.size:=⟨fun j=>decide (j<wr.heap.size),by simp⟩;have k0:kp b=true:=(hkp _).2 (by omega);have i0:(0:Int)≤(I:Int)∧(I:Int)<(L:Int):=by omega
     by_cases hxp:x=(p:Int)
     ·obtain⟨z,hz⟩:=zE4 (pw GF.two (E+p));have hpt:=fun W=>zgv (E+p) W (by omega);rw[hz] at hpt;have HAT:=Hd (zu6 _ m z wr.drew ((HP.out.below HB.out).below ((Zaa _ _).drew)) (by rw[HM.out];omega));have hiff:W.getD p 0=ys.getD I 0↔(ev m z).n=y.n:=by
       rw[HWG.out p hlt,hz,hyd0,hyd];exact⟨fun e=>by rw[e],fun e=>GF.ext' e⟩
      obtain⟨zn,hzn⟩:=zE4 z.n;obtain⟨cn,hcn⟩:=zE4 ((ev m z).n);obtain⟨dn,hdn⟩:=zE4 y.n;obtain⟨Q,hQ⟩:=zE4 (E+p);have y1:(E:Int)+(p:Int)=(Q:Int):=by omega
      have y2:=zE6 (Q:Int) (by omega);rw[hzn,hcn] at HAT;rw[hzn,hQ] at hpt;have HPT:=Hd hpt;rw[hdn] at cy;rw[hcn,hdn] at hiff;have HIF:=Hd hiff;have k2:kp bd=true:=(hkp _).2 (by omega);have i1:(0:Int)≤(p:Int)∧(p:Int)<(n:Int):=by omega
      subst hxp;clear hkp hz hzn hcn hdn hiff hx hxd hyd0 hyd hy hsrd hsa hsd hs0 hat hcap hpt hQ;by_cases hcc:cn=dn
      ·subst hcc;have HO2:Hid (za4 wr.drew w.heap.size V (wrR ps W ys p++inR ps W ys p (I+1))):=Hd (by
        rw[yar (fun _=>HIF.out.2 rfl)];exact HO.out)
       go_upto_region 8 with fail
       have hgr:=hgK (fun j=>kp j=true);refine w_T (fun j=>kp j=true) [12,13] (.sq [0,1,2,3,4,5,6,7,8,9,10,11,14,15,16,17,18,19,20,12,13,21,22] .done) (by kernel_rfl) (by kernel_rfl) ?_;simp only[TQ,Oper.slim,Nat.reduceBEq,Nat.reduceAdd]
       repeat' first|((with_reducible refine w_I ?_);first|(with_reducible refine w_D ?_)|((with_reducible refine w_S (fun K hK=>?_));go_simp;first|(refine hK _ _ ?_;clear hK K)|(refine⟨by (intro kk hkk;first|(simp (disch:=(simp;omega)) only[h_D,h_N,h_A,h_S];done)|(simp[h_D,h_N,h_I,hkk];done)|fail),hK _ _ ?_⟩;clear hK K)|(go_at_call 57;(with_reducible refine (HPT.out _).mono ?_);rintro e w6 ⟨rfl,hw6⟩;subst hw6;refine⟨_,rfl,(fun kk hkk=>rfl),hK _ _ ?_⟩;clear hK K)|(go_at_call 98;(with_reducible refine (HAT.out).mono ?_);rintro e w7 ⟨rfl,hw7⟩;subst hw7;refine⟨_,rfl,(fun kk hkk=>rfl),hK _ _ ?_⟩;clear hK K)))|fail
       clear hgr;go_wp2;go_roundg (L-(I+1))
       case measure=>omega
       case rel=>exact⟨_,I+1,rfl,by omega,rfl,by go_num,HO2,HBD⟩
      ·have hne:¬(cn:Int)=(dn:Int):=by omega
       obtain⟨v1,w6,hap,ho1,-,hb6,-⟩:=zdf (W:=wr.drew) (p:Int) HO.out (by
        have:=HLEN.out
        have:=zwo ps W ys p I
        rw[Zak];omega) (by simpa using HB.out.size) (ad:=wr.heap.size) rfl
       have HO6:Hid (za4 w6 w.heap.size v1 (wrR ps W ys p++inR ps W ys p (I+1))):=Hd (by
        rw[yce HXD.out (fun e=>hcc (HIF.out.1 e)),←List.append_assoc];exact ho1)
       have HB6:Hid (Below w.heap.size w w6):=Hd (HBD.out.trans hb6);clear hcc ho1 hb6;go_upto_region 8 with fail
       have hgr:=hgK (fun j=>kp j=true);refine w_T (fun j=>kp j=true) [12,13] (.sq [0,1,2,3,4,5,6,7,8,9,10,11,14,15,16,17,18,19,20,12,13,21,22] .done) (by kernel_rfl) (by kernel_rfl) ?_;simp only[TQ,Oper.slim,Nat.reduceBEq,Nat.reduceAdd]
       repeat' first|((with_reducible refine w_I ?_);first|(with_reducible refine w_D ?_)|((with_reducible refine w_S (fun K hK=>?_));go_simp;first|(refine hK _ _ ?_;clear hK K)|(refine⟨by (intro kk hkk;first|(simp (disch:=(simp;omega)) only[h_D,h_N,h_A,h_S];done)|(simp[h_D,h_N,h_I,hkk];done)|fail),hK _ _ ?_⟩;clear hK K)|(go_at_call 57;(with_reducible refine (HPT.out _).mono ?_);rintro e w6 ⟨rfl,hw6⟩;subst hw6;refine⟨_,rfl,(fun kk hkk=>rfl),hK _ _ ?_⟩;clear hK K)|(go_at_call 98;(with_reducible refine (HAT.out).mono ?_);rintro e w7 ⟨rfl,hw7⟩;subst hw7;refine⟨_,rfl,(fun kk hkk=>rfl),hK _ _ ?_⟩;clear hK K)))|fail
       clear hgr;go_wp2_with (at_builtin;refine zae rfl _ _ _ rfl rfl rfl hap ?_);go_roundg (L-(I+1))
       case measure=>omega
       case rel=>exact⟨_,I+1,rfl,by omega,rfl,by go_num,HO6,HB6⟩
     ·have HO2:Hid (za4 wr.drew w.heap.size V (wrR ps W ys p++inR ps W ys p (I+1))):=Hd (by
       rw[yar (fun e=>absurd (hxd.symm.trans e) hxp)];exact HO.out)
      clear hkp hx hxd hyd0 hyd hy hsrd hsa hsd hs0 hat hcap;go_upto_region 8 with fail
      have hgr:=hgK (fun j=>kp j=true);refine w_T (fun j=>kp j=true) [12,13] (.sq [0,1,2,3,4,5,6,7,8,9,10,11,14,15,16,17,18,19,20,12,13,21,22] .done) (by kernel_rfl) (by kernel_rfl) ?_;simp only[TQ,Oper.slim,Nat.reduceBEq,Nat.reduceAdd]
      repeat' first|((with_reducible refine w_I ?_);first|(with_reducible refine w_D ?_)|((with_reducible refine w_S (fun K hK=>?_));go_simp;first|(refine hK _ _ ?_;clear hK K)|(refine⟨by (intro kk hkk;first|(simp (disch:=(simp;omega)) only[h_D,h_N,h_A,h_S];done)|(simp[h_D,h_N,h_I,hkk];done)|fail),hK _ _ ?_⟩;clear hK K)))|fail
      clear hgr;go_wp2;go_roundg (L-(I+1))
      case measure=>omega
      case rel=>exact⟨_,I+1,rfl,by omega,rfl,by go_num,HO2,HBD⟩
    ·obtain rfl:I=L:=by omega
     have HO2:Hid (za4 wr w.heap.size V (wrR ps W ys (p+1))):=Hd (by
      rw[zli,HQ.out];exact HO.out)
     go_wp2;go_roundg (n-(p+1))
     case measure=>omega
     case rel=>exact⟨_,p+1,rfl,by omega,rfl,by go_num,HO2,HB⟩
  ·obtain rfl:p=n:=by omega
   have HP1:Hid (za4 wr w.heap.size V (wrR ps W ys p)∧Below w.heap.size w wr):=Hd ⟨HO.out,HB.out⟩;go_wp2;go_ret;exact⟨V,rfl,HP1.out.1,HP1.out.2⟩
theorem zfh (xs:List GF) (ps:List Int) (q:Nat→Nat) (J:Nat):zcj xs (zh2 ps q J)=rowF (fun j=>xs.getD (ps.getD (q j) 0).toNat 0) J:=by unfold zcj zh2 rowF;rw[List.map_map];rfl
theorem zrx {xs ys p:List GF} {ps:List Int} {T:Nat} {q:Nat→Nat} (hn:xs.Nodup) (hg:zbc xs.length ps) (h:Ris T ps.length q) (hpl:p.length≤T) (ht:yfd (zcj xs (zh2 ps q T)) (zor ys q T) p):ztp xs T (zh2 ps q T) (zor ys q T) (zcf p T) :=
 (zrw hn (zl0 hg h) (by rw[zes,zor,zaa]) (by rw[zes];exact zE3 _) ht).1 hpl
theorem ya2 {xs ys p:List GF} {ps:List Int} {T n:Nat} (hx:xs.length=n) (hg:zbc xs.length ps):wrR ps (rowF (fun i=>ev p (xs.getD i 0)) n) ys n=wrS xs ps ys (zcf p T):=by subst hx;rw[zyc,←ya3 ys (zcf p T) hg];congr 1;exact Zbu fun x _=>(zf4 p T x).symm
theorem zsq {p:List GF} {i:Nat} (h:p.length≤i):zcf p (i+1)=zcf p i++[0]:=by unfold zcf;rw[List.append_assoc,←List.replicate_succ',Nat.succ_sub h]
theorem zsr (p:List GF):zcf p p.length=p:=by unfold zcf;rw[Nat.sub_self];simp
def zmp (B n d:Nat) (xs:List GF) (to_:Int) (l:List Sy) (t:Int) (e:Ending) (w':World):Prop :=
 ¬(((0≤to_∧to_<(n:Int))∧0≤t)∧zar n to_ 1 l)∧e=.returned (.tuple #[.slice none 0 0,.slice none 0 0,.int .i64 2]) ∨
 (((0≤to_∧to_<(n:Int))∧0≤t)∧zar n to_ 1 l)∧zoh B xs d (Sy.nodes l) (ysL l) t e w'
def zle (n d:Nat) (to_:Int) (l:List Sy) (t:Int) (w:World) (e:Ending) (w':World):Prop:=Below w.heap.size w w'∧zmp w.heap.size n d (za9 n) to_ l t e w'
theorem zr9 (n k T:Nat) (tz:Int) (hv:Value) (l:List Sy) (t:Int) (w:World) (hn:1≤T∧T<n∧n≤255) (hl:zby w hv l) (hll:l.length≤256) (ht:-9223372036854775808≤t∧t≤9223372036854775807) :
  Calls Tryz.prog 24 #[rb n k T,.int .i64 tz,hv,.int .i64 t] w (zle n T tz l t w):=by
 obtain⟨wb,hwb⟩:=zE5 (w.alloc (.cells #[.int .i64 n,.int .i64 k,.int .i64 T] 32));have hbb:Below w.heap.size w wb:=by rw[hwb];exact (Zaa _ _).alloc (zE3 _) _
 have hbx:wb.heap[w.heap.size]? = some (.cells #[.int .i64 n,.int .i64 k,.int .i64 T] 32 (0,0)):=by rw[hwb];exact nwA _ _
 have HROW:=Hd (zne n hv l tz 1 wb (hl.below hbb) (by omega));unfold zcz at HROW;rw[show (((1:Nat):Nat):Int)=1 from rfl,hwb] at HROW;have HLI:=Hd (fun v m W hp hpl hW=>zsd n 0 v hv m l W (by omega) (by omega) hp hpl hW (by omega));have hxl:=zbd n;have hnd:=zay hn.2.2;have hpw:∀i,i<n→pw GF.two (0+i)=(za9 n).getD i 0:=fun i hi=>by rw[Zbe];exact (zfi hi).symm
 have hpt:∀x,x<n→∀W,Calls Tryz.prog 57 #[.int .i64 x] W fun e w'=>e=.returned (.int .u8 (((za9 n).getD x 0).n:Nat))∧W=w':=fun x hx W=>by rw[zfi hx];exact zgv x W (by omega)
 have hrow:∀m:List GF,rowF (fun i=>ev m (pw GF.two (0+i))) n=rowF (fun i=>ev m ((za9 n).getD i 0)) n:=fun m=>zd1 fun i hi=>by rw[hpw i hi]
 simp only[hrow] at HLI;unfold zle;obtain⟨xs,hxs⟩:=zE4 (za9 n);rw[hxs] at hxl hnd hpt ⊢;simp only[hxs] at HLI;have hnl:(Sy.nodes l).length=l.length:=by simp[Sy.nodes]
 have hyl:=zlh l;obtain⟨ah,ch,rfl⟩:=hl.rd.form;obtain⟨Q,hQ⟩:=zE4 l.length;have HL:=Hd hQ;have HS:=Hd hl;have HND:=Hd hnd;have HXL:=Hd hxl;have HWB:=Hd hwb;have HBX:=Hd (Zao hbb hbx);have HNL:=Hd (hnl.trans hQ);have HYL:=Hd (hyl.trans hQ);have HPT:=Hd hpt;obtain⟨hT1,hTn,hn255⟩:=hn;rw[hQ] at HS HROW HLI hll ⊢;clear hl hwb hbb hbx hxs hxl hQ hnd hnl hyl hpt hpw hrow;by_cases c1:tz<0
 ·go_enter Tryz.func24,Tryz.ntmps24;go_wp2;go_ret3;exact⟨by (repeat' (first|with_reducible (first|exact Zaa _ _|assumption|refine Zac ?_|refine Zab ?_ ?_ _)|omega|(simp;done)|(simp;omega))),.inl ⟨fun h=>by omega,rfl⟩⟩
 by_cases c2:tz≥(n:Int)
 ·go_enter Tryz.func24,Tryz.ntmps24;go_wp2;go_ret3;exact⟨by (repeat' (first|with_reducible (first|exact Zaa _ _|assumption|refine Zac ?_|refine Zab ?_ ?_ _)|omega|(simp;done)|(simp;omega))),.inl ⟨fun h=>by omega,rfl⟩⟩
 by_cases ht0:t<0
 ·go_enter Tryz.func24,Tryz.ntmps24;go_wp2;go_ret3;exact⟨by (repeat' (first|with_reducible (first|exact Zaa _ _|assumption|refine Zac ?_|refine Zab ?_ ?_ _)|omega|(simp;done)|(simp;omega))),.inl ⟨fun h=>by omega,rfl⟩⟩
 obtain⟨jn,rfl⟩:∃jn:Nat,tz=(jn:Int):=⟨tz.toNat,by omega⟩;obtain⟨tn,rfl⟩:∃tn:Nat,t=(tn:Int):=⟨t.toNat,by omega⟩;have hjn:jn<n:=by omega
 go_enter Tryz.func24,Tryz.ntmps24;go_wp2_with fail;refine HROW.out.mono ?_;rintro e w1 ⟨b,rfl,hb1,hbi⟩;rw[←HWB.out] at hb1;have hbw1:Below w.heap.size w w1:=HBX.out.1.trans (hb1.mono HBX.out.1.size);have HB1:=Hd hbw1;have HX1:=Hd (zad hb1 HBX.out.2);have HBI:=Hd hbi;clear hb1 hbw1 hbi HROW c1 c2;cases b
 ·have HNG:Hid (¬zar n (jn:Int) 1 l):=Hd fun h=>by have:=HBI.out.2 h;cases this
  go_wp2;go_ret3;exact⟨HB1.out,.inl ⟨fun h=>HNG.out h.2,rfl⟩⟩
 have HG:=Hd (HBI.out.1 (by trivial));clear HBI;have HGA:Hid (((0≤(jn:Int)∧(jn:Int)<(n:Int))∧(0:Int)≤(tn:Int))∧zar n (jn:Int) 1 l):=Hd ⟨⟨by omega,by omega⟩,HG.out⟩;have HGB:Hid ((zbc xs.length (Sy.nodes l)∧(Sy.nodes l).length=(ysL l).length)∧(0:Int)≤(tn:Int)):=Hd ⟨⟨by rw[HXL.out];exact HG.out.1,by rw[HNL.out,HYL.out]⟩,by omega⟩;have hx1:=lOH HX1.out;have y0:=cOH HX1.out (j:=0) rfl;have y1:=cOH HX1.out (j:=1) rfl;have y2:=cOH HX1.out (j:=2) rfl;by_cases hf:(Q:Int)<(tn:Int)
 ·have HF:Hid (((Sy.nodes l).length:Int)<(T:Int)+2*(tn:Int)):=Hd (by rw[HNL.out];omega);go_wp2;go_ret3;exact⟨HB1.out,.inr ⟨HGA.out,.inr ⟨HGB.out,.inl ⟨HF.out,rfl⟩⟩⟩⟩
 obtain⟨T2,hT2⟩:=zE4 (2*tn);obtain⟨U,hU⟩:=zE4 (T+T2);have x1:(2:Int)*(tn:Int)=(T2:Int):=by omega
 have x2:=zE6 (T2:Int) (by omega);have x3:(T:Int)+(T2:Int)=(U:Int):=by omega
 have x4:=zE6 (U:Int) (by omega);by_cases hfew:Q<U
 ·have hfew':(Q:Int)<(U:Int):=by omega
  have HF:Hid (((Sy.nodes l).length:Int)<(T:Int)+2*(tn:Int)):=Hd (by rw[HNL.out];omega);clear hfew hT2 hU;go_wp2;go_ret3;exact⟨HB1.out,.inr ⟨HGA.out,.inr ⟨HGB.out,.inl ⟨HF.out,rfl⟩⟩⟩⟩
 have hfew':¬(Q:Int)<(U:Int):=by omega
 have HFW:Hid (T+2*tn≤Q):=Hd (by omega);have hkQ:T≤Q:=by omega
 have HFZ:Hid ((T:Int)+2*(tn:Int)≤((Sy.nodes l).length:Int)):=Hd (by rw[HNL.out];omega);have hd2:decide (Q<U)=false:=by simp;omega
 have HFI:=Hd (zko T w1 (by omega));clear hfew hT2 hU ht;go_wp2_with fail;refine HFI.out.mono ?_;rintro e w5 ⟨lv,rfl,hol,hb5⟩;obtain⟨g,capg,rfl,hg1,hg2,hgv⟩:=za4.view hol hT1;have HV2:=Hd hgv;have HB5:=Hd hb5;have HGG:Hid (w1.heap.size≤g):=Hd hg1;have hs1:=HB1.out.size;have hwb1:w.heap.size<w1.heap.size:=lOH HX1.out;clear hgv hb5 hol hg1 HFI y0 y1 y2 hx1;obtain⟨E,hE⟩:∃E:(Nat→Nat)→Nat,E=fun q=>Q ^ T-zn6 Q q T:=⟨_,rfl⟩;have HE:=Hd hE;clear hE;obtain⟨ps,hps⟩:=zE4 (Sy.nodes l);obtain⟨ys,hys⟩:=zE4 (ysL l);have hpg:∀I s,l[I]? = some s→ps.getD I 0=s.node:=fun I s hs=>by rw[←hps];exact zc9 hs
 have hyg:∀I s,l[I]? = some s→ys.getD I 0=s.d.getD 0 0:=fun I s hs=>by rw[←hys];exact zp0 hs
 have HPG:=Hd hpg;have HYG:=Hd hyg;have HPS:=Hd (Zao hps hys);have HGB0:=HGB;rw[hps] at HNL HFZ HGB;rw[hys] at HYL HGB;rw[hps,hys] at HLI;have HGP:Hid (zbc xs.length ps):=Hd HGB.out.1.1;clear hps hys hpg hyg;go_wp2;clear x1 x2 x3 x4 hfew' hf ht0 hd2;go_loopg [12] (E (fun j=>j)) (fun gk s wr=>∃(b:Bool) (q:Nat→Nat),s=.bool b∧gk=cond b (E q) 0∧Hid (zco wr g T q)∧Hid (Ris T Q q)∧Hid (Below w1.heap.size w1 wr)∧Hid (b=true→∀q',Ris T Q q'→Lx T q' q→zms xs ps ys T tn q')∧Hid (b=false→∀q',Ris T Q q'→zms xs ps ys T tn q'))
 case atStart=>exact⟨true,fun j=>j,rfl,rfl,HV2,Hd (zn3 hkQ),HB5,Hd (fun _ q' h1 h2=>absurd h2 (zk2 h1)),Hd (fun h=>by cases h)⟩
 case round =>
  clear HV2 HB5;obtain⟨b,q,rfl,rfl,HV,HR,HB,HT,HF⟩:=hrel;have hsr:=HB.out.size;cases b
  ·have HP:Hid (Below w.heap.size w wr∧zmp w.heap.size n T xs (jn:Int) l (tn:Int) (.returned (.tuple #[.slice none 0 0,.slice none 0 0,.int .i64 80])) wr):=Hd ⟨HB1.out.trans (HB.out.mono hs1),.inr ⟨HGA.out,by
    rw[HPS.out.1,HPS.out.2];refine .inr ⟨HGB.out,.inr ⟨HFZ.out,.inr ⟨rfl,?_⟩⟩⟩;rw[Zam];exact zz2 (by rw[HNL.out];have:=HFW.out;omega) (by rw[HNL.out];exact HF.out (by trivial))⟩⟩
   go_wp2;go_ret3;exact HP.out
  obtain⟨wo,rfl⟩:=zE5 (wr:World);go_wp2;go_loopg [13,14,15] T (fun gk p y i wr=>∃(V1 V2:Value) (I:Nat),V1=p∧V2=y∧I≤T∧gk=T-I∧i=.int .i64 I∧Hid (zao wr wo.heap.size V1 (rowF (fun j=>xs.getD (ps.getD (q j) 0).toNat 0) I))∧Hid (zao wr wo.heap.size V2 (zor ys q I))∧Hid (za0 V2 V1.ownBlock.toList)∧Hid (Below wo.heap.size wo wr))
  case atStart=>exact⟨_,_,0,rfl,rfl,by omega,rfl,rfl,Hd (zao.nil _ _),Hd (zao.nil _ _),Hd (zog _),Hd (Zaa _ _)⟩
  case round =>
   obtain⟨V1,V2,I,rfl,rfl,hI,rfl,rfl,HO1,HO2,HAP,HBR⟩:=hrel;have hsw:=HBR.out.size;by_cases hlt:I<T
   ·have hgo:=HV.out.1;have cl:=((HV.out.below HBR.out).2 I hlt).1;have hRQ:=HR.out.1 I hlt;obtain⟨R,hRe⟩:=zE4 (q I);rw[hRe] at cl hRQ;obtain⟨s,hs⟩:∃s,l[R]? = some s:=⟨_,zE1 (by rw[HL.out];exact hRQ)⟩;have hb1r:Below w1.heap.size w1 wr:=HB.out.trans (HBR.out.mono hsr);have hbw:Below w.heap.size w wr:=HB1.out.trans (hb1r.mono hs1);obtain⟨-,hcap,b,o,rfl,hb,hat⟩:=SRd.at (HS.out.below hbw).rd hs;have c0:wr.cell? ⟨b,o+R*2,none⟩=some (.int .i64 s.node):=hat 0 _ rfl;obtain⟨⟨hs0,hsn⟩,hst,hsd⟩:=HG.out.at hs;have hpn:=HPG.out R s hs;have hyn0:=HYG.out R s hs;obtain⟨x,hx⟩:∃x:Nat,s.node=(x:Int):=⟨s.node.toNat,by omega⟩;rw[hx] at c0 hsn hpn;have hxn:x<n:=by omega
    have hptx:=HPT.out x hxn;obtain⟨z,hzd⟩:=zE4 (xs.getD x 0);rw[hzd] at hptx;obtain⟨y,hy,hyd⟩:=zbt (l:=s.d) (i:=0) (by rw[hsd];exact Nat.one_pos);have hsrd:=HS.out.each s (Zad hs);unfold Sy.rd at hsrd;rw[hsd] at hsrd;obtain⟨sa,sd,hsa⟩:∃sa sd,sa=s.a∧sd=s.cp:=⟨_,_,rfl,rfl⟩;rw[←hsa.1,←hsa.2] at hsrd;obtain⟨bd,od,rfl,hbd,-⟩:=hsrd.at hy;obtain⟨zn,hzn⟩:=zE4 z.n;obtain⟨yn,hyn⟩:=zE4 y.n;rw[hzn] at hptx;have HPTX:=Hd hptx;obtain⟨v1,w6,hap1,ho1,hk1,hb6,hat1⟩:=zjo (W:=wr) (f:=fun j=>xs.getD (ps.getD (q j) 0).toNat 0) (J:=I) HO1.out (by omega) (by omega) (n:=zn) (by show (xs.getD (ps.getD (q I) 0).toNat 0).n=zn;rw[hRe,hpn,Zam,hzd,hzn]) (ad:=wr.heap.size) rfl;have ho2:zao w6 wo.heap.size V2 (zor ys q I):=zao.kp HO2.out hk1 HAP.out;have hap6:za0 V2 v1.ownBlock.toList:=zcu HAP.out (fun kk hkk=>(HO2.out.lt kk hkk).2) hat1;have hs6:=hk1.size;obtain⟨v2,w7,hap2,ho3,hk2,hb7,hat2⟩:=zjo (W:=w6) (f:=fun j=>ys.getD (q j) 0) (J:=I) ho2 (by omega) (by omega) (n:=yn) (by show (ys.getD (q I) 0).n=yn;rw[hRe,hyn0,hyd,hyn]) (ad:=w6.heap.size) rfl;have HO1':Hid (zao w7 wo.heap.size v1 (rowF (fun j=>xs.getD (ps.getD (q j) 0).toNat 0) (I+1))):=Hd (zao.kp ho1 hk2 (zca hap6));have HO2':Hid (zao w7 wo.heap.size v2 (zor ys q (I+1))):=Hd ho3;have HAP':Hid (za0 v2 v1.ownBlock.toList):=Hd (zca (zcu (zca hap6) (fun kk hkk=>(ho1.lt kk hkk).2) hat2));have hb46:=HBR.out.trans hb6;have HB7:Hid (Below wo.heap.size wo w7):=Hd (hb46.trans hb7);have cl6:=((HV.out.below hb46).2 I hlt).1;rw[hRe] at cl6;have hb06:Below w.heap.size w w6:=HB1.out.trans ((HB.out.trans (hb46.mono hsr)).mono hs1);obtain⟨_,_,e,-,cy⟩:=(hsrd.below hb06).at hy;cases e;rw[Nat.add_zero,hyn] at cy;obtain⟨-,-,_,_,e,-,hat6⟩:=SRd.at (HS.out.below hb06).rd hs;cases e;have d1:w6.cell? ⟨b,o+R*2+1,none⟩=some (.slice s.a s.d.length s.cp):=hat6 1 _ rfl;rw[hsd,←hsa.1,←hsa.2] at d1;have i1:(0:Int)≤(R:Int)∧(R:Int)<(Q:Int):=by omega
    have i3:(0:Int)≤(I:Int)∧(I:Int)<(T:Int):=by omega
    clear ho1 ho2 ho3 hk1 hk2 hb6 hb7 hat1 hat2 hb46 hb06 hap6 hx hy hyd hyn hzn hzd hRe hbw hb1r hs hat hat6 hs0 hsn hst hsd hpn hyn0 hsrd hsa hcap hptx;go_wp2_with (first|(at_builtin;first|refine zae rfl _ _ _ rfl rfl rfl hap1 ?_|refine zae rfl _ _ _ rfl rfl rfl hap2 ?_)|(go_at_call 57;(with_reducible refine (HPTX.out _).mono ?_);rintro e wx ⟨rfl,hwx⟩;subst hwx));go_roundg (T-(I+1))
    case measure=>omega
    case rel=>exact⟨v1,v2,I+1,rfl,rfl,by omega,rfl,by go_num,HO1',HO2',HAP',HB7⟩
   ·obtain rfl:I=T:=by omega
    have hb1r:Below w1.heap.size w1 wr:=HB.out.trans (HBR.out.mono hsr);have HBW:Hid (Below w.heap.size w wr):=Hd (HB1.out.trans (hb1r.mono hs1));have HB1R:=Hd hb1r;have HRG:Hid (Ris I ps.length q):=Hd (by rw[HNL.out];exact HR.out);have hpl0:(rowF (fun j=>xs.getD (ps.getD (q j) 0).toNat 0) I).length=I:=zaa _ _;have HTH:=Hd (zr7 V1 V2 (rowF (fun j=>xs.getD (ps.getD (q j) 0).toNat 0) I) (zor ys q I) wr HO1.out.rd HO2.out.rd (by
     rw[←zfh];exact zdn HND.out (zl0 HGP.out HRG.out)) (by rw[hpl0];omega) (by rw[hpl0,zor,zaa]))
    unfold zha at HTH;rw[←zfh] at HTH;have HV3:=Hd (HV.out.below HBR.out);clear hb1r hpl0;go_wp2_with fail;refine HTH.out.mono ?_;rintro e w6 ⟨v,p,rfl,hg6,hth6,hb6⟩;have hpl:p.length≤I:=by have:=hth6.2.1;rw[zfh,zaa] at this;exact this
    have HFIT:=Hd (zrx HND.out HGP.out HRG.out hpl hth6);have HB6:Hid (Below w.heap.size w w6):=Hd (HBW.out.trans (hb6.mono HBW.out.size));have HB46:Hid (Below w1.heap.size w1 w6):=Hd (HB1R.out.trans (hb6.mono HB1R.out.size));have HV6:=Hd (HV3.out.below hb6);have HG6:=Hd hg6;have HPL:=Hd hpl;have hsw6:=hb6.size;have HBO6:Hid (Below wo.heap.size wo w6):=Hd (HBR.out.trans (hb6.mono hsw));have hgo:=HV.out.1;have HXO:Hid (wo.heap[w.heap.size]? = some (.cells #[.int .i64 n,.int .i64 k,.int .i64 I] 32 (0,0))):=Hd ((HB.out.block w.heap.size hwb1).trans HX1.out);have HVO:=Hd HV.out;have HW6:=Hd (HLI.out v p w6 hg6.rd (by omega) (HS.out.below HB6.out) (fun s hs=>(HG.out.2 s hs).2));unfold zxn at HW6;have hx6:w6.heap[w.heap.size]? = some (.cells #[.int .i64 n,.int .i64 k,.int .i64 I] 32 (0,0)):=(HB46.out.block w.heap.size hwb1).trans HX1.out;have gl6:=lOH hx6;have y0:=cOH hx6 (j:=0) rfl;have y1:=cOH hx6 (j:=1) rfl;have y2:=cOH hx6 (j:=2) rfl;clear hg6 hth6 hb6 hpl HTH HO1 HO2 HAP HBR HV3 HV HBW HB1R hx6;go_wp2_with fail;refine HW6.out.mono ?_;rintro e w7 ⟨v2,rfl,hoz,hb7⟩;rw[ya2 (T:=I) HXL.out HGP.out] at hoz;obtain⟨zs,hzs⟩:=zE4 (wrS xs ps ys (zcf p I));rw[hzs] at hoz;obtain⟨L,hL⟩:=zE4 zs.length;obtain⟨av,cv,hvf⟩:∃av cv,v2=.slice av L cv:=by
     have:=hoz.rd.form
     rw[hL] at this;exact this
    subst hvf;have HZS:=Hd (Zao hzs hL);have HB7:Hid (Below w.heap.size w w7):=Hd (HB6.out.trans (hb7.mono HB6.out.size));have HB47:Hid (Below w1.heap.size w1 w7):=Hd (HB46.out.trans (hb7.mono HB46.out.size));have HV7:=Hd (HV6.out.below hb7);have HG7:Hid (zao w7 wo.heap.size v p):=Hd ((HG6.out.below hb7).mono hsw);have HZ7:=Hd hoz;have hap7:za0 (.slice av L cv) v.ownBlock.toList:=fun kk hkk hm=>by have h1:=(HG6.out.lt kk (by simpa using hm)).2;have h2:=(hoz.lt kk hkk).1;omega
    have HAP7:=Hd hap7;have hsw7:=hb7.size;have hwo:w.heap.size<wo.heap.size:=lOH HXO.out;have HBO7:Hid (Below wo.heap.size wo w7):=Hd (HBO6.out.trans (hb7.mono (by have:=HBO6.out.size;omega)));have hso7:=HBO7.out.size;obtain⟨PL,hPL⟩:=zE4 p.length;have HG8:Hid (zao w7 wo.heap.size v (zcf p PL)):=Hd (by rw[←hPL,zsr];exact HG7.out);have hplI:PL≤I:=by have:=HPL.out;omega
    have HPLL:=Hd hPL;clear hoz hzs hL hb7 hap7 hPL HG6 HG7 HV6 HV7 HB6 HB46 HBO6 HW6 y0 y1 y2 gl6;go_wp2;go_loopg [16] (I-PL) (fun gk v' wr=>∃(V:Value) (P:Nat),V=v'∧PL≤P∧P≤I∧gk=I-P∧Hid (zao wr wo.heap.size V (zcf p P))∧Hid (za4 wr w6.heap.size (.slice av L cv) zs)∧Hid (za0 (.slice av L cv) V.ownBlock.toList)∧Hid (Below wo.heap.size wo wr))
    case atStart=>exact⟨v,PL,rfl,zE3 _,hplI,rfl,HG8,HZ7,HAP7,HBO7⟩
    case round =>
     clear HG8 HZ7 HAP7 HBO7;obtain⟨V,P,rfl,hP1,hP2,rfl,HO,HZ,HA,HBO⟩:=hrel;have hso:=HBO.out.size;have hlen:(zcf p P).length=P:=zce p (by rw[HPLL.out];exact hP1);obtain⟨a1,e1,hVf⟩:∃a1 e1,V=.slice a1 P e1:=by obtain⟨a1,e1,h,-⟩:=HO.out.form;rw[hlen] at h;exact⟨a1,e1,h⟩
     have hx:=(HBO.out.block w.heap.size hwo).trans HXO.out;have gl:=lOH hx;have y2:=cOH hx (j:=2) rfl;by_cases hltc:P<I
     ·obtain⟨v3,w9,hap,ho,hk,hb9,hat⟩:=zcb (0:GF) HO.out (by rw[hlen];omega) hso (n:=0) rfl (ad:=wr.heap.size) rfl;have HO9:Hid (zao w9 wo.heap.size v3 (zcf p (P+1))):=Hd (by rw[zsq (by rw[HPLL.out];exact hP1)];exact ho);have HZ9:Hid (za4 w9 w6.heap.size (.slice av L cv) zs):=Hd (HZ.out.kp hk HA.out);have HA9:Hid (za0 (.slice av L cv) v3.ownBlock.toList):=Hd (zcu HA.out (fun kk hkk=>(HZ.out.lt kk hkk).2) hat);have HBO9:Hid (Below wo.heap.size wo w9):=Hd (HBO.out.trans hb9);subst hVf;clear ho hk hb9 hat hx hlen;go_wp2_with (at_builtin;refine zae rfl _ _ _ rfl rfl rfl hap ?_);go_roundg (I-(P+1))
      case measure=>omega
      case rel=>exact⟨v3,P+1,rfl,by omega,by omega,rfl,HO9,HZ9,HA9,HBO9⟩
     ·obtain rfl:P=I:=by omega
      have HBW:Hid (Below w.heap.size w wr):=Hd (HB1.out.trans ((HB.out.trans (HBO.out.mono hsr)).mono hs1));have HB1R:Hid (Below w1.heap.size w1 wr):=Hd (HB.out.trans (HBO.out.mono hsr));have HVR:=Hd (HVO.out.below HBO.out);have hsw1:w.heap.size≤w1.heap.size:=hs1;by_cases hgood:L≤tn
      ·have hLT':(L:Int)≤(tn:Int):=by omega
       have HP:Hid (Below w.heap.size w wr∧zmp w.heap.size n P xs (jn:Int) l (tn:Int) (.returned (.tuple #[V,.slice av L cv,.int .i64 0])) wr):=Hd ⟨HBW.out,.inr ⟨HGA.out,by
        rw[HPS.out.1,HPS.out.2];exact .inr ⟨HGB.out,.inr ⟨HFZ.out,.inl ⟨_,_,_,rfl,⟨hlen,by rw[Zam,HZS.out.1,HZS.out.2];exact hgood⟩,HO.out.mono (by omega),by rw[HZS.out.1];exact (RdZ.of_own HZ.out).mono (by omega)⟩⟩⟩⟩⟩
       subst hVf;clear hgood hx hlen;go_wp2;go_ret3;exact HP.out
      ·have hLT':¬(L:Int)≤(tn:Int):=by omega
       have HFAIL:Hid (zms xs ps ys P tn q):=Hd (zzi HND.out HGP.out HRG.out HFIT.out (by rw[HZS.out.1,HZS.out.2];exact hgood));have HNX:=Hd (zi1 g capg P Q q wr HVR.out (fun j hj=>HR.out.1 j hj) hkQ (by omega));subst hVf;clear hgood hx hlen;go_wp2_with fail;refine HNX.out.mono ?_;rintro e w9 ⟨hk9,⟨i,hi,hgi,hti,rfl,hv9⟩|⟨hti,rfl,hv9⟩⟩
       ·have HB9:Hid (Below w1.heap.size w1 w9):=Hd (HB1R.out.trans (hk9.below HB1R.out.size (by simp;exact HGG.out)));have HV9:=Hd hv9;have HR9:=Hd (zg0 HR.out hi hgi);have HM:Hid (E (nxt q i)<E q):=Hd (by
         rw[HE.out];have h1:=zmi P HR.out.1 (zvg (k:=P) (n:=Q) (l:=q) hi);have h2:=zfn P (zg0 HR.out hi hgi).1;simp only[];omega)
        have HT9:Hid (∀q',Ris P Q q'→Lx P q' (nxt q i)→zms xs ps ys P tn q'):=Hd fun q' h1 h2=>by
         rcases zl6 hi hti h1 h2 with h3|h3
         ·exact zk5 h3 HFAIL.out
         ·exact HT.out (by trivial) q' h1 h3
        clear hk9 hv9 HNX;go_wp2;go_roundg (E (nxt q i))
        case measure=>exact HM.out
        case rel=>exact⟨true,nxt q i,rfl,rfl,HV9,HR9,HB9,Hd (fun _=>HT9.out),Hd (fun h=>by cases h)⟩
       ·have HB9:Hid (Below w1.heap.size w1 w9):=Hd (HB1R.out.trans (hk9.below HB1R.out.size (by simp;exact HGG.out)));have HV9:=Hd hv9;have HM:Hid (0<E q):=Hd (by
         rw[HE.out];have h2:=zfn P HR.out.1;simp only[];omega)
        have HF9:Hid (∀q',Ris P Q q'→zms xs ps ys P tn q'):=Hd fun q' h1=>by
         rcases zjg hti h1 with h3|h3
         ·exact zk5 h3 HFAIL.out
         ·exact HT.out (by trivial) q' h1 h3
        clear hk9 hv9 HNX;go_wp2;go_roundg 0
        case measure=>exact HM.out
        case rel=>exact⟨false,q,rfl,rfl,HV9,HR,HB9,Hd (fun h=>by cases h),Hd (fun _=>HF9.out)⟩
theorem zun {n d:Nat} {xs:List GF} {to_:Int} {l:List Sy} {t c:Int} {m:List GF} {zs:List Int}:zgp n d xs to_ (l.map Sy.sk) t c m zs↔zgp n d xs to_ l t c m zs:=by unfold zgp;rw[zup,zlp,ydm]
theorem zev (n k d to_ t:Int) (hv:Value) (l:List Sy) (w:World) (hnb:I64 n∧I64 k∧I64 d) (ht:I64 t) (hl:zby w hv l) :
  Calls Tryz.prog 4 #[.int .i64 n,.int .i64 k,.int .i64 d,.int .i64 to_,hv,.int .i64 t] w fun e w'=>e=.returned (.bool true)∧Below w.heap.size w w':=by
 have HW:=Hd (yf6 w);have HFN:=Hd (fun W=>zjk W);have HNB:=Hd hnb;have HT:=Hd ht;have HL:=Hd hl;clear hnb ht hl;go_enter Tryz.func4,Tryz.ntmps4;go_wp2_with fail;refine (zds n k d w).mono ?_;rintro e w' ⟨b,rfl,rfl,hb⟩;have HBW:Hid (Below w.heap.size w w):=Hd (Zaa _ _);cases b
 ·clear hb;go_wp2_with fail;refine (HW.out _ HBW.out).mono ?_;rintro e w20 ⟨rfl,HB20⟩;go_wp2;go_ret;exact⟨rfl,HB20.out⟩
 have h9:=Hd (hb.1 rfl);clear hb;go_wp2_with fail;refine (zq0 hv l 9 9 w HL.out (by omega) (by omega)).mono ?_;rintro e w' ⟨b,rfl,rfl,hb⟩;cases b
 ·clear hb;go_wp2_with fail;refine (HW.out _ HBW.out).mono ?_;rintro e w20 ⟨rfl,HB20⟩;go_wp2;go_ret;exact⟨rfl,HB20.out⟩
 have hl9:=(hb.1 rfl).1;clear hb HBW;go_wp2_with fail;refine (HFN.out _).mono ?_;rintro e w1 ⟨fb,rfl,hfb0,hf1,hb1⟩;have HFO:=Hd hf1;have HB0:=Hd hb1;have HFB:=Hd hfb0;have hs1:=hf1.lt;clear hf1 hb1 hfb0;go_wp2_with fail;refine (zbo fb n k d w1 HFO.out HNB.out.1 HNB.out.2.1 HNB.out.2.2 (fun h=>by simp only[zbl];first|omega|(have:=h9.out;omega))).mono ?_;rintro e w2 ⟨hk2,hf2,hcase⟩;have HB2:Hid (Below w.heap.size w w2):=Hd (HB0.out.trans (hk2.below HB0.out.size (by have:=HFB.out;simp;omega)));have HF2:=Hd hf2;have hfl2:=hf2.lt;have hs2:=HB2.out.size;clear hk2 hf2 HFO HB0;rcases hcase with ⟨N,K,D,rfl,rfl,rfl,hNK,lb,t1,t2,pb,cv,cv2,rfl,hlb,hc2⟩|⟨hno,rfl⟩
 case inr =>
  have HBW:=HB2;clear hno;go_wp2_with fail;refine (HW.out _ HBW.out).mono ?_;rintro e w20 ⟨rfl,HB20⟩;go_wp2;go_ret;exact⟨rfl,HB20.out⟩
 have HC2:=Hd hc2;have HNK:=Hd hNK;have h99:=h9.out;clear hc2 hNK;have HOWN:=Hd (zi7 hv l w2 (HL.out.below HB2.out) (by omega));go_wp2_with fail;refine HOWN.out.mono ?_;rintro e w4 ⟨ov,l',rfl,hos,hb4,hn4,hd4⟩;have HSK:=Hd (yap hn4 hd4);have HND:=Hd (Zao hn4 hd4);have hll:l'.length=l.length:=by have:=congrArg List.length hn4;simpa[Sy.nodes] using this
 have HLL:=Hd hll;have HB4:Hid (Below w.heap.size w w4):=Hd (HB2.out.trans (hb4.mono HB2.out.size));have HC4:=Hd (HC2.out.below hb4);have HSA:=Hd (hos.apart (S:=[fb]) (by simp;omega));have HO4:=Hd hos.all;have hs4:=hb4.size;clear hos hb4 hn4 hd4 hll HOWN HC2;have HND2:=Hd (zay (n:=N) (by omega));go_wp2_with fail;refine (zjb w4 lb t1 t2 fb pb N K D cv cv2 ov to_ t l' HC4.out HNK.out HND2.out HO4.out (by rw[HLL.out];omega) HT.out).mono ?_;rintro e w6 ⟨hk6,hf6,his⟩;obtain⟨c1,m1,zs1,v1,v2,rfl,hr1,ho1,hz1⟩:=his.is;have HR1:=Hd (zun.2 hr1);have HB6:Hid (Below w.heap.size w w6):=Hd (HB4.out.trans (hk6.below (by omega) (by have:=HFB.out;simp;omega)));have HG6:=Hd ho1;have HZ6:=Hd hz1;have HO6:=Hd (zby.kp HO4.out hk6 HSA.out);have HZL:=Hd (hr1.len (by rw[HLL.out];omega));have hs6:=hk6.size;clear hk6 hf6 his hr1 ho1 hz1 HC4 HO4;go_wp2_with fail;refine (zr9 N K D to_ hv l t w6 (by have:=HNK.out;omega) (HL.out.below HB6.out) (by omega) HT.out).mono ?_;rintro e w7 ⟨hb7,hr2⟩;obtain⟨c2,m2,zs2,v3,v4,rfl,hr3,ho2,hz2⟩:=zhe.is (show zhe w6.heap.size N D (za9 N) to_ l t e w7 from hr2);obtain⟨rfl,rfl,rfl⟩:=zgp.one HND2.out (by rw[←HSK.out];exact HR1.out) (zun.2 hr3);have HB7:Hid (Below w.heap.size w w7):=Hd (HB6.out.trans (hb7.mono HB6.out.size));have HG7:=Hd (HG6.out.rd.below hb7);have HH7:=Hd ho2.rd;have HZ7:=Hd (HZ6.out.below hb7).rd;have HY7:=Hd hz2.rd;have HO7:=Hd (HO6.out.below hb7);have hs7:=hb7.size;clear hb7 hr2 hr3 ho2 hz2 HR1 HG6 HZ6 HO6;go_wp2_with fail;refine (zfx _ _ m1 w7 HG7.out HH7.out).mono ?_;rintro e w8 ⟨rfl,rfl⟩;have HSI:Hid (Calls Tryz.prog 25 #[v2,v4] w7 (zmu true w7)):=Hd (by
  have:=zfy v2 v4 zs1 zs1 w7 HZ7.out HY7.out (by have:=HZL.out;omega) (by have:=HZL.out;omega)
  rwa[decide_eq_true rfl] at this)
 go_wp2_with fail;refine HSI.out.mono ?_;rintro e w9 ⟨rfl,hb9⟩;have HB9:Hid (Below w.heap.size w w9):=Hd (HB7.out.trans (hb9.mono HB7.out.size));have HO9:=Hd (HO7.out.below hb9);clear hb9 HSI HG7 HH7 HZ7 HY7 HO7;go_wp2_with fail;refine (zhj ov hv l' l w9 HO9.out (HL.out.below HB9.out) (by rw[HLL.out];omega)).mono ?_;rintro e w11 ⟨b,rfl,hb11,hbb⟩;obtain rfl:b=true:=hbb.2 HND.out;have HBW:Hid (Below w.heap.size w w11):=Hd (HB9.out.trans (hb11.mono HB9.out.size));clear hb11 hbb;go_wp2_with fail;refine (HW.out _ HBW.out).mono ?_;rintro e w20 ⟨rfl,HB20⟩;go_wp2;go_ret;exact⟨rfl,HB20.out⟩
end Go.Proofs.YtcclhhjcejmepaaGreat
namespace Go.Proofs.YtcclhhjcejmepaaGreat
open Go.RowKit
end Go.Proofs.YtcclhhjcejmepaaGreat
