import Derived.Test.YtcclhhjcejmepaaGreatZR10f
import Derived.Test.YtcclhhjcejmepaaGreatZWorks
set_option linter.all false
set_option maxRecDepth 100000
set_option maxHeartbeats 8000000
namespace Go.Proofs.YtcclhhjcejmepaaGreat
open Go.RowKit Fld
noncomputable def ztc (l:List Sy) (q:Nat→Nat) (D I:Nat):List GF:=rowF (fun r=>(l.getD (q (r / D)) default).d.getD (r % D) 0) (I*D)
theorem zrc (l:List Sy) (q:Nat→Nat) (D I:Nat):(ztc l q D I).length=I*D:=zaa _ _
theorem ycv {l:List Sy} {q:Nat→Nat} {D I j k:Nat} (hj:j<I) (hk:k<D):(ztc l q D I).getD (j*D+k) 0=(l.getD (q j) default).d.getD k 0:=by rw[ztc,zam _ (zaz hj hk)];rw[show (j*D+k) / D=j by rw[Zci,Nat.mul_add_div (by omega),Nat.div_eq_of_lt hk,Nat.add_zero],show (j*D+k) % D=k by rw[Zci,Nat.mul_add_mod,Zbl hk]]
theorem zkl {s:List GF} {D:Nat} (h:s.length=D):rowF (fun k=>s.getD k 0) D=s:=by subst h;refine Zco (by rw[zaa]) fun i h1 h2=>?_;simp[rowF,zE2,h2]
theorem zw6 {l:List Sy} {q:Nat→Nat} {D I:Nat} {s:Sy} (hs:l[q I]? = some s) (hd:s.d.length=D) (hD:0<D):ztc l q D (I+1)=ztc l q D I++s.d:=by
 have e:l.getD (q I) default=s:=by rw[zE2,hs];rfl
 unfold ztc;rw[Nat.succ_mul,zh3];congr 1;have h:rowF (fun e=>(l.getD (q ((I*D+e) / D)) default).d.getD ((I*D+e) % D) 0) D=rowF (fun k=>s.d.getD k 0) D:=zd1 fun k hk=>by rw[show (I*D+k) / D=I by rw[Zci,Nat.mul_add_div hD,Nat.div_eq_of_lt hk,Nat.add_zero],show (I*D+k) % D=k by rw[Zci,Nat.mul_add_mod,Zbl hk],e]
 rw[h];exact zkl hd
theorem zpd (K D:Nat) (x:GF):zau K D (rowF (fun _=>0) (mbB K D)) x=rowF (fun _=>0) D:=by unfold zau;refine zd1 fun c _=>?_;rw[zwa];exact zow fun q hq=>by rw[zam _ hq,mzero]
theorem ybr {D:List (List GF)} {f:Nat→List GF} {l:List Sy} {N:Nat} (hl:D.length=N) (hf:∀i,i<N→D.getD i []=f i) (hg:zbc N (Sy.nodes l)):oth D l N=wrD f l:=by
 have hn:∀s∈l,D.getD s.node.toNat []=f s.node.toNat∧0≤s.node∧s.node<(N:Int):=fun s hs=>by
  have:=hg.1 s.node (Zau.2 ⟨s,hs,rfl⟩)
  exact⟨hf _ (by omega),this.1,this.2⟩
 refine zd9 (zl3 hg.2 N) (yad hg.2) fun x=>?_;rw[zty,zl4];constructor
 ·rintro ⟨s,hs,e,-,h2⟩;exact⟨s,hs,e,by rw[←(hn s hs).1];simpa[bad] using h2⟩
 ·rintro ⟨s,hs,e,h2⟩;exact⟨s,hs,e,by rw[←e];exact (hn s hs).2,by rw[←(hn s hs).1] at h2;simpa[bad] using h2⟩
section
variable {n T D tn:Nat} {l:List Sy} {q:Nat→Nat}
theorem zvi {Q:Nat} (hg:zbc n (Sy.nodes l)) (hq:Ris T Q q) (hQ:l.length=Q):((List.range T).map fun j=>((Sy.nodes l).getD (q j) 0).toNat).Nodup∧∀i∈(List.range T).map (fun j=>((Sy.nodes l).getD (q j) 0).toNat),i<n:=by
 subst hQ;have hla:∀j,j<T→q j<(Sy.nodes l).length:=fun j hj=>by simpa[Sy.nodes] using hq.1 j hj
 have hr:∀j,j<T→0≤(Sy.nodes l).getD (q j) 0∧(Sy.nodes l).getD (q j) 0<(n:Int):=fun j hj =>
  hg.1 ((Sy.nodes l).getD (q j) 0) (by rw[zE2,zE1 (hla j hj)];exact Zbx _)
 constructor
 ·refine Zbz.2 (List.nodup_range.imp_of_mem fun {a b} ha hb hne e=>hne ?_);have ha:=Zaj.1 ha;have hb:=Zaj.1 hb;have g1:=hr a ha;have g2:=hr b hb;exact zo4 hq ha hb (zgd hg.2 (hla a ha) (hla b hb) (by omega))
 ·intro i hi;obtain⟨j,hj,rfl⟩:=Zau.1 hi;have g1:=hr j (Zaj.1 hj);omega
theorem zpb {Q:Nat} (hTD:T≤D) (hn:n≤255) (hg:zbc n (Sy.nodes l)) (hq:Ris T Q q) (hQ:l.length=Q) {m:List GF} (hm:m.length=mbB T D) {p:Nat} (hp:p<mbB T D) (hx:m.getD p 0≠0) (h:∀j,j<T→zau T D m (pw GF.two ((Sy.nodes l).getD (q j) 0).toNat)=rowF (fun _=>0) D):False:=by
 obtain⟨h1,h2⟩:=zvi hg hq hQ;have e:=zqy hTD (zay hn) (zbd n) m (rowF (fun _=>0) (mbB T D)) hm (zaa _ _) _ h1 h2 (by simp) fun i hi=>by obtain⟨j,hj,rfl⟩:=Zau.1 hi;have hj:=Zaj.1 hj;show zau T D m ((za9 n).getD _ 0)=zau T D (rowF (fun _=>0) (mbB T D)) ((za9 n).getD _ 0);rw[zfi (h2 _ hi),h j hj,zpd]
 rw[e,zam _ hp] at hx;exact hx rfl
end
theorem zr2 {n T D:Nat} {l:List Sy} {q:Nat→Nat} {m:List GF} (hn:n≤255) (hg:zar n (-1) D l) (hq:∀j,j<T→q j<l.length) (hD:0<D):(∀j,j<T→zau T D m (pw GF.two ((zh2 (Sy.nodes l) q T).getD j 0).toNat)=rowF (fun k=>(ztc l q D T).getD (j*D+k) 0) D)↔∀j,j<T→∀s,l[q j]? = some s→s.d=mbF n T D m s.node.toNat:=by
 have key:∀j s,j<T→l[q j]? = some s→((zh2 (Sy.nodes l) q T).getD j 0)=s.node∧(za9 n).getD s.node.toNat 0=pw GF.two s.node.toNat∧rowF (fun k=>(ztc l q D T).getD (j*D+k) 0) D=s.d:=fun j s hj hs=>by
  obtain⟨h0,-,hd⟩:=hg.at hs;have e:l.getD (q j) default=s:=by rw[zE2,hs];rfl
  refine⟨by rw[zh1 _ _ hj];exact zc9 hs,zfi (by omega),?_⟩;rw[←zkl hd];exact zd1 fun k hk=>by rw[ycv hj hk,e]
 constructor
 ·intro h j hj s hs;obtain⟨h1,h2,h3⟩:=key j s hj hs;have:=h j hj;rw[h1,h3] at this;unfold mbF;rw[h2];exact this.symm
 ·intro h j hj;obtain⟨s,hs⟩:∃s,l[q j]? = some s:=⟨_,zE1 (hq j hj)⟩;obtain⟨h1,h2,h3⟩:=key j s hj hs;have:=h j hj s hs;unfold mbF at this;rw[h1,h3,this,h2]
def zhb (n k d:Nat) (l:List Sy) (t:Int) (w:World) (e:Ending) (w':World):Prop:=Below w.heap.size w w'∧zdc w.heap.size n k d l t e w'
theorem zsj (n T D:Nat) (hv:Value) (l:List Sy) (t:Int) (w:World) (hn:1≤T∧T≤D∧D<n∧n≤9) (hl:zby w hv l) (hll:l.length≤256) (ht:-9223372036854775808≤t∧t≤9223372036854775807) :
  Calls Tryz.prog 28 #[rb n T D,hv,.int .i64 t] w (zhb n T D l t w):=by
 obtain⟨wb,hwb⟩:=zE5 (w.alloc (.cells #[.int .i64 n,.int .i64 T,.int .i64 D] 32));have hbb:Below w.heap.size w wb:=by rw[hwb];exact (Zaa _ _).alloc (zE3 _) _
 have hbx:wb.heap[w.heap.size]? = some (.cells #[.int .i64 n,.int .i64 T,.int .i64 D] 32 (0,0)):=by rw[hwb];exact nwA _ _
 have HROW:=Hd (zne n hv l (-1) D wb (hl.below hbb) (by omega));unfold zcz at HROW;rw[hwb] at HROW;have hnl:(Sy.nodes l).length=l.length:=by simp[Sy.nodes]
 have HMS:=Hd (fun W nv dv ns ys=>zsc W n T D nv dv ns ys hn);have HEN:=Hd (fun W mv m=>zi4 W n T D mv m (by omega));have HWR:=Hd (fun W av S=>zo3 av hv S l W);obtain⟨ah,ch,rfl⟩:=hl.rd.form;obtain⟨Q,hQ⟩:=zE4 l.length;have HL:=Hd hQ;have HS:=Hd hl;have HWB:=Hd hwb;have HBX:=Hd (Zao hbb hbx);have HNL:=Hd (hnl.trans hQ);obtain⟨hT1,hTD,hDn,hn9⟩:=hn;rw[hQ] at HS HROW HWR hll ⊢;clear hl hwb hbb hbx hQ hnl;by_cases ht0:t<0
 ·go_enter Tryz.func28,Tryz.ntmps28;go_wp2;go_ret3;exact⟨by (repeat' (first|with_reducible (first|exact Zaa _ _|assumption|refine Zac ?_|refine Zab ?_ ?_ _)|omega|(simp;done)|(simp;omega))),.inl ⟨fun h=>by omega,rfl⟩⟩
 obtain⟨tn,rfl⟩:∃tn:Nat,t=(tn:Int):=⟨t.toNat,by omega⟩;go_enter Tryz.func28,Tryz.ntmps28;go_wp2_with fail;refine HROW.out.mono ?_;rintro e w1 ⟨b,rfl,hb1,hbi⟩;rw[←HWB.out] at hb1;have hbw1:Below w.heap.size w w1:=HBX.out.1.trans (hb1.mono HBX.out.1.size);have HB1:=Hd hbw1;have HX1:=Hd (zad hb1 HBX.out.2);have HBI:=Hd hbi;clear hb1 hbw1 hbi HROW;cases b
 ·have HNG:Hid (¬zar n (-1) D l):=Hd fun h=>by have:=HBI.out.2 h;cases this
  go_wp2;go_ret3;exact⟨HB1.out,.inl ⟨fun h=>HNG.out h.2,rfl⟩⟩
 have HG:=Hd (HBI.out.1 (by trivial));clear HBI;have HGA:Hid ((0:Int)≤(tn:Int)∧zar n (-1) D l):=Hd ⟨by omega,HG.out⟩;have hx1:=lOH HX1.out;have y0:=cOH HX1.out (j:=0) rfl;have y1:=cOH HX1.out (j:=1) rfl;have y2:=cOH HX1.out (j:=2) rfl;by_cases hf:(Q:Int)<(tn:Int)
 ·have HF:Hid (((l.length:Nat):Int)<(T:Int)+2*(tn:Int)):=Hd (by rw[HL.out];omega);go_wp2;go_ret3;exact⟨HB1.out,.inr ⟨HGA.out,.inl ⟨HF.out,rfl⟩⟩⟩
 obtain⟨T2,hT2⟩:=zE4 (2*tn);obtain⟨U,hU⟩:=zE4 (T+T2);have x1:(2:Int)*(tn:Int)=(T2:Int):=by omega
 have x2:=zE6 (T2:Int) (by omega);have x3:(T:Int)+(T2:Int)=(U:Int):=by omega
 have x4:=zE6 (U:Int) (by omega);by_cases hfew:Q<U
 ·have hfew':(Q:Int)<(U:Int):=by omega
  have HF:Hid (((l.length:Nat):Int)<(T:Int)+2*(tn:Int)):=Hd (by rw[HL.out];omega);clear hfew hT2 hU;go_wp2;go_ret3;exact⟨HB1.out,.inr ⟨HGA.out,.inl ⟨HF.out,rfl⟩⟩⟩
 have hfew':¬(Q:Int)<(U:Int):=by omega
 have HFW:Hid (T+2*tn≤Q):=Hd (by omega);have hkQ:T≤Q:=by omega
 have HFZ:Hid ((T:Int)+2*(tn:Int)≤((l.length:Nat):Int)):=Hd (by rw[HL.out];omega);have hd2:decide (Q<U)=false:=by simp;omega
 have HFI:=Hd (zko T w1 (by omega));clear hfew hT2 hU ht;go_wp2_with fail;refine HFI.out.mono ?_;rintro e w5 ⟨lv,rfl,hol,hb5⟩;obtain⟨g,capg,rfl,hg1,hg2,hgv⟩:=za4.view hol hT1;have HV2:=Hd hgv;have HB5:=Hd hb5;have HGG:Hid (w1.heap.size≤g):=Hd hg1;have hs1:=HB1.out.size;have hwb1:w.heap.size<w1.heap.size:=lOH HX1.out;clear hgv hb5 hol hg1 HFI y0 y1 y2 hx1;obtain⟨E,hE⟩:∃E:(Nat→Nat)→Nat,E=fun q=>Q ^ T-zn6 Q q T:=⟨_,rfl⟩;have HE:=Hd hE;clear hE;obtain⟨ps,hps⟩:=zE4 (Sy.nodes l);have hpg:∀I s,l[I]? = some s→ps.getD I 0=s.node:=fun I s hs=>by rw[←hps];exact zc9 hs
 have HPG:=Hd hpg;have HPS:=Hd hps;clear hps hpg;go_wp2;clear x1 x2 x3 x4 hfew' hf ht0 hd2;go_loopg [10] (E (fun j=>j)) (fun gk s wr=>∃(b:Bool) (q:Nat→Nat),s=.bool b∧gk=cond b (E q) 0∧Hid (zco wr g T q)∧Hid (Ris T Q q)∧Hid (Below w1.heap.size w1 wr)∧Hid (b=true→∀q',Ris T Q q'→Lx T q' q→zep (zmc T D) (mbF n T D) l T tn q')∧Hid (b=false→∀q',Ris T Q q'→zep (zmc T D) (mbF n T D) l T tn q'))
 case atStart=>exact⟨true,fun j=>j,rfl,rfl,HV2,Hd (zn3 hkQ),HB5,Hd (fun _ q' h1 h2=>absurd h2 (zk2 h1)),Hd (fun h=>by cases h)⟩
 case round =>
  clear HV2 HB5;obtain⟨b,q,rfl,rfl,HV,HR,HB,HT,HF⟩:=hrel;have hsr:=HB.out.size;cases b
  ·have HP:Hid (zhb n T D l (tn:Int) w (.returned (.tuple #[.slice none 0 0,.slice none 0 0,.int .i64 80])) wr):=Hd ⟨HB1.out.trans (HB.out.mono hs1),.inr ⟨HGA.out,.inr ⟨HFZ.out,.inr ⟨rfl,by
    rw[Zam];exact zxh (k:=T) (by rw[HL.out];have:=HFW.out;omega) (by rw[HL.out];exact HF.out (by trivial))⟩⟩⟩⟩
   go_wp2;go_ret3;exact HP.out
  obtain⟨wo,rfl⟩:=zE5 (wr:World);go_wp2;go_loopg [11,12,13] T (fun gk p y i wr=>∃(V1 V2:Value) (I:Nat),V1=p∧V2=y∧I≤T∧gk=T-I∧i=.int .i64 I∧Hid (za4 wr wo.heap.size V1 (zh2 ps q I))∧Hid (zao wr wo.heap.size V2 (ztc l q D I))∧Hid (za0 V2 V1.ownBlock.toList)∧Hid (Below wo.heap.size wo wr))
  case atStart=>exact⟨_,_,0,rfl,rfl,by omega,rfl,rfl,Hd (za4.nil _ _),Hd (by unfold ztc;rw[Nat.zero_mul];exact zao.nil _ _),Hd (zog _),Hd (Zaa _ _)⟩
  case round =>
   obtain⟨V1,V2,I,rfl,rfl,hI,rfl,rfl,HO1,HO2,HAP,HBR⟩:=hrel;have hsw:=HBR.out.size;by_cases hlt:I<T
   ·have hgo:=HV.out.1;have cl:=((HV.out.below HBR.out).2 I hlt).1;have hRQ:=HR.out.1 I hlt;obtain⟨R,hRe⟩:=zE4 (q I);obtain⟨s,hs⟩:∃s,l[q I]? = some s:=⟨_,zE1 (by rw[HL.out];exact hRQ)⟩;have hsq:=hs;rw[hRe] at cl hRQ hs;have hb1r:Below w1.heap.size w1 wr:=HB.out.trans (HBR.out.mono hsr);have hbw:Below w.heap.size w wr:=HB1.out.trans (hb1r.mono hs1);obtain⟨-,hcap,b,o,rfl,hb,hat⟩:=SRd.at (HS.out.below hbw).rd hs;have c0:wr.cell? ⟨b,o+R*2,none⟩=some (.int .i64 s.node):=hat 0 _ rfl;obtain⟨⟨hs0,hsn⟩,hst,hsd⟩:=HG.out.at hs;have hpn:=HPG.out R s hs;have hsrd:=HS.out.each s (Zad hs);unfold Sy.rd at hsrd;rw[hsd] at hsrd;obtain⟨sa,sd,hsa⟩:∃sa sd,sa=s.a∧sd=s.cp:=⟨_,_,rfl,rfl⟩;rw[←hsa.1,←hsa.2] at hsrd;obtain⟨y,hy,-⟩:=zbt (l:=s.d) (i:=0) (by rw[hsd];omega);obtain⟨bd,od,rfl,hbd,-⟩:=hsrd.at hy;obtain⟨v1,w6,hap1,ho1,hk1,hb6,hat1⟩:=zdf (W:=wr) s.node HO1.out (by rw[zes];omega) (by omega) (ad:=wr.heap.size) rfl;have ho2:zao w6 wo.heap.size V2 (ztc l q D I):=zao.kp HO2.out hk1 HAP.out;have hap6:za0 V2 v1.ownBlock.toList:=zcu HAP.out (fun kk hkk=>(HO2.out.lt kk hkk).2) hat1;have hs6:=hk1.size;have hb46:=HBR.out.trans hb6;have hb06:Below w.heap.size w w6:=HB1.out.trans ((HB.out.trans (hb46.mono hsr)).mono hs1);have hIT:I*D≤81:=Zat (Zai (show I≤9 by omega) (show D≤9 by omega)) (by omega);obtain⟨v2,w7,hap2,ho3,hk2,hb7,hat2⟩:=zdt ho2 (hsrd.below hb06) (by rw[zrc];omega) (by rw[hsd];omega) (by omega);have HO1':Hid (za4 w7 wo.heap.size v1 (zh2 ps q (I+1))):=Hd (by
     rw[zuw,hRe,hpn];exact za4.kp ho1 hk2 (zca hap6))
    have HO2':Hid (zao w7 wo.heap.size v2 (ztc l q D (I+1))):=Hd (by rw[zw6 hsq hsd (by omega)];exact ho3);have HAP':Hid (za0 v2 v1.ownBlock.toList):=Hd (fun kk hkk hm=>by
     rcases hat2 with h|h
     ·rw[h] at hkk;exact hap6 kk hkk hm
     ·rw[h] at hkk;have h1:=(ho1.lt kk (by simpa using hm)).2;have h2:=Zcd hkk;omega)
    have HB7:Hid (Below wo.heap.size wo w7):=Hd (hb46.trans hb7);have cl6:=((HV.out.below hb46).2 I hlt).1;rw[hRe] at cl6;obtain⟨-,-,_,_,e,-,hat6⟩:=SRd.at (HS.out.below hb06).rd hs;cases e;have d1:w6.cell? ⟨b,o+R*2+1,none⟩=some (.slice s.a s.d.length s.cp):=hat6 1 _ rfl;rw[hsd,←hsa.1,←hsa.2] at d1;have i1:(0:Int)≤(R:Int)∧(R:Int)<(Q:Int):=by omega
    have i3:(0:Int)≤(I:Int)∧(I:Int)<(T:Int):=by omega
    obtain⟨x,hx⟩:=zE4 s.node;rw[hx] at c0 hap1;clear ho1 ho2 ho3 hk1 hk2 hb6 hb7 hat1 hat2 hb46 hb06 hap6 hx hy hRe hbw hb1r hs hsq hat hat6 hs0 hsn hst hsd hpn hsrd hsa hcap hIT;go_wp2_with (at_builtin;first|refine zae rfl _ _ _ rfl rfl rfl hap1 ?_|refine zae rfl _ _ _ rfl rfl rfl hap2 ?_);go_roundg (T-(I+1))
    case measure=>omega
    case rel=>exact⟨v1,v2,I+1,rfl,rfl,by omega,rfl,by go_num,HO1',HO2',HAP',HB7⟩
   ·obtain rfl:T=I:=by omega
    have hb1r:Below w1.heap.size w1 wr:=HB.out.trans (HBR.out.mono hsr);have HBW:Hid (Below w.heap.size w wr):=Hd (HB1.out.trans (hb1r.mono hs1));have HB1R:=Hd hb1r;have hql:∀j,j<T→q j<l.length:=fun j hj=>by rw[HL.out];exact HR.out.1 j hj
    have HSI:=Hd (fun m=>zr2 (n:=n) (T:=T) (D:=D) (l:=l) (q:=q) (m:=m) (by omega) HG.out hql (by omega));have HV3:=Hd (HV.out.below HBR.out);have hx7:=(hb1r.block w.heap.size hwb1).trans HX1.out;have gl:=lOH hx7;have y0:=cOH hx7 (j:=0) rfl;have y1:=cOH hx7 (j:=1) rfl;have y2:=cOH hx7 (j:=2) rfl;have HMSG:=Hd (HMS.out wr V1 V2 (zh2 ps q T) (ztc l q D T) HO1.out.rd (zes _ _ _) (fun x hx=>by
     unfold zh2 at hx;obtain⟨j,hj,rfl⟩:=Zau.1 hx;have hj:=hql j (Zaj.1 hj);obtain⟨s,hs⟩:∃s,l[q j]? = some s:=⟨_,zE1 hj⟩;rw[HPG.out _ s hs];exact (HG.out.at hs).1) HO2.out.rd (zrc _ _ _ _))
    unfold ze1 at HMSG;clear hb1r hx7 HO1 HO2 HAP HBR HV hql;go_wp2_with fail;refine HMSG.out.mono ?_;rintro e w9 ⟨hb9,⟨mv,m,rfl,hom,hml,hsh⟩|⟨rfl,hbad⟩⟩
    ·have hr9:∀j,j<T→∀s,l[q j]? = some s→s.d=mbF n T D m s.node.toNat:=(HSI.out m).1 (by rw[HPS.out];exact hsh);have HR9:=Hd hr9;have HML:=Hd hml;have HB6:Hid (Below w.heap.size w w9):=Hd (HBW.out.trans (hb9.mono HBW.out.size));have HB16:Hid (Below w1.heap.size w1 w9):=Hd (HB1R.out.trans (hb9.mono HB1R.out.size));have HV6:=Hd (HV3.out.below hb9);have HOM:Hid (zao w9 w.heap.size mv m):=Hd (hom.mono HBW.out.size);have HENC:=Hd (HEN.out w9 mv m hom.rd (by rw[hml];have:mbB T D≤81:=(by rw[zhl hTD];have:T*D≤9*9:=Zai (by omega) (by omega);omega);omega));unfold zgl at HENC;have hx7:=(HB16.out.block w.heap.size hwb1).trans HX1.out;clear y0 y1 y2 gl;have gl:=lOH hx7;have y0:=cOH hx7 (j:=0) rfl;have y1:=cOH hx7 (j:=1) rfl;have y2:=cOH hx7 (j:=2) rfl;clear hx7 hr9 hml hsh hb9 hom HMSG HV3 HBW HB1R HSI;go_wp2_with fail;refine HENC.out.mono ?_;rintro e w7 ⟨hb7,⟨hne,-⟩|⟨-,av,S,rfl,hro,hmap⟩⟩
     ·exact absurd HML.out hne
     have hSl:S.length=n:=by have:=congrArg List.length hmap;simpa using this
     have HB7:Hid (Below w.heap.size w w7):=Hd (HB6.out.trans (hb7.mono HB6.out.size));have HB17:Hid (Below w1.heap.size w1 w7):=Hd (HB16.out.trans (hb7.mono HB16.out.size));have HWG:=Hd (HWR.out w7 av S hro.all (HS.out.below HB7.out) (by omega) (by omega));rw[hSl] at HWG;have HOT:Hid (oth (S.map Ro.d) l n=wrD (mbF n T D m) l):=Hd (ybr (by rw[Zag,hSl]) (fun i hi=>by
      rw[hmap,zE2,Zae,Zax hi];show zau T D m (pw GF.two i)=zau T D m ((za9 n).getD i 0);rw[zfi hi]) HG.out.1)
     rw[HOT.out] at HWG;have HV7:=Hd (HV6.out.below hb7);have HOM7:=Hd (HOM.out.below hb7);clear hb7 hro hmap hSl HENC HOT HV6 HOM y0 y1 y2 gl;go_wp2_with fail;refine HWG.out.mono ?_;rintro e w9 ⟨v2,rfl,hoz,hb9⟩;obtain⟨L,hL⟩:=zE4 ((wrD (mbF n T D m) l).length);obtain⟨av2,cv2,hvf⟩:∃av cv,v2=.slice av L cv:=by
      have:=hoz.rd.form
      rw[hL] at this;exact this
     have HB8:Hid (Below w.heap.size w w9):=Hd (HB7.out.trans (hb9.mono HB7.out.size));have HB9:Hid (Below w1.heap.size w1 w9):=Hd (HB17.out.trans (hb9.mono HB17.out.size));have HV9:=Hd (HV7.out.below hb9);have HOM8:=Hd (HOM7.out.below hb9);have HZZ:Hid (RdZ w9 w.heap.size v2 (wrD (mbF n T D m) l)):=Hd ((RdZ.of_own hoz).mono HB7.out.size);have HLL:=Hd hL;clear hb9 hoz hL HV7 HOM7 HWG;by_cases hgood:L≤tn
     ·have hLT':(L:Int)≤(tn:Int):=by omega
      have HP:Hid (zhb n T D l (tn:Int) w (.returned (.tuple #[mv,v2,.int .i64 0])) w9):=Hd ⟨HB8.out,.inr ⟨HGA.out,.inr ⟨HFZ.out,.inl ⟨m,mv,v2,rfl,⟨HML.out,by rw[Zam,HLL.out];exact hgood⟩,HOM8.out,HZZ.out⟩⟩⟩⟩;subst hvf;clear hgood;go_wp2;go_ret3;exact HP.out
     ·have hLT':¬(L:Int)≤(tn:Int):=by omega
      have HFAIL:Hid (zep (zmc T D) (mbF n T D) l T tn q):=Hd (zww (zqy hTD (zay (by omega)) (zbd n)) HG.out.1 (by rw[HL.out];exact HR.out) HML.out HR9.out (by rw[HLL.out];exact hgood));subst hvf;clear hgood;have HNX:=Hd (zi1 g capg T Q q w9 HV9.out (fun j hj=>HR.out.1 j hj) hkQ (by omega));go_wp2_with fail;refine HNX.out.mono ?_;rintro e wn ⟨hkn,⟨i,hi,hgi,hti,rfl,hvn⟩|⟨hti,rfl,hvn⟩⟩
      ·have HBN:Hid (Below w1.heap.size w1 wn):=Hd (HB9.out.trans (hkn.below HB9.out.size (by simp;exact HGG.out)));have HVN:=Hd hvn;have HRN:=Hd (zg0 HR.out hi hgi);have HM:Hid (E (nxt q i)<E q):=Hd (by
        rw[HE.out];have h1:=zmi T HR.out.1 (zvg (k:=T) (n:=Q) (l:=q) hi);have h2:=zfn T (zg0 HR.out hi hgi).1;simp only[];omega)
       have HTN:Hid (∀q',Ris T Q q'→Lx T q' (nxt q i)→zep (zmc T D) (mbF n T D) l T tn q'):=Hd fun q' h1 h2=>by
        rcases zl6 hi hti h1 h2 with h3|h3
        ·exact zep.congr h3 HFAIL.out
        ·exact HT.out (by trivial) q' h1 h3
       clear hkn hvn HNX;go_wp2;go_roundg (E (nxt q i))
       case measure=>exact HM.out
       case rel=>exact⟨true,nxt q i,rfl,rfl,HVN,HRN,HBN,Hd (fun _=>HTN.out),Hd (fun h=>by cases h)⟩
      ·have HBN:Hid (Below w1.heap.size w1 wn):=Hd (HB9.out.trans (hkn.below HB9.out.size (by simp;exact HGG.out)));have HVN:=Hd hvn;have HM:Hid (0<E q):=Hd (by
        rw[HE.out];have h2:=zfn T HR.out.1;simp only[];omega)
       have HFN:Hid (∀q',Ris T Q q'→zep (zmc T D) (mbF n T D) l T tn q'):=Hd fun q' h1=>by
        rcases zjg hti h1 with h3|h3
        ·exact zep.congr h3 HFAIL.out
        ·exact HT.out (by trivial) q' h1 h3
       clear hkn hvn HNX;go_wp2;go_roundg 0
       case measure=>exact HM.out
       case rel=>exact⟨false,q,rfl,rfl,HVN,HR,HBN,Hd (fun h=>by cases h),Hd (fun _=>HFN.out)⟩
    ·have HFAIL:Hid (zep (zmc T D) (mbF n T D) l T tn q):=Hd fun m hm hr=>by
      have h1:=(HSI.out m).2 hr;rw[HPS.out] at h1;rcases hbad with ⟨m0,h0,⟨p,hp,hx⟩,hz⟩|hnone
      ·exact (zpb (l:=l) hTD (show n≤255 by omega) HG.out.1 (by exact HR.out) HL.out h0 hp hx (fun j hj=>by
        have:=hz j hj
        rw[zh1 _ _ hj] at this;rw[HPS.out];exact this)).elim
      ·exact absurd h1 (hnone m hm)
     have HB9:Hid (Below w1.heap.size w1 w9):=Hd (HB1R.out.trans (hb9.mono HB1R.out.size));have HV9:=Hd (HV3.out.below hb9);clear hbad hb9 HSI HMSG HBW HB1R HV3 y0 y1 y2 gl;have HNX:=Hd (zi1 g capg T Q q w9 HV9.out (fun j hj=>HR.out.1 j hj) hkQ (by omega));go_wp2_with fail;refine HNX.out.mono ?_;rintro e wn ⟨hkn,⟨i,hi,hgi,hti,rfl,hvn⟩|⟨hti,rfl,hvn⟩⟩
     ·have HBN:Hid (Below w1.heap.size w1 wn):=Hd (HB9.out.trans (hkn.below HB9.out.size (by simp;exact HGG.out)));have HVN:=Hd hvn;have HRN:=Hd (zg0 HR.out hi hgi);have HM:Hid (E (nxt q i)<E q):=Hd (by
       rw[HE.out];have h1:=zmi T HR.out.1 (zvg (k:=T) (n:=Q) (l:=q) hi);have h2:=zfn T (zg0 HR.out hi hgi).1;simp only[];omega)
      have HTN:Hid (∀q',Ris T Q q'→Lx T q' (nxt q i)→zep (zmc T D) (mbF n T D) l T tn q'):=Hd fun q' h1 h2=>by
       rcases zl6 hi hti h1 h2 with h3|h3
       ·exact zep.congr h3 HFAIL.out
       ·exact HT.out (by trivial) q' h1 h3
      clear hkn hvn HNX;go_wp2;go_roundg (E (nxt q i))
      case measure=>exact HM.out
      case rel=>exact⟨true,nxt q i,rfl,rfl,HVN,HRN,HBN,Hd (fun _=>HTN.out),Hd (fun h=>by cases h)⟩
     ·have HBN:Hid (Below w1.heap.size w1 wn):=Hd (HB9.out.trans (hkn.below HB9.out.size (by simp;exact HGG.out)));have HVN:=Hd hvn;have HM:Hid (0<E q):=Hd (by
       rw[HE.out];have h2:=zfn T HR.out.1;simp only[];omega)
      have HFN:Hid (∀q',Ris T Q q'→zep (zmc T D) (mbF n T D) l T tn q'):=Hd fun q' h1=>by
       rcases zjg hti h1 with h3|h3
       ·exact zep.congr h3 HFAIL.out
       ·exact HT.out (by trivial) q' h1 h3
      clear hkn hvn HNX;go_wp2;go_roundg 0
      case measure=>exact HM.out
      case rel=>exact⟨false,q,rfl,rfl,HVN,HR,HBN,Hd (fun h=>by cases h),Hd (fun _=>HFN.out)⟩
theorem zk0 (n k d t:Int) (hv:Value) (l:List Sy) (w:World) (hnb:I64 n∧I64 k∧I64 d) (ht:I64 t) (hl:zby w hv l) :
  Calls Tryz.prog 5 #[.int .i64 n,.int .i64 k,.int .i64 d,hv,.int .i64 t] w fun e w'=>e=.returned (.bool true)∧Below w.heap.size w w':=by
 have HW:=Hd (yf6 w);have HFN:=Hd (fun W=>zjk W);have HNB:=Hd hnb;have HT:=Hd ht;have HL:=Hd hl;clear hnb ht hl;go_enter Tryz.func5,Tryz.ntmps5;go_wp2_with fail;refine (zds n k d w).mono ?_;rintro e w' ⟨b,rfl,rfl,hb⟩;have HBW:Hid (Below w.heap.size w w):=Hd (Zaa _ _);cases b
 ·clear hb;go_wp2_with fail;refine (HW.out _ HBW.out).mono ?_;rintro e w20 ⟨rfl,HB20⟩;go_wp2;go_ret;exact⟨rfl,HB20.out⟩
 have h9:=Hd (hb.1 rfl);clear hb;go_wp2_with fail;refine (zq0 hv l 8 20 w HL.out (by omega) (by omega)).mono ?_;rintro e w' ⟨b,rfl,rfl,hb⟩;cases b
 ·clear hb;go_wp2_with fail;refine (HW.out _ HBW.out).mono ?_;rintro e w20 ⟨rfl,HB20⟩;go_wp2;go_ret;exact⟨rfl,HB20.out⟩
 have hl9:=(hb.1 rfl).1;clear hb HBW;go_wp2_with fail;refine (HFN.out _).mono ?_;rintro e w1 ⟨fb,rfl,hfb0,hf1,hb1⟩;have HFO:=Hd hf1;have HB0:=Hd hb1;have HFB:=Hd hfb0;have hs1:=hf1.lt;clear hf1 hb1 hfb0;go_wp2_with fail;refine (zbo fb n k d w1 HFO.out HNB.out.1 HNB.out.2.1 HNB.out.2.2 (fun h=>by simp only[zbl];first|omega|(have:=h9.out;omega))).mono ?_;rintro e w2 ⟨hk2,hf2,hcase⟩;have HB2:Hid (Below w.heap.size w w2):=Hd (HB0.out.trans (hk2.below HB0.out.size (by have:=HFB.out;simp;omega)));have HF2:=Hd hf2;have hfl2:=hf2.lt;have hs2:=HB2.out.size;clear hk2 hf2 HFO HB0;rcases hcase with ⟨N,K,D,rfl,rfl,rfl,hNK,lb,t1,t2,pb,cv,cv2,rfl,hlb,hc2⟩|⟨hno,rfl⟩
 case inr =>
  have HBW:=HB2;clear hno;go_wp2_with fail;refine (HW.out _ HBW.out).mono ?_;rintro e w20 ⟨rfl,HB20⟩;go_wp2;go_ret;exact⟨rfl,HB20.out⟩
 have HC2:=Hd hc2;have HNK:=Hd hNK;have h99:=h9.out;clear hc2 hNK;have HOWN:=Hd (zi7 hv l w2 (HL.out.below HB2.out) (by omega));go_wp2_with fail;refine HOWN.out.mono ?_;rintro e w4 ⟨ov,l',rfl,hos,hb4,hn4,hd4⟩;have HSK:=Hd (yap hn4 hd4);have HND:=Hd (Zao hn4 hd4);have hll:l'.length=l.length:=by have:=congrArg List.length hn4;simpa[Sy.nodes] using this
 have HLL:=Hd hll;have HB4:Hid (Below w.heap.size w w4):=Hd (HB2.out.trans (hb4.mono HB2.out.size));have HC4:=Hd (HC2.out.below hb4);have HSA:=Hd (hos.apart (S:=[fb]) (by simp;omega));have HO4:=Hd hos.all;have hs4:=hb4.size;clear hos hb4 hn4 hd4 hll HOWN HC2;have HND2:=Hd (zay (n:=N) (by omega));go_wp2_with fail;refine (zjd w4 lb t1 t2 fb pb N K D cv cv2 ov l' t HC4.out HNK.out (by omega) HND2.out HO4.out HSA.out (by rw[HLL.out];omega) HT.out).mono ?_;rintro e w6 ⟨hk6,hf6,his⟩;obtain⟨c1,m1,zs1,v1,v2,rfl,hr1,ho1,hz1⟩:=his.is;have HR1:=Hd (zuo.2 hr1);have HB6:Hid (Below w.heap.size w w6):=Hd (HB4.out.trans (hk6.below (by omega) (by have:=HFB.out;simp;omega)));have HG6:=Hd ho1;have HZ6:=Hd hz1;have HO6:=Hd (zby.kp HO4.out hk6 HSA.out);have HZL:=Hd (hr1.len (by rw[HLL.out];omega));have hs6:=hk6.size;clear hk6 hf6 his hr1 ho1 hz1 HC4 HO4;go_wp2_with fail;refine (zsj N K D hv l t w6 (by have:=HNK.out;omega) (HL.out.below HB6.out) (by omega) HT.out).mono ?_;rintro e w7 ⟨hb7,hr2⟩;obtain⟨c2,m2,zs2,v3,v4,rfl,hr3,ho2,hz2⟩:=zdc.is hr2;obtain⟨rfl,rfl,rfl⟩:=zb7.one (show K≤D by have:=HNK.out;omega) (show N≤255 by omega) (by rw[←HSK.out];exact HR1.out) (zuo.2 hr3);have HB7:Hid (Below w.heap.size w w7):=Hd (HB6.out.trans (hb7.mono HB6.out.size));have HG7:=Hd (HG6.out.rd.below hb7);have HH7:=Hd ho2.rd;have HZ7:=Hd (HZ6.out.below hb7).rd;have HY7:=Hd hz2.rd;have HO7:=Hd (HO6.out.below hb7);have hs7:=hb7.size;clear hb7 hr2 hr3 ho2 hz2 HR1 HG6 HZ6 HO6;go_wp2_with fail;refine (zfx _ _ m1 w7 HG7.out HH7.out).mono ?_;rintro e w8 ⟨rfl,rfl⟩;have HSI:Hid (Calls Tryz.prog 25 #[v2,v4] w7 (zmu true w7)):=Hd (by
  have:=zfy v2 v4 zs1 zs1 w7 HZ7.out HY7.out (by have:=HZL.out;omega) (by have:=HZL.out;omega)
  rwa[decide_eq_true rfl] at this)
 go_wp2_with fail;refine HSI.out.mono ?_;rintro e w9 ⟨rfl,hb9⟩;have HB9:Hid (Below w.heap.size w w9):=Hd (HB7.out.trans (hb9.mono HB7.out.size));have HO9:=Hd (HO7.out.below hb9);clear hb9 HSI HG7 HH7 HZ7 HY7 HO7;go_wp2_with fail;refine (zhj ov hv l' l w9 HO9.out (HL.out.below HB9.out) (by rw[HLL.out];omega)).mono ?_;rintro e w11 ⟨b,rfl,hb11,hbb⟩;obtain rfl:b=true:=hbb.2 HND.out;have HBW:Hid (Below w.heap.size w w11):=Hd (HB9.out.trans (hb11.mono HB9.out.size));clear hb11 hbb;go_wp2_with fail;refine (HW.out _ HBW.out).mono ?_;rintro e w20 ⟨rfl,HB20⟩;go_wp2;go_ret;exact⟨rfl,HB20.out⟩
end Go.Proofs.YtcclhhjcejmepaaGreat
namespace Go.Proofs.YtcclhhjcejmepaaGreat
open Go.RowKit
end Go.Proofs.YtcclhhjcejmepaaGreat
