import Derived.Test.YtcclhhjcejmepaaGreatZMbDA
set_option linter.all false
set_option maxRecDepth 100000
set_option maxHeartbeats 8000000
namespace Go.Proofs.YtcclhhjcejmepaaGreat
open Go.RowKit Fld
attribute [local go_sem] Oper.semAt_some
def yaa (w0:World) (lb fb k ob rb ib gb qb Bc K2 L ch c1 B0 tn d:Nat) (ah a1:Option Addr) (xs:List GF) (l:List Sy) (j:Nat) (W:World) (e:Exit) (W':World):Prop :=
 KS ([Bc,lb]++List.range' B0 (0+2)) W W'∧W.heap.size≤W'.heap.size∧(e=.normal∧yda w0 lb fb k ob rb ib gb qb Bc K2 L ch c1 B0 tn d ah a1 xs l (j+1) W'∨e=.goto 0∧ydd w0 fb k d tn xs l W')
theorem zsy (w0:World) (lb t1 t2 fb pb n k d ob rb ib gb qb Bc K2 L ch c1 B0 tn:Nat) (v1 v2:Value) (ah a1:Option Addr) (l:List Sy) (h:MbC w0 lb t1 t2 fb pb n k d v1 v2) (hn:1≤k∧k≤d∧d<n∧n≤255) (hnd:(za9 n).Nodup)
  (hl:zby w0 (.slice ah L ch) l) (hla:zjq (.slice ah L ch) l [fb]) (hLl:l.length=L) (hLb:L≤256) (hg:zar n (-1) d l) (hfew:k+2*tn≤L) (hK2:k*k=K2)
  (lv:Nat) (W:World) (j:Nat) (hj:j<d) (hS:ztq w0 lb fb k ob rb ib gb qb Bc K2 L ch c1 B0 tn ah a1 (Sy.nodes l) W) (a:Nat→Nat→GF) (vs:Nat→Value) (hO:zpz W (B0+0+2) rb k vs (zhk k (d-k) j a)) (hV:zag W gb K2 (flat k (zh7 (d-k) j a))) (hC:zxt k d tn (za9 n) l j a)
  (hsz:B0+2+0≤W.heap.size) (u:Nat→Value) :
  (cGo [1,2,1,1,1,1,1,1,1,1,0,1,3,4] (zti Tryz.f27)).wpIn (Fence.wide.inRound lv) 4 Tryz.prog (fun e _ W'=>yaa w0 lb fb k ob rb ib gb qb Bc K2 L ch c1 B0 tn d ah a1 (za9 n) l j W e W') { tmps:=ycu w0.heap.size ob ib qb (zc1 k d j) u,defers:=[] } W:=by
 obtain⟨s0,hs0⟩:=zE4 w0.heap.size;obtain⟨E,hE⟩:=zE4 (d-k);obtain⟨col,hcol⟩:=zE4 (zc1 k d j);have hcd:col<d:=by rw[←hcol];exact zzw (by omega)
 have HCOL:=Hd hcol;have HE:=Hd hE;rw[hE] at hO hV;rw[hcol];have H:=Hd h;have HL0:=Hd hl;have HLA:=Hd hla;have HLL:=Hd hLl;have HG:=Hd hg;have HND:=Hd hnd;have HK2:=Hd hK2;have HS:=Hd hS;have HO:=Hd hO;have HV:=Hd hV;have HC:=Hd hC;obtain⟨z1,z2,z3,z4,z5,z6,z7,z8,z9,z10⟩:=hS.lt;rw[hs0] at z1 z2 ⊢;have hk2b:K2≤255*255:=by rw[←hK2];exact Zai (by omega) (by omega)
 have hlbf:lb≠fb:=h.ne.1;have hlb0:lb<s0:=by rw[←hs0];exact lOH h.box
 have HS0:=Hd hs0;have b3':=hS.b3;have b4':=hS.b4;rw[hs0] at b3' b4';have y4:W.cell? ⟨s0+1,0,none⟩=some (.slice ah L ch):=cOH b4' rfl;have g4:=lOH b4';clear h hl hla hLl hg hnd hS hO hV hC hE hcol hs0 b3' b4';refine zpa rfl ?_
 try dsimp only
 unfold ycu;gi_wp2;gi_loopw [18,105] (fun p i wr=>∃(I:Nat) (ai:Option Addr) (ni ci:Nat),p=.slice ai ni ci∧I≤L∧i=.int .i64 (I:Nat)∧Hid (ztq w0 lb fb k ob rb ib gb qb Bc K2 L ch c1 B0 tn ah a1 (Sy.nodes l) wr)∧Hid (zao wr W.heap.size (.slice ai ni ci) ((l.take I).map (zek k d (za9 n) a col)))∧Hid (Kp [fb] W wr))
  (fun _ i _=>L-(intOf i).toNat)
 case atStart=>exact⟨0,_,_,_,rfl,Zbp _,rfl,HS,by rw[List.take_zero];exact Hd (zao.nil _ _),Hd (Kp.refl _ _)⟩
 case round =>
  clear y4 g4;obtain⟨I,ai,ni,ci,rfl,hI,rfl,HSR,HOY,HKW⟩:=hrel;have hsr:=HKW.out.size;by_cases hlt:I<L
  ·obtain⟨s,hs⟩:∃s,l[I]? = some s:=⟨_,zE1 (by rw[HLL.out];exact hlt)⟩;have hA:=HL0.out.kp HSR.out.kp HLA.out;obtain⟨-,hcap,b,o,rfl,hb,hat⟩:=SRd.at hA.rd hs;have c0:wr.cell? ⟨b,o+I*2,none⟩=some (.int .i64 s.node):=hat 0 _ rfl;have c1':wr.cell? ⟨b,o+I*2+1,none⟩=some (.slice s.a s.d.length s.cp):=hat 1 _ rfl;obtain⟨⟨hs0',hsn⟩,-,hsd⟩:=HG.out.at hs;obtain⟨X,hX⟩:∃X:Nat,s.node=(X:Int):=⟨s.node.toNat,by omega⟩;rw[hX] at c0 hsn;rw[hsd] at c1';have hXn:X<n:=by omega
   have hsrd:=hA.each s (Zad hs);unfold Sy.rd at hsrd;rw[hsd] at hsrd;obtain⟨y,hy,hyd⟩:=zbt (l:=s.d) (i:=col) (by rw[hsd];exact hcd);obtain⟨sa,sd,hsa⟩:∃sa sd,sa=s.a∧sd=s.cp:=⟨_,_,rfl,rfl⟩;rw[←hsa.1,←hsa.2] at hsrd c1';obtain⟨bd,od,rfl,hbd,cyr⟩:=hsrd.at hy;have b3r:=HSR.out.b3;rw[HS0.out] at b3r;have y3r:wr.cell? ⟨s0,0,none⟩=some (.pointer (some ⟨lb,0,none⟩)):=cOH b3r rfl;have g3r:=lOH b3r;have hMr:=H.out.step HSR.out.kp HSR.out.ok;have ykr:wr.cell? ⟨lb,2,none⟩=some (.int .i64 k):=cOH hMr.box rfl;have glbr:=lOH hMr.box;obtain⟨w6,hw6⟩:=zE5 (wr.alloc (.cells #[.int .i64 X,.slice (some ⟨bd,od,none⟩) d sd] 59));have hb6:Below wr.heap.size wr w6:=by rw[hw6];exact (Zaa _ _).alloc (zE3 _) _
   have hs6:wr.heap.size<w6.heap.size:=by rw[hw6];simp
   have d0:w6.cell? ⟨wr.heap.size,0,none⟩=some (.int .i64 X):=by rw[hw6];exact cOH (nwA _ _) (j:=0) rfl
   have d1:w6.cell? ⟨wr.heap.size,1,none⟩=some (.slice (some ⟨bd,od,none⟩) d sd):=by rw[hw6];exact cOH (nwA _ _) (j:=1) rfl
   obtain⟨_,_,e,-,cy6⟩:=(hsrd.below hb6).at hy;cases e;obtain⟨yy,hyy⟩:=zE4 y.n;rw[hyy] at cy6 cyr;have hbd6:bd<w6.heap.size:=by omega
   have hk6:Kp [fb] wr w6:=Kp.of_below hb6;have hf6:=HSR.out.ok.below hb6;have hs6':=HSR.out.step hk6 (fun x hx=>.inl (by simpa using hx)) hf6;have HS6:=Hd hs6';have hM6:=H.out.step hs6'.kp hf6;have b3':=hs6'.b3;have b9':=hs6'.b9;rw[HS0.out] at b3';have y3:w6.cell? ⟨s0,0,none⟩=some (.pointer (some ⟨lb,0,none⟩)):=cOH b3' rfl;have g3:=lOH b3';have yk:w6.cell? ⟨lb,2,none⟩=some (.int .i64 k):=cOH hM6.box rfl;have glb:=lOH hM6.box;have y9:w6.cell? ⟨ob,0,none⟩=some (.slice (some ⟨rb,0,none⟩) k k):=cOH b9' rfl;have g9:=lOH b9';have HSI:=Hd (Zao hs (Zao hX hyd));have HM6:=Hd hM6;have HO6:=Hd (HO.out.kp (HKW.out.trans hk6) (by simp;omega) (fun x hx=>.inl (by simp at hx;omega)));have HOY6:=Hd (HOY.out.below hb6);have HKW6:Hid (Kp [fb] W w6):=Hd (HKW.out.trans hk6);have hcolE:=zgi (k:=k) (d:=d) (j:=j);have i1:(0:Int)≤(I:Int)∧(I:Int)<(L:Int):=by omega
   have i2:(0:Int)≤(col:Int)∧(col:Int)<(d:Int):=by omega
   have HYY:=Hd hyy;clear hA hat hs hX hsd hsrd hy hyd hsa hb6 hk6 hf6 hs6' hM6 b3' b9' hyy HOY HKW HSR hcolE b3r hMr hs0' hsn;by_cases hck:col<k
   ·have hck1:(col:Int)<(k:Int):=by omega
    have hjE:E≤j:=by
     rcases Zcf j E with h|h
     ·have h1:=HCOL.out;rw[zgh (by rw[HE.out];exact h) hn.2.1] at h1;omega
     ·exact h
    have cr:=HO6.out.cell col hck;have hown:=HO6.out.own col hck;obtain⟨ar,cr2,hvs,-⟩:=hown.form;rw[zf5,Nat.min_eq_right hjE] at hvs;have hlt9:=HO6.out.lt;have hrest:=zsv w6.drew lb t1 t2 fb pb n k d X v1 v2 (vs col) (zhk k E j a col) (HM6.out.below ((Zaa _ _).drew)) hn hXn (hown.rd.below ((Zaa _ _).drew)) (.inr (fun b hb hm=>by have:=(hown.lt b hb).1;simp at hm;omega)) (by rw[zf5,Nat.min_eq_right hjE];have:=HE.out;omega);have hval:(sm (zhk k E j a col).length fun i=>(zhk k E j a col).getD i 0*pw ((za9 n).getD X 0) (k+i))=zsh k d a ((za9 n).getD X 0) col:=by unfold zsh;rw[zf5,Nat.min_eq_right hjE,HE.out];refine zaj fun i hi=>?_;unfold zhk;rw[Nat.min_eq_right hjE,zam _ hi]
    unfold zhd at hrest;rw[hval,hvs] at hrest;rw[hvs] at cr;obtain⟨R,hR⟩:=zE4 (zsh k d a ((za9 n).getD X 0) col);rw[hR] at hrest;obtain⟨rn,hrn⟩:=zE4 R.n;rw[hrn] at hrest;have hcy:zek k d (za9 n) a col s=y+R:=by unfold zek;rw[if_pos hck,HSI.out.2.2,HSI.out.2.1,Zam,hR]
    obtain⟨yn,hyn'⟩:∃yn,(y+R).n=yn:=⟨_,rfl⟩;have HADD:Hid (∀W,Calls Tryz.prog 36 #[.int .u8 (yy:Nat),.int .u8 (rn:Nat)] W fun e w'=>e=.returned (.int .u8 (yn:Nat))∧W=w'):=Hd fun W=>by rw[←HYY.out,←hrn,←hyn'];exact zey y R W
    have hyn:(zek k d (za9 n) a col s).n=yn:=by rw[hcy,hyn']
    have HREST:=Hd hrest;have i3:(0:Int)≤(col:Int)∧(col:Int)<(k:Int):=by omega
    obtain⟨kp,hkp⟩:∃kp:Nat→Bool,∀x,kp x=true↔x<w6.heap.size∧x≠fb:=⟨fun x=>decide (x<w6.heap.size∧x≠fb),by simp⟩;have k1:kp s0=true:=(hkp _).2 ⟨by omega,by omega⟩;have k2:kp wr.heap.size=true:=(hkp _).2 ⟨by omega,by omega⟩;have k3:kp ob=true:=(hkp _).2 ⟨by omega,by omega⟩;have k4:kp rb=true:=(hkp _).2 ⟨by omega,by omega⟩;have hrb6:=hlt9.2;have HKP:=Hd hkp;have HY0:=Hd hyn;clear hown hvs hlt9 hrest hval hR hrn hcy hyn' hyn hkp;gi_wp2;rw[←hw6];clear hw6;have hgr:=hgK (fun x=>kp x=true);refine zak (fun x=>kp x=true) [8,9] (.sq [0,1,2,3,4,5,6,7,8,9,10] .done) (by kernel_rfl) (by kernel_rfl) (by kernel_rfl) ?_;simp only[TQ,Oper.slim,Nat.reduceBEq,Nat.reduceAdd]
    repeat' first|((with_reducible refine w_I ?_);first|(with_reducible refine w_D ?_)|((refine zai _ _ _ rfl rfl rfl rfl rfl hap (fun kk hkk=>HKE.out kk hkk) ?_))|((with_reducible refine w_S (fun K hK=>?_));go_simp;first|(refine hK _ _ ?_;clear hK K)|(refine⟨by (intro kk hkk;first|(simp (disch:=(simp;omega)) only[h_D,h_N,h_A,h_S];done)|(simp[h_D,h_N,h_I,hkk];done)|(have hkk2:=(HKP.out kk).1 hkk;have hkk3:=hkk2.1;have hkk4:=hkk2.2;simp (disch:=(first|exact hkk3|exact hkk4|exact hkk4.1|(simp;done)|(simp;omega))) only[h_D,h_N,h_A,h_S];first|done|exact HKE.out kk hkk)),hK _ _ ?_⟩;clear hK K)|(go_at_call 61;(with_reducible refine HREST.out.mono ?_);rintro e w7 ⟨rfl,hk7,hf7⟩;have HK7:Hid (Kp [fb] w6 w7):=Hd (((Kp.refl [fb] w6).drew).trans hk7);have HF7:=Hd hf7;refine⟨_,rfl,(fun kk hkk=>HK7.out.block kk ((HKP.out kk).1 hkk).1 (by have:=((HKP.out kk).1 hkk).2;simpa using this)),hK _ _ ?_⟩;clear hk7 hf7 hK K)|(go_at_call 36;(with_reducible refine (HADD.out _).mono ?_);rintro e wx ⟨rfl,hwx⟩;subst hwx;refine⟨_,rfl,(fun kk hkk=>HK7.out.block kk ((HKP.out kk).1 hkk).1 (by have:=((HKP.out kk).1 hkk).2;simpa using this)),hK _ _ ?_⟩;clear hK K)))|fail
    clear hgr;have hyn:=HY0.out;have HKW7:Hid (Kp [fb] W w7):=Hd (HKW6.out.trans HK7.out);have HS7:=Hd (HS6.out.step HK7.out (fun x hx=>.inl (by simpa using hx)) HF7.out);have HO7:=Hd (HOY6.out.kp HK7.out (fun b hb hm=>by have:=(HOY6.out.lt b hb).1;simp at hm;omega));clear d0 d1 cy6 y3 yk y9 g3 glb g9 cr k1 k2 k3 k4 c0 c1' cyr y3r g3r ykr glbr;have HY1:Hid ((zek k d (za9 n) a col s).n=yn):=Hd hyn;obtain⟨v1,w8,hap,ho8,hk8,-,hat⟩:=zcb (W:=w7) (zek k d (za9 n) a col s) (HO7.out) (by rw[Zag,Zan];omega) (by have:=HKW7.out.size;omega) HY1.out (ad:=w7.heap.size) rfl;have HOn:Hid (zao w8 W.heap.size v1 ((l.take (I+1)).map (zek k d (za9 n) a col))):=Hd (by
     rw[Zaz,HSI.out.1,Zaw];exact ho8)
    obtain⟨a8,c8,rfl,-⟩:=HOn.out.form;obtain⟨n8,hn8⟩:=zE4 (((l.take (I+1)).map (zek k d (za9 n) a col)).length);rw[hn8] at HOn hap;have hown:∀x,x∈(Value.slice ai ni ci).ownBlock.toList→W.heap.size≤x:=fun x hx=>(HO7.out.lt x (by simpa using hx)).1;have hfl7:fb<W.heap.size:=by omega
    have HK8:Hid (Kp [fb] W w8):=Hd (HKW7.out.step hk8 (fun x hx=>.inr (hown x hx)));have HS8:=Hd (HS7.out.step hk8 (fun x hx=>.inr (.inr (.inr (by have:=hown x hx;omega)))) (HS7.out.ok.kp hk8 (fun hm=>by have:=hown _ hm;omega)));skip;clear ho8 hk8 hat hn8 hown hfl7 hyn;gi_wp2_with (gi_at_builtin;refine zcv rfl _ _ _ rfl rfl rfl hap ?_);go_roundw
    case rel=>exact⟨I+1,a8,n8,c8,rfl,by omega,by simp,HS8,HOn,HK8⟩
    case measure=>simp[intOf]<;>omega
   ·have hck1:¬(col:Int)<(k:Int):=by omega
    have hcy:zek k d (za9 n) a col s=y:=by unfold zek;rw[if_neg hck,HSI.out.2.2]
    have hyn:(zek k d (za9 n) a col s).n=yy:=by rw[hcy,HYY.out]
    obtain⟨yn,rfl⟩:=zE5 (yy:Nat);obtain⟨w7,rfl⟩:=zE5 (w6:World);have HKW7:=HKW6;have HS7:=HS6;have HO7:=HOY6;clear hcy d0 d1 cy6 y3 yk y9 g3 glb g9;have HY1:Hid ((zek k d (za9 n) a col s).n=yn):=Hd hyn;obtain⟨v1,w8,hap,ho8,hk8,-,hat⟩:=zcb (W:=w7) (zek k d (za9 n) a col s) (HO7.out) (by rw[Zag,Zan];omega) (by have:=HKW7.out.size;omega) HY1.out (ad:=wr.heap.size+1) (by rw[hw6];simp);have HOn:Hid (zao w8 W.heap.size v1 ((l.take (I+1)).map (zek k d (za9 n) a col))):=Hd (by
     rw[Zaz,HSI.out.1,Zaw];exact ho8)
    obtain⟨a8,c8,rfl,-⟩:=HOn.out.form;obtain⟨n8,hn8⟩:=zE4 (((l.take (I+1)).map (zek k d (za9 n) a col)).length);rw[hn8] at HOn hap;have hown:∀x,x∈(Value.slice ai ni ci).ownBlock.toList→W.heap.size≤x:=fun x hx=>(HO7.out.lt x (by simpa using hx)).1;have hfl7:fb<W.heap.size:=by omega
    have HK8:Hid (Kp [fb] W w8):=Hd (HKW7.out.step hk8 (fun x hx=>.inr (hown x hx)));have HS8:=Hd (HS7.out.step hk8 (fun x hx=>.inr (.inr (.inr (by have:=hown x hx;omega)))) (HS7.out.ok.kp hk8 (fun hm=>by have:=hown _ hm;omega)))
    (rw[hw6] at hap;clear hw6)
    clear ho8 hk8 hat hn8 hown hfl7 hyn;gi_wp2_with (gi_at_builtin;refine zcv rfl _ _ _ rfl rfl rfl hap ?_);go_roundw
    case rel=>exact⟨I+1,a8,n8,c8,rfl,by omega,by simp,HS8,HOn,HK8⟩
    case measure=>simp[intOf]<;>omega
  ·obtain rfl:I=L:=by omega
   have hLt:l.take I=l:=by rw[←HLL.out,Zbs]
   rw[hLt] at HOY;have hyl:(l.map (zek k d (za9 n) a col)).length=I:=by rw[Zag,HLL.out]
   obtain⟨ay,cy,hform,-⟩:=HOY.out.form;obtain⟨rfl,rfl,rfl⟩:=(Value.slice.injEq ..).mp hform;clear hform;rw[hyl] at HOY ⊢;have hpl:=zbd n;have hMr:=H.out.step HSR.out.kp HSR.out.ok;have hgp:zbc (za9 n).length (Sy.nodes l):=by rw[hpl];exact HG.out.1
   have hnl:(Sy.nodes l).length=I:=by simp[Sy.nodes,HLL.out]
   have hwd:=zp1 wr.drew t1 fb k v1 (.slice a1 I c1) (.slice ai I ci) (za9 n) (Sy.nodes l) (l.map (zek k d (za9 n) a col)) (tn:Int) (hMr.tells.below ((Zaa _ _).drew)) HND.out (by omega) (by rw[hpl];omega) (by rw[hpl];omega) (HSR.out.nd.kp (S:=[]) (Kp.refl _ _).drew (fun _ _=>by simp)) (HOY.out.rd.below ((Zaa _ _).drew)) (.inr (fun b hb hm=>by have:=HSR.out.na b hb;simp at hm;omega)) (.inr (fun b hb hm=>by have:=(HOY.out.lt b hb).1;simp at hm;omega)) (by rw[hnl];omega) (by rw[hyl];omega) (by omega);have HWD:Hid (Calls Tryz.prog 53 #[.pointer (some ⟨t1,0,none⟩),.slice a1 I c1,.slice ai I ci,.int .i64 tn] wr.drew fun e w'=>Kp [fb] wr.drew w'∧FOk w' fb∧∃p1 p2 cc,e=.returned (.tuple #[p1,p2,.int .i64 cc])∧(cc=0∧(∃m,zbs (za9 n) k (Sy.nodes l) (l.map (zek k d (za9 n) a col)) tn (some m)∧zao w' wr.heap.size p1 m)∨cc=80∧zbs (za9 n) k (Sy.nodes l) (l.map (zek k d (za9 n) a col)) tn none)):=Hd (hwd.mono (by
    rintro e w' ⟨h1,h2,h3⟩;refine⟨h1,h2,?_⟩;unfold zoh at h3;rw[Zam] at h3;rcases h3 with ⟨hbad,-⟩|⟨-,⟨hf,-⟩|⟨-,⟨m,u1,u2,h4,h5,h6,-⟩|⟨h4,h5⟩⟩⟩
    ·exfalso;rcases hbad with hbad|hbad
     ·exact hbad ⟨hgp,by rw[hnl,hyl]⟩
     ·omega
    ·exfalso;rw[hnl] at hf;omega
    ·exact⟨u1,u2,0,h4,.inl ⟨rfl,m,h5,h6⟩⟩
    ·exact⟨_,_,80,h4,.inr ⟨rfl,h5⟩⟩))
   have b3r:=HSR.out.b3;rw[HS0.out] at b3r;have y3:wr.cell? ⟨s0,0,none⟩=some (.pointer (some ⟨lb,0,none⟩)):=cOH b3r rfl;have b5r:=HSR.out.b5;rw[HS0.out] at b5r;have y5:wr.cell? ⟨s0+1+1,0,none⟩=some (.int .i64 tn):=cOH b5r rfl;have b14r:=HSR.out.b14;have y14:wr.cell? ⟨qb,0,none⟩=some (.slice a1 I c1):=cOH b14r rfl;have yt:wr.cell? ⟨lb,7,none⟩=some (.pointer (some ⟨t1,0,none⟩)):=cOH hMr.box rfl;have g3:=lOH b3r;have g5:=lOH b5r;have g14:=lOH b14r;have glb:=lOH hMr.box;obtain⟨kp,hkp⟩:∃kp:Nat→Bool,∀x,kp x=true↔x<wr.heap.size∧x≠fb:=⟨fun x=>decide (x<wr.heap.size∧x≠fb),by simp⟩;have k1:kp s0=true:=(hkp _).2 ⟨by omega,by omega⟩;have k2:kp (s0+1+1)=true:=(hkp _).2 ⟨by omega,by omega⟩;have k3:kp qb=true:=(hkp _).2 ⟨by omega,by omega⟩;have k4:kp lb=true:=(hkp _).2 ⟨by omega,by omega⟩;have HKP:=Hd hkp;have HMR:=Hd hMr;clear hLt hyl hpl hMr hgp hnl hwd b3r b5r b14r hkp;gi_wp2;have hgr:=hgK (fun x=>kp x=true);refine zak (fun x=>kp x=true) [7] (.sq [0,1,2,3,4,5,6,7,8,9,10,11,12,13,14] .done) (by kernel_rfl) (by kernel_rfl) (by kernel_rfl) ?_;simp only[TQ,Oper.slim,Nat.reduceBEq,Nat.reduceAdd]
   repeat' first|((with_reducible refine w_I ?_);first|(with_reducible refine w_D ?_)|((refine zai _ _ _ rfl rfl rfl rfl rfl hap (fun kk hkk=>HKE.out kk hkk) ?_))|((with_reducible refine w_S (fun K hK=>?_));go_simp;first|(refine hK _ _ ?_;clear hK K)|(refine⟨by (intro kk hkk;first|(simp (disch:=(simp;omega)) only[h_D,h_N,h_A,h_S];done)|(simp[h_D,h_N,h_I,hkk];done)|(have hkk2:=(HKP.out kk).1 hkk;have hkk3:=hkk2.1;have hkk4:=hkk2.2;simp (disch:=(first|exact hkk3|exact hkk4|exact hkk4.1|(simp;done)|(simp;omega))) only[h_D,h_N,h_A,h_S];first|done|exact HKE.out kk hkk)),hK _ _ ?_⟩;clear hK K)|(go_at_call 53;(with_reducible refine HWD.out.mono ?_);rintro e w7 ⟨hk7,hf7,p1,p2,cc,rfl,han⟩;have HK7:Hid (Kp [fb] wr w7):=Hd (((Kp.refl [fb] wr).drew).trans hk7);have HF7:=Hd hf7;have HAN:=Hd han;refine⟨_,rfl,(fun kk hkk=>HK7.out.block kk ((HKP.out kk).1 hkk).1 (by have:=((HKP.out kk).1 hkk).2;simpa using this)),hK _ _ ?_⟩;clear hk7 hf7 han hK K)))|fail
   clear hgr;have HKW7:Hid (Kp [fb] W w7):=Hd (HKW.out.trans HK7.out);have HS7:=Hd (HSR.out.step HK7.out (fun x hx=>.inl (by simpa using hx)) HF7.out);have hs7:=HKW7.out.size;have HO7:=Hd (HO.out.kp HKW7.out (by simp;omega) (fun x hx=>.inl (by simp at hx;omega)));have HV7:=Hd (HV.out.kp HKW7.out (by simp;omega));have hsr7:=HK7.out.size;clear y3 y5 y14 yt g3 g5 g14 glb k1 k2 k3 k4 HSR HOY HKP;have hKSf:∀(S:List Nat) (w':World),Kp S W w'→(∀x∈S,x=fb∨x=gb∨x=rb∨B0+2≤x)→KS ([Bc,lb]++List.range' B0 (0+2)) W w':=fun S w' hk hS=>zh6 hk fun b hb=>by
    rcases Zba.1 hb with h|h
    ·simp only[Zbf,List.not_mem_nil,or_false] at h;rcases h with rfl|rfl
     ·exact⟨by omega,fun hm=>by rcases hS _ hm with e|e|e|e<;>omega⟩
     ·exact⟨by omega,fun hm=>by rcases hS _ hm with e|e|e|e<;>omega⟩
    ·have:=Zbb.1 h
     exact⟨by omega,fun hm=>by rcases hS _ hm with e|e|e|e<;>omega⟩
   have HKSF:=Hd hKSf;clear hKSf;rcases HAN.out with ⟨rfl,m,htell,hown⟩|⟨rfl,hnone⟩
   ·have hml:m.length=k:=htell.1;obtain⟨gm,cm,hp1,hgm1,hgm2,hgmv⟩:=hown.view (fun e=>by rw[e] at hml;simp at hml;omega);subst hp1;rw[hml] at hgm2 hgmv ⊢;have hC1:=ztf (j:=j) hn.1 hn.2.1 (by omega) HC.out (by rw[HCOL.out];exact htell);rw[HCOL.out] at hC1;have HC1:=Hd hC1;have HMV:=Hd hgmv;have hgml:=hgmv.1;clear htell hown hml hgmv hC1 HAN HWD;by_cases hck:col<k
    ·have hck1:(col:Int)<(k:Int):=by omega
     have hjE:E≤j∧j-E=col:=by
      rcases Zcf j E with h|h
      ·have h1:=HCOL.out;rw[zgh (by rw[HE.out];exact h) hn.2.1] at h1;omega
      ·have h1:=HCOL.out;rw[zgi (by rw[HE.out];exact h) hj hn.2.1 hn.1,HE.out] at h1;exact⟨h,h1⟩
     have HV8:Hid (zag w7 gb K2 (flat k (ztu E j a m 0))):=Hd (HV7.out.congr fun p hp=>by unfold flat;rw[zwl]);gi_wp2;gi_loopw [151] (fun i wq=>∃I2:Nat,I2≤k∧i=.int .i64 (I2:Nat)∧Hid (ztq w0 lb fb k ob rb ib gb qb Bc K2 I ch c1 B0 tn ah a1 (Sy.nodes l) wq)∧Hid (zag wq gb K2 (flat k (ztu E j a m I2)))∧Hid (Kp [gb] w7 wq))
      (fun i _=>k-(intOf i).toNat)
     case atStart=>exact⟨0,Zbp _,rfl,HS7,HV8,Hd (Kp.refl _ _)⟩
     case round =>
      clear HV8;obtain⟨I2,hI2,rfl,HSQ,HVQ,HKQ⟩:=hrel;obtain⟨wq,rfl⟩:=zE5 (wr:World);have hsq:=HKQ.out.size;by_cases hlq:I2<k
      ·have cm1:=((HMV.out.kp HKQ.out (by simp;omega)).2 I2 hlq).1;obtain⟨z,hz⟩:=zE4 ((m.getD I2 0).n);rw[hz] at cm1;have b3r:=HSQ.out.b3;rw[HS0.out] at b3r;have y3:wq.cell? ⟨s0,0,none⟩=some (.pointer (some ⟨lb,0,none⟩)):=cOH b3r rfl;have hMr:=H.out.step HSQ.out.kp HSQ.out.ok;have yk:wq.cell? ⟨lb,2,none⟩=some (.int .i64 k):=cOH hMr.box rfl;have b10r:=HSQ.out.b10;have y10:wq.cell? ⟨ib,2,none⟩=some (.slice (some ⟨gb,0,none⟩) K2 K2):=cOH b10r rfl;have g3:=lOH b3r;have glb:=lOH hMr.box;have g10:=lOH b10r;obtain⟨q1,hq1⟩:=zE4 (I2*k);obtain⟨q2,hq2⟩:=zE4 (q1+col);have hq3:q2<K2:=by rw[←HK2.out,←hq2,←hq1];exact zaz hlq hck
       obtain⟨c2,f2⟩:=HVQ.out.2 q2 hq3;obtain⟨zz,hzz⟩:=zE4 ((flat k (ztu E j a m I2) q2).n);rw[hzz] at c2;have gg:=HVQ.out.1;have x1:(I2:Int)*(k:Int)=(q1:Int):=by rw[←hq1];simp
       have x2:=zE6 (q1:Int) (by omega);have x3:(q1:Int)+(col:Int)=(q2:Int):=by omega
       have x4:=zE6 (q2:Int) (by omega);have i1:(0:Int)≤(I2:Int)∧(I2:Int)<(k:Int):=by omega
       have i2:(0:Int)≤(q2:Int)∧(q2:Int)<(K2:Int):=by omega
       have hgmq:gm<wq.heap.size:=by omega
       obtain⟨kp,hkp⟩:∃kp:Nat→Bool,∀x,kp x=true↔x<wq.heap.size∧x≠gb:=⟨fun x=>decide (x<wq.heap.size∧x≠gb),by simp⟩;have k1:kp s0=true:=(hkp _).2 ⟨by omega,by omega⟩;have k2:kp lb=true:=(hkp _).2 ⟨by omega,by omega⟩;have k3:kp ib=true:=(hkp _).2 ⟨by omega,by omega⟩;have HKP:=Hd hkp;have HV9:Hid (zag (wq.setCell ⟨gb,q2,none⟩ (.int .u8 (z:Nat))) gb K2 (flat k (ztu E j a m (I2+1)))):=Hd (by
        rw[←hz];exact (HVQ.out.set hq3 _).congr fun p hp=>by rw[←hq2,←hq1];exact zwm hlq hck (by omega) (by rw[HK2.out];exact hp))
       have hk9:Kp [gb] wq ((wq.setCell ⟨gb,q2,none⟩ (.int .u8 (z:Nat))).drew):=((Kp.refl _ _).setCell (.inl (by simp)) _).drew;have HV10:=Hd (HV9.out.below (Zaa _ _).drew);have HS10:=Hd (HSQ.out.step hk9 (fun x hx=>.inr (.inl (by simpa using hx))) (HSQ.out.ok.kp hk9 (by simp;omega)));have HK10:=Hd (HKQ.out.trans hk9);clear hz hzz hMr b3r b10r hq1 hq2 hkp hk9;gi_wp2;have hgr:=hgK (fun x=>kp x=true);refine zak (fun x=>kp x=true) [12] (.sq [0,1,2,3,4,5,6,7,8,9,10,11,12] .done) (by kernel_rfl) (by kernel_rfl) (by kernel_rfl) ?_;simp only[TQ,Oper.slim,Nat.reduceBEq,Nat.reduceAdd]
       repeat' first|((with_reducible refine w_I ?_);first|(with_reducible refine w_D ?_)|((refine zai _ _ _ rfl rfl rfl rfl rfl hap (fun kk hkk=>HKE.out kk hkk) ?_))|((with_reducible refine w_S (fun K hK=>?_));go_simp;first|(refine hK _ _ ?_;clear hK K)|(refine⟨by (intro kk hkk;first|(simp (disch:=(simp;omega)) only[h_D,h_N,h_A,h_S];done)|(simp[h_D,h_N,h_I,hkk];done)|(have hkk2:=(HKP.out kk).1 hkk;have hkk3:=hkk2.1;have hkk4:=hkk2.2;simp (disch:=(first|exact hkk3|exact hkk4|exact hkk4.1|(simp;done)|(simp;omega))) only[h_D,h_N,h_A,h_S];first|done|exact HKE.out kk hkk)),hK _ _ ?_⟩;clear hK K)))|fail
       clear hgr;clear c2 f2 cm1 y3 yk y10 g3 glb g10 k1 k2 k3 x1 x2 x3 x4 i2;gi_wp2;go_roundw
       case rel=>exact⟨I2+1,by omega,by simp,HS10,HV10,HK10⟩
       case measure=>simp[intOf]<;>omega
      ·obtain rfl:I2=k:=by omega
       have HEND:Hid (yaa w0 lb fb I2 ob rb ib gb qb Bc K2 I ch c1 B0 tn d ah a1 (za9 n) l j W .normal wq):=Hd ⟨HKSF.out [fb,gb] wq ((HKW7.out.mono (by simp)).trans (HKQ.out.mono (by simp))) (fun x hx=>by simp at hx;omega),by omega,.inl ⟨rfl,HSQ.out,zp8 a col m,vs,by
        rw[HE.out];exact ((HO7.out.kp HKQ.out (by simp;omega) (fun x hx=>.inl (by simp at hx;omega)))).congr fun i hi=>zyn hjE.1 hck i,by
        rw[HE.out];refine HVQ.out.congr fun p hp=>?_;obtain⟨r,c,hr,hc,rfl⟩:=za2 (R:=I2) (C:=I2) (by omega) (by rw[HK2.out];exact hp);rw[zab (by omega) _ _ _ hc,zab (by omega) _ _ _ hc,zza hjE.1 _ _ hr,hjE.2],HC1.out⟩⟩
       gi_wp2;exact HEND.out
    ·have hck1:¬(col:Int)<(k:Int):=by omega
     have hjE:j<E∧k+j=col:=by
      rcases Zcf j E with h|h
      ·have h1:=HCOL.out;rw[zgh (by rw[HE.out];exact h) hn.2.1] at h1;exact⟨h,h1⟩
      ·have h1:=HCOL.out;rw[zgi (by rw[HE.out];exact h) hj hn.2.1 hn.1,HE.out] at h1;have:=HE.out;omega
     have hE255:E≤255:=by have:=HE.out;omega
     obtain⟨S0,hS0⟩:∃S0:List Nat,S0=rb :: (List.range k).flatMap fun i=>(vs i).ownBlock.toList:=⟨_,rfl⟩;have hS0m:∀x∈S0,x=rb∨∃i,i<k∧(vs i).ownBlock=some x:=fun x hx=>by
      rw[hS0] at hx;rcases Zbf.1 hx with rfl|hx
      ·exact .inl rfl
      ·obtain⟨i,hi,h2⟩:=List.mem_flatMap.1 hx;exact .inr ⟨i,Zaj.1 hi,by simpa using h2⟩
     have hS0b:∀x∈S0,x=rb∨B0+2≤x∧x<W.heap.size:=fun x hx=>by
      rcases hS0m x hx with h|⟨i,hi,h⟩
      ·exact .inl h
      ·have:=(HO.out.own i hi).lt x h
       exact .inr ⟨by omega,this.2⟩
     have hSi:∀i,i<k→∀x∈(vs i).ownBlock.toList,x∈S0:=fun i hi x hx=>by rw[hS0];exact Zcb _ (List.mem_flatMap.2 ⟨i,Zaj.2 hi,hx⟩)
     have HS0B:=Hd hS0b;have HSI:=Hd hSi;have hrS:rb∈S0:=by rw[hS0];exact List.mem_cons_self
     have HRS:=Hd hrS;clear hS0 hS0m hS0b hSi hrS;have HO8:Hid (zpz w7 (B0+0+2) rb k vs (fun i=>if i<0 then zhk k E j a i++[m.getD i 0] else zhk k E j a i)):=Hd (HO7.out.congr fun i hi=>by rw[if_neg (Zcm _)]);gi_wp2;gi_loopw [151] (fun i wq=>∃(I2:Nat) (vs2:Nat→Value),I2≤k∧i=.int .i64 (I2:Nat)∧Hid (ztq w0 lb fb k ob rb ib gb qb Bc K2 I ch c1 B0 tn ah a1 (Sy.nodes l) wq)∧Hid (zpz wq (B0+0+2) rb k vs2 (fun i=>if i<I2 then zhk k E j a i++[m.getD i 0] else zhk k E j a i))∧Hid (∀i,I2≤i→vs2 i=vs i)∧Hid (Kp S0 w7 wq))
      (fun i _=>k-(intOf i).toNat)
     case atStart=>exact⟨0,vs,Zbp _,rfl,HS7,HO8,Hd (fun _ _=>rfl),Hd (Kp.refl _ _)⟩
     case round =>
      clear HO8;obtain⟨I2,vs2,hI2,rfl,HSQ,HOQ,HVS,HKQ⟩:=hrel;obtain⟨wq,rfl⟩:=zE5 (wr:World);have hsq:=HKQ.out.size;have hnS:∀x,x≠rb→(x<B0+2∨W.heap.size≤x)→x∉S0:=fun x h1 h2 hm=>by rcases HS0B.out x hm with h|h<;>omega
      by_cases hlq:I2<k
      ·have cm1:=((HMV.out.kp HKQ.out (hnS gm (by omega) (.inr (by omega)))).2 I2 hlq).1;obtain⟨z,hz⟩:=zE4 ((m.getD I2 0).n);rw[hz] at cm1;have b3r:=HSQ.out.b3;rw[HS0.out] at b3r;have y3:wq.cell? ⟨s0,0,none⟩=some (.pointer (some ⟨lb,0,none⟩)):=cOH b3r rfl;have hMr:=H.out.step HSQ.out.kp HSQ.out.ok;have yk:wq.cell? ⟨lb,2,none⟩=some (.int .i64 k):=cOH hMr.box rfl;have b9r:=HSQ.out.b9;have y9:wq.cell? ⟨ob,0,none⟩=some (.slice (some ⟨rb,0,none⟩) k k):=cOH b9r rfl;have g3:=lOH b3r;have glb:=lOH hMr.box;have g9:=lOH b9r;have hov:=HOQ.out.own I2 hlq;have hcv:=HOQ.out.cell I2 hlq;have hfv:=HOQ.out.fr I2 hlq;rw[if_neg (Nat.lt_irrefl _)] at hov;have hgrb:=HOQ.out.lt;obtain⟨wx,hwx⟩:=zE5 ((wq.alloc (.cells #[.int .u8 (z:Nat)] 5)).drew);have hbx:Below wq.heap.size wq wx:=by rw[hwx];exact ((Zaa _ _).alloc (zE3 _) _).drew
       have hcx:wx.cell? ⟨wq.heap.size,0,none⟩=some (.int .u8 (z:Nat)):=by rw[hwx];exact cOH (nwA _ _) (j:=0) rfl
       obtain⟨v9,w9,hap,ho9,hk9,hb9,hat9⟩:=zjp (W:=wx) (m.getD I2 0) (hov.below hbx) (by rw[zf5];omega) (by have:=hbx.size;omega) hz hcx;have hk9':Kp (vs2 I2).ownBlock.toList wq w9:=(Kp.of_below hbx).trans hk9;have hat9':v9.ownBlock=(vs2 I2).ownBlock∨∃b,v9.ownBlock=some b∧wq.heap.size≤b:=hat9.imp id fun h=>⟨_,h,hbx.size⟩;have hO10:=HOQ.out.app hlq ho9 hk9' hat9';have hvI:vs2 I2=vs I2:=HVS.out I2 (zE3 _);have hSv:∀x∈(vs2 I2).ownBlock.toList,x∈S0:=fun x hx=>HSI.out I2 hlq x (by rw[←hvI];exact hx);have hk10:Kp S0 wq (w9.setCell ⟨rb,I2,none⟩ v9):=(hk9'.mono hSv).setCell (.inl HRS.out) _;have hrb9:rb∉(vs2 I2).ownBlock.toList:=fun hm=>by
        have:=((hov.lt rb (by simpa using hm))).1
        omega
       have c9:=(hk9'.cell (p:=⟨rb,I2,none⟩) hgrb.2 hrb9).trans hcv;have f9:=(hk9'.frozen (p:=⟨rb,I2,none⟩) hgrb.2 hrb9).trans hfv;have g10:=Zaf hgrb.2 hk9'.size;have HO10:Hid (zpz (w9.setCell ⟨rb,I2,none⟩ v9) (B0+0+2) rb k (ydc vs2 I2 v9) (fun i=>if i<I2+1 then zhk k E j a i++[m.getD i 0] else zhk k E j a i)):=Hd (hO10.congr fun i hi=>by
        by_cases e:i=I2
        ·subst e;rw[zdj,if_pos (by omega)]
        ·rw[zd7 _ _ e];by_cases h2:i<I2
         ·rw[if_pos h2,if_pos (by omega)]
         ·rw[if_neg h2,if_neg (by omega)])
       have HVS10:Hid (∀i,I2+1≤i→ydc vs2 I2 v9 i=vs i):=Hd fun i hi=>by rw[zd7 _ _ (by omega)];exact HVS.out i (by omega)
       have HK10:=Hd (HKQ.out.trans hk10);have HS10:=Hd (HSQ.out.step hk10 (fun x hx=>by rcases HS0B.out x hx with h|h;exact .inr (.inr (.inl h));exact .inr (.inr (.inr (by omega)))) (HSQ.out.ok.kp hk10 (hnS fb (by omega) (.inl (by omega)))));obtain⟨av,cv,hvf,-⟩:=hov.form;obtain⟨a9,c9',hv9,-⟩:=ho9.form;obtain⟨nv,hnv⟩:=zE4 ((zhk k E j a I2).length);obtain⟨n9,hn9⟩:=zE4 ((zhk k E j a I2++[m.getD I2 0]).length);rw[hnv] at hvf;rw[hn9] at hv9;subst hv9;rw[hvf] at hap hcv hk9' c9;have i1:(0:Int)≤(I2:Int)∧(I2:Int)<(k:Int):=by omega
       have hgmq:gm<wq.heap.size:=by omega
       rw[hwx] at hap;obtain⟨kp,hkp⟩:∃kp:Nat→Bool,∀x,kp x=true↔x<wq.heap.size∧x≠rb∧x∉(Value.slice av nv cv).ownBlock.toList:=⟨fun x=>decide (x<wq.heap.size∧x≠rb∧x∉(Value.slice av nv cv).ownBlock.toList),by simp⟩;have hnv9:∀x∈(Value.slice av nv cv).ownBlock.toList,B0+2≤x:=fun x hx=>by
        have:=(hov.lt x (by rw[hvf];simpa using hx)).1
        omega
       have k1:kp s0=true:=(hkp _).2 ⟨by omega,by omega,fun hm=>by have:=hnv9 _ hm;omega⟩;have k2:kp lb=true:=(hkp _).2 ⟨by omega,by omega,fun hm=>by have:=hnv9 _ hm;omega⟩;have k3:kp ob=true:=(hkp _).2 ⟨by omega,by omega,fun hm=>by have:=hnv9 _ hm;omega⟩;have HKP:=Hd hkp;have HKE:Hid (∀kk,kp kk=true→w9.heap[kk]? = wq.heap[kk]?):=Hd fun kk hkk=>hk9'.block kk ((hkp kk).1 hkk).1 ((hkp kk).1 hkk).2.2;have grb:=hgrb.2;clear hz hMr b3r b9r hov hfv hgrb hwx hbx hcx ho9 hk9 hb9 hat9 hk9' hat9' hO10 hvI hSv hk10 hrb9 hvf hnv hn9 hkp hnv9 hnS;gi_wp2;have hgr:=hgK (fun x=>kp x=true);refine zak (fun x=>kp x=true) [5,7,8,10] (.sq [0,1,2,3,4,6] (.fork 5 (.sq [7,8,9,10] .done) 7 (.sq [5,8,9,10] .done))) (by kernel_rfl) (by kernel_rfl) (by kernel_rfl) ?_;simp only[TQ,Oper.slim,Nat.reduceBEq,Nat.reduceAdd]
       repeat' first|((with_reducible refine w_I ?_);first|(with_reducible refine w_D ?_)|(with_reducible refine zaf ?_ ?_)|((refine zai _ _ _ rfl rfl rfl rfl rfl hap (fun kk hkk=>HKE.out kk hkk) ?_))|((with_reducible refine w_S (fun K hK=>?_));go_simp;first|(refine hK _ _ ?_;clear hK K)|(refine⟨by (intro kk hkk;first|(simp (disch:=(simp;omega)) only[h_D,h_N,h_A,h_S];done)|(simp[h_D,h_N,h_I,hkk];done)|(have hkk2:=(HKP.out kk).1 hkk;have hkk3:=hkk2.1;have hkk4:=hkk2.2;simp (disch:=(first|exact hkk3|exact hkk4|exact hkk4.1|(simp;done)|(simp;omega))) only[h_D,h_N,h_A,h_S];first|done|exact HKE.out kk hkk)),hK _ _ ?_⟩;clear hK K)))|fail
       all_goals clear hgr
       all_goals
        clear c9 f9 hcv cm1 y3 yk y9 g3 glb g9 k1 k2 k3 hap;gi_wp2;go_roundw
        case rel=>exact⟨I2+1,_,by omega,by simp,HS10,HO10,HVS10,HK10⟩
        case measure=>simp[intOf]<;>omega
      ·obtain rfl:I2=k:=by omega
       have HEND:Hid (yaa w0 lb fb I2 ob rb ib gb qb Bc K2 I ch c1 B0 tn d ah a1 (za9 n) l j W .normal wq):=Hd ⟨HKSF.out (fb :: S0) wq ((HKW7.out.mono (by simp)).trans (HKQ.out.mono (fun x hx=>Zcb _ hx))) (fun x hx=>by
        rcases Zbf.1 hx with h|h
        ·exact .inl h
        ·rcases HS0B.out x h with h|h
         ·exact .inr (.inr (.inl h))
         ·exact .inr (.inr (.inr h.1))),by omega,.inl ⟨rfl,HSQ.out,zp8 a col m,vs2,by
        rw[HE.out];exact HOQ.out.congr fun i hi=>by rw[if_pos hi,zyo hjE.1,hjE.2],by
        rw[HE.out];refine (HV7.out.kp HKQ.out (hnS gb (by omega) (.inl (by omega)))).congr fun p hp=>?_;unfold flat;exact zzb hjE.1 _ _,HC1.out⟩⟩
       gi_wp2;exact HEND.out
   ·have hX:ydd w0 fb k d tn (za9 n) l w7:=⟨HS7.out.kp,HS7.out.ok,zw8 (N:=n) (c:=col) (a:=a) hn.2.1 HND.out (zbd n) HG.out.1 (by rw[HLL.out];exact hfew) hcd (fun hck k' hk' hk2=>HC.out k' ⟨hk2,.inl ⟨hk',by
      rcases Zcf j E with h|h
      ·have h1:=HCOL.out;rw[zgh (by rw[HE.out];exact h) hn.2.1] at h1;omega
      ·have:=HE.out
       omega⟩⟩) hnone⟩
    have HEND:Hid (yaa w0 lb fb k ob rb ib gb qb Bc K2 I ch c1 B0 tn d ah a1 (za9 n) l j W (.goto 0) w7):=Hd ⟨HKSF.out [fb] w7 HKW7.out (fun x hx=>.inl (by simpa using hx)),hs7,.inr ⟨rfl,hX⟩⟩;clear hX hnone HAN;gi_wp2;refine wpIn_goto ?_;exact HEND.out
