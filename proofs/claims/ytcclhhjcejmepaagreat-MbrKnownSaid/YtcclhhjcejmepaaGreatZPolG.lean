import Derived.Test.YtcclhhjcejmepaaGreatZRanges
import Derived.Test.YtcclhhjcejmepaaGreatZRefsA
set_option linter.all false
set_option maxRecDepth 100000
set_option maxHeartbeats 2000000
namespace Go.Proofs.YtcclhhjcejmepaaGreat
open Go.RowKit Fld Go.Shelf
attribute [local go_sem] Oper.semAt_some
structure zxk (l:List GF) (n:Nat):Prop where
 le:n≤l.length
 top:n=0∨l.getD (n-1) 0≠0
 nul:∀j,n≤j→l.getD j 0=0
theorem zxk.trim {l:List GF} {n:Nat} (h:zxk l n):zda l (l.take n):=⟨n,h.le,rfl,zkg h.le h.top,h.nul⟩
def yc9 (l:List GF) (w:World) (e:Ending) (w':World):Prop:=∃n:Nat,zxk l n∧e=.returned (.int .i64 ((n:Int)-1))∧Below w.heap.size w w'
structure yfi (l:List GF) (w:World) (pre:List (Fin l.length)) (W:World):Prop where
 b2:W.heap[w.heap.size]? = some (.cells #[.int .i64 0] 3 (0,0))
 nul:∀i∈pre,l.getD i.val 0=0
 kp:Below w.heap.size w W
structure yfs (l:List GF) (w:World) (c:Code) (pre:List (Fin l.length)) (W:World):Prop where
 isr:c=.ret
 at_:∃(pre0:List (Fin l.length)) (x:Fin l.length),pre=pre0++[x]∧l.getD x.val 0≠0∧(∀i∈pre0,l.getD i.val 0=0)∧W.heap[w.heap.size]? = some (.cells #[.int .i64 (x.val:Nat)] 3 (0,0))
 kp:Below w.heap.size w W
theorem zsg {n:Nat} {pre0:List (Fin n)} {x:Fin n} (h:pre0++[x] <+: (List.finRange n).reverse):∀j (hj:j<n),x.val<j→⟨j,hj⟩∈pre0:=by
 intro j hj hlt;have hk:pre0.length<n:=by
  have:=h.length_le
  simp at this;omega
 have hget:∀i (hi:i<(pre0++[x]).length),(pre0++[x])[i]=⟨n-1-i,by omega⟩:=fun i hi=>by
  have:=h.getElem hi
  rw[this];simp
  try omega
 have hx:x=⟨n-1-pre0.length,by omega⟩:=by
  have:=hget pre0.length (by simp)
  simpa using this
 have hj2:n-1-j<pre0.length:=by rw[hx] at hlt;simp at hlt;omega
 have:=hget (n-1-j) (by simp;omega)
 rw[List.getElem_append_left hj2] at this;rw[show (⟨j,hj⟩:Fin n)=pre0[n-1-j] from by rw[this];ext;simp;omega];exact Zbx _
theorem ybj {w:World} {v:Value} {l:List GF} (h:GRd w v l):∃T:List Nat,(l≠[]→∀k,v.ownBlock=some k→k∈T)∧∀b∈T,b<w.heap.size:=by
 by_cases hl:l=[]
 ·exact⟨[],fun e=>absurd hl e,fun b hb=>by cases hb⟩
 ·obtain⟨x,hx⟩:∃x,l[0]? = some x:=⟨_,zE1 (List.length_pos_iff.2 hl)⟩;obtain⟨a,cap,rfl,hcap⟩:=h.form;obtain⟨b,o,rfl,hb,-⟩:=h.at hx;exact⟨[b],fun _ k hk=>by simp[Value.ownBlock] at hk;simp[hk],fun c hc=>by
   rw[Zaq] at hc;subst hc;exact hb⟩
theorem zta (v:Value) (l:List GF) (w:World) (hG:GRd w v l) (hl:l.length≤1000000000) :
  Calls Tryz.prog 171 #[v] w (yc9 l w):=by
 obtain⟨T,hT1,hT2⟩:=ybj hG;obtain⟨a,cap,rfl,hcap⟩:=hG.form;have HG:=Hd hG;have HT:=Hd (Zao hT1 hT2);clear hG hT1 hT2;obtain⟨N,hN⟩:=zE4 l.length;have HN:=Hd hN;rw[hN] at hcap hl ⊢;clear hN;refine zav Tryz.func171 rfl ?_;simp only[Tryz.ntmps171,TR,Nat.reduceAdd,Nat.reduceSub];go_wp2_with (go_at_call 153;refine (zhn _ _ _ _).mono ?_;rintro e w1 ⟨rfl,hb1,hbx⟩);have b2:w1.heap[w.heap.size]? = some (.cells #[.int .i64 0] 3 (0,0)):=zad hb1 (nwA _ _);have HB1:Hid (Below w.heap.size w w1):=Hd (((Zaa _ _).alloc (zE3 _) _).trans (hb1.mono (by simp)));have HBX:Hid (yc4 w1 (w.heap.size+1) (.slice a N cap)):=Hd (by simpa using hbx);have hbl:w.heap.size+1<w1.heap.size:=lOH HBX.out;have HI1:Hid (yfi l w [] w1):=Hd ⟨b2,by simp,HB1.out⟩;clear b2 hb1 hbx;refine zjy (gf:=173) (lb:=#[.pointer (some ⟨w.heap.size+1,0,none⟩)]) (by kernel_rfl) (enters_of Tryz.func173 (by kernel_rfl) rfl)
  (zjm (w.heap.size+1) ((w.heap.size+1) :: T) (.slice a N cap) l w1 HBX.out (HG.out.below HB1.out |> fun h=>by rwa[HN.out] at h) (by rw[HN.out];exact hl) (by simp) (fun hne k hk=>Zcb _ (HT.out.1 hne k (by rw[HN.out];exact hk))))
  (Zaa _ _) (fun _=>rfl) [w.heap.size] (fun b hb=>by
   rcases Zbf.1 hb with rfl|hb
   ·exact⟨hbl,by simp⟩
   ·have:=HT.out.2 b hb
    exact⟨by omega,by simp;omega⟩) (by simp;omega)
  (yfi l w) (zcq fun s W W' r h hr hk=>by
   have hn:∀k,k<w1.heap.size→k∉r:=fun k hk hm=>by have:=hr k hm;omega
   exact⟨hk.heap h.b2 (hn _ (by omega)),h.nul,h.kp.trans (hk.below h.kp.size (fun x hx=>by have:=hr x hx;omega))⟩)
  (yfs l w) (fun c=>zcq fun s W W' r h hr hk=>by
   have hn:∀k,k<w1.heap.size→k∉r:=fun k hk hm=>by have:=hr k hm;omega
   obtain⟨p0,x,h1,h2,h3,h4⟩:=h.at_;exact⟨h.isr,⟨p0,x,h1,h2,h3,hk.heap h4 (hn _ (by omega))⟩,h.kp.trans (hk.below h.kp.size (fun x hx=>by have:=hr x hx;omega))⟩) HI1.out
  (fun i=>{ tmps:=#[.slice a N cap,undef,.pointer (some ⟨w.heap.size,0,none⟩),undef,undef,.slice a N cap,.func (.func 173) #[] #[.pointer (some ⟨w.heap.size+1,0,none⟩)],.int .i64 (i.val:Nat),.int .u8 ((l[i.val].n:Nat):Int),undef,undef,undef],defers:=[] })
  (fun i=>{ tmps:=#[.slice a N cap,undef,.pointer (some ⟨w.heap.size,0,none⟩),.int .i64 (i.val:Nat),.int .u8 ((l[i.val].n:Nat):Int),.slice a N cap,.func (.func 173) #[] #[.pointer (some ⟨w.heap.size+1,0,none⟩)],.int .i64 (i.val:Nat),.int .u8 ((l[i.val].n:Nat):Int),undef,undef,undef],defers:=[] })
  (fun x=>by kernel_rfl) ?assign ?body ?done ?stop
 case assign =>
  intro lv i W K hK;gi_wp2;exact hK
 case body =>
  rintro lv pre ⟨i,hi⟩ W hI hlt hsz;dsimp only;have HI:=Hd hI;clear hI;obtain⟨z,hz⟩:∃z,l[i]=z:=⟨_,rfl⟩;have hzd:l.getD i 0=z:=by rw[zE2,zE1 hi,hz];rfl
  rw[hz];have HZ:=Hd hzd;have y2:=cOH HI.out.b2 (j:=0) rfl;have z2:=fOH HI.out.b2 0;have g2:=lOH HI.out.b2;clear hz hzd hlt;by_cases h0:z.n=0
  ·have HP:Hid (yfi l w (pre++[⟨i,hi⟩]) W):=Hd ⟨HI.out.b2,fun j hj=>by
    rcases Zba.1 hj with hj|hj
    ·exact HI.out.nul j hj
    ·rw[Zaq] at hj;rw[hj,HZ.out];exact GF.eq0.2 h0,HI.out.kp⟩
   rw[h0];clear h0;gi_wp2;exact⟨Kp.refl _ _,HP.out⟩
  ·have hk:Kp [w.heap.size] W (W.setCell ⟨w.heap.size,0,none⟩ (.int .i64 (i:Nat))):=(Kp.refl _ _).setCell (.inl (by simp)) _;have HP:Hid (Kp [w.heap.size] W (W.setCell ⟨w.heap.size,0,none⟩ (.int .i64 (i:Nat)))∧yfs l w .ret (pre++[⟨i,hi⟩]) (W.setCell ⟨w.heap.size,0,none⟩ (.int .i64 (i:Nat)))):=Hd ⟨hk,rfl,⟨pre,⟨i,hi⟩,rfl,by rw[HZ.out];exact GF.ne0.2 h0,HI.out.nul,by
    have:=hSS HI.out.b2 0 (.int .i64 (i:Nat))
    simpa using this⟩,HI.out.kp.trans (hk.below HI.out.kp.size (by simp))⟩
   have h0':¬(z.n:Int)=0:=by omega
   clear hk h0;gi_wp2;exact HP.out
 case done =>
  rintro D0 xs W hD0 rfl hI hK0;have hk:Kp [w.heap.size] W (W.setCell ⟨w.heap.size,0,none⟩ (.int .i64 (-1))):=(Kp.refl _ _).setCell (.inl (by simp)) _;have hc:(W.setCell ⟨w.heap.size,0,none⟩ (.int .i64 (-1))).heap[w.heap.size]? = some (.cells #[.int .i64 (-1)] 3 (0,0)):=by
   have:=hSS hI.b2 0 (.int .i64 (-1))
   simpa using this
  have HTOP:Hid (zxk l 0):=Hd ⟨by omega,.inl rfl,fun j _=>by
   by_cases hj:j<l.length
   ·exact hI.nul ⟨j,hj⟩ (by simp)
   ·rw[zE2,Zbm (by omega)];rfl⟩
  have HK1:=Hd (hk.heap hK0 (by simp;omega));have HB2:Hid (Below w.heap.size w (W.setCell ⟨w.heap.size,0,none⟩ (.int .i64 (-1)))):=Hd (hI.kp.trans (hk.below hI.kp.size (by simp)));have y2:=cOH hI.b2 (j:=0) rfl;have z2:=fOH hI.b2 0;have g2:=lOH hI.b2;have HC:=Hd hc;have hD1:=Hd hD0;clear hI hK0 hk hc hD0;go_wp2;have hDD:=hD1.out;exact zal (B:=w.heap.size) [D0] _ (zbf.cons (zbf.nil _ _) (by omega) HK1.out (by simp)) fun w' hk=>by have c2:=cOH (hk.heap HC.out (by simp;omega)) (j:=0) rfl;exact⟨.int .i64 (-1),by simp[results,Tryz.results171,go_sem,c2],0,HTOP.out,rfl,HB2.out.trans (hk.below HB2.out.size (by simp;omega))⟩
 case stop =>
  rintro D0 c pre W hD0 hpre hX hK0;obtain⟨rfl,⟨p0,x,rfl,hx,hz,hb⟩,hkp⟩:=hX;have HTOP:Hid (zxk l (x.val+1)):=Hd ⟨x.isLt,.inr (by simpa using hx),fun j hj=>by
   by_cases hjl:j<l.length
   ·exact hz ⟨j,hjl⟩ (zsg hpre j hjl (by omega))
   ·rw[zE2,Zbm (by omega)];rfl⟩
  have HC:=Hd hb;have HK0:=Hd hK0;have HB2:=Hd hkp;have hD1:=Hd hD0;clear hb hK0 hkp hD0 hx hz hpre;go_wp2;have hDD:=hD1.out;exact zal (B:=w.heap.size) [D0] _ (zbf.cons (zbf.nil _ _) (by omega) HK0.out (by simp)) fun w' hk=>by have c2:=cOH (hk.heap HC.out (by simp;omega)) (j:=0) rfl;exact⟨.int .i64 (x.val:Nat),by simp[results,Tryz.results171,go_sem,c2],x.val+1,HTOP.out,by simp,HB2.out.trans (hk.below HB2.out.size (by simp;omega))⟩
def zgo (l:List GF) (w:World) (e:Ending) (w':World):Prop :=
 ∃v p,e=.returned v∧zda l p∧zao w' w.heap.size v p∧Below w.heap.size w w'
theorem zi5 (v:Value) (l:List GF) (w:World) (h:GRd w v l) (hl:l.length≤1000000) :
  Calls Tryz.prog 149 #[v] w (zgo l w):=by
 have HD:=Hd (zta v l w h (by omega));obtain⟨a,cap,rfl,hcap⟩:=h.form;obtain⟨L,hL⟩:=zE4 l.length;have HL:=Hd hL;rw[hL] at hl hcap h HD ⊢;have H:=Hd h;clear h hL;go_enter Tryz.func149,Tryz.ntmps149;go_wp2_with fail;refine HD.out.mono ?_;rintro e w1 ⟨n,htop,rfl,hb1⟩;have hn:n≤L:=by have:=htop.le;rw[HL.out] at this;exact this
 obtain⟨sa,sc,hsl,hs2,-⟩:=zoy a L cap n (by omega);obtain⟨v1,w3,hap,ho3,hb3⟩:=zpw (hs2 w1 l (H.out.below hb1) (by rw[HL.out];exact hn)) (by rw[Zan];omega);have HP:Hid (zgo l w (.returned v1) w3):=Hd ⟨v1,_,rfl,htop.trim,ho3.mono hb1.size,hb1.trans (hb3.mono hb1.size)⟩;clear htop hb1 hs2 ho3 hb3;go_wp2_with (at_builtin;refine zae rfl _ _ _ rfl rfl rfl hap ?_);go_ret;exact HP.out
end Go.Proofs.YtcclhhjcejmepaaGreat
namespace Go.Proofs.YtcclhhjcejmepaaGreat
open Go.RowKit Fld
theorem zz4 (o n N:Nat) (r g:Nat→GF) (t x:GF) (h:o+n≤N):ev (rowF (zbu o n r t g) N) x=ev (rowF g N) x+pw x o*(ev (rowF r n) x*t):=by
 obtain⟨m,rfl⟩:∃m,N=o+n+m:=⟨N-(o+n),by omega⟩;rw[zb8,zb8,zb8];rw[zc6 (o+n) m,zc6 o n,zc6 (o+n) m (fun i=>g i*pw x i),zc6 o n (fun i=>g i*pw x i)];have e1:sm o (fun i=>zbu o n r t g i*pw x i)=sm o (fun i=>g i*pw x i):=zaj fun i hi=>by rw[zbu,if_neg (by omega)]
 have e3:sm m (fun i=>zbu o n r t g (o+n+i)*pw x (o+n+i))=sm m (fun i=>g (o+n+i)*pw x (o+n+i)):=zaj fun i hi=>by rw[zbu,if_neg (by omega)]
 have e2:sm n (fun i=>zbu o n r t g (o+i)*pw x (o+i))=sm n (fun i=>g (o+i)*pw x (o+i))+pw x o*(sm n (fun i=>r i*pw x i)*t):=by rw[←zln,←zfu,←zfv];refine zaj fun i hi=>?_;rw[zbu,if_pos (by omega),show o+i-o=i by omega,dam,yaj];congr 1;rw[mulC (r i*t),Fld.mulA,←Fld.mulA (pw x i),mulC (pw x i) (r i)]
 rw[e1,e2,e3,Fld.addA,Fld.addA,Fld.addA,Fld.addA,ztw (pw x o*_)]
def zxo (fb bt N:Nat) (g:Nat→GF) (w:World) (e:Ending) (w':World):Prop:=e=.returned (.tuple #[])∧Kp [fb,bt] w w'∧FOk w' fb∧zag w' bt N g
theorem zvb (fb bt ot n N ct:Nat) (br orr cr:Nat) (g r:Nat→GF) (t:GF) (w:World) (hF:FOk w fb) (hV:zag w bt N g) (hR:ze6 w br orr n r) (hN:ot+n≤N)
  (hn:N≤1000000000) (hfb:fb≠bt) (hfr:fb≠br) (hd:bt≠br) :
  Calls Tryz.prog 152 #[.pointer (some ⟨fb,0,none⟩),.slice (some ⟨bt,0,none⟩) N ct,.slice (some ⟨br,orr,none⟩) n cr,.int .u8 (t.n:Nat),.int .i64 ot] w (zxo fb bt N (zbu ot n r t g) w):=by
 have HF:=Hd hF;have HV:=Hd hV;have HR:=Hd hR;have HD:=Hd hd;obtain⟨T,hT⟩:=zE4 t.n;rw[hT];have HT:=Hd hT;clear hF hV hR hd hT;go_enter Tryz.func152,Tryz.ntmps152;go_wp2;go_loopg [14] n (fun gk i wr=>∃I:Nat,I≤n∧gk=n-I∧i=.int .i64 I∧Hid (FOk wr fb)∧Hid (zag wr bt N (zbu ot I r t g))∧Hid (ze6 wr br orr n r)∧Hid (Kp [fb,bt] w wr))
 case atStart=>exact⟨0,by omega,rfl,rfl,HF,by rw[zk8];exact HV,HR,Hd (Kp.refl _ _)⟩
 case round =>
  clear HF HV HR;obtain⟨I,hI,rfl,rfl,HF,HV,HR,HK⟩:=hrel;by_cases hlt:I<n
  ·have c1:=HR.out.2 I hlt;obtain⟨P,hP⟩:=zE4 (I+ot);have hPN:P<N:=by omega
   have cv:=HV.out.2 P hPN;have hgo:zbu ot I r t g P=g P:=by rw[zbu,if_neg (by omega)]
   rw[hgo] at cv;obtain⟨c2,f2⟩:=cv;obtain⟨y,hy⟩:=zE4 ((r I).n);obtain⟨z,hz2⟩:=zE4 ((g P).n);have HM:Hid (∀W,FOk W fb→Calls Tryz.prog 48 #[.pointer (some ⟨fb,0,none⟩),.int .u8 (y:Nat),.int .u8 (T:Nat)] W (zeq fb (r I*t) W)):=Hd (fun W hW=>by rw[←hy,←HT.out];exact zd3 _ _ _ _ hW);have HA:Hid (∀W,Calls Tryz.prog 36 #[.int .u8 (z:Nat),.int .u8 ((r I*t).n:Nat)] W fun e w'=>e=.returned (.int .u8 ((g P+r I*t).n:Nat))∧W=w'):=Hd (fun W=>by rw[←hz2];exact zey _ _ _);rw[hy] at c1;rw[hz2] at c2;clear hgo hy hz2;have HV2:Hid (∀W,zag W bt N (zbu ot I r t g)→zag (W.setCell ⟨bt,P,none⟩ (.int .u8 ((g P+r I*t).n:Nat))) bt N (zbu ot (I+1) r t g)):=Hd (fun W hW=>by
    rw[←zk9,show P=ot+I by omega];exact hW.set (by omega) _)
   obtain⟨p,hp⟩:=zE4 ((r I*t).n);obtain⟨q,hq⟩:=zE4 ((g P+r I*t).n);rw[hp,hq] at HA;rw[hq] at HV2;unfold zeq at HM;rw[hp] at HM;have hPi:(I:Int)+(ot:Int)=(P:Int):=by omega
   have hPw:=zE6 (P:Int) (by omega);clear hp hq hP;obtain⟨kp,hkp⟩:∃kp:Nat→Bool,∀k,kp k=true↔k<wr.heap.size∧k≠fb∧k≠bt:=⟨fun k=>decide (k<wr.heap.size∧k≠fb∧k≠bt),by simp⟩;have HKP:=Hd hkp;clear hkp;have hbl:bt<wr.heap.size:=HV.out.1;have HNF:Hid (fb≠bt):=Hd hfb;have q1:(0:Int)≤(I:Int)∧(I:Int)<(n:Int):=by omega
   have q2:(0:Int)≤(P:Int)∧(P:Int)<(N:Int):=by omega
   go_upto_region 3 with fail
   have hgr:=hgK (fun k=>kp k=true);refine w_T (fun k=>kp k=true) [9,13,14,16] (.sq [0,1,2,3,4,5,6,7,8,10,11,12] (.fork 9 (.sq [13,14,15,16] .done) 13 (.sq [9,14,15,16] .done))) (by kernel_rfl) (by kernel_rfl) ?_;simp only[TQ,Oper.slim,Nat.reduceBEq,Nat.reduceAdd]
   repeat' first|((with_reducible refine w_I ?_);first|(with_reducible refine w_D ?_)|(with_reducible refine zaf ?_ ?_)|((with_reducible refine w_S (fun K hK=>?_));go_simp;first|(refine hK _ _ ?_;clear hK K)|(refine⟨by (intro kk hkk;first|(simp (disch:=(simp;omega)) only[h_D,h_N,h_A,h_S];done)|(simp[h_D,h_N,h_I,hkk];done)|fail),hK _ _ ?_⟩;clear hK K)|(go_at_call 48;(with_reducible refine (HM.out _ (HF.out.kp ((Kp.refl [] _).drew) (by simp))).mono ?_);rintro e w1 ⟨rfl,hk,hm⟩;have c3:=(hk.cell (p:=⟨bt,P,none⟩) hbl (by simpa using HNF.out.symm)).trans c2;have f3:=(hk.frozen (p:=⟨bt,P,none⟩) hbl (by simpa using HNF.out.symm)).trans f2;have HK1:=Hd hk;have HM1:=Hd hm;clear hk hm;refine⟨_,rfl,(fun kk hkk=>HK1.out.block kk ((HKP.out kk).1 hkk).1 (by have:=((HKP.out kk).1 hkk).2;simpa using this.1)),hK _ _ ?_⟩;clear hK K)|(go_at_call 36;(with_reducible refine (HA.out _).mono ?_);rintro e w2 ⟨rfl,rfl⟩;refine⟨_,rfl,(fun kk hkk=>HK1.out.block kk ((HKP.out kk).1 hkk).1 (by have:=((HKP.out kk).1 hkk).2;simpa using this.1)),hK _ _ ?_⟩;clear hK K)|(refine⟨(fun kk hkk=>rfl),hK _ _ ?_⟩;clear hK K)|(refine⟨(fun kk hkk=>HK1.out.block kk ((HKP.out kk).1 hkk).1 (by have:=((HKP.out kk).1 hkk).2;simpa using this.1)),hK _ _ ?_⟩;clear hK K)|(refine⟨(fun kk hkk=>(h_S _ _ _ _ (by have:=((HKP.out kk).1 hkk).2;simpa using this.2)).trans (HK1.out.block kk ((HKP.out kk).1 hkk).1 (by have:=((HKP.out kk).1 hkk).2;simpa using this.1))),hK _ _ ?_⟩;clear hK K)))|fail
   all_goals clear hgr
   all_goals
    have HF2:=Hd (HM1.out.kp ((Kp.refl [bt] w1).setCell (p:=⟨bt,P,none⟩) (.inl (by simp)) (.int .u8 (q:Nat))) (by simpa using HNF.out));have HVN:=Hd (HV2.out w1 ((HV.out.drew).kp HK1.out (by simpa using HNF.out.symm)));have HRN:=Hd (((HR.out.kp ((Kp.refl [] _).drew) (by simp)).kp HK1.out (by simpa using (fun e=>hfr e.symm))).set (c:=bt) (k:=P) (.inl HD.out) (.int .u8 (q:Nat)));have HKN:Hid (Kp [fb,bt] w (w1.setCell ⟨bt,P,none⟩ (.int .u8 (q:Nat)))):=Hd (((HK.out.drew.step HK1.out (by simp))).setCell (.inl (by simp)) _);go_wp2;go_roundg (n-(I+1))
    case measure=>omega
    case rel=>exact⟨I+1,by omega,rfl,by go_num,HF2,HVN,HRN,HKN⟩
  ·obtain rfl:I=n:=by omega
   go_wp2;go_end0;exact⟨rfl,HK.out,HF.out,HV.out⟩
end Go.Proofs.YtcclhhjcejmepaaGreat
