import Derived.Test.YtcclhhjcejmepaaGreatZPolG
set_option linter.all false
set_option maxRecDepth 100000
set_option maxHeartbeats 4000000
namespace Go.Proofs.YtcclhhjcejmepaaGreat
open Go.RowKit Fld Go.Shelf
attribute [local go_sem] Oper.semAt_some
def zhw (stp:Nat→GF→(Nat→GF)→(Nat→GF)) (n0 cnt:Nat):∀j,j≤cnt→(Nat→GF)→List (Fin cnt×GF)
 | 0,_,_=>[]
 | j+1,h,g=>(⟨j,h⟩,g (n0+j)) :: zhw stp n0 cnt j (Nat.le_of_succ_le h) (stp j (g (n0+j)) g)
theorem zmj (stp:Nat→GF→(Nat→GF)→(Nat→GF)) (n0 cnt:Nat):∀j h g,(zhw stp n0 cnt j h g).length=j
 | 0,_,_=>rfl
 | j+1,h,g=>by rw[zhw,Zbt,zmj stp n0 cnt j]
def yfn (n0 cnt:Nat) (x:Fin cnt×GF):Array Value:=#[.int .i64 ((n0+x.1.val:Nat):Int),.int .u8 ((x.2.n:Nat):Int)]
def RD (T:List Nat) (rb N cnt:Nat) (stp:Nat→GF→(Nat→GF)→(Nat→GF)) (x:Fin cnt×GF) (W W':World):Prop :=
 W.heap.size≤W'.heap.size∧KS T W W'∧∀g,zag W rb N g→zag W' rb N (stp x.1.val x.2 g)
theorem zzn (sa:Option Addr) (sn sc:Nat) (fr to_:Int) (w:World) :
  Calls Tryz.prog 150 #[.slice sa sn sc,.int .i64 fr,.int .i64 to_] w fun e w'=>e=.returned (.func (.func 172) #[] #[.pointer (some ⟨w.heap.size+1,0,none⟩),.pointer (some ⟨w.heap.size+1+1,0,none⟩),.pointer (some ⟨w.heap.size,0,none⟩)]) ∧
   Below w.heap.size w w'∧w'.heap[w.heap.size]? = some (.cells #[.slice sa sn sc] 22 (0,0))∧w'.heap[w.heap.size+1]? = some (.cells #[.int .i64 fr] 3 (0,0))∧w'.heap[w.heap.size+1+1]? = some (.cells #[.int .i64 to_] 3 (0,0)):=by
 have hmf:∀(fn:Fn) (first cap:Array Value) (w:World),(Instr.makeFunc fn first cap).run Tryz.prog w=.ok (.func fn first cap) w:=fun _ _ _ _=>rfl;go_enter Tryz.func150,Tryz.ntmps150;go_wp2;go_ret;refine⟨rfl,by (repeat' (first|with_reducible (first|exact Zaa _ _|assumption|refine Zac ?_|refine Zab ?_ ?_ _)|omega|(simp;done)|(simp;omega))),?_,?_,?_⟩
 ·exact zaw (zaw (nwA _ _) _) _
 ·exact zaw (nwE _ _ _ (by simp)) _
 ·exact nwE _ _ _ (by simp)
theorem zw2 (Bf Bt Ba rb N capr n0 cnt:Nat) (ra:Option Addr) (fr:Int) (g0:Nat→GF) (stp:Nat→GF→(Nat→GF)→(Nat→GF)) (w0:World)
  (hf:w0.heap[Bf]? = some (.cells #[.int .i64 fr] 3 (0,0))) (ht:w0.heap[Bt]? = some (.cells #[.int .i64 n0] 3 (0,0))) (ha:w0.heap[Ba]? = some (.cells #[.slice ra N capr] 22 (0,0))) (hra:0<N→ra=some ⟨rb,0,none⟩)
  (hv:zag w0 rb N g0) (hfr:fr=(n0:Int)+cnt-1∨cnt=0∧fr<(n0:Int)) (hN:cnt=0∨n0+cnt≤N) (hb:-1≤fr∧N≤1000000000∧n0≤1000000000) :
  yfq Tryz.prog 172 #[.pointer (some ⟨Bf,0,none⟩),.pointer (some ⟨Bt,0,none⟩),.pointer (some ⟨Ba,0,none⟩)] (yfn n0 cnt) (RD [Bf,Bt,Ba] rb N cnt stp) (fun xs=>xs=zhw stp n0 cnt cnt (zE3 _) g0) cnt w0:=by
 intro lv J W hW hJ hY h0;have HBf:Hid (W.heap[Bf]? = some (.cells #[.int .i64 fr] 3 (0,0))):=Hd (zad hW hf);have HBt:Hid (W.heap[Bt]? = some (.cells #[.int .i64 n0] 3 (0,0))):=Hd (zad hW ht);have HBa:Hid (W.heap[Ba]? = some (.cells #[.slice ra N capr] 22 (0,0))):=Hd (zad hW ha);have HV:=Hd (hv.below hW);refine callsIn_of_wp Tryz.func172 rfl trivial ?_ rfl;simp only[Tryz.ntmps172,TR,Nat.reduceAdd,Nat.reduceSub];have cf:W.cell? ⟨Bf,0,none⟩=some (.int .i64 fr):=cell_of_row _ _ _ _ _ (0,0) HBf.out;have HJ0:=Hd h0;have HYY:=Hd hY;have HRA:=Hd hra;clear hf ht ha hv hW h0 hJ hY hra;gi_wp2;gi_loopw [5] (fun i wr=>∃(j:Nat) (iv:Int) (g:Nat→GF) (pre:List (Fin cnt×GF)) (hjc:j≤cnt),i=.int .i64 iv∧(iv=(n0:Int)+j-1∨j=0∧iv<(n0:Int))∧-1≤iv∧iv≤2000000000∧Hid (J pre wr)∧Hid (pre++zhw stp n0 cnt j hjc g=zhw stp n0 cnt cnt (zE3 _) g0)∧Hid (zag wr rb N g) ∧
   Hid (wr.heap[Bt]? = some (.cells #[.int .i64 n0] 3 (0,0)))∧Hid (wr.heap[Ba]? = some (.cells #[.slice ra N capr] 22 (0,0))))
  (fun i _=>(intOf i+1).toNat)
 case atStart=>exact⟨cnt,fr,g0,[],zE3 _,rfl,hfr,hb.1,by omega,HJ0,Hd rfl,HV,HBt,HBa⟩
 case round =>
  obtain⟨j,iv,g,pre,hj,rfl,hiv,hi1,hi2,HJ,HPRE,HVx,HBt,HBa⟩:=hrel;have ct:wr.cell? ⟨Bt,0,none⟩=some (.int .i64 n0):=cell_of_row _ _ _ _ _ (0,0) HBt.out;have ca:wr.cell? ⟨Ba,0,none⟩=some (.slice ra N capr):=cell_of_row _ _ _ _ _ (0,0) HBa.out;clear cf;by_cases hge:(n0:Int)≤iv
  ·obtain⟨k,rfl⟩:∃k,j=k+1:=⟨j-1,by omega⟩;obtain⟨I,hI⟩:=zE5 (n0+k);have hivI:iv=(I:Int):=by omega
   subst hivI;have hIN:I<N:=by omega
   have hra:=HRA.out (by omega);rw[hra] at ca;have c1:=(HVx.out.2 I hIN).1;have hpl:pre.length<cnt:=by
    have:=congrArg List.length HPRE.out
    rw[Zak,zmj,zmj] at this;omega
   obtain⟨fn,tmps,assign,body,hy,hR5⟩:=HYY.out pre (⟨k,hj⟩,g I) wr HJ.out hpl;have HR5:=Hd hR5;simp only[yfn,←hI] at hy;obtain⟨y,hyy⟩:=zE4 ((g I).n);rw[hyy] at c1 hy;have e3:IntKind.i64.wrap ((I:Int)-1)=(I:Int)-1:=Zbd _ (by omega);have e4:(0:Int)≤(I:Int)∧(I:Int)<(N:Int):=by omega
   have HI:=Hd hI;clear hR5 hyy hI hra;gi_wp2;refine HR5.out.mono ?_;rintro e W3 ⟨rfl,hJ3,hs3,hk3,hv3⟩;have HB3t:Hid (W3.heap[Bt]? = some (.cells #[.int .i64 n0] 3 (0,0))):=Hd ((hk3 Bt (by simp)).trans HBt.out);have HB3a:Hid (W3.heap[Ba]? = some (.cells #[.slice ra N capr] 22 (0,0))):=Hd ((hk3 Ba (by simp)).trans HBa.out);have HV3:=Hd (hv3 g HVx.out);have HP3:Hid ((pre++[(⟨k,hj⟩,g I)])++zhw stp n0 cnt k (Nat.le_of_succ_le hj) (stp k (g I) g)=zhw stp n0 cnt cnt (zE3 _) g0):=Hd (by
    rw[←HPRE.out,zhw,HI.out];simp)
   have HJ3:=Hd hJ3;clear hJ3 hk3 hv3 hs3;gi_wp2;go_roundw
   case rel=>exact⟨k,(I:Int)-1,stp k (g I) g,pre++[(⟨k,hj⟩,g I)],Nat.le_of_succ_le hj,rfl,by have:=HI.out;omega,by omega,by omega,HJ3,HP3,HV3,HB3t,HB3a⟩
   case measure=>simp[intOf]<;>omega
  ·have hj0:j=0:=by omega
   subst hj0;gi_wp2;go_end0;have hJF:J (zhw stp n0 cnt cnt (zE3 _) g0) wr:=by
    have:=HJ.out
    rw[←HPRE.out,zhw,Zal];exact this
   first
    | exact hJF
    | exact⟨⟨_,rfl⟩,_,rfl,hJF⟩
    | exact⟨⟨_,rfl⟩,hJF⟩
end Go.Proofs.YtcclhhjcejmepaaGreat
namespace Go.Proofs.YtcclhhjcejmepaaGreat
open Go.RowKit Fld
noncomputable def zg6 (b:List GF) (n:Nat):Nat→GF→(Nat→GF)→(Nat→GF):=fun j c g=>zbu j (n+1) (fun i=>b.getD i 0) (c*Fld.inv (b.getD n 0)) g
noncomputable def zts (b:List GF) (n:Nat):Nat→GF→(Nat→GF)→(Nat→GF):=fun j c q=>fun i=>if i=j then c*Fld.inv (b.getD n 0) else q i
noncomputable def zf2 (b:List GF) (n:Nat) {cnt:Nat} (xs:List (Fin cnt×GF)) (g:Nat→GF):Nat→GF:=xs.foldl (fun g x=>zg6 b n x.1.val x.2 g) g
noncomputable def zht (b:List GF) (n:Nat) {cnt:Nat} (xs:List (Fin cnt×GF)) (q:Nat→GF):Nat→GF:=xs.foldl (fun q x=>zts b n x.1.val x.2 q) q
theorem zsl (b:List GF) (n:Nat) {cnt:Nat} (xs:List (Fin cnt×GF)) (x:Fin cnt×GF) (g:Nat→GF):zf2 b n (xs++[x]) g=zg6 b n x.1.val x.2 (zf2 b n xs g):=by simp[zf2]
theorem zso (b:List GF) (n:Nat) {cnt:Nat} (xs:List (Fin cnt×GF)) (x:Fin cnt×GF) (q:Nat→GF):zht b n (xs++[x]) q=zts b n x.1.val x.2 (zht b n xs q):=by simp[zht]
theorem ybl (b:List GF) (n:Nat) {j cnt:Nat} (c:GF) {q:Nat→GF} (hj:j<cnt) (hq:q j=0) (y:GF):ev (rowF (zts b n j c q) cnt) y=ev (rowF q cnt) y+pw y j*(c*Fld.inv (b.getD n 0)):=by
 rw[zb8,zb8];have e:sm cnt (fun i=>zts b n j c q i*pw y i)=sm cnt (fun i=>q i*pw y i+(if i=j then c*Fld.inv (b.getD n 0)*pw y j else 0)):=zaj fun i hi=>by
  unfold zts;by_cases h:i=j
  ·rw[if_pos h,if_pos h,h,hq,zmul,zadd]
  ·rw[if_neg h,if_neg h,addz]
 rw[e,zfv];congr 1;rw[zhh j hj (fun i hi hne=>by rw[if_neg hne]),if_pos rfl,mulC]
theorem zlv {b:List GF} {n:Nat} (hb:b.length=n) (y:GF):ev (rowF (fun i=>b.getD i 0) n) y=ev b y:=by rw[zb8,zg4,hb]
theorem zw4 {b:List GF} {n N cnt:Nat} (hb:b.length=n+1) (ht:b.getD n 0≠0) (hN:n+cnt≤N):∀(j:Nat) (h:j≤cnt) (g q:Nat→GF),(∀i,i<j→q i=0) →
  (∀y,ev (rowF (zht b n (zhw (zg6 b n) n cnt j h g) q) cnt) y*ev b y+ev (rowF (zf2 b n (zhw (zg6 b n) n cnt j h g) g) N) y=ev (rowF q cnt) y*ev b y+ev (rowF g N) y) ∧
  (∀i,n≤i→i<n+j→zf2 b n (zhw (zg6 b n) n cnt j h g) g i=0)∧∀i,n+j≤i→zf2 b n (zhw (zg6 b n) n cnt j h g) g i=g i
 | 0,h,g,q,hq=>⟨fun y=>rfl,fun i h1 h2=>by omega,fun i _=>rfl⟩
 | j+1,h,g,q,hq=>by
  obtain⟨u,hu⟩:=zE5 (g (n+j)*Fld.inv (b.getD n 0));obtain⟨h1,h2,h3⟩:=zw4 hb ht hN j (Nat.le_of_succ_le h) (zg6 b n j (g (n+j)) g) (zts b n j (g (n+j)) q) (fun i hi=>by
   unfold zts;rw[if_neg (by omega)];exact hq i (by omega))
  have er:zf2 b n (zhw (zg6 b n) n cnt (j+1) h g) g=zf2 b n (zhw (zg6 b n) n cnt j (Nat.le_of_succ_le h) (zg6 b n j (g (n+j)) g)) (zg6 b n j (g (n+j)) g):=rfl;have eq:zht b n (zhw (zg6 b n) n cnt (j+1) h g) q=zht b n (zhw (zg6 b n) n cnt j (Nat.le_of_succ_le h) (zg6 b n j (g (n+j)) g)) (zts b n j (g (n+j)) q):=rfl;rw[er,eq];refine⟨fun y=>?_,fun i hi1 hi2=>?_,fun i hi=>?_⟩
  ·rw[h1,ybl b n _ (by omega) (hq j (by omega)),zg6,zz4 _ _ _ _ _ _ _ (by omega),zlv hb,←hu,dam,Fld.mulA (pw y j),mulC u,ztw (ev (rowF g N) y),←Fld.addA,Fld.addA (ev (rowF q cnt) y*ev b y),zmv,addz]
  ·by_cases e:i=n+j
   ·rw[e,h3 _ (zE3 _),zg6,zbu,if_pos (by omega),show n+j-j=n by omega,←hu,hu,ydx,zsz _ ht,mone,zmv]
   ·exact h2 i hi1 (by omega)
  ·rw[h3 i (by omega),zg6,zbu,if_neg (by omega)]
theorem zot {l p:List GF} (h:zda l p) (ht:zfp l):p=l:=by
 obtain⟨n,hn,rfl,_,hz⟩:=h;rcases ht with rfl|ht
 ·simp
 ·have:n=l.length:=by
   refine Nat.le_antisymm hn (Nat.le_of_not_lt fun hlt=>ht (hz _ (by omega)))
  rw[this,Zbs]
theorem zm2 {l p:List GF} {n:Nat} (h:zda l p) (hz:∀j,n≤j→l.getD j 0=0):p.length≤n:=by
 obtain⟨k,hk,rfl,ht,_⟩:=h;rw[Zan,Zbn hk];refine Nat.le_of_not_lt fun hlt=>?_;rcases ht with ht|ht
 ·have:=congrArg List.length ht
  rw[Zan,Zbn hk] at this;simp at this;omega
 ·rw[Zan,Zbn hk] at ht;refine ht ?_;rw[zE2,List.getElem?_take,if_pos (by omega),←zE2];exact hz _ (by omega)
theorem zuz {f:Nat→GF} {N j:Nat} (h:N≤j):(rowF f N).getD j 0=0:=by rw[zE2,Zbm (by rw[zaa];exact h)];rfl
theorem ycs {a b pa Q R:List GF} {n N cnt:Nat} (hb:b.length=n+1) (ht:b.getD n 0≠0) (hpa:zda a pa) (hN:pa.length=N) (hc:n+cnt=N∨cnt=0∧N≤n)
  (hQ:zda (rowF (zht b n (zhw (zg6 b n) n cnt cnt (zE3 _) (fun i=>pa.getD i 0)) (fun _=>0)) cnt) Q) (hR:zda (rowF (zf2 b n (zhw (zg6 b n) n cnt cnt (zE3 _) (fun i=>pa.getD i 0)) (fun i=>pa.getD i 0)) N) R) :
  (∀y,ev a y=ev Q y*ev b y+ev R y)∧R.length≤n∧Q.length≤a.length-n:=by
 have hle:=hpa.len;have h0:∀y,ev (rowF (fun _=>(0:GF)) cnt) y=0:=fun y=>zez (fun c hc=>by
  obtain⟨i,_,rfl⟩:=Zau.1 hc;rfl) y
 rcases hc with hc|⟨rfl,hc⟩
 ·obtain⟨h1,h2,h3⟩:=zw4 hb ht (by omega:n+cnt≤N) cnt (zE3 _) (fun i=>pa.getD i 0) (fun _=>0) (fun _ _=>rfl);refine⟨fun y=>?_,zm2 hR fun j hj=>?_,?_⟩
  ·have:=h1 y
   rw[h0,zmul,zadd,zlv hN,hpa.ev] at this;rw[hQ.ev,hR.ev,this]
  ·by_cases hjN:j<N
   ·rw[zam _ hjN];exact h2 j hj (by omega)
   ·exact zuz (by omega)
  ·have:=hQ.len
   rw[zaa] at this;omega
 ·refine⟨fun y=>?_,?_,?_⟩
  ·have e1:zf2 b n (zhw (zg6 b n) n 0 0 (zE3 _) (fun i=>pa.getD i 0)) (fun i=>pa.getD i 0)=fun i=>pa.getD i 0:=rfl;rw[hQ.ev,hR.ev,e1,zlv hN,hpa.ev,show rowF (zht b n (zhw (zg6 b n) n 0 0 (zE3 _) (fun i=>pa.getD i 0)) (fun _=>0)) 0=[] from rfl,zei,zmul,zadd]
  ·have:=hR.len
   rw[zaa] at this;omega
  ·have:=hQ.len
   rw[zaa] at this;omega
open Go.Shelf
attribute [local go_sem] Oper.semAt_some
def zrn (fb:Nat) (a b:List GF) (n:Nat) (w:World) (e:Ending) (w':World):Prop :=
 ∃u v Q R,e=.returned (.tuple #[u,v,.int .i64 0])∧zao w' w.heap.size u Q∧zao w' w.heap.size v R∧zfp Q∧zfp R∧(∀y,ev a y=ev Q y*ev b y+ev R y)∧R.length≤n∧Q.length≤a.length-n∧Kp [fb] w w'∧FOk w' fb
structure yfh (fb F N9 R bb rb n N cnt M cb ca:Nat) (aa:Option Addr) (b:List GF) (w:World) (g q:Nat→GF) (W:World):Prop where
 ok:FOk W fb
 h3:W.heap[F]? = some (.cells #[.pointer (some ⟨fb,0,none⟩)] 29 (0,0))
 h5:W.heap[F+1]? = some (.cells #[.slice (some ⟨bb,0,none⟩) M cb] 22 (0,0))
 h9:W.heap[N9]? = some (.cells #[.int .i64 n] 3 (0,0))
 h10:W.heap[R]? = some (.cells #[.slice aa N ca] 22 (0,0))
 h11:W.heap[R+1+1]? = some (.cells #[.slice (some ⟨R+1,0,none⟩) cnt cnt] 22 (0,0))
 bv:zag W bb M (fun i=>b.getD i 0)
 rv:zag W rb N g
 qv:zag W (R+1) cnt q
 kp:Kp [fb] w W
theorem zag.uniq {w:World} {b N:Nat} {g g':Nat→GF} (h:zag w b N g) (h':zag w b N g'):∀j,j<N→g j=g' j:=fun j hj=>by have h1:=(h.2 j hj).1.symm.trans (h'.2 j hj).1;simp only[Option.some.injEq,Value.int.injEq,true_and] at h1;exact GF.ext' (by omega)
theorem RD.put {T:List Nat} {rb N cnt B:Nat} {stp:Nat→GF→(Nat→GF)→(Nat→GF)} (hT:∀x∈T,x<B) (hr:rb<B) (x:Fin cnt×GF) (W W':World) (l:Nat) (o:Obj) (hl:B≤l) :
  (RD T rb N cnt stp x (W.putObj l o) W'→RD T rb N cnt stp x W W')∧(RD T rb N cnt stp x W W'→RD T rb N cnt stp x W (W'.putObj l o)):=by
 refine⟨fun h=>⟨by have:=h.1;simpa using this,fun b hb=>(h.2.1 b hb).trans (Zap (by have:=hT b hb;omega)),fun g hv=>h.2.2 g (hv.kp (zdq W l o) (by simp;omega))⟩,
  fun h=>⟨by have:=h.1;simpa using this,fun b hb=>(Zap (by have:=hT b hb;omega)).trans (h.2.1 b hb),fun g hv=>(h.2.2 g hv).kp (zdq W' l o) (by simp;omega)⟩⟩
def yei (F N9 R:Nat) (u:Nat→Value):Array Value:=#[u 0,u 1,u 2,.pointer (some ⟨F,0,none⟩),u 4,.pointer (some ⟨F+1,0,none⟩),u 6,u 7,u 8,.pointer (some ⟨N9,0,none⟩),.pointer (some ⟨R,0,none⟩),.pointer (some ⟨R+1+1,0,none⟩),u 12,u 13,u 14,u 15,u 16,u 17,u 18,u 19,u 20,u 21,u 22,u 23,u 24,u 25,u 26,u 27,u 28,u 29,u 30,u 31,u 32,u 33,u 34,u 35,u 36,u 37,u 38,u 39,u 40,u 41,u 42,u 43,u 44,u 45,u 46,u 47,u 48,u 49,u 50,u 51,u 52,u 53,u 54,u 55,u 56,u 57,u 58,u 59,u 60,u 61,u 62,u 63,u 64,u 65,u 66,u 67,u 68]
theorem zyl (fb:Nat) (u v:Value) (a b:List GF) (n:Nat) (w:World) (hF:FOk w fb) (hu:GRd w u a) (hv:GRd w v b) (hb:b.length=n+1) (ht:b.getD n 0≠0) (hal:a.length≤100000) (hbl:n≤100000) :
  Calls Tryz.prog 116 #[.pointer (some ⟨fb,0,none⟩),u,v] w (zrn fb a b n w):=by
 obtain⟨au,cu,rfl,hcu⟩:=hu.form;obtain⟨av,cv,rfl,hcv⟩:=hv.form;have htb:zfp b:=.inr (by rw[hb];exact ht);rw[hb] at hv hcv ⊢;have HTR:=Hd (fun (V:Value) (l:List GF) (W:World) (h:GRd W V l) (hl:l.length≤1000000)=>zi5 V l W h hl);have HU:=Hd hu;have HV:=Hd hv;have HB:=Hd hb;have HTB:=Hd (Zao ht htb);have HF:=Hd hF;have hfl:=hF.lt;clear hu hv hb ht htb hF;refine zav Tryz.func116 rfl ?_;simp only[Tryz.ntmps116,TR,Nat.reduceAdd,Nat.reduceSub];go_wp2_with fail;have ha2:Below w.heap.size w ((w.alloc (.cells #[.pointer (some ⟨fb,0,none⟩)] 29)).alloc (.cells #[.slice av (n+1) cv] 22)):=by (repeat' (first|with_reducible (first|exact Zaa _ _|assumption|refine Zac ?_|refine Zab ?_ ?_ _)|omega|(simp;done)|(simp;omega)))
 refine (HTR.out _ b _ (HV.out.below ha2) (by rw[HB.out];omega)).mono ?_;rintro e w1 ⟨vb,p,rfl,htr,hob,hb1⟩;obtain rfl:=zot htr HTB.out.2;obtain⟨ab,cb,rfl,hcb⟩:=hob.form;rw[HB.out] at hcb;rw[HB.out];have y3:w1.heap[w.heap.size]? = some (.cells #[.pointer (some ⟨fb,0,none⟩)] 29 (0,0)):=zad hb1 (zaw (nwA _ _) _);have y5:w1.heap[w.heap.size+1]? = some (.cells #[.slice av (n+1) cv] 22 (0,0)):=zad hb1 (nwE _ _ _ (by simp));have hs1:w.heap.size+2≤w1.heap.size:=by have:=hb1.size;simp at this;omega
 have HB1:Hid (Below w.heap.size w w1):=Hd (ha2.trans (hb1.mono ha2.size));obtain⟨w2,hw2⟩:=zE5 (w1.setCell ⟨w.heap.size+1,0,none⟩ (.slice ab (n+1) cb));have hk2:Kp [w.heap.size+1] w1 w2:=by rw[hw2];exact (Kp.refl _ _).setCell (.inl (by simp)) _
 have HK2:=Hd hk2;have HY3:=Hd (hk2.heap y3 (by simp));have HY5:Hid (w2.heap[w.heap.size+1]? = some (.cells #[.slice ab (n+1) cb] 22 (0,0))):=Hd (by
  rw[hw2];have:=hSS y5 0 (.slice ab (n+1) cb);simpa using this)
 have HOB:=Hd (hob.kp hk2 (fun c hc hm=>by
  have:=(hob.lt c hc).1
  simp at hm this
  omega))
 have HW2:=Hd hw2;have c5:=cOH y5 (j:=0) rfl;have f5:=fOH y5 0;have g5:=lOH y5;have c5':=cOH HY5.out (j:=0) rfl;have hs2:=hk2.size;clear ha2 htr hob hb1 y3 y5 hk2 hw2;go_upto_region 2 with fail
 rw[←HW2.out];clear c5 f5 g5 HW2;go_wp2_with fail;have hb3:Below w2.heap.size w2 (w2.alloc (.cells #[.int .i64 n] 3)):=(Zaa _ _).alloc (zE3 _) _;have HBW2:Hid (Below w.heap.size w w2):=Hd (HB1.out.trans (HK2.out.below (by omega) (by simp)));refine (HTR.out _ a _ (HU.out.below (HBW2.out.trans (hb3.mono HBW2.out.size))) (by omega)).mono ?_;rintro e w3 ⟨va,pa,rfl,htra,hoa,hb4⟩;obtain⟨aa,ca,rfl,hca⟩:=hoa.form;obtain⟨N,hN⟩:=zE4 pa.length;rw[hN] at hca;rw[hN];have hNa:N≤100000:=by have:=htra.len;omega
 have hb23:Below w2.heap.size w2 w3:=hb3.trans (hb4.mono (by simp));have HB23:=Hd hb23;have y9:w3.heap[w2.heap.size]? = some (.cells #[.int .i64 n] 3 (0,0)):=zad hb4 (nwA _ _);have HY9:=Hd y9;have c9:=cOH y9 (j:=0) rfl;have g9:=lOH y9;have hs3:w2.heap.size+1≤w3.heap.size:=by have:=hb4.size;simpa using this
 have HOA:=Hd hoa;have HNN:=Hd hN;have HTA:=Hd htra;obtain⟨cnt,hcnt⟩:=zE4 (N-n);have hmax:max 0 ((N:Int)-(n:Int))=(cnt:Int):=by omega
 obtain⟨i0,hi,hz0,hz1,hz2⟩:=info_parts zbi;have hmk:∀W,(Instr.makeSlice 22 (.int .i64 cnt) (.int .i64 cnt)).run Tryz.prog W=.ok (.slice (some ⟨W.heap.size,0,none⟩) cnt cnt) (W.alloc (.cells (Array.replicate cnt (.int .u8 0)) 5)):=fun W =>
  zb4 W 22 5 i0 (.int .u8 0) Tryz.underlying22 hi hz0 hz1 rfl cnt (by rw[hz2];omega) (by unfold maxLen;omega)
 have HCN:=Hd hcnt;clear hb3 hb4 hb23 y9 htra hoa hN hi hz0 hz1 hz2 hcnt c5';obtain⟨w4,hw4⟩:=zE5 (((w3.alloc (.cells #[.slice aa N ca] 22)).alloc (.cells (Array.replicate cnt (.int .u8 0)) 5)).alloc (.cells #[.slice (some ⟨w3.heap.size+1,0,none⟩) cnt cnt] 22));have hb34:Below w3.heap.size w3 w4:=by rw[hw4];(repeat' (first|with_reducible (first|exact Zaa _ _|assumption|refine Zac ?_|refine Zab ?_ ?_ _)|omega|(simp;done)|(simp;omega)))
 have HB34:=Hd hb34;have HY10:Hid (w4.heap[w3.heap.size]? = some (.cells #[.slice aa N ca] 22 (0,0))):=Hd (by rw[hw4];exact zaw (zaw (nwA _ _) _) _);have HQ4:Hid (w4.heap[w3.heap.size+1]? = some (.cells (Array.replicate cnt (.int .u8 0)) 5 (0,0))):=Hd (by rw[hw4];exact zaw (nwE _ _ _ (by simp)) _);have HY11:Hid (w4.heap[w3.heap.size+1+1]? = some (.cells #[.slice (some ⟨w3.heap.size+1,0,none⟩) cnt cnt] 22 (0,0))):=Hd (by rw[hw4];exact nwE _ _ _ (by simp));have HW4:=Hd hw4;have hs4:=hb34.size;clear hb34 hw4;go_upto_region 7 with fail
 rw[←HW4.out];have c9':=cOH (zad HB34.out HY9.out) (j:=0) rfl;have c10:=cOH HY10.out (j:=0) rfl;clear c9 g9 HW4;go_wp2_with (go_at_call 150;refine (zzn aa N ca ((N:Int)-1) n w4).mono ?_;rintro e w5 ⟨rfl,hb5,hBa,hBf,hBt⟩);have HB5:=Hd hb5;have HBA:=Hd hBa;have HBF:=Hd hBf;have HBT:=Hd hBt;clear hb5 hBa hBf hBt;obtain⟨bb,cb',e,hbb,hbc,hbv⟩:=HOB.out.view (fun h=>by have:=HB.out;rw[h] at this;simp at this);have e2:ab=some ⟨bb,0,none⟩:=by injection e
 subst e2;have e3:cb=cb':=by injection e
 subst e3;obtain⟨rb,HRB,HRV⟩:∃rb,Hid (0<N→aa=some ⟨rb,0,none⟩∧w2.heap.size<rb∧rb<w3.heap.size)∧Hid (zag w4 rb N (fun i=>pa.getD i 0)):=by
  by_cases h0:pa=[]
  ·have hN0:N=0:=by rw[←HNN.out,h0];rfl
   exact⟨w3.heap.size+1,Hd (fun h=>by omega),Hd ⟨lOH HQ4.out,fun j hj=>by omega⟩⟩
  ·obtain⟨g,cap,e,h1,h2,h3⟩:=HOA.out.view h0;have e2:aa=some ⟨g,0,none⟩:=by injection e
   rw[HNN.out] at h3;exact⟨g,Hd (fun _=>⟨e2,by have:=h1;simp at this;omega,h3.1⟩),Hd (h3.below HB34.out)⟩
 obtain⟨M,hM⟩:=zE4 (n+1);have hbb1:w.heap.size+1<bb:=by have:=hbb;simp at this;omega
 have hbb2:bb<w2.heap.size:=hbv.1;have hb35:Below w3.heap.size w3 w5:=HB34.out.trans (HB5.out.mono HB34.out.size);have hb25:Below w2.heap.size w2 w5:=HB23.out.trans (hb35.mono HB23.out.size);have hb05:Below w.heap.size w w5:=HBW2.out.trans (hb25.mono HBW2.out.size);rw[hM] at HY5;have HI0:Hid (yfh fb w.heap.size w2.heap.size w3.heap.size bb rb n N cnt M cb ca aa p w (fun i=>pa.getD i 0) (fun _=>0) w5):=Hd (by
  rw[HB.out,hM] at hbv;exact⟨HF.out.below hb05,zad hb25 HY3.out,zad hb25 HY5.out,zad hb35 HY9.out,zad HB5.out HY10.out,zad HB5.out HY11.out,hbv.below hb25,HRV.out.below HB5.out,
   zag.below ⟨lOH HQ4.out,fun j hj=>⟨by
    have:=cOH HQ4.out (j:=j) (v:=.int .u8 0) (by simp[hj])
    exact this,fOH HQ4.out j⟩⟩ HB5.out,Kp.of_below hb05⟩)
 have s1:=lOH HI0.out.h3;have s2:=lOH HI0.out.h5;have s3:=lOH HI0.out.h9;have s4:=lOH HI0.out.h10;have s5:=lOH HI0.out.h11;have s6:=HI0.out.rv.1;have s7:=lOH HBA.out;have s8:=lOH HBF.out;have s9:=lOH HBT.out;have s10:=lOH HQ4.out;have s11:=lOH HY11.out;have HM:=Hd hM;have hbR:0<N→w2.heap.size<rb∧rb<w3.heap.size:=fun h=>(HRB.out h).2;clear hbb hbc hbv hb35 hb25 hb05 e HRV;refine zc3 (yei w.heap.size w2.heap.size w3.heap.size) _ (by kernel_rfl) 34 (.func (.func 172) #[] #[.pointer (some ⟨w4.heap.size+1,0,none⟩),.pointer (some ⟨w4.heap.size+1+1,0,none⟩),.pointer (some ⟨w4.heap.size,0,none⟩)]) (by kernel_rfl) ?_;intro u hu;have HU:=Hd hu;clear hu;refine zrr (gf:=172) (lb:=#[.pointer (some ⟨w4.heap.size+1,0,none⟩),.pointer (some ⟨w4.heap.size+1+1,0,none⟩),.pointer (some ⟨w4.heap.size,0,none⟩)]) (show u 34=_ from HU.out) (enters_of Tryz.func172 (by kernel_rfl) rfl)
  (zw2 (w4.heap.size+1) (w4.heap.size+1+1) w4.heap.size rb N ca n cnt aa ((N:Int)-1) (fun i=>pa.getD i 0) (zg6 p n) w5 HBF.out HBT.out HBA.out (fun h=>(HRB.out h).1) HI0.out.rv (by have:=HCN.out;omega) (by have:=HCN.out;omega) (by omega))
  (Zaa _ _) (fun _=>rfl) (fun x W l o' W' hl h=>(RD.put (B:=w5.heap.size) (by simp;omega) s6 x W W' l o' hl).1 h) (fun x W W' l o' hl h=>(RD.put (B:=w5.heap.size) (by simp;omega) s6 x W W' l o' hl).2 h)
  [fb,rb,w3.heap.size+1] (by simp;omega)
  (fun pre W=>yfh fb w.heap.size w2.heap.size w3.heap.size bb rb n N cnt M cb ca aa p w (zf2 p n pre (fun i=>pa.getD i 0)) (zht p n pre (fun _=>0)) W)
  (zcq fun s W W' r h hr hk=>by
   have hn:∀k,k<w5.heap.size→k∉r:=fun k hk hm=>by have:=hr k hm;omega
   exact⟨h.ok.kp hk (hn _ (by omega)),hk.heap h.h3 (hn _ (by omega)),hk.heap h.h5 (hn _ (by omega)),hk.heap h.h9 (hn _ (by omega)),hk.heap h.h10 (hn _ (by omega)),hk.heap h.h11 (hn _ (by omega)),h.bv.kp hk (hn _ (by omega)),h.rv.kp hk (hn _ (by omega)),h.qv.kp hk (hn _ (by omega)),h.kp.step hk (fun x hx=>.inr (by have:=hr x hx;omega))⟩) HI0.out
  (fun x=>{ tmps:=#[u 0,u 1,u 2,.pointer (some ⟨w.heap.size,0,none⟩),u 4,.pointer (some ⟨w.heap.size+1,0,none⟩),u 6,u 7,u 8,.pointer (some ⟨w2.heap.size,0,none⟩),.pointer (some ⟨w3.heap.size,0,none⟩),.pointer (some ⟨w3.heap.size+1+1,0,none⟩),u 12,u 13,u 14,u 15,u 16,u 17,u 18,u 19,u 20,u 21,u 22,u 23,u 24,u 25,u 26,u 27,u 28,u 29,u 30,u 31,u 32,u 33,u 34,.int .i64 ((n+x.1.val:Nat):Int),.int .u8 ((x.2.n:Nat):Int),u 37,u 38,u 39,u 40,u 41,u 42,u 43,u 44,u 45,u 46,u 47,u 48,u 49,u 50,u 51,u 52,u 53,u 54,u 55,u 56,u 57,u 58,u 59,u 60,u 61,u 62,u 63,u 64,u 65,u 66,u 67,u 68],defers:=[] })
  (fun x=>{ tmps:=#[u 0,u 1,u 2,.pointer (some ⟨w.heap.size,0,none⟩),u 4,.pointer (some ⟨w.heap.size+1,0,none⟩),u 6,u 7,u 8,.pointer (some ⟨w2.heap.size,0,none⟩),.pointer (some ⟨w3.heap.size,0,none⟩),.pointer (some ⟨w3.heap.size+1+1,0,none⟩),.int .i64 ((n+x.1.val:Nat):Int),.int .u8 ((x.2.n:Nat):Int),u 14,u 15,u 16,u 17,u 18,u 19,u 20,u 21,u 22,u 23,u 24,u 25,u 26,u 27,u 28,u 29,u 30,u 31,u 32,u 33,u 34,.int .i64 ((n+x.1.val:Nat):Int),.int .u8 ((x.2.n:Nat):Int),u 37,u 38,u 39,u 40,u 41,u 42,u 43,u 44,u 45,u 46,u 47,u 48,u 49,u 50,u 51,u 52,u 53,u 54,u 55,u 56,u 57,u 58,u 59,u 60,u 61,u 62,u 63,u 64,u 65,u 66,u 67,u 68],defers:=[] }) (fun x=>by kernel_rfl) ?assign ?body ?done
 case assign =>
  intro lv x W K hK;gi_wp2;exact hK
 case body =>
  rintro lv pre ⟨⟨j,hj⟩,c⟩ W hI hlt hsz;dsimp only;have hN0:0<N:=by have:=HCN.out;omega
  obtain⟨haa,hr1,hr2⟩:=HRB.out hN0;subst haa;have HI:=Hd hI;have hjn:n+j<N:=by have:=HCN.out;omega
  obtain⟨I,hIe⟩:=zE4 (n+j);rw[hIe];obtain⟨G,hG⟩:∃G,zf2 p n pre (fun i=>pa.getD i 0)=G:=⟨_,rfl⟩;obtain⟨Qf,hQf⟩:∃Qf,zht p n pre (fun _=>0)=Qf:=⟨_,rfl⟩;rw[hG,hQf] at HI;have HGG:=Hd hG;have HQF:=Hd hQf;obtain⟨t,ht⟩:=zE4 (c*Fld.inv (p.getD n 0));have HTT:=Hd ht;have y3:=cOH HI.out.h3 (j:=0) rfl;have y5:=cOH HI.out.h5 (j:=0) rfl;have y9:=cOH HI.out.h9 (j:=0) rfl;have y11:=cOH HI.out.h11 (j:=0) rfl;have g3:=lOH HI.out.h3;have g5:=lOH HI.out.h5;have g9:=lOH HI.out.h9;have g11:=lOH HI.out.h11;have yb:=(HI.out.bv.2 n (by have:=HM.out;omega)).1;obtain⟨cq,fq⟩:=HI.out.qv.2 j hj;have gq:=HI.out.qv.1;have gb:=HI.out.bv.1;have gr:=HI.out.rv.1;have HDIV:Hid (∀W,FOk W fb→Calls Tryz.prog 151 #[.pointer (some ⟨fb,0,none⟩),.int .u8 (c.n:Nat),.int .u8 ((p.getD n 0).n:Nat)] W (fun e w'=>e=.returned (.tuple #[.int .u8 (t.n:Nat),.bool true])∧Kp [fb] W w'∧FOk w' fb)):=Hd fun W h=>by
   have:=zq5 c (p.getD n 0) fb W h
   rw[decide_eq_true HTB.out.1] at this;rw[←ht];exact this
  have HMORE:Hid (∀W',FOk W' fb→zag W' rb N G→zag W' bb M (fun i=>p.getD i 0)→Calls Tryz.prog 152 #[.pointer (some ⟨fb,0,none⟩),.slice (some ⟨rb,0,none⟩) N ca,.slice (some ⟨bb,0,none⟩) M cb,.int .u8 (t.n:Nat),.int .i64 j] W' (fun e w'=>e=.returned (.tuple #[])∧Kp [fb,rb] W' w'∧FOk w' fb∧zag w' rb N (zbu j M (fun i=>p.getD i 0) t G))):=Hd fun W' hf hv hb=>by have hra:=ze6.of_view hb (o:=0) (n:=M) (by omega);simp only[Zbe] at hra;exact zvb fb rb j M N ca bb 0 cb G _ t W' hf hv hra (by have:=HM.out;omega) (by omega) (by omega) (by omega) (by omega)
  obtain⟨cN,hcN⟩:∃x,c.n=x:=⟨_,rfl⟩;obtain⟨bN,hbN⟩:∃x,(p.getD n 0).n=x:=⟨_,rfl⟩;obtain⟨tN,htN⟩:∃x,t.n=x:=⟨_,rfl⟩;obtain⟨zN,hzN⟩:∃x,(Qf j).n=x:=⟨_,rfl⟩;have HTN:=Hd htN;rw[hcN,hbN,htN] at HDIV;rw[htN] at HMORE;rw[hbN] at yb;rw[hzN] at cq;rw[hcN];have q1:(0:Int)≤(n:Int)∧(n:Int)<(M:Int):=by have:=HM.out;omega
  have q2:(0:Int)≤(j:Int)∧(j:Int)<(cnt:Int):=by omega
  have e1:(I:Int)-(n:Int)=(j:Int):=by omega
  have e2:=zE6 (j:Int) (by omega);obtain⟨kp,hkp⟩:∃kp:Nat→Bool,∀k,kp k=true↔k<W.heap.size∧k≠fb∧k≠w3.heap.size+1:=⟨fun k=>decide (k<W.heap.size∧k≠fb∧k≠w3.heap.size+1),by simp⟩;have k1:kp w.heap.size=true:=(hkp _).2 ⟨by omega,by omega,by omega⟩;have k2:kp (w.heap.size+1)=true:=(hkp _).2 ⟨by omega,by omega,by omega⟩;have k3:kp w2.heap.size=true:=(hkp _).2 ⟨by omega,by omega,by omega⟩;have k4:kp (w3.heap.size+1+1)=true:=(hkp _).2 ⟨by omega,by omega,by omega⟩;have k5:kp bb=true:=(hkp _).2 ⟨by omega,by omega,by omega⟩;have HKP:=Hd hkp;clear hI hkp hG hQf ht hcN hbN htN hzN hlt hIe;gi_wp2;have hgr:=hgK (fun k=>kp k=true);refine zak (fun k=>kp k=true) [10,15] (.sq [0,1,2,3,4,5,6,7,8,9,10,11,12,13,14,15] .done) (by kernel_rfl) (by kernel_rfl) (by kernel_rfl) ?_;simp only[TQ,Oper.slim,Nat.reduceBEq,Nat.reduceAdd]
  repeat' first|((with_reducible refine w_I ?_);first|(with_reducible refine w_D ?_)|((with_reducible refine w_S (fun K hK=>?_));go_simp;first|(refine hK _ _ ?_;clear hK K)|(refine⟨by (intro kk hkk;first|(simp (disch:=(simp;omega)) only[h_D,h_N,h_A,h_S];done)|(simp[h_D,h_N,h_I,hkk];done)|(have hkk2:=(HKP.out kk).1 hkk;simp (disch:=(first|exact hkk2|(simp;done)|(simp;omega))) only[h_D,h_N,h_A,h_S];first|done|exact HK6.out.block kk hkk2.1 (by have:=hkk2.2.1;simpa using this))),hK _ _ ?_⟩;clear hK K)|(go_at_call 151;(with_reducible refine (HDIV.out _ (HI.out.ok.below ((Zaa _ _).drew))).mono ?_);rintro e w6 ⟨rfl,hk6,hf6⟩;have c6:=(hk6.cell (p:=⟨w3.heap.size+1,j,none⟩) gq (by simp;omega)).trans cq;have f6:=(hk6.frozen (p:=⟨w3.heap.size+1,j,none⟩) gq (by simp;omega)).trans fq;have HK6:=Hd hk6;have HF6:=Hd hf6;clear hk6 hf6;refine⟨_,rfl,(fun kk hkk=>HK6.out.block kk ((HKP.out kk).1 hkk).1 (by have:=((HKP.out kk).1 hkk).2;simpa using this.1)),hK _ _ ?_⟩;clear hK K)))|fail
  clear hgr;have hv7:zag (w6.setCell ⟨w3.heap.size+1,j,none⟩ (.int .u8 (tN:Nat))) (w3.heap.size+1) cnt (zts p n j c Qf):=by
   have:=((HI.out.qv.drew).kp HK6.out (by simp;omega)).set hj t
   rw[HTN.out] at this;refine this.congr fun i hi=>?_;unfold zts;rw[HTT.out]
  have hk7:Kp [fb,w3.heap.size+1] W (w6.setCell ⟨w3.heap.size+1,j,none⟩ (.int .u8 (tN:Nat))):=((((Kp.refl [fb,w3.heap.size+1] W).drew).trans (HK6.out.mono (by simp)))).setCell (.inl (by simp)) _;have hf7:FOk (w6.setCell ⟨w3.heap.size+1,j,none⟩ (.int .u8 (tN:Nat))) fb:=HF6.out.kp (S:=[w3.heap.size+1]) ((Kp.refl _ _).setCell (.inl (by simp)) _) (by simp;omega);obtain⟨w7,hw7⟩:=zE5 (w6.setCell ⟨w3.heap.size+1,j,none⟩ (.int .u8 (tN:Nat)));rw[←hw7] at hv7 hk7 hf7 ⊢;have HV7:=Hd hv7;have HK7:=Hd hk7;have HF7:=Hd hf7;have hs7:=hk7.size;have HB7:=Hd (HI.out.bv.kp hk7 (by simp;omega));have HR7:=Hd (HI.out.rv.kp hk7 (by simp;omega));have z3:=cOH (hk7.heap HI.out.h3 (by simp;omega)) (j:=0) rfl;have z5:=cOH (hk7.heap HI.out.h5 (by simp;omega)) (j:=0) rfl;have z9:=cOH (hk7.heap HI.out.h9 (by simp;omega)) (j:=0) rfl;have z10:=cOH (hk7.heap HI.out.h10 (by simp;omega)) (j:=0) rfl;have z11:=cOH (hk7.heap HI.out.h11 (by simp;omega)) (j:=0) rfl;have zq:=(hv7.2 j hj).1;have ezq:zts p n j c Qf j=t:=by unfold zts;rw[if_pos rfl,HTT.out]
  rw[ezq,HTN.out] at zq;obtain⟨kp2,hkp2⟩:∃kp:Nat→Bool,∀k,kp k=true↔k<w7.heap.size∧k≠fb∧k≠rb:=⟨fun k=>decide (k<w7.heap.size∧k≠fb∧k≠rb),by simp⟩;have kk1:kp2 w.heap.size=true:=(hkp2 _).2 ⟨by omega,by omega,by omega⟩;have kk2:kp2 (w.heap.size+1)=true:=(hkp2 _).2 ⟨by omega,by omega,by omega⟩;have kk3:kp2 w2.heap.size=true:=(hkp2 _).2 ⟨by omega,by omega,by omega⟩;have kk4:kp2 (w3.heap.size+1+1)=true:=(hkp2 _).2 ⟨by omega,by omega,by omega⟩;have kk5:kp2 w3.heap.size=true:=(hkp2 _).2 ⟨by omega,by omega,by omega⟩;have kk6:kp2 (w3.heap.size+1)=true:=(hkp2 _).2 ⟨by omega,by omega,by omega⟩;have HKP2:=Hd hkp2;clear hw7 hv7 hk7 hf7 ezq hkp2 c6 f6 cq fq yb y3 y5 y9 y11 HDIV;gi_wp2;have hgr:=hgK (fun k=>kp2 k=true);refine zak (fun k=>kp2 k=true) [12] (.sq [0,1,2,3,4,5,6,7,8,9,10,11,12] .done) (by kernel_rfl) (by kernel_rfl) (by kernel_rfl) ?_;simp only[TQ,Oper.slim,Nat.reduceBEq,Nat.reduceAdd]
  repeat' first|((with_reducible refine w_I ?_);first|(with_reducible refine w_D ?_)|((with_reducible refine w_S (fun K hK=>?_));go_simp;first|(refine hK _ _ ?_;clear hK K)|(refine⟨by (intro kk hkk;first|(simp (disch:=(simp;omega)) only[h_D,h_N,h_A,h_S];done)|(simp[h_D,h_N,h_I,hkk];done)|(have hkk2:=(HKP.out kk).1 hkk;simp (disch:=(first|exact hkk2|(simp;done)|(simp;omega))) only[h_D,h_N,h_A,h_S];first|done|exact HK6.out.block kk hkk2.1 (by have:=hkk2.2.1;simpa using this))),hK _ _ ?_⟩;clear hK K)|(go_at_call 152;(with_reducible refine (HMORE.out _ (HF7.out.below ((Zaa _ _).drew)) (HR7.out.drew) (HB7.out.drew)).mono ?_);rintro e w8 ⟨rfl,hk8,hf8,hv8⟩;have HK8:Hid (Kp [fb,rb] w7 w8):=Hd (((Kp.refl [fb,rb] w7).drew).trans hk8);have HF8:=Hd hf8;have HV8:=Hd hv8;clear hk8 hf8 hv8;refine⟨_,rfl,(fun kk hkk=>HK8.out.block kk ((HKP2.out kk).1 hkk).1 (by have:=((HKP2.out kk).1 hkk).2;simpa using this)),hK _ _ ?_⟩;clear hK K)))|fail
  clear hgr;have hk:Kp [fb,rb,w3.heap.size+1] W w8:=(HK7.out.mono (by simp)).trans (HK8.out.mono (by simp));have hFIN:Kp [fb,rb,w3.heap.size+1] W w8∧RD [w4.heap.size+1,w4.heap.size+1+1,w4.heap.size] rb N cnt (zg6 p n) (⟨j,hj⟩,c) W w8∧yfh fb w.heap.size w2.heap.size w3.heap.size bb rb n N cnt M cb ca (some ⟨rb,0,none⟩) p w (zf2 p n (pre++[(⟨j,hj⟩,c)]) (fun i=>pa.getD i 0)) (zht p n (pre++[(⟨j,hj⟩,c)]) (fun _=>0)) w8:=by
   refine⟨hk,⟨hk.size,fun x hx=>hk.block x (by simp at hx;omega) (by simp at hx ⊢;omega),fun g hg=>HV8.out.congr fun i hi=>?_⟩,?_⟩
   ·have:=HI.out.rv.uniq hg i hi
    unfold zg6 zbu;rw[this,HTT.out,HM.out]
   ·rw[zsl,zso,HGG.out,HQF.out];refine⟨HF8.out,hk.heap HI.out.h3 (by simp;omega),hk.heap HI.out.h5 (by simp;omega),hk.heap HI.out.h9 (by simp;omega),hk.heap HI.out.h10 (by simp;omega),hk.heap HI.out.h11 (by simp;omega),HI.out.bv.kp hk (by simp;omega),?_,HV7.out.kp HK8.out (by simp;omega),HI.out.kp.step hk (fun x hx=>by simp at hx ⊢;omega)⟩;refine HV8.out.congr fun i hi=>?_;unfold zg6;rw[HTT.out,HM.out]
  have HFIN:=Hd hFIN;clear hFIN hk;gi_wp2;exact HFIN.out
 case done =>
  rintro D0 xs W hD0 rfl hI hK0;have hdl:=lOH hK0;obtain⟨lq,hlq⟩:∃lq,rowF (zht p n (zhw (zg6 p n) n cnt cnt (zE3 _) (fun i=>pa.getD i 0)) (fun _=>0)) cnt=lq:=⟨_,rfl⟩;obtain⟨lr,hlr⟩:∃lr,rowF (zf2 p n (zhw (zg6 p n) n cnt cnt (zE3 _) (fun i=>pa.getD i 0)) (fun i=>pa.getD i 0)) N=lr:=⟨_,rfl⟩;have hgq:GRd W (.slice (some ⟨w3.heap.size+1,0,none⟩) cnt cnt) lq:=by rw[←hlq];exact hI.qv.rowF (zE3 _)
  have hgr:GRd W (.slice aa N ca) lr:=by
   by_cases h0:0<N
   ·rw[(HRB.out h0).1,←hlr];exact hI.rv.rowF hca
   ·obtain rfl:N=0:=by omega
    have hlr0:lr=[]:=by rw[←hlr];rfl
    rw[hlr0];exact⟨by simp,aa,ca,rfl,Zbp _,fun h=>absurd rfl h⟩
  have hql:lq.length≤1000000:=by rw[←hlq,zaa];have:=HCN.out;omega
  have hrl:lr.length≤1000000:=by rw[←hlr,zaa];omega
  have HTQ:Hid (∀W',Below W.heap.size W W'→Calls Tryz.prog 149 #[.slice (some ⟨w3.heap.size+1,0,none⟩) cnt cnt] W' (zgo lq W')):=Hd fun W' h=>zi5 _ lq W' (hgq.below h) hql;have HTL:Hid (∀W',Below W.heap.size W W'→Calls Tryz.prog 149 #[.slice aa N ca] W' (zgo lr W')):=Hd fun W' h=>zi5 _ lr W' (hgr.below h) hrl;have y10:=cOH hI.h10 (j:=0) rfl;have y11:=cOH hI.h11 (j:=0) rfl;have g10:=lOH hI.h10;have g11:=lOH hI.h11;have HI:=Hd hI;have HK0:=Hd hK0;have hD1:=Hd hD0;have HLQ:=Hd hlq;have HLR:=Hd hlr;obtain⟨kp,hkp⟩:∃kp:Nat→Bool,∀k,kp k=true↔k<W.heap.size:=⟨fun k=>decide (k<W.heap.size),by simp⟩;have k1:kp w3.heap.size=true:=(hkp _).2 g10;have k2:kp (w3.heap.size+1+1)=true:=(hkp _).2 g11;have HKP:=Hd hkp;clear hI hK0 hD0 hgq hgr hlq hlr hql hrl hkp;unfold yei;go_upto_region 12 with fail
  have hgr:=hgK (fun k=>kp k=true);refine w_T (fun k=>kp k=true) [1,3] (.sq [0,2,1,3,4,5,6] .done) (by kernel_rfl) (by kernel_rfl) ?_;simp only[TQ,Oper.slim,Nat.reduceBEq,Nat.reduceAdd]
  repeat' first|((with_reducible refine w_I ?_);first|(with_reducible refine w_D ?_)|((with_reducible refine w_S (fun K hK=>?_));go_simp;first|(refine hK _ _ ?_;clear hK K)|(refine⟨by (intro kk hkk;first|(simp (disch:=(simp;omega)) only[h_D,h_N,h_A,h_S];done)|(simp[h_D,h_N,h_I,hkk];done)|(have hkk2:=(HKP.out kk).1 hkk;simp (disch:=(first|exact hkk2|(simp;done)|(simp;omega))) only[h_D,h_N,h_A,h_S];first|done|exact HK6.out.block kk hkk2.1 (by have:=hkk2.2.1;simpa using this))),hK _ _ ?_⟩;clear hK K)|(go_at_call 149;(with_reducible refine (HTQ.out _ ((Zaa _ _).drew)).mono ?_);rintro e w6 ⟨vq,Q,rfl,htq,hoq,hbq⟩;have HTRQ:=Hd htq;have HOQ:=Hd hoq;have HBQ:Hid (Below W.heap.size W w6):=Hd ((Zaa _ _).drew.trans (hbq.mono (zE3 _)));clear htq hoq hbq;refine⟨_,rfl,(fun kk hkk=>HBQ.out.block kk ((HKP.out kk).1 hkk)),hK _ _ ?_⟩;clear hK K)|(go_at_call 149;(with_reducible refine (HTL.out _ HBQ.out).mono ?_);rintro e w7 ⟨vr,R,rfl,htl,hol,hbl⟩;have HTRL:=Hd htl;have HOL:=Hd hol;have HBL:Hid (Below w6.heap.size w6 w7):=Hd hbl;have HBQL:Hid (Below W.heap.size W w7):=Hd (HBQ.out.trans (hbl.mono HBQ.out.size));clear htl hol hbl;refine⟨_,rfl,(fun kk hkk=>HBQL.out.block kk ((HKP.out kk).1 hkk)),hK _ _ ?_⟩;clear hK K)))|fail
  clear hgr;go_wp2;have hDD:=hD1.out;have hk0:=HK0.out;have hgrow:=HBQL.out.size;have hgq2:=HBQ.out.size;refine zal (B:=w.heap.size) [D0] w7 (zbf.cons (zbf.nil _ _) (by omega) (zad HBQL.out hk0) (by simp)) fun w' hk=>⟨.tuple #[vq,vr,.int .i64 0],?_,?_⟩
  ·simp[results,Tryz.results116,go_sem]
  ·have hwW:=HI.out.kp.size;obtain⟨d1,d2,d3⟩:=ycs (cnt:=cnt) HB.out HTB.out.1 HTA.out HNN.out (by have:=HCN.out;omega) (by rw[HLQ.out];exact HTRQ.out) (by rw[HLR.out];exact HTRL.out);refine⟨vq,vr,Q,R,rfl,?_,?_,HTRQ.out.trimd,HTRL.out.trimd,d1,d2,d3,?_,?_⟩
   ·refine (((HOQ.out.below HBL.out).kp hk fun c hc hm=>?_)).mono (show w.heap.size≤W.heap.size from hwW);have:=(HOQ.out.lt c hc).1;simp at hm this;omega
   ·refine ((HOL.out.kp hk fun c hc hm=>?_)).mono (by omega);have:=(HOL.out.lt c hc).1;simp at hm this;omega
   ·exact (HI.out.kp.trans (Kp.of_below HBQL.out)).step hk (fun x hx=>by simp at hx;right;omega)
   ·exact (HI.out.ok.below HBQL.out).kp hk (by simp;omega)
end Go.Proofs.YtcclhhjcejmepaaGreat
