import Derived.Test.YtcclhhjcejmepaaGreatZDecA
set_option linter.all false
namespace Go.Proofs.YtcclhhjcejmepaaGreat
open Go.RowKit Fld
def rowF (f:Nat→GF) (J:Nat):List GF:=(List.range J).map f
theorem zaa (f:Nat→GF) (J:Nat):(rowF f J).length=J:=by simp[rowF]
theorem zbq (f:Nat→GF) (J:Nat):rowF f (J+1)=rowF f J++[f J]:=by simp[rowF,Zbh]
theorem zam (f:Nat→GF) {J i:Nat} (h:i<J):(rowF f J).getD i 0=f i:=by rw[zE2,rowF,Zae,Zax h];rfl
theorem zag.rowF {w:World} {b N:Nat} {g:Nat→GF} (h:zag w b N g) {cap:Nat} (hc:N≤cap):GRd w (.slice (some ⟨b,0,none⟩) N cap) (rowF g N):=by
 have:=h.rd (o:=0) (m:=N) (by omega) hc
 unfold Go.Proofs.YtcclhhjcejmepaaGreat.rowF;simpa using this
theorem zag.list {w:World} {b N:Nat} {l:List GF} (h:zag w b N (fun i=>l.getD i 0)) (hl:l.length=N) {cap:Nat} (hc:N≤cap):GRd w (.slice (some ⟨b,0,none⟩) N cap) l:=by
 have:=h.rowF hc
 have e:Go.Proofs.YtcclhhjcejmepaaGreat.rowF (fun i=>l.getD i 0) N=l:=by subst hl;refine Zco (by simp[Go.Proofs.YtcclhhjcejmepaaGreat.rowF]) fun i h1 h2=>?_;simp[Go.Proofs.YtcclhhjcejmepaaGreat.rowF,zE1 h2]
 rwa[e] at this
theorem zjo {W:World} {B:Nat} {V:Value} {f:Nat→GF} {J:Nat} (h:zao W B V (rowF f J)) (hJ:J≤1000000) (hb:B≤W.heap.size) {n:Nat} (hn:(f J).n=n) {ad:Nat} (had:ad=W.heap.size) :
  ∃v1 w3,(Builtin.append_ #[22,22] 22 #[V,.slice (some ⟨ad,0,none⟩) 1 1]).run Tryz.prog (W.alloc (.cells #[.int .u8 (n:Int)] 5))=.ok v1 w3 ∧
   zao w3 B v1 (rowF f (J+1))∧Kp V.ownBlock.toList W w3∧Below B W w3∧(v1.ownBlock=V.ownBlock∨v1.ownBlock=some (W.heap.size+1)):=by
 obtain⟨v1,w3,h1,h2,h3⟩:=zcb (f J) h (by rw[zaa];exact hJ) hb hn had;exact⟨v1,w3,h1,by rw[zbq];exact h2,h3⟩
theorem zcu {V V' v1:Value} {n:Nat} (h:za0 V' V.ownBlock.toList) (hn:∀k,V'.ownBlock=some k→k<n) (h1:v1.ownBlock=V.ownBlock∨v1.ownBlock=some (n+1)):za0 V' v1.ownBlock.toList:=by
 rcases h1 with h1|h1
 ·rw[h1];exact h
 ·rw[h1];intro k hk hm;have:=hn k hk;simp at hm;omega
theorem zca {V V':Value} (h:za0 V' V.ownBlock.toList):za0 V V'.ownBlock.toList:=fun k hk hm=>h k (by simpa using hm) (by simpa using hk)
def zfp (l:List GF):Prop:=l=[]∨l.getD (l.length-1) 0≠0
def zda (l p:List GF):Prop:=∃n,n≤l.length∧p=l.take n∧zfp p∧∀j,n≤j→l.getD j 0=0
theorem zda.ev {l p:List GF} (h:zda l p) (x:GF):ev p x=ev l x:=by
 obtain⟨n,hn,rfl,_,h2⟩:=h;conv=>rhs;rw[←List.take_append_drop n l,zej]
 rw[zez (p:=l.drop n),mzero,addz];intro c hc;obtain⟨i,hi,rfl⟩:=List.mem_iff_getElem.1 hc;have:=h2 (n+i) (by omega);rw[List.getElem_drop];rw[List.length_drop] at hi;rwa[zE2,zE1 (by omega),Option.getD_some] at this
theorem zda.len {l p:List GF} (h:zda l p):p.length≤l.length:=by obtain⟨n,hn,rfl,_⟩:=h;rw[Zan];omega
theorem zda.trimd {l p:List GF} (h:zda l p):zfp p:=by obtain⟨n,hn,rfl,h1,_⟩:=h;exact h1
theorem zkg {l:List GF} {n:Nat} (hn:n≤l.length) (h:n=0∨l.getD (n-1) 0≠0):zfp (l.take n):=by
 rcases h with rfl|h
 ·exact .inl (by simp)
 ·by_cases h0:n=0
  ·subst h0;exact .inl (by simp)
  ·refine .inr ?_;rw[Zan,Zbn hn,zE2,List.getElem?_take,if_pos (by omega),←zE2];exact h
theorem zb8 (f:Nat→GF) (n:Nat) (x:GF):ev (rowF f n) x=sm n (fun i=>f i*pw x i):=by rw[zg4,zaa];exact zaj fun i hi=>by rw[zam f hi]
theorem zwx (l:List GF) {n:Nat} (hn:l.length≤n) (x:GF):ev l x=sm n (fun i=>l.getD i 0*pw x i):=by obtain⟨k,rfl⟩:∃k,n=l.length+k:=⟨n-l.length,by omega⟩;rw[zg4,zc6,zow (n:=k),addz];intro i _;rw[zE2,Zbm (by omega)];exact zmul _
noncomputable def yaf (l m:List GF):Nat→GF:=fun i=>l.getD i 0+m.getD i 0
theorem yba (l m:List GF) {n:Nat} (h1:l.length≤n) (h2:m.length≤n) (x:GF):ev (rowF (yaf l m) n) x=ev l x+ev m x:=by rw[zb8,zwx l h1,zwx m h2,←zfv];exact zaj fun i _=>dam _ _ _
theorem zx9 (i:Nat) (c:GF) (m:List GF) (x:GF):ev (List.replicate i (0:GF)++rowF (fun k=>c*m.getD k 0) m.length) x=pw x i*(c*ev m x):=by rw[zej,zez (p:=List.replicate i (0:GF)) (fun c hc=>(List.mem_replicate.1 hc).2),zadd,List.length_replicate,zb8,zg4 m];congr 1;rw[←zfu];exact zaj fun k _=>Fld.mulA _ _ _
theorem zt7 (l:List GF) {I:Nat} (h:I<l.length) (x:GF):ev (l.take (I+1)) x=ev (l.take I) x+pw x I*l.getD I 0:=by rw[List.take_succ_eq_append_getElem h,zej,Zan,Zbn (by omega),zbe,zei,mzero,addz,zE2,zE1 h];rfl
noncomputable def zi6 (f:Nat→GF) (y:GF):Nat→GF
 | 0=>1
 | n+1=>zi6 f y n*(f n+y)
theorem zf3 (f:Nat→GF) (y:GF):∀n,zi6 f y n=0↔∃j,j<n∧f j=y
 | 0=>by simp[zi6,zed]
 | n+1=>by
  rw[zi6];constructor
  ·intro h;rcases zi8 h with h|h
   ·obtain⟨j,h1,h2⟩:=(zf3 f y n).1 h;exact⟨j,by omega,h2⟩
   ·exact⟨n,by omega,zg8 h⟩
  ·rintro ⟨j,h1,h2⟩;by_cases e:j=n
   ·subst e;rw[h2,zmv,mzero]
   ·rw[(zf3 f y n).2 ⟨j,by omega,h2⟩,zmul]
theorem yef (x y:GF):ev [x,1] y=x+y:=by rw[zbe,zbe,zei,mzero,addz,mone]
theorem zwy (c y:GF):ev [c] y=c:=by rw[zbe,zei,mzero,addz]
def yfd (xs ys p:List GF):Prop:=zfp p∧p.length≤xs.length∧∀j,j<xs.length→ev p (xs.getD j 0)=ys.getD j 0
noncomputable def zcf (p:List GF) (k:Nat):List GF:=p++List.replicate (k-p.length) 0
theorem zce (p:List GF) {k:Nat} (h:p.length≤k):(zcf p k).length=k:=by simp[zcf];omega
theorem zf4 (p:List GF) (k:Nat) (x:GF):ev (zcf p k) x=ev p x:=by rw[zcf,zej,zez (p:=List.replicate _ (0:GF)) (fun c hc=>(List.mem_replicate.1 hc).2),mzero,addz]
theorem znj (p:List GF) (k j:Nat):(zcf p k).getD j 0=p.getD j 0:=by
 rw[zcf,zE2,zE2];by_cases h:j<p.length
 ·rw[List.getElem?_append_left h]
 ·rw[Zch (by omega),Zbm (l:=p) (by omega),List.getElem?_replicate];by_cases h2:j-p.length<k-p.length
  ·rw[if_pos h2];rfl
  ·rw[if_neg h2]
theorem zrw {xs ys p:List GF} {ps:List Int} {k:Nat} (hn:xs.Nodup) (hg:zbc xs.length ps) (hl:ps.length=ys.length) (hk:k≤ps.length) (h:yfd (zcj xs ps) ys p) :
  (p.length≤k→ztp xs k ps ys (zcf p k))∧(k<p.length→∀m,¬ztp xs k ps ys m):=by
 obtain⟨h1,h2,h3⟩:=h;have hpl:(zcj xs ps).length=ps.length:=by simp[zcj]
 rw[hpl] at h2 h3;have hpt:∀j,j<ps.length→(zcj xs ps).getD j 0=xs.getD (ps.getD j 0).toNat 0:=fun j hj=>by rw[zE2,zcj,Zae,zE1 hj,zE2 (l:=ps),zE1 hj];rfl
 refine⟨fun hp=>⟨zce p hp,fun i hi=>by rw[zf4,←hpt i hi,h3 i hi]⟩,fun hp m hm=>?_⟩;have e:zcf m ps.length=zcf p ps.length:=by refine zn5 (zdn hn hg) (by rw[zce _ (by rw[hm.1];exact hk),zce _ h2]) (by rw[zce _ (by rw[hm.1];exact hk),hpl];exact zE3 _) fun z hz=>?_;obtain⟨j,hj,rfl⟩:=List.mem_iff_getElem.1 hz;rw[hpl] at hj;have e1:=hm.2 j hj;have e2:=h3 j hj;rw[zE2,zE1 (by rw[hpl];exact hj),Option.getD_some] at e2;have e3:=hpt j hj;rw[zE2,zE1 (by rw[hpl];exact hj),Option.getD_some] at e3;rw[zf4,zf4,e2,←e1,e3]
 rcases h1 with h1|h1
 ·rw[h1] at hp;simp at hp
 ·refine h1 ?_;rw[←znj p ps.length,←e,znj,zE2,Zbm (by rw[hm.1];omega)];rfl
theorem zru {p:List GF} (h:zfp p) (hz:∀c∈p,c=0):p=[]:=by
 rcases h with h|h
 ·exact h
 ·refine Classical.byContradiction fun hne=>h ?_;have hl:0<p.length:=List.length_pos_iff.2 hne;rw[zE2,zE1 (by omega)];exact hz _ (Zbx _)
noncomputable def wrI (X ys m:List GF):List Nat:=(List.range X.length).filter fun i=>decide (ev m (X.getD i 0)≠ys.getD i 0)
theorem zee {X ys m:List GF} {i:Nat}:i∈wrI X ys m↔i<X.length∧ev m (X.getD i 0)≠ys.getD i 0:=by unfold wrI;rw[Zbk,Zaj,decide_eq_true_eq]
theorem zig (X ys m:List GF):(wrI X ys m).Nodup:=List.nodup_range.filter _
theorem zin {α:Type} (p q:α→Bool):∀l:List α,l.length≤(l.filter fun a=>p a && q a).length+(l.filter fun a=>!p a).length+(l.filter fun a=>!q a).length
 | []=>by simp
 | a :: l=>by
  have:=zin p q l
  simp only[Zby,Zbt];cases p a<;>cases q a<;>simp<;>omega
theorem zd8 {α:Type} (p:α→Bool):∀l:List α,l.length=(l.filter p).length+(l.filter fun a=>!p a).length
 | []=>by simp
 | a :: l=>by
  have:=zd8 p l
  simp only[Zby,Zbt];cases p a<;>simp<;>omega
theorem yak {X:List GF} (hn:X.Nodup) {ls:List Nat} (hl:ls.Nodup) (hb:∀i∈ls,i<X.length):(ls.map fun i=>X.getD i 0).Nodup :=
 Zbz.2 (hl.imp_of_mem fun {a b} ha hb' hne e=>hne (zgf hn (hb a ha) (hb b hb') e))
theorem zg7 {X m m':List GF} (hn:X.Nodup) (hm:m.length=m'.length) {ls:List Nat} (hl:ls.Nodup) (hb:∀i∈ls,i<X.length) (hk:m.length≤ls.length) (h:∀i∈ls,ev m (X.getD i 0)=ev m' (X.getD i 0)):m=m' :=
 zn5 (yak hn hl hb) hm (by rw[Zag];exact hk) fun z hz=>by obtain⟨i,hi,rfl⟩:=Zau.1 hz;exact h i hi
theorem zdz {X p:List GF} (hn:X.Nodup) {ls:List Nat} (hl:ls.Nodup) (hb:∀i∈ls,i<X.length) (hk:p.length≤ls.length) (h:∀i∈ls,ev p (X.getD i 0)=0):∀c∈p,c=0 :=
 zi0 (yak hn hl hb) (by rw[Zag];exact hk) fun z hz=>by obtain⟨i,hi,rfl⟩:=Zau.1 hz;exact h i hi
theorem yde {X ys m m':List GF} {k t:Nat} (hn:X.Nodup) (hm:m.length=k) (hm':m'.length=k) (h:(wrI X ys m).length≤t) (h':(wrI X ys m').length≤t) (hk:k+2*t≤X.length):m=m':=by
 have h3:=zin (fun i=>decide (ev m (X.getD i 0)=ys.getD i 0)) (fun i=>decide (ev m' (X.getD i 0)=ys.getD i 0)) (List.range X.length);rw[Zbg] at h3;have e1:∀p:List GF,((List.range X.length).filter fun i=>!decide (ev p (X.getD i 0)=ys.getD i 0))=wrI X ys p:=fun p=>by unfold wrI;congr 1;funext i;simp
 rw[e1,e1] at h3;refine zg7 hn (hm.trans hm'.symm) (ls:=(List.range X.length).filter fun i=>decide (ev m (X.getD i 0)=ys.getD i 0) && decide (ev m' (X.getD i 0)=ys.getD i 0)) (List.nodup_range.filter _) (fun i hi=>Zaj.1 (Zbk.1 hi).1) (by rw[hm];omega) fun i hi=>?_;have:=(Zbk.1 hi).2;rw[Zay,decide_eq_true_eq,decide_eq_true_eq] at this;rw[this.1,this.2]
theorem zo7:∀(a b:List GF),b≠[]→∃p:List GF,p.length=a.length+b.length-1∧∀y,ev p y=ev a y*ev b y
 | [],b,hb=>⟨List.replicate (b.length-1) 0,by simp,fun y=>by rw[zez (fun c hc=>(List.mem_replicate.1 hc).2),zei,zmul]⟩
 | c :: a,b,hb=>by
  obtain⟨p,hp,he⟩:=zo7 a b hb;have hl:0<b.length:=List.length_pos_iff.2 hb;refine⟨zni (psc c b) (0 :: p),?_,fun y=>?_⟩
  ·rw[zd2,zg3,Zbt,Zbt,hp];omega
  ·rw[zpp,yat,zbe,zbe,he,zadd,dam,Fld.mulA]
theorem zuu:∀xs:List GF,(rts xs).getD xs.length 0=1
 | []=>rfl
 | x :: xs=>by
  have hl:(psc x (rts xs)).length=xs.length+1:=by rw[zg3,zex]
  rw[rts,znw,Zbt,List.getD_cons_succ,zuu xs,zE2 (l:=psc x (rts xs)),Zbm (by omega)];exact addz _
noncomputable def zgr (X ys:List GF) (n:Nat):Nat→Nat→GF:=fun i p=>if p<n then pw (X.getD i 0) p else ys.getD i 0*pw (X.getD i 0) (p-n)
noncomputable def zj2 (X ys:List GF) (v:Nat):Nat→GF:=fun i=>ys.getD i 0*pw (X.getD i 0) v
noncomputable def eOf (s:Nat→GF) (n v:Nat):List GF:=rowF (fun j=>s (n+j)) v++[1]
theorem zg5 (s:Nat→GF) (n v:Nat):(eOf s n v).length=v+1:=by simp[eOf,zaa]
theorem zq9 (s:Nat→GF) (n v:Nat) (x:GF):ev (eOf s n v) x=ev (rowF (fun j=>s (n+j)) v) x+pw x v:=by rw[eOf,zej,zaa,zbe,zei,mzero,addz,mone]
theorem ya9 (X ys:List GF) (n v i:Nat) (s:Nat→GF):sm (n+v) (fun p=>zgr X ys n i p*s p)=ev (rowF s n) (X.getD i 0)+ys.getD i 0*ev (rowF (fun j=>s (n+j)) v) (X.getD i 0):=by
 rw[zc6,zb8,zb8,←zfu];congr 1
 ·exact zaj fun p hp=>by rw[zgr,if_pos hp,mulC]
 ·exact zaj fun p hp=>by rw[zgr,if_neg (by omega),show n+p-n=p by omega,Fld.mulA,mulC (pw _ p)]
theorem zt9 (X ys:List GF) (n v i:Nat) (s:Nat→GF):sm (n+v) (fun p=>zgr X ys n i p*s p)=zj2 X ys v i↔ev (rowF s n) (X.getD i 0)=ys.getD i 0*ev (eOf s n v) (X.getD i 0):=by
 rw[ya9,zq9,mad,zj2];constructor
 ·intro h;rw[←h,ztw (ev _ _),←Fld.addA,zmv,zadd]
 ·intro h;rw[h,ztw,←Fld.addA,zmv,zadd]
section
variable {X ys m:List GF} {k v:Nat}
theorem zsf (hv:(wrI X ys m).length=v):∃ls:List Nat,ls.Nodup∧(∀i∈ls,i<X.length∧ev m (X.getD i 0)=ys.getD i 0)∧X.length=ls.length+v:=by
 refine⟨(List.range X.length).filter fun i=>!decide (ev m (X.getD i 0)≠ys.getD i 0),List.nodup_range.filter _,fun i hi=>?_,?_⟩
 ·obtain⟨h1,h2⟩:=Zbk.1 hi;exact⟨Zaj.1 h1,by simpa using h2⟩
 ·have:=zd8 (fun i=>decide (ev m (X.getD i 0)≠ys.getD i 0)) (List.range X.length)
  rw[Zbg] at this;have e:(wrI X ys m).length=((List.range X.length).filter fun i=>decide (ev m (X.getD i 0)≠ys.getD i 0)).length:=rfl;omega
theorem ziu (hn:X.Nodup) (hm:m.length=k) (hv:(wrI X ys m).length=v) (hk:k+2*v≤X.length) {s:Nat→GF} (hs:∀i,i<X.length→sm (k+v+v) (fun p=>zgr X ys (k+v) i p*s p)=zj2 X ys v i) :
  (∀y,ev (rowF s (k+v)) y=ev m y*ev (eOf s (k+v) v) y)∧∀i∈wrI X ys m,ev (eOf s (k+v) v) (X.getD i 0)=0:=by
 have hs':=fun i hi=>(zt9 X ys (k+v) v i s).1 (hs i hi);obtain⟨p,hp,he⟩:=zo7 m (eOf s (k+v) v) (by intro h;have:=congrArg List.length h;rw[zg5] at this;simp at this);obtain⟨ls,hl,hr,hc⟩:=zsf hv;have e:rowF s (k+v)=p:=by refine zg7 hn (by rw[zaa,hp,zg5,hm];omega) hl (fun i hi=>(hr i hi).1) (by rw[zaa];omega) fun i hi=>?_;rw[hs' i (hr i hi).1,he,(hr i hi).2]
 have h1:∀y,ev (rowF s (k+v)) y=ev m y*ev (eOf s (k+v) v) y:=fun y=>by rw[e,he]
 refine⟨h1,fun i hi=>?_⟩;obtain⟨hi1,hi2⟩:=zee.1 hi;have h2:=hs' i hi1;rw[h1] at h2;have h3:(ev m (X.getD i 0)+ys.getD i 0)*ev (eOf s (k+v) v) (X.getD i 0)=0:=by rw[dam,h2,zmv]
 rcases zi8 h3 with h|h
 ·exact absurd (zg8 h) hi2
 ·exact h
theorem yag (hn:X.Nodup) (hm:m.length=k) (hv:(wrI X ys m).length=v) (hk:k+2*v≤X.length):∃s:Nat→GF,∀i,i<X.length→sm (k+v+v) (fun p=>zgr X ys (k+v) i p*s p)=zj2 X ys v i:=by
 obtain⟨ws,hws⟩:∃ws,ws=(wrI X ys m).map fun i=>X.getD i 0:=⟨_,rfl⟩;have hwl:ws.length=v:=by rw[hws,Zag,hv]
 obtain⟨q,hq,he⟩:=zo7 m (rts ws) (by intro h;have:=congrArg List.length h;rw[zex] at this;simp at this);rw[zex,hm,hwl] at hq;obtain⟨s,hs⟩:∃s:Nat→GF,s=fun p=>if p<k+v then q.getD p 0 else (rts ws).getD (p-(k+v)) 0:=⟨_,rfl⟩
 have e1:rowF s (k+v)=q:=by refine Zco (by rw[zaa];omega) fun i h1 h2=>?_;rw[zaa] at h1;simp[rowF,hs,h1,zE1 h2]
 have e2:eOf s (k+v) v=rts ws:=by
  refine Zco (by rw[zg5,zex,hwl]) fun i h1 h2=>?_;rw[zg5] at h1;have ht:=zuu ws;rw[hwl] at ht;by_cases hi:i<v
  ·have hn':¬(k+v+i<k+v):=by omega
   simp[eOf,List.getElem_append,zaa,hi,rowF,hs,zE1 h2,hn']
  ·obtain rfl:i=v:=by omega
   rw[zE2,zE1 h2] at ht;simp[eOf,List.getElem_append,zaa];exact ht.symm
 refine⟨s,fun i hi=>(zt9 X ys (k+v) v i s).2 ?_⟩;rw[e1,e2,he];by_cases hw:ev m (X.getD i 0)=ys.getD i 0
 ·rw[hw]
 ·have:ev (rts ws) (X.getD i 0)=0:=zpo.2 (by rw[hws];exact Zau.2 ⟨i,zee.2 ⟨hi,hw⟩,rfl⟩)
  rw[this,mzero,mzero]
theorem ybd (hn:X.Nodup) (hm:m.length=k) (hv:(wrI X ys m).length=v) (hk:k+2*v≤X.length) {z:Nat→GF} (hz:∀i,i<X.length→sm (k+v+v) (fun p=>zgr X ys (k+v) i p*z p)=0):∀p,p<k+v+v→z p=0:=by
 obtain⟨s,hs⟩:=yag hn hm hv hk;have hs2:∀i,i<X.length→sm (k+v+v) (fun p=>zgr X ys (k+v) i p*(s p+z p))=zj2 X ys v i:=fun i hi=>by rw[←hs i hi,←addz (sm (k+v+v) fun p=>zgr X ys (k+v) i p*s p),←hz i hi,←zfv];exact zaj fun p _=>mad _ _ _
 obtain⟨h1,h2⟩:=ziu hn hm hv hk hs;obtain⟨h3,h4⟩:=ziu hn hm hv hk hs2;have hadd:∀n o x,ev (rowF (fun p=>s (o+p)+z (o+p)) n) x=ev (rowF (fun p=>s (o+p)) n) x+ev (rowF (fun p=>z (o+p)) n) x:=fun n o x=>by rw[zb8,zb8,zb8,←zfv];exact zaj fun p _=>dam _ _ _
 have hzero:∀c∈rowF (fun p=>z (k+v+p)) v,c=0:=by refine zdz hn (zig X ys m) (fun i hi=>(zee.1 hi).1) (by rw[zaa,hv];exact zE3 _) fun i hi=>?_;have a:=h2 i hi;have b:=h4 i hi;rw[zq9] at a b;rw[hadd] at b;rw[ztw (ev _ _+ev _ _),←Fld.addA,ztw (pw _ _),a,zadd] at b;exact b
 have hz2:∀j,j<v→z (k+v+j)=0:=fun j hj=>hzero _ (Zau.2 ⟨j,Zaj.2 hj,rfl⟩);have he:∀y,ev (eOf (fun p=>s p+z p) (k+v) v) y=ev (eOf s (k+v) v) y:=fun y=>by rw[zq9,zq9,hadd,zez hzero,addz]
 have hq:∀y,ev (rowF z (k+v)) y=0:=fun y=>by have a:=h1 y;have b:=h3 y;have c:=hadd (k+v) 0 y;simp only[Zbe] at c;rw[he,←a,c] at b;exact zk7 (a:=ev (rowF s (k+v)) y) (by rw[b,addz])
 have hz1:∀c∈rowF z (k+v),c=0:=zdz hn List.nodup_range (ls:=List.range X.length) (fun i hi=>Zaj.1 hi) (by rw[zaa,Zbg];omega) fun i _=>hq _;intro p hp;by_cases h:p<k+v
 ·exact hz1 _ (Zau.2 ⟨p,Zaj.2 h,rfl⟩)
 ·have:=hz2 (p-(k+v)) (by omega)
  rwa[show k+v+(p-(k+v))=p by omega] at this
theorem zw3 (hn:X.Nodup) (hm:m.length=k) (hv:(wrI X ys m).length=v) (hk:k+2*v≤X.length) {s:Nat→GF} (hs:∀i,i<X.length→sm (k+v+v) (fun p=>zgr X ys (k+v) i p*s p)=zj2 X ys v i)
  {Q R:List GF} (hd:∀y,ev (rowF s (k+v)) y=ev Q y*ev (eOf s (k+v) v) y+ev R y) (hR:R.length≤v) (ht:zfp R) (hQ:Q.length≤k):R=[]∧zcf Q k=m:=by
 obtain⟨h1,h2⟩:=ziu hn hm hv hk hs;have hR0:R=[]:=zru ht (zdz hn (zig X ys m) (fun i hi=>(zee.1 hi).1) (by rw[hv];exact hR) fun i hi=>by
  have:=hd (X.getD i 0)
  rw[h1,h2 i hi,mzero,mzero,zadd] at this;exact this.symm)
 refine⟨hR0,?_⟩;rw[hR0] at hd;have hE:∀y,ev (eOf s (k+v) v) y≠0→ev Q y=ev m y:=fun y hy=>by
  have:=hd y
  rw[h1,zei,addz,mulC,mulC (ev Q y)] at this;exact (zku hy this).symm
 have hc:((List.range X.length).filter fun i=>!decide (ev (eOf s (k+v) v) (X.getD i 0)≠0)).length≤v:=by
  refine Nat.le_of_not_lt fun hlt=>?_;have:=zdz (p:=eOf s (k+v) v) hn (List.nodup_range.filter fun i=>!decide (ev (eOf s (k+v) v) (X.getD i 0)≠0)) (fun i hi=>Zaj.1 (Zbk.1 hi).1) (by rw[zg5];omega) (fun i hi=>by
   have:=(Zbk.1 hi).2
   simpa using this)
  exact zed (F:=GF) (this 1 (by simp[eOf]))
 have h3:=zd8 (fun i=>decide (ev (eOf s (k+v) v) (X.getD i 0)≠0)) (List.range X.length);rw[Zbg] at h3;refine zg7 hn (by rw[zce _ hQ,hm]) (List.nodup_range.filter fun i=>decide (ev (eOf s (k+v) v) (X.getD i 0)≠0)) (fun i hi=>Zaj.1 (Zbk.1 hi).1) (by rw[zce _ hQ];omega) fun i hi=>?_;rw[zf4];exact hE _ (of_decide_eq_true (Zbk.1 hi).2)
end
theorem ydt (xs:List GF) (ps:List Int):rowF (fun i=>xs.getD (ps.getD i 0).toNat 0) ps.length=zcj xs ps:=by refine Zco (by simp[rowF,zcj]) fun i h1 h2=>?_;rw[zaa] at h1;simp[rowF,zcj,zE1 h1]
def Ris (k n:Nat) (r:Nat→Nat):Prop:=(∀j,j<k→r j<n)∧∀i,i+1<k→r i<r (i+1)
def Lx (k:Nat) (r l:Nat→Nat):Prop:=∃i,i<k∧(∀j,j<i→r j=l j)∧r i<l i
theorem zgx {k n:Nat} {r:Nat→Nat} (h:Ris k n r) (i:Nat):∀d,i+d<k→r i+d≤r (i+d)
 | 0,_=>zE3 _
 | d+1,hd=>by have h1:=zgx h i d (by omega);have h2:=h.2 (i+d) (by omega);show r i+(d+1)≤r (i+d+1);omega
theorem yai {k n:Nat} {r:Nat→Nat} (h:Ris k n r) {j:Nat} (hj:j<k):r j+(k-j)≤n:=by have h1:=zgx h j (k-1-j) (by omega);have h2:=h.1 (j+(k-1-j)) (by omega);omega
theorem ydr {k n:Nat} {r:Nat→Nat} (h:Ris k n r) {j:Nat} (hj:j<k):j≤r j:=by have h1:=zgx h 0 j (by omega);rw[Zbe] at h1;omega
theorem yb7 {k:Nat} {r l:Nat→Nat}:∀(d i:Nat),i+d=k→(∀j,j<i→r j=l j)→(∀j,i≤j→j<k→r j≤l j)→(∀j,j<k→r j=l j)∨Lx k r l
 | 0,i,hk,h1,_=>.inl fun j hj=>h1 j (by omega)
 | d+1,i,hk,h1,h2=>by
  rcases Nat.lt_or_eq_of_le (h2 i (zE3 _) (by omega)) with h|h
  ·exact .inr ⟨i,by omega,h1,h⟩
  ·refine yb7 d (i+1) (by omega) (fun j hj=>?_) (fun j hj hk=>h2 j (by omega) hk);rcases Nat.lt_or_eq_of_le (Nat.le_of_lt_succ hj) with e|e
   ·exact h1 j e
   ·rw[e];exact h
def nxt (l:Nat→Nat) (i:Nat):Nat→Nat:=fun j=>if j<i then l j else l i+1+(j-i)
theorem zg0 {k n i:Nat} {l:Nat→Nat} (h:Ris k n l) (hi:i<k) (hg:l i+(k-i)<n):Ris k n (nxt l i):=by
 refine⟨fun j hj=>?_,fun j hj=>?_⟩
 ·unfold nxt;by_cases e:j<i
  ·rw[if_pos e];exact h.1 j hj
  ·rw[if_neg e];omega
 ·unfold nxt;by_cases e:j+1<i
  ·rw[if_pos (by omega),if_pos e];exact h.2 j hj
  ·rw[if_neg e];by_cases e2:j<i
   ·rw[if_pos e2];have h1:=h.2 j hj;obtain rfl:i=j+1:=by omega
    omega
   ·rw[if_neg e2];omega
theorem zvg {k n i:Nat} {l:Nat→Nat} (hi:i<k):Lx k l (nxt l i):=⟨i,hi,fun j hj=>by rw[nxt,if_pos hj],by rw[nxt,if_neg (Nat.lt_irrefl _)];omega⟩
theorem zl6 {k n i:Nat} {l r:Nat→Nat} (hi:i<k) (ht:∀j,i<j→j<k→n≤l j+(k-j)) (hr:Ris k n r) (hx:Lx k r (nxt l i)):(∀j,j<k→r j=l j)∨Lx k r l:=by
 obtain⟨p,hp,he,hlt⟩:=hx;rcases Nat.lt_trichotomy p i with h|h|h
 ·refine .inr ⟨p,hp,fun j hj=>?_,?_⟩
  ·rw[he j hj,nxt,if_pos (by omega)]
  ·rwa[nxt,if_pos h] at hlt
 ·subst h;rw[nxt,if_neg (Nat.lt_irrefl _)] at hlt;refine yb7 (k-p) p (by omega) (fun j hj=>by rw[he j hj,nxt,if_pos hj]) fun j hj hk=>?_;rcases Nat.lt_or_eq_of_le hj with e|e
  ·have h1:=ht j e hk;have h2:=yai hr hk;omega
  ·rw[←e];omega
 ·exfalso;have h1:=zgx hr i (p-i) (by omega);rw[show i+(p-i)=p by omega,he i h,nxt,if_neg (Nat.lt_irrefl _)] at h1;rw[nxt,if_neg (by omega)] at hlt;omega
theorem zjg {k n:Nat} {l r:Nat→Nat} (ht:∀j,j<k→n≤l j+(k-j)) (hr:Ris k n r):(∀j,j<k→r j=l j)∨Lx k r l :=
 yb7 k 0 (by omega) (fun j hj=>by omega) fun j _ hk=>by have h1:=ht j hk;have h2:=yai hr hk;omega
theorem zk2 {k n:Nat} {r:Nat→Nat} (hr:Ris k n r):¬Lx k r (fun j=>j):=by rintro ⟨i,hi,-,h⟩;have:=ydr hr hi;simp only[] at h;omega
theorem zn3 {k n:Nat} (h:k≤n):Ris k n (fun j=>j):=⟨fun j hj=>by simp only[];omega,fun i hi=>by simp only[];omega⟩
def zn6 (n:Nat) (l:Nat→Nat):Nat→Nat
 | 0=>0
 | k+1=>zn6 n l k*n+l k
theorem zk6 {n:Nat} {r l:Nat→Nat}:∀k,(∀j,j<k→r j=l j)→zn6 n r k=zn6 n l k
 | 0,_=>rfl
 | k+1,h=>by rw[zn6,zn6,zk6 k (fun j hj=>h j (by omega)),h k (by omega)]
theorem zfn {n:Nat} {l:Nat→Nat}:∀k,(∀j,j<k→l j<n)→zn6 n l k<n ^ k
 | 0,_=>by simp[zn6]
 | k+1,h=>by have h1:=zfn k (fun j hj=>h j (by omega));have h2:=h k (by omega);have h3:(zn6 n l k+1)*n≤n ^ k*n:=Zar n h1;rw[zn6,Nat.pow_succ];rw[Nat.succ_mul] at h3;omega
theorem zmi {n:Nat} {r l:Nat→Nat}:∀k,(∀j,j<k→r j<n)→Lx k r l→zn6 n r k<zn6 n l k
 | 0,_,⟨i,h,_⟩=>by omega
 | k+1,hr,⟨i,hi,he,hlt⟩=>by
  rw[zn6,zn6];by_cases e:i<k
  ·have h1:=zmi k (fun j hj=>hr j (by omega)) ⟨i,e,he,hlt⟩;have h2:=hr k (by omega);have h3:(zn6 n r k+1)*n≤zn6 n l k*n:=Zar n h1;rw[Nat.succ_mul] at h3;omega
  ·obtain rfl:i=k:=by omega
   rw[zk6 i he];omega
def zqg (k:Nat) (l:Nat→Nat):List Int:=(List.range k).map fun j=>((l j:Nat):Int)
theorem zf0 (k:Nat) (l:Nat→Nat):(zqg k l).length=k:=by simp[zqg]
theorem zqf {k:Nat} {l:Nat→Nat} {j:Nat} (h:j<k):(zqg k l)[j]? = some ((l j:Nat):Int):=by rw[zqg,Zae,Zax h];rfl
theorem zi3 {n:Nat} {ls:List Nat} {k:Nat} (hs:ls.Pairwise (· < ·)) (hb:∀i∈ls,i<n) (hk:k≤ls.length):∃r,Ris k n r∧∀j,j<k→r j∈ls:=by
 refine⟨fun j=>ls.getD j 0,⟨fun j hj=>?_,fun i hi=>?_⟩,fun j hj=>?_⟩
 ·simp only[];rw[zE2,zE1 (by omega)];exact hb _ (Zbx _)
 ·simp only[];rw[zE2,zE1 (by omega),zE2,zE1 (by omega)];exact Zbq.1 hs i (i+1) (by omega) (by omega) (by omega)
 ·simp only[];rw[zE2,zE1 (by omega)];exact Zbx _
theorem zu2 {X ys m:List GF} {k t:Nat} (hv:(wrI X ys m).length≤t) (hk:k+t≤X.length):∃r,Ris k X.length r∧∀j,j<k→ev m (X.getD (r j) 0)=ys.getD (r j) 0:=by have h2:=zd8 (fun i=>decide (ev m (X.getD i 0)≠ys.getD i 0)) (List.range X.length);rw[Zbg] at h2;have e:(wrI X ys m).length=((List.range X.length).filter fun i=>decide (ev m (X.getD i 0)≠ys.getD i 0)).length:=rfl;obtain⟨r,h3,h4⟩:=zi3 (n:=X.length) (k:=k) (ls:=(List.range X.length).filter fun i=>!decide (ev m (X.getD i 0)≠ys.getD i 0)) (List.pairwise_lt_range.filter _) (fun i hi=>Zaj.1 (Zbk.1 hi).1) (by omega);exact⟨r,h3,fun j hj=>by simpa using (Zbk.1 (h4 j hj)).2⟩
theorem zd9:∀{a b:List Int},a.Pairwise (· < ·)→b.Pairwise (· < ·)→(∀x,x∈a↔x∈b)→a=b
 | [],[],_,_,_=>rfl
 | [],y :: b,_,_,h=>by have:=(h y).2 (by simp);cases this
 | x :: a,[],_,_,h=>by have:=(h x).1 (by simp);cases this
 | x :: a,y :: b,ha,hb,h=>by
  rw[List.pairwise_cons] at ha hb;have e:x=y:=by
   have h1:=(h x).1 (by simp);have h2:=(h y).2 (by simp);rcases Zbf.1 h1 with h1|h1
   ·exact h1
   ·rcases Zbf.1 h2 with h2|h2
    ·exact h2.symm
    ·have:=ha.1 _ h2
     have:=hb.1 _ h1
     omega
  subst e;have ih:=zd9 ha.2 hb.2 fun z=>by
   constructor
   ·intro hz;rcases Zbf.1 ((h z).1 (Zcb _ hz)) with e|e
    ·have:=ha.1 _ hz;omega
    ·exact e
   ·intro hz;rcases Zbf.1 ((h z).2 (Zcb _ hz)) with e|e
    ·have:=hb.1 _ hz;omega
    ·exact e
  rw[ih]
def zeb (l:List Int):List Int:=l.mergeSort fun x y=>decide (x≤y)
theorem zgw (l:List Int):(zeb l).Perm l:=List.mergeSort_perm _ _
theorem zf1 (l:List Int):(zeb l).length=l.length:=(zgw l).length_eq
theorem zi2 {l:List Int} {x:Int}:x∈zeb l↔x∈l:=(zgw l).mem_iff
theorem zlz {l:List Int} (h:l.Nodup):(zeb l).Pairwise (· < ·):=by have h1:(zeb l).Pairwise fun a b=>decide (a≤b)=true:=List.pairwise_mergeSort (fun a b c h1 h2=>by simp only[decide_eq_true_eq] at *;omega) (fun a b=>by simp only[Bool.or_eq_true,decide_eq_true_eq];omega) l;have h2:(zeb l).Pairwise (· ≠ ·):=(zgw l).nodup_iff.2 h;refine List.Pairwise.imp ?_ (List.pairwise_and_iff.2 ⟨h1,h2⟩);rintro a b ⟨h3,h4⟩;simp only[decide_eq_true_eq] at h3;have:a≠b:=h4;omega
noncomputable def wrP (xs:List GF) (ps:List Int) (ys m:List GF):List Int:=(wrI (zcj xs ps) ys m).map fun i=>ps.getD i 0
noncomputable def wrS (xs:List GF) (ps:List Int) (ys m:List GF):List Int:=zeb (wrP xs ps ys m)
theorem zci (xs:List GF) (ps:List Int):(zcj xs ps).length=ps.length:=by simp[zcj]
theorem zfg (xs:List GF) {ps:List Int} {i:Nat} (h:i<ps.length):(zcj xs ps).getD i 0=xs.getD (ps.getD i 0).toNat 0:=by unfold zcj;rw[zE2,Zae,zE2 (l:=ps),zE1 h];rfl
theorem zif (xs:List GF) (ps:List Int) (ys m:List GF):(wrS xs ps ys m).length=(wrI (zcj xs ps) ys m).length:=by rw[wrS,zf1,wrP,Zag]
theorem zgd {l:List Int} (hn:l.Nodup) {i j:Nat} (hi:i<l.length) (hj:j<l.length) (h:l.getD i 0=l.getD j 0):i=j:=by
 rw[zE2,zE1 hi,zE2,zE1 hj] at h;simp only[Option.getD_some] at h;rcases Nat.lt_trichotomy i j with e|e|e
 ·exact absurd h (Zbq.1 hn i j hi hj e)
 ·exact e
 ·exact absurd h.symm (Zbq.1 hn j i hj hi e)
theorem zmw {xs:List GF} {ps:List Int} (ys m:List GF) (hg:ps.Nodup):(wrP xs ps ys m).Nodup :=
 Zbz.2 ((zig _ ys m).imp_of_mem fun {a b} ha hb hne e=>hne (by
  have h1:=(zee.1 ha).1;have h2:=(zee.1 hb).1;rw[zci] at h1 h2;exact zgd hg h1 h2 e))
theorem ybw {xs:List GF} {ps:List Int} {ys m:List GF} {x:Int}:x∈wrS xs ps ys m↔∃i,i<ps.length∧ev m (xs.getD (ps.getD i 0).toNat 0)≠ys.getD i 0∧x=ps.getD i 0:=by
 rw[wrS,zi2,wrP,Zau];constructor
 ·rintro ⟨i,hi,rfl⟩;obtain⟨h1,h2⟩:=zee.1 hi;rw[zci] at h1;rw[zfg xs h1] at h2;exact⟨i,h1,h2,rfl⟩
 ·rintro ⟨i,h1,h2,rfl⟩;exact⟨i,zee.2 ⟨by rw[zci];exact h1,by rw[zfg xs h1];exact h2⟩,rfl⟩
noncomputable def inR (ps:List Int) (W ys:List GF) (p i:Nat):List Int:=((List.range i).filter fun i=>decide (ps.getD i 0=(p:Int)) && decide (W.getD p 0≠ys.getD i 0)).map fun _=>(p:Int)
noncomputable def wrR (ps:List Int) (W ys:List GF) (p:Nat):List Int:=(List.range p).flatMap fun p=>inR ps W ys p ps.length
theorem zzc (ps:List Int) (W ys:List GF) (p:Nat):inR ps W ys p 0=[]:=rfl
theorem yce {ps:List Int} {W ys:List GF} {p i:Nat} (h1:ps.getD i 0=(p:Int)) (h2:W.getD p 0≠ys.getD i 0):inR ps W ys p (i+1)=inR ps W ys p i++[(p:Int)]:=by unfold inR;rw[Zbh,Zcj,Zaw,List.filter_cons_of_pos (by rw[decide_eq_true h1,decide_eq_true h2];rfl)];rfl
theorem yar {ps:List Int} {W ys:List GF} {p i:Nat} (h:ps.getD i 0=(p:Int)→W.getD p 0=ys.getD i 0):inR ps W ys p (i+1)=inR ps W ys p i:=by
 unfold inR;rw[Zbh,Zcj,Zaw,List.filter_cons_of_neg (by
  rw[Zay,decide_eq_true_eq,decide_eq_true_eq];exact fun h2=>h2.2 (h h2.1))]
 simp
theorem zxy (ps:List Int) (W ys:List GF):wrR ps W ys 0=[]:=rfl
theorem zli (ps:List Int) (W ys:List GF) (p:Nat):wrR ps W ys (p+1)=wrR ps W ys p++inR ps W ys p ps.length:=by unfold wrR;rw[Zbh,List.flatMap_append];simp
theorem zma {ps:List Int} {W ys:List GF} {p n:Nat} {x:Int}:x∈inR ps W ys p n↔x=(p:Int)∧∃i,i<n∧ps.getD i 0=(p:Int)∧W.getD p 0≠ys.getD i 0:=by
 unfold inR;rw[Zau];constructor
 ·rintro ⟨i,hi,rfl⟩;obtain⟨h1,h2⟩:=Zbk.1 hi;rw[Zay,decide_eq_true_eq,decide_eq_true_eq] at h2;exact⟨rfl,i,Zaj.1 h1,h2⟩
 ·rintro ⟨rfl,i,h1,h2,h3⟩;exact⟨i,Zbk.2 ⟨Zaj.2 h1,by rw[decide_eq_true h2,decide_eq_true h3];rfl⟩,rfl⟩
theorem ycf {ps:List Int} (W ys:List GF) (p:Nat) (hn:ps.Nodup):(inR ps W ys p ps.length).Pairwise (· < ·):=by unfold inR;refine Zbz.2 ((List.pairwise_lt_range.filter _).imp_of_mem fun {a b} ha hb hab=>?_);exfalso;obtain⟨h1,h2⟩:=Zbk.1 ha;obtain⟨h3,h4⟩:=Zbk.1 hb;rw[Zay,decide_eq_true_eq] at h2 h4;have:=zgd hn (Zaj.1 h1) (Zaj.1 h3) (h2.1.trans h4.1.symm);omega
theorem yac {ps:List Int} (W ys:List GF) (hn:ps.Nodup):∀p,(wrR ps W ys p).Pairwise (· < ·)∧∀x∈wrR ps W ys p,x<(p:Int)
 | 0=>⟨List.Pairwise.nil,fun x hx=>by cases hx⟩
 | p+1=>by
  obtain⟨h1,h2⟩:=yac W ys hn p;rw[zli];refine⟨List.pairwise_append.2 ⟨h1,ycf W ys p hn,fun a ha b hb=>?_⟩,fun x hx=>?_⟩
  ·rw[(zma.1 hb).1];exact h2 a ha
  ·rcases Zba.1 hx with h|h
   ·have:=h2 x h;omega
   ·rw[(zma.1 h).1];omega
theorem ybx {ps:List Int} {W ys:List GF} {x:Int}:∀{n:Nat},x∈wrR ps W ys n↔∃p,p<n∧x=(p:Int)∧∃i,i<ps.length∧ps.getD i 0=(p:Int)∧W.getD p 0≠ys.getD i 0:=by
 intro n;unfold wrR;rw[List.mem_flatMap];constructor
 ·rintro ⟨p,hp,hx⟩;exact⟨p,Zaj.1 hp,zma.1 hx⟩
 ·rintro ⟨p,hp,hx⟩;exact⟨p,Zaj.2 hp,zma.2 hx⟩
theorem ya3 {xs:List GF} {ps:List Int} (ys m:List GF) (hg:zbc xs.length ps):wrR ps (xs.map (ev m)) ys xs.length=wrS xs ps ys m:=by
 refine zd9 (yac _ ys hg.2 _).1 (zlz (zmw ys m hg.2)) fun x=>?_;have hev:∀p,p<xs.length→(xs.map (ev m)).getD p 0=ev m (xs.getD p 0):=fun p hp=>by rw[zE2,Zae,zE2 (l:=xs),zE1 hp];rfl
 refine Iff.trans ybx (Iff.trans ?_ (ybw (xs:=xs) (ps:=ps) (ys:=ys) (m:=m)).symm);constructor
 ·rintro ⟨p,hp,rfl,i,h1,h2,h3⟩;rw[hev p hp] at h3;exact⟨i,h1,by rw[h2,Zam];exact h3,h2.symm⟩
 ·rintro ⟨i,h1,h2,rfl⟩;have hb:=hg.1 (ps.getD i 0) (by rw[zE2,zE1 h1];exact Zbx _);refine⟨(ps.getD i 0).toNat,by omega,by omega,i,h1,by omega,?_⟩;rw[hev _ (by omega)];exact h2
def zbs (xs:List GF) (k:Nat) (ps:List Int) (ys:List GF) (t:Nat) (r:Option (List GF)):Prop :=
 match r with
 | some m=>m.length=k∧(wrS xs ps ys m).length≤t
 | none=>∀m:List GF,m.length=k→¬(wrS xs ps ys m).length≤t
theorem zdy {xs:List GF} {k t:Nat} {ps:List Int} {ys:List GF} {r r':Option (List GF)} (hn:xs.Nodup) (hg:zbc xs.length ps) (hk:k+2*t≤ps.length) (h:zbs xs k ps ys t r) (h':zbs xs k ps ys t r'):r=r':=by
 cases r with
 | none=>cases r' with
  | none=>rfl
  | some m=>exact absurd h'.2 (h m h'.1)
 | some m=>cases r' with
  | none=>exact absurd h.2 (h' m h.1)
  | some m' =>
   have h1:=h.2;have h2:=h'.2;rw[zif] at h1 h2;exact congrArg some (yde (zdn hn hg) h.1 h'.1 h1 h2 (by rw[zci];exact hk))
