import Derived.Test.YtcclhhjcejmepaaGreatZToldG
import Derived.Test.YtcclhhjcejmepaaGreatZR05a
set_option linter.all false
namespace Go.Proofs.YtcclhhjcejmepaaGreat
def tri (K:Nat):Nat→Nat
 | 0=>0
 | i+1=>tri K i+(K-i)
theorem zb0 (K i:Nat):tri K (i+1)=tri K i+(K-i):=rfl
theorem zt2 {K:Nat}:∀{i:Nat},i≤K→2*tri K i+i*i=i*(2*K+1)
 | 0,_=>by simp[tri]
 | i+1,h=>by
  have ih:=zt2 (K:=K) (i:=i) (by omega);rw[zb0];obtain⟨e,rfl⟩:∃e,K=i+1+e:=⟨K-(i+1),by omega⟩;have h1:i+1+e-i=1+e:=by omega
  rw[h1];simp only[Nat.mul_add,Zcc,Nat.mul_one,Zbw] at ih ⊢;omega
theorem zhy (K:Nat):tri K K=K*(K+1) / 2:=by
 have h:=zt2 (zE3 K);have:2*tri K K=K*(K+1):=by
  have e:K*(2*K+1)=K*(K+1)+K*K:=by rw[←Nat.mul_add];congr 1;omega
  omega
 omega
theorem zhx {K i j:Nat} (h:i≤j):tri K i≤tri K j:=by
 induction j with
 | zero =>
  obtain rfl:i=0:=by omega
  exact zE3 _
 | succ j ih =>
  rw[zb0];rcases Zcf j i with h1|h1
  ·obtain rfl:i=j+1:=by omega
   rw[zb0];exact zE3 _
  ·have:=ih h1
   omega
theorem zp2 {K p:Nat}:∀{n:Nat},p<tri K n→∃i,i<n∧∃e,e<K-i∧p=tri K i+e
 | 0,h=>by simp[tri] at h
 | n+1,h=>by
  rw[zb0] at h;rcases Zcf p (tri K n) with h1|h1
  ·obtain⟨i,hi,e⟩:=zp2 h1;exact⟨i,by omega,e⟩
  ·exact⟨n,by omega,p-tri K n,by omega,by omega⟩
open Go.RowKit Fld
theorem zc7 {f g:Nat→GF} {n i:Nat} (h:rowF f n=rowF g n) (hi:i<n):f i=g i:=by
 have:=congrArg (·.getD i 0) h
 simp only[zam _ hi] at this;exact this
def zfq (f:Nat→List GF) (s:Sy):Bool:=decide (s.d≠f s.node.toNat)
def wrD (f:Nat→List GF) (l:List Sy):List Int:=zeb (Sy.nodes (l.filter (zfq f)))
theorem zfe (f:Nat→List GF) (l:List Sy):(wrD f l).length=(l.filter (zfq f)).length:=by rw[wrD,zf1,Sy.nodes,Zag]
theorem ydg (f:Nat→List GF) (l:List Sy):(wrD f l).length≤l.length:=by rw[zfe];exact Zce _ _
theorem zty {f:Nat→List GF} {l:List Sy} {x:Int}:x∈wrD f l↔∃s∈l,s.node=x∧s.d≠f s.node.toNat:=by
 rw[wrD,zi2];unfold Sy.nodes;rw[Zau];constructor
 ·rintro ⟨s,hs,e⟩;obtain⟨h1,h2⟩:=Zbk.1 hs;exact⟨s,h1,e,of_decide_eq_true h2⟩
 ·rintro ⟨s,hs,e,h⟩;exact⟨s,Zbk.2 ⟨hs,decide_eq_true h⟩,e⟩
theorem yad {f:Nat→List GF} {l:List Sy} (h:(Sy.nodes l).Nodup):(wrD f l).Pairwise (· < ·):=zlz (h.sublist (List.Sublist.map _ List.filter_sublist))
theorem zxz {D:List (List GF)} {f:Nat→List GF} {l:List Sy} {zs:List Int} {t N:Nat} (hl:D.length=N) (hf:∀i,i<N→D.getD i []=f i) (h:zel D t l zs):wrD f l=zs:=by
 refine zd9 (yad h.good.2) h.rise fun x=>?_;rw[zty,h.mem];have hn:∀s∈l,D.getD s.node.toNat []=f s.node.toNat:=fun s hs=>hf _ (by
  have:=h.good.1 s.node (Zau.2 ⟨s,hs,rfl⟩)
  omega)
 constructor
 ·rintro ⟨s,hs,e,h2⟩;exact⟨s,hs,e,by rw[hn s hs];exact h2⟩
 ·rintro ⟨s,hs,e,h2⟩;exact⟨s,hs,e,by rw[←hn s hs];exact h2⟩
theorem zk3 {α:Type} (p q:α→Bool):∀l:List α,l.length≤(l.filter fun s=>!p s && !q s).length+(l.filter p).length+(l.filter q).length
 | []=>by simp
 | s :: l=>by have ih:=zk3 p q l;cases hp:p s<;>cases hq:q s<;>simp[Zby,hp,hq]<;>omega
section
variable {α:Type} {ok:α→Prop} {f:α→Nat→List GF} {l:List Sy} {t N k:Nat}
def zc2 (ok:α→Prop) (f:α→Nat→List GF) (l:List Sy) (t:Nat):Option α→Prop
 | some m=>ok m∧(wrD (f m) l).length≤t
 | none=>∀m,ok m→¬(wrD (f m) l).length≤t
def yez (ok:α→Prop) (f:α→Nat→List GF) (N k:Nat):Prop:=∀m m',ok m→ok m'→∀ns:List Nat,ns.Nodup→(∀i∈ns,i<N)→k≤ns.length→(∀i∈ns,f m i=f m' i)→m=m'
theorem zvj {l:List Sy} (hg:zbc N (Sy.nodes l)):(l.map fun s=>s.node.toNat).Nodup∧∀i∈l.map (fun s=>s.node.toNat),i<N:=by
 constructor
 ·have h:=hg.2;unfold Sy.nodes at h;rw[List.nodup_iff_pairwise_ne,Zbz] at h ⊢;refine h.imp_of_mem fun {a b} ha hb hne e=>hne ?_;have h1:=hg.1 a.node (Zau.2 ⟨a,ha,rfl⟩);have h2:=hg.1 b.node (Zau.2 ⟨b,hb,rfl⟩);omega
 ·intro i hi;obtain⟨s,hs,rfl⟩:=Zau.1 hi;have:=hg.1 s.node (Zau.2 ⟨s,hs,rfl⟩);omega
theorem zbc.filter {N:Nat} {l:List Sy} (hg:zbc N (Sy.nodes l)) (p:Sy→Bool):zbc N (Sy.nodes (l.filter p)) :=
 ⟨fun x hx=>hg.1 x ((List.Sublist.map _ List.filter_sublist).mem hx),hg.2.sublist (List.Sublist.map _ List.filter_sublist)⟩
theorem zc2.one {o o':Option α} (hi:yez ok f N k) (hg:zbc N (Sy.nodes l)) (hk:k+2*t≤l.length) (h:zc2 ok f l t o) (h':zc2 ok f l t o'):o=o':=by
 cases o with
 | none=>cases o' with
  | none=>rfl
  | some m'=>exact absurd h'.2 (h m' h'.1)
 | some m=>cases o' with
  | none=>exact absurd h.2 (h' m h.1)
  | some m' =>
   have h2:=zk3 (zfq (f m)) (zfq (f m')) l;have h3:=h.2;have h4:=h'.2;rw[zfe] at h3 h4;have hn:=zvj (hg.filter fun s=>!zfq (f m) s && !zfq (f m') s);rw[hi m m' h.1 h'.1 _ hn.1 hn.2 (by rw[Zag];omega) fun i hi'=>?_];obtain⟨s,hs,rfl⟩:=Zau.1 hi';have hb:=(Zbk.1 hs).2;simp only[zfq,Zay,Bool.not_eq_true',decide_eq_false_iff_not,ne_eq,Decidable.not_not] at hb;rw[←hb.1,hb.2]
theorem zse {g:Nat→List GF} (h:(l.filter (zfq g)).length≤t) (hk:k+t≤l.length):∃r,Ris k l.length r∧∀j,j<k→∀s,l[r j]? = some s→s.d=g s.node.toNat:=by
 have h2:=zd8 (fun i=>match l[i]? with|some s=>zfq g s|none=>false) (List.range l.length);have h3:((List.range l.length).filter fun i=>match l[i]? with|some s=>zfq g s|none=>false).length=(l.filter (zfq g)).length:=by
  have e:l.filter (zfq g)=(((List.range l.length).filter fun i=>match l[i]? with|some s=>zfq g s|none=>false).map fun i=>l.getD i default):=by
   have hl:l=(List.range l.length).map fun i=>l.getD i default:=by refine Zco (by simp) fun i h1 h2=>?_;simp[zE2,zE1 h1]
   conv=>lhs;rw[hl]
   rw[List.filter_map];congr 1;refine List.filter_congr fun i hi=>?_;have hi:=Zaj.1 hi;simp[zE2,zE1 hi]
  rw[e,Zag]
 rw[Zbg] at h2;obtain⟨r,hr,hf⟩:=zi3 (n:=l.length) (k:=k) (ls:=(List.range l.length).filter fun i=>!(match l[i]? with|some s=>zfq g s|none=>false)) (List.pairwise_lt_range.filter _) (fun i hi=>Zaj.1 (Zbk.1 hi).1) (by omega);refine⟨r,hr,fun j hj s hs=>?_⟩;have:=(Zbk.1 (hf j hj)).2;rw[hs] at this;simp only[Bool.not_eq_true'] at this;have h5:=of_decide_eq_false this;exact Decidable.not_not.1 h5
def zep (ok:α→Prop) (f:α→Nat→List GF) (l:List Sy) (k t:Nat) (r:Nat→Nat):Prop:=∀m,ok m→(∀j,j<k→∀s,l[r j]? = some s→s.d=f m s.node.toNat)→¬(wrD (f m) l).length≤t
theorem zxh (hk:k+t≤l.length) (h:∀r,Ris k l.length r→zep ok f l k t r):zc2 ok f l t none:=fun m hm hw=>by have h2:=hw;rw[zfe] at h2;obtain⟨r,hr,hf⟩:=zse h2 hk;exact h r hr m hm hf hw
theorem zep.congr {r r':Nat→Nat} (h:∀j,j<k→r j=r' j) (hf:zep ok f l k t r'):zep ok f l k t r:=fun m hm hr=>hf m hm fun j hj s hs=>hr j hj s (by rw[h j hj];exact hs)
theorem zww {r:Nat→Nat} {m:α} (hi:yez ok f N k) (hg:zbc N (Sy.nodes l)) (h:Ris k l.length r) (hm:ok m) (hr:∀j,j<k→∀s,l[r j]? = some s→s.d=f m s.node.toNat) (hw:¬(wrD (f m) l).length≤t):zep ok f l k t r:=fun m' hm' hr'=>by
 have hs:∀j,j<k→∃s,l[r j]? = some s:=fun j hj=>⟨_,zE1 (h.1 j hj)⟩;have e:m'=m:=by
  refine hi m' m hm' hm ((List.range k).map fun j=>((Sy.nodes l).getD (r j) 0).toNat) ?_ ?_ (by simp) fun i hi=>?_
  ·refine Zbz.2 (List.nodup_range.imp_of_mem fun {a b} ha hb hne e=>hne ?_);have ha:=Zaj.1 ha;have hb:=Zaj.1 hb;have hla:r a<(Sy.nodes l).length:=by simpa[Sy.nodes] using h.1 a ha
   have hlb:r b<(Sy.nodes l).length:=by simpa[Sy.nodes] using h.1 b hb
   have g1:=hg.1 ((Sy.nodes l).getD (r a) 0) (by rw[zE2,zE1 hla];exact Zbx _);have g2:=hg.1 ((Sy.nodes l).getD (r b) 0) (by rw[zE2,zE1 hlb];exact Zbx _);exact zo4 h ha hb (zgd hg.2 hla hlb (by omega))
  ·intro i hi;obtain⟨j,hj,rfl⟩:=Zau.1 hi;have hj:=Zaj.1 hj;have hla:r j<(Sy.nodes l).length:=by simpa[Sy.nodes] using h.1 j hj
   have g1:=hg.1 ((Sy.nodes l).getD (r j) 0) (by rw[zE2,zE1 hla];exact Zbx _);omega
  ·obtain⟨j,hj,rfl⟩:=Zau.1 hi;have hj:=Zaj.1 hj;obtain⟨s,hsj⟩:=hs j hj;have hn:(Sy.nodes l).getD (r j) 0=s.node:=by rw[Sy.nodes,zE2,Zae,hsj];rfl
   rw[hn,←hr j hj s hsj,←hr' j hj s hsj]
 rw[e];exact hw
end
def mbB (K D:Nat):Nat:=tri K K+K*(D-K)
theorem zhl {K D:Nat} (h:K≤D):mbB K D=K*D-K*(K-1) / 2:=by
 unfold mbB;rw[zhy];obtain⟨e,rfl⟩:∃e,D=K+e:=⟨D-K,by omega⟩;rw[Zbi];cases K with
 | zero=>simp
 | succ k =>
  have h1:(k+1)*(k+1+1)=(k+1)*k+2*(k+1):=by rw[Zci 2,←Nat.mul_add]
  have h2:(k+1)*(k+1)=(k+1)*k+(k+1):=by rw[Nat.mul_add,Nat.mul_one]
  have h3:(k+1)*k % 2=0:=by
   rcases Nat.mod_two_eq_zero_or_one k with h|h
   ·rw[Nat.mul_mod,h,Nat.mul_zero]
   ·rw[Nat.mul_mod,Nat.add_mod,h]
  have h4:(k+1)*(k+1+e)=(k+1)*(k+1)+(k+1)*e:=Nat.mul_add _ _ _;rw[Nat.add_sub_cancel,h1,h4,h2];omega
def sI (K i k:Nat):Nat:=tri K (min i k)+(max i k-min i k)
theorem zlr (K i k:Nat):sI K i k=sI K k i:=by unfold sI;rw[Nat.min_comm,Nat.max_comm]
theorem zo2 {K i k:Nat} (h:i≤k):sI K i k=tri K i+(k-i):=by unfold sI;rw[Zbn h,Nat.max_eq_right h]
theorem ybi {K i k:Nat} (hi:i<K) (hk:k<K):sI K i k<tri K K:=by
 rcases Nat.le_total i k with h|h
 ·rw[zo2 h];have h1:=zhx (K:=K) (show i+1≤K by omega);rw[zb0] at h1;omega
 ·rw[zlr,zo2 h];have h1:=zhx (K:=K) (show k+1≤K by omega);rw[zb0] at h1;omega
def tI (K D i k:Nat):Nat:=tri K K+(i*(D-K)+(k-K))
theorem ya8 {K D i k:Nat} (hi:i<K) (hk:k<D) (hk2:K≤k):tI K D i k<mbB K D:=by unfold tI mbB;have:(i+1)*(D-K)≤K*(D-K):=Zar _ hi;rw[Zcc,Zbw] at this;omega
theorem znd {K D i k:Nat} (hi:i<K) (hk:k<K):sI K i k<mbB K D:=Zaf (ybi hi hk) (by unfold mbB;omega)
noncomputable def mM (K D:Nat) (m:List GF) (i k:Nat):GF :=
 if i<K∧k<K then m.getD (sI K i k) 0 else if i<K then (if k<D then m.getD (tI K D i k) 0 else 0) else if k<K then (if i<D then m.getD (tI K D k i) 0 else 0) else 0
theorem zeg (K D:Nat) (m:List GF) (i k:Nat):mM K D m i k=mM K D m k i:=by unfold mM;by_cases h1:i<K<;>by_cases h2:k<K<;>simp[h1,h2,zlr K i k]
theorem zwc {K D i k:Nat} (m:List GF) (hi:i<K) (hk:k<K):mM K D m i k=m.getD (sI K i k) 0:=by unfold mM;rw[if_pos ⟨hi,hk⟩]
theorem zwb {K D i k:Nat} (m:List GF) (hi:i<K) (hk:K≤k) (hd:k<D):mM K D m i k=m.getD (tI K D i k) 0:=by unfold mM;rw[if_neg (by omega),if_pos hi,if_pos hd]
theorem yb6 {K D i k:Nat} (m:List GF) (hi:K≤i) (hk:K≤k):mM K D m i k=0:=by unfold mM;rw[if_neg (by omega),if_neg (by omega),if_neg (by omega)]
theorem zwe {K D:Nat} {m m':List GF} (hm:m.length=mbB K D) (hm':m'.length=mbB K D) (h:∀i k,i<K→k<D→mM K D m i k=mM K D m' i k) (hKD:K≤D):m=m':=by
 refine Zco (by rw[hm,hm']) fun p h1 h2=>?_;have e1:m[p]=m.getD p 0:=by rw[zE2,zE1 h1];rfl
 have e2:m'[p]=m'.getD p 0:=by rw[zE2,zE1 h2];rfl
 rw[e1,e2];rw[hm] at h1;unfold mbB at h1;rcases Zcf p (tri K K) with hp|hp
 ·obtain⟨i,hi,e,he,rfl⟩:=zp2 hp;have:=h i (i+e) hi (by omega);rwa[zwc _ hi (by omega),zwc _ hi (by omega),zo2 (by omega),Zbi] at this
 ·obtain⟨q,rfl⟩:∃q,p=tri K K+q:=⟨p-tri K K,by omega⟩;have hd:0<D-K:=by
   rcases Nat.eq_zero_or_pos (D-K) with e|e
   ·rw[e,Nat.mul_zero] at h1;omega
   ·exact e
  have hq:q<K*(D-K):=by omega
  have hi:q / (D-K)<K:=Nat.div_lt_of_lt_mul (by rw[Zci];exact hq);have hk:=Zck q hd;have hdm:=Nat.div_add_mod q (D-K);have:=h (q / (D-K)) (K+q % (D-K)) hi (by omega);rwa[zwb _ hi (by omega) (by omega),zwb _ hi (by omega) (by omega),show tI K D (q / (D-K)) (K+q % (D-K))=tri K K+q by
   unfold tI;rw[Zbi,Zci];omega] at this
noncomputable def mSh (K D:Nat) (m:List GF) (x:GF) (c:Nat):GF:=ev (rowF (fun a=>mM K D m a c) D) x
noncomputable def zau (K D:Nat) (m:List GF) (x:GF):List GF:=rowF (mSh K D m x) D
theorem za5 (K D:Nat) (m:List GF) (x:GF):(zau K D m x).length=D:=zaa _ _
theorem zq6 {f:Nat→GF} {n k:Nat} (x:GF):ev (rowF f (k+n)) x=ev (rowF f k) x+sm n fun i=>f (k+i)*pw x (k+i):=by
 rw[zg4,zg4,zaa,zaa,zc6];congr 1
 ·exact zaj fun i hi=>by rw[zam _ hi,zam _ (by omega)]
 ·exact zaj fun i hi=>by rw[zam _ (by omega)]
theorem zga {K D c:Nat} (m:List GF) (x:GF) (hKD:K≤D) (hc:K≤c):mSh K D m x c=ev (rowF (fun a=>mM K D m a c) K) x:=by obtain⟨e,rfl⟩:∃e,D=K+e:=⟨D-K,by omega⟩;unfold mSh;rw[zq6,zow (fun i _=>by rw[yb6 _ (by omega) hc,zmul]),addz]
noncomputable def zs0 (K D:Nat) (m:List GF) (x:GF) (c:Nat):GF:=sm (D-K) fun i=>mM K D m c (K+i)*pw x (K+i)
theorem zjf {K D c:Nat} (m:List GF) (x:GF) (hKD:K≤D):mSh K D m x c=ev (rowF (fun a=>mM K D m a c) K) x+zs0 K D m x c:=by obtain⟨e,rfl⟩:∃e,D=K+e:=⟨D-K,by omega⟩;unfold mSh zs0;rw[zq6,Zbi];congr 1;exact zaj fun i _=>by rw[zeg]
theorem zqy {K D N:Nat} {xs:List GF} (hKD:K≤D) (hx:xs.Nodup) (hxl:xs.length=N):yez (fun m=>m.length=mbB K D) (fun m i=>zau K D m (xs.getD i 0)) N K:=fun m m' hm hm' ns hn hb hk h=>by
 have hX:(ns.map fun i=>xs.getD i 0).Nodup:=Zbz.2 (hn.imp_of_mem fun {a b} ha hb' hne e=>hne (zgf hx (by rw[hxl];exact hb a ha) (by rw[hxl];exact hb b hb') e));have hsh:∀c,c<D→∀y∈ns.map (fun i=>xs.getD i 0),mSh K D m y c=mSh K D m' y c:=fun c hc y hy=>by obtain⟨i,hi,rfl⟩:=Zau.1 hy;exact zc7 (h i hi) hc
 have hout:∀c,K≤c→c<D→∀a,a<K→mM K D m a c=mM K D m' a c:=fun c hc hcd a ha=>by
  have:=zn5 hX (p:=rowF (fun a=>mM K D m a c) K) (q:=rowF (fun a=>mM K D m' a c) K) (by rw[zaa,zaa]) (by rw[zaa,Zag];exact hk) fun y hy=>by rw[←zga m y hKD hc,←zga m' y hKD hc];exact hsh c hcd y hy
  exact zc7 (f:=fun a=>mM K D m a c) (g:=fun a=>mM K D m' a c) this ha
 have hin:∀c,c<K→∀a,a<K→mM K D m a c=mM K D m' a c:=fun c hc a ha=>by
  have:=zn5 hX (p:=rowF (fun a=>mM K D m a c) K) (q:=rowF (fun a=>mM K D m' a c) K) (by rw[zaa,zaa]) (by rw[zaa,Zag];exact hk) fun y hy=>by
   have h1:=hsh c (by omega) y hy;rw[zjf m y hKD,zjf m' y hKD] at h1;have h2:zs0 K D m y c=zs0 K D m' y c:=zaj fun i hi=>by rw[hout (K+i) (by omega) (by omega) c hc]
   rw[h2,ztw,ztw _ (zs0 K D m' y c)] at h1;exact zk7 h1
  exact zc7 (f:=fun a=>mM K D m a c) (g:=fun a=>mM K D m' a c) this ha
 refine zwe hm hm' (fun i k hi hk=>?_) hKD;rcases Zcf k K with h1|h1
 ·exact hin k h1 i hi
 ·exact hout k h1 hk i hi
theorem yb5 (K D:Nat) (m:List GF) (x y:GF):(sm D fun c=>mSh K D m x c*pw y c)=sm D fun c=>mSh K D m y c*pw x c:=by
 have h:∀x y:GF,(sm D fun c=>mSh K D m x c*pw y c)=sm D fun c=>sm D fun a=>mM K D m a c*pw x a*pw y c:=fun x y=>zaj fun c hc=>by unfold mSh;rw[zg4,zaa,←zln];exact zaj fun a ha=>by rw[zam _ ha]
 rw[h,h,zui];exact zaj fun a _=>zaj fun c _=>by rw[zeg,Fld.mulA,Fld.mulA,Fld.mulC (pw x _)]
theorem yb3 (K D:Nat) (m:List GF) (x y:GF):(sm D fun c=>mSh K D m x c*pw y c)=ev (zau K D m y) x:=by rw[yb5,zg4,za5];exact zaj fun c hc=>by unfold zau;rw[zam _ hc]
noncomputable def znl (N:Nat) (A B:Nat→Nat→GF) (I J:Nat):Nat→Nat→GF:=fun r c=>if r<I then zsu N A B r c else if r=I then sm J fun j=>A r j*B j c else 0
theorem zvn {N:Nat} {A B:Nat→Nat→GF} (r c:Nat):znl N A B 0 0 r c=0:=by unfold znl;rw[if_neg (Zcm _)];split<;>rfl
theorem zvp {N I:Nat} {A B:Nat→Nat→GF} (r c:Nat):znl N A B I N r c=znl N A B (I+1) 0 r c:=by
 unfold znl;by_cases h:r<I
 ·rw[if_pos h,if_pos (by omega)]
 ·rw[if_neg h];by_cases h2:r=I
  ·rw[if_pos h2,if_pos (by omega)];rfl
  ·rw[if_neg h2,if_neg (by omega)];split<;>rfl
theorem zvo {R N C I J:Nat} {A B:Nat→Nat→GF} (hC:0<C) {j:Nat} (hj:j<R*C):zbu (I*C) C (B J) (A I J) (flat C (znl N A B I J)) j=flat C (znl N A B I (J+1)) j:=by
 obtain⟨r,c,hr,hc,rfl⟩:=za2 (R:=R) hC hj;unfold zbu;rw[zab hC _ _ _ hc,zab hC _ _ _ hc];by_cases h:r=I
 ·subst h;rw[if_pos ⟨by omega,by omega⟩,Zbi];unfold znl;rw[if_neg (Nat.lt_irrefl _),if_pos rfl,if_neg (Nat.lt_irrefl _),if_pos rfl,zb3,Fld.mulC (B J c)]
 ·rw[if_neg (fun h2=>h ((zdo hc).1 h2))];unfold znl;split
  ·rfl
  ·simp only[if_neg h]
theorem zyw {N R:Nat} {A B:Nat→Nat→GF} (r c:Nat) (hr:r<R):znl N A B R 0 r c=zsu N A B r c:=by unfold znl;rw[if_pos hr]
noncomputable def zhz (n:Nat) (b:List GF) (I K:Nat):Nat→Nat→GF:=fun r c=>if min r c<I∨min r c=I∧max r c<K then b.getD (sI n r c) 0 else 0
theorem zua {n:Nat} {b:List GF} (r c:Nat):zhz n b 0 0 r c=0:=by unfold zhz;rw[if_neg (by omega)]
theorem zx5 {n I:Nat} {b:List GF} (r c:Nat):zhz n b I I r c=zhz n b I 0 r c:=by
 unfold zhz;by_cases h:min r c<I∨min r c=I∧max r c<I
 ·rw[if_pos h,if_pos (by omega)]
 ·rw[if_neg h,if_neg (by omega)]
theorem zuc {n I:Nat} {b:List GF} (r c:Nat) (hr:r<n) (hc:c<n):zhz n b I n r c=zhz n b (I+1) 0 r c:=by
 unfold zhz;by_cases h:min r c<I∨min r c=I∧max r c<n
 ·rw[if_pos h,if_pos (by omega)]
 ·rw[if_neg h,if_neg (by omega)]
theorem zub {n I k:Nat} {b:List GF} (hI:I<n) (hk:k<n) (hIk:I≤k) {j:Nat} (hj:j<n*n) :
  (if j=k*n+I then b.getD (sI n I k) 0 else if j=I*n+k then b.getD (sI n I k) 0 else flat n (zhz n b I k) j)=flat n (zhz n b I (k+1)) j:=by
 obtain⟨r,c,hr,hc,rfl⟩:=za2 (R:=n) (by omega) hj;rw[zab (by omega) _ _ _ hc,zab (by omega) _ _ _ hc];by_cases h1:r*n+c=k*n+I
 ·obtain⟨rfl,rfl⟩:=zcy hc hI h1;rw[if_pos rfl];unfold zhz;rw[if_pos (by omega),zlr]
 ·rw[if_neg h1];by_cases h2:r*n+c=I*n+k
  ·obtain⟨rfl,rfl⟩:=zcy hc hk h2;rw[if_pos rfl];unfold zhz;rw[if_pos (by omega)]
  ·rw[if_neg h2];unfold zhz;have e1:¬(r=k∧c=I):=fun h=>h1 (by rw[h.1,h.2]);have e2:¬(r=I∧c=k):=fun h=>h2 (by rw[h.1,h.2]);by_cases h:min r c<I∨min r c=I∧max r c<k
   ·rw[if_pos h,if_pos (by omega)]
   ·rw[if_neg h,if_neg (by omega)]
theorem zx6 {n:Nat} {b:List GF} (r c:Nat) (hr:r<n) (hc:c<n):zhz n b n 0 r c=b.getD (sI n r c) 0:=by unfold zhz;rw[if_pos (by omega)]
noncomputable def zkb (K D:Nat) (m:List GF) (I k:Nat):Nat→Nat→GF:=fun r c=>if r<I∨c<I∨r=I∧c<k∨c=I∧r<k then mM K D m r c else 0
theorem zvw {K D:Nat} {m:List GF} (r c:Nat):zkb K D m 0 0 r c=0:=by unfold zkb;rw[if_neg (by omega)]
theorem zvy {K D I:Nat} {m:List GF} (r c:Nat) (hr:r<D) (hc:c<D):zkb K D m I D r c=zkb K D m (I+1) 0 r c:=by
 unfold zkb;by_cases h:r<I∨c<I∨r=I∧c<D∨c=I∧r<D
 ·rw[if_pos h,if_pos (by omega)]
 ·rw[if_neg h,if_neg (by omega)]
theorem zvx {K D I k:Nat} {m:List GF} (hI:I<D) (hk:k<D) {j:Nat} (hj:j<D*D) :
  (if j=k*D+I then mM K D m I k else if j=I*D+k then mM K D m I k else flat D (zkb K D m I k) j)=flat D (zkb K D m I (k+1)) j:=by
 obtain⟨r,c,hr,hc,rfl⟩:=za2 (R:=D) (by omega) hj;rw[zab (by omega) _ _ _ hc,zab (by omega) _ _ _ hc];by_cases h1:r*D+c=k*D+I
 ·obtain⟨rfl,rfl⟩:=zcy hc hI h1;rw[if_pos rfl];unfold zkb;rw[if_pos (by omega),zeg]
 ·rw[if_neg h1];by_cases h2:r*D+c=I*D+k
  ·obtain⟨rfl,rfl⟩:=zcy hc hk h2;rw[if_pos rfl];unfold zkb;rw[if_pos (by omega)]
  ·rw[if_neg h2];unfold zkb;have e1:¬(r=k∧c=I):=fun h=>h1 (by rw[h.1,h.2]);have e2:¬(r=I∧c=k):=fun h=>h2 (by rw[h.1,h.2]);by_cases h:r<I∨c<I∨r=I∧c<k∨c=I∧r<k
   ·rw[if_pos h,if_pos (by omega)]
   ·rw[if_neg h,if_neg (by omega)]
theorem zyz {K D:Nat} {m:List GF} (hKD:K≤D) (r c:Nat) (hr:r<D) (hc:c<D):zkb K D m K 0 r c=mM K D m r c:=by
 unfold zkb;by_cases h:r<K∨c<K∨r=K∧c<0∨c=K∧r<0
 ·rw[if_pos h]
 ·rw[if_neg h,yb6 _ (by omega) (by omega)]
theorem zq4 {K:Nat} {F:Nat→List GF} (hF:∀i,i<K→(F i).length=K-i):∀n,n≤K→((List.range n).flatMap F).length=tri K n∧∀i,i<n→∀e,e<K-i→((List.range n).flatMap F).getD (tri K i+e) 0=(F i).getD e 0
 | 0,_=>⟨rfl,fun i hi=>absurd hi (Zcm _)⟩
 | n+1,h=>by
  obtain⟨h1,h2⟩:=zq4 hF n (by omega);rw[Zbh,List.flatMap_append,Zbr,List.flatMap_nil,Zal];refine⟨by rw[Zak,h1,hF n (by omega),zb0],fun i hi e he=>?_⟩;rw[zE2];rcases Zcf i n with h3|h3
  ·have h4:tri K i+e<tri K n:=by
    have h5:=zhx (K:=K) (show i+1≤n by omega);rw[zb0] at h5;omega
   rw[List.getElem?_append_left (by rw[h1];exact h4),←zE2];exact h2 i h3 e he
  ·obtain rfl:i=n:=by omega
   rw[Zch (by rw[h1];omega),h1,Zbi,zE2]
theorem zn1 {E:Nat} {F:Nat→List GF} (hF:∀i,(F i).length=E):∀n,((List.range n).flatMap F).length=n*E∧∀i,i<n→∀e,e<E→((List.range n).flatMap F).getD (i*E+e) 0=(F i).getD e 0
 | 0=>⟨by simp,fun i hi=>absurd hi (Zcm _)⟩
 | n+1=>by
  obtain⟨h1,h2⟩:=zn1 hF n;rw[Zbh,List.flatMap_append,Zbr,List.flatMap_nil,Zal];refine⟨by rw[Zak,h1,hF n,Zcc,Zbw],fun i hi e he=>?_⟩;rw[zE2];rcases Zcf i n with h3|h3
  ·have h4:i*E+e<n*E:=by
    have:=Zar E (show i+1≤n by omega)
    rw[Zcc,Zbw] at this;omega
   rw[List.getElem?_append_left (by rw[h1];exact h4),←zE2];exact h2 i h3 e he
  ·obtain rfl:i=n:=by omega
   rw[Zch (by rw[h1];omega),h1,Zbi,zE2]
noncomputable def zqo (K:Nat) (s:Nat→Nat→GF):List GF:=(List.range K).flatMap fun i=>rowF (fun e=>s i (i+e)) (K-i)
noncomputable def yev (K D:Nat) (o:Nat→Nat→GF):List GF:=(List.range K).flatMap fun i=>rowF (fun e=>o i (K+e)) (D-K)
noncomputable def mkM (K D:Nat) (a:Nat→Nat→GF):List GF:=zqo K a++yev K D a
theorem zgz (K:Nat) (s:Nat→Nat→GF):(zqo K s).length=tri K K∧∀i,i<K→∀e,e<K-i→(zqo K s).getD (tri K i+e) 0=s i (i+e):=by obtain⟨h1,h2⟩:=zq4 (K:=K) (F:=fun i=>rowF (fun e=>s i (i+e)) (K-i)) (fun i _=>zaa _ _) K (zE3 _);exact⟨h1,fun i hi e he=>(h2 i hi e he).trans (zam _ he)⟩
theorem zvd (K D:Nat) (o:Nat→Nat→GF):(yev K D o).length=K*(D-K)∧∀i,i<K→∀e,e<D-K→(yev K D o).getD (i*(D-K)+e) 0=o i (K+e):=by obtain⟨h1,h2⟩:=zn1 (E:=D-K) (F:=fun i=>rowF (fun e=>o i (K+e)) (D-K)) (fun i=>zaa _ _) K;exact⟨h1,fun i hi e he=>(h2 i hi e he).trans (zam _ he)⟩
theorem zja (K D:Nat) (a:Nat→Nat→GF):(mkM K D a).length=mbB K D:=by rw[mkM,Zak,(zgz K a).1,(zvd K D a).1];rfl
theorem zwd {K D i k:Nat} {a:Nat→Nat→GF} (hs:∀i k,i<K→k<K→a i k=a k i) (hi:i<K) (hk:k<D) (hKD:K≤D):mM K D (mkM K D a) i k=a i k:=by
 rcases Zcf k K with h1|h1
 ·rw[zwc _ hi h1];have key:∀i k,i<K→k<K→i≤k→(mkM K D a).getD (sI K i k) 0=a i k:=fun i k hi hk h=>by
   have hl:=ybi hi hk;have e:k-i<K-i:=by omega
   rw[mkM,zE2,List.getElem?_append_left (by rw[(zgz K a).1];exact hl),←zE2,zo2 h,(zgz K a).2 i hi _ e];congr 1;omega
  rcases Nat.le_total i k with h|h
  ·exact key i k hi h1 h
  ·rw[zlr,key k i h1 hi h,hs k i h1 hi]
 ·rw[zwb _ hi h1 hk,mkM,tI,zE2,Zch (by rw[(zgz K a).1];omega),(zgz K a).1,Zbi,←zE2,(zvd K D a).2 i hi _ (by omega)];congr 1;omega
theorem yd0 {K D:Nat} {m:List GF} (hm:m.length=mbB K D) (hKD:K≤D):mkM K D (mM K D m)=m :=
 zwe (zja _ _ _) hm (fun i k hi hk=>zwd (fun i k _ _=>zeg K D m i k) hi hk hKD) hKD
theorem zv0 {K D:Nat} {a b:Nat→Nat→GF} (h:∀i k,i<K→k<D→a i k=b i k) (ha:∀i k,i<K→k<K→a i k=a k i) (hb:∀i k,i<K→k<K→b i k=b k i) (hKD:K≤D):mkM K D a=mkM K D b :=
 zwe (zja _ _ _) (zja _ _ _) (fun i k hi hk=>by rw[zwd ha hi hk hKD,zwd hb hi hk hKD];exact h i k hi hk) hKD
theorem zfb {α:Type} {p q:α→Bool}:∀L:List α,(∀x∈L,p x=true→q x=true)→(L.filter p).length≤(L.filter q).length
 | [],_=>zE3 _
 | x :: L,h=>by
  have ih:=zfb L fun y hy=>h y (Zcb _ hy);cases hp:p x
  ·cases hq:q x<;>simp[Zby,hp,hq]<;>omega
  ·have:=h x List.mem_cons_self hp
   simp[Zby,hp,this];exact ih
theorem ydf {xs p:List GF} {l:List Sy} {Y:Sy→GF} {bad:Sy→Bool} (h:∀s∈l,bad s=false→ev p (xs.getD s.node.toNat 0)=Y s):(wrS xs (Sy.nodes l) (l.map Y) p).length≤(l.filter bad).length:=by
 rw[zif];have hl:l=(List.range l.length).map fun i=>l.getD i default:=by
  refine List.ext_getElem? fun i=>?_;rw[Zae];by_cases hi:i<l.length
  ·rw[Zax hi,zE1 hi];simp[zE2,hi]
  ·rw[Zbm (by omega),Zbm (by simp;omega)];rfl
 have hb:(l.filter bad).length=((List.range l.length).filter fun i=>bad (l.getD i default)).length:=by
  conv=>lhs;rw[hl]
  rw[List.filter_map,Zag];rfl
 rw[hb];unfold wrI;rw[zci,show (Sy.nodes l).length=l.length by simp[Sy.nodes]];have key:∀L:List Nat,(∀i∈L,i<l.length)→(L.filter fun i=>decide (ev p ((zcj xs (Sy.nodes l)).getD i 0)≠(l.map Y).getD i 0)).length≤(L.filter fun i=>bad (l.getD i default)).length:=by
  intro L hL;refine zfb L fun i hi h1=>?_;have hi:=hL i hi;have hs:l.getD i default∈l:=by rw[zE2,zE1 hi];exact Zbx hi
  have hn:(Sy.nodes l).getD i 0=(l.getD i default).node:=by simp[Sy.nodes,zE2,hi]
  have hy:(l.map Y).getD i 0=Y (l.getD i default):=by simp[zE2,hi]
  cases hbi:bad (l.getD i default)
  ·exfalso;have h2:=of_decide_eq_true h1;rw[zfg xs (by simpa[Sy.nodes] using hi),hn,hy] at h2;exact h2 (h _ hs hbi)
  ·rfl
 exact key _ fun i hi=>Zaj.1 hi
noncomputable def zsh (K D:Nat) (o:Nat→Nat→GF) (x:GF) (c:Nat):GF:=sm (D-K) fun i=>o c (K+i)*pw x (K+i)
noncomputable def zek (K D:Nat) (xs:List GF) (o:Nat→Nat→GF) (c:Nat) (s:Sy):GF:=if c<K then s.d.getD c 0+zsh K D o (xs.getD s.node.toNat 0) c else s.d.getD c 0
def ydb (K D t:Nat) (xs:List GF) (l:List Sy) (a:Nat→Nat→GF):Prop:=∀c,c<D→zbs xs K (Sy.nodes l) (l.map (zek K D xs a c)) t (some (rowF (fun i=>a i c) K))
theorem ztg {K D c:Nat} {xs m:List GF} {o:Nat→Nat→GF} {s:Sy} (hKD:K≤D) (hc:c<D) (ho:∀i k,i<K→K≤k→k<D→o i k=mM K D m i k) (hs:s.d=zau K D m (xs.getD s.node.toNat 0)):ev (rowF (fun a=>mM K D m a c) K) (xs.getD s.node.toNat 0)=zek K D xs o c s:=by
 have hd:s.d.getD c 0=mSh K D m (xs.getD s.node.toNat 0) c:=by rw[hs];exact zam _ hc
 unfold zek;rw[hd];by_cases h:c<K
 ·rw[if_pos h,zjf m _ hKD];have:zsh K D o (xs.getD s.node.toNat 0) c=zs0 K D m (xs.getD s.node.toNat 0) c:=zaj fun i hi=>by rw[ho c (K+i) h (by omega) (by omega)]
  rw[this,addA,zmv,addz]
 ·rw[if_neg h,zga m _ hKD (by omega)]
theorem zh9 {K D N t:Nat} {xs m:List GF} {l:List Sy} {a:Nat→Nat→GF} (hKD:K≤D) (hx:xs.Nodup) (hxl:xs.length=N) (hg:zbc N (Sy.nodes l)) (hk:K+2*t≤l.length) (hf:(l.filter (zfq fun i=>zau K D m (xs.getD i 0))).length≤t)
  {c:Nat} (hc:c<D) (ho:c<K→∀i k,i<K→K≤k→k<D→a i k=mM K D m i k) {o:Option (List GF)} (h:zbs xs K (Sy.nodes l) (l.map (zek K D xs a c)) t o):o=some (rowF (fun i=>mM K D m i c) K):=by
 refine zdy hx (by rw[hxl];exact hg) (by simpa[Sy.nodes] using hk) h ⟨zaa _ _,Zat (ydf fun s hs hb=>?_) hf⟩;have hs':s.d=zau K D m (xs.getD s.node.toNat 0):=by simpa[zfq] using hb
 by_cases h1:c<K
 ·exact ztg hKD hc (ho h1) hs'
 ·have hd:s.d.getD c 0=mSh K D m (xs.getD s.node.toNat 0) c:=by rw[hs'];exact zam _ hc
  unfold zek;rw[if_neg h1,hd,zga m _ hKD (by omega)]
theorem zzu {K D N t:Nat} {xs m:List GF} {l:List Sy} {a:Nat→Nat→GF} (hKD:K≤D) (hx:xs.Nodup) (hxl:xs.length=N) (hg:zbc N (Sy.nodes l)) (hk:K+2*t≤l.length) (hf:(l.filter (zfq fun i=>zau K D m (xs.getD i 0))).length≤t)
  (h:ydb K D t xs l a):∀i k,i<K→k<D→a i k=mM K D m i k:=by
 have hout:∀i k,i<K→K≤k→k<D→a i k=mM K D m i k:=fun i k hi hk1 hk2=>by
  have:=zh9 hKD hx hxl hg hk hf hk2 (fun h=>by omega) (h k hk2)
  exact zc7 (f:=fun i=>a i k) (g:=fun i=>mM K D m i k) (Zcd this) hi
 intro i k hi hk1;by_cases h1:k<K
 ·have:=zh9 hKD hx hxl hg hk hf hk1 (fun _=>hout) (h k hk1)
  exact zc7 (f:=fun i=>a i k) (g:=fun i=>mM K D m i k) (Zcd this) hi
 ·exact hout i k hi (by omega) hk1
theorem zw7 {K D N t:Nat} {xs:List GF} {l:List Sy} {a:Nat→Nat→GF} {o:Option (List GF)} (ho:((∀i k,i<K→k<K→a i k=a k i)∧(l.filter (zfq fun i=>zau K D (mkM K D a) (xs.getD i 0))).length≤t)∧o=some (mkM K D a)∨¬((∀i k,i<K→k<K→a i k=a k i)∧(l.filter (zfq fun i=>zau K D (mkM K D a) (xs.getD i 0))).length≤t)∧o=none) (hKD:K≤D) (hx:xs.Nodup) (hxl:xs.length=N) (hg:zbc N (Sy.nodes l)) (hk:K+2*t≤l.length) (h:ydb K D t xs l a) :
  zc2 (fun m=>m.length=mbB K D) (fun m i=>zau K D m (xs.getD i 0)) l t o:=by
 rcases ho with ⟨hh,rfl⟩|⟨hh,rfl⟩
 ·exact⟨zja _ _ _,by rw[zfe];exact hh.2⟩
 ·intro m hm hw;rw[zfe] at hw;have ha:=zzu hKD hx hxl hg hk hw h;have hsym:∀i k,i<K→k<K→a i k=a k i:=fun i k hi hk'=>by rw[ha i k hi (by omega),ha k i hk' (by omega),zeg]
  have he:mkM K D a=m:=by rw[←yd0 hm hKD];exact zv0 ha hsym (fun i k _ _=>zeg K D m i k) hKD
  exact hh ⟨hsym,by rw[he];exact hw⟩
theorem zw8 {K D N t c:Nat} {xs:List GF} {l:List Sy} {a:Nat→Nat→GF} (hKD:K≤D) (hx:xs.Nodup) (hxl:xs.length=N) (hg:zbc N (Sy.nodes l)) (hk:K+2*t≤l.length) (hc:c<D)
  (hb:c<K→∀k,K≤k→k<D→zbs xs K (Sy.nodes l) (l.map (zek K D xs a k)) t (some (rowF (fun i=>a i k) K))) (h:zbs xs K (Sy.nodes l) (l.map (zek K D xs a c)) t none) :
  zc2 (fun m=>m.length=mbB K D) (fun m i=>zau K D m (xs.getD i 0)) l t none:=by
 intro m hm hw;rw[zfe] at hw;have:=zh9 hKD hx hxl hg hk hw hc (fun h1 i k hi hk1 hk2=>by
  have:=zh9 hKD hx hxl hg hk hw hk2 (fun h=>by omega) (hb h1 k hk1 hk2)
  exact zc7 (f:=fun i=>a i k) (g:=fun i=>mM K D m i k) (Zcd this) hi) h
 cases this
