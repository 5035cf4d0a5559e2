import Derived.Test.YtcclhhjcejmepaaGreatZMatG
import Derived.Test.YtcclhhjcejmepaaGreatZWeExG
set_option linter.all false
set_option maxRecDepth 100000
set_option maxHeartbeats 8000000
namespace Go.Proofs.YtcclhhjcejmepaaGreat
open Go.RowKit Fld
structure zpz (W:World) (Bo rb k:Nat) (vs:Nat→Value) (F:Nat→List GF):Prop where
 cell:∀i,i<k→W.cell? ⟨rb,i,none⟩=some (vs i)
 fr:∀i,i<k→W.frozen? ⟨rb,i,none⟩=false
 own:∀i,i<k→zao W Bo (vs i) (F i)
 dist:∀i j,i<k→j<k→i≠j→∀b,(vs i).ownBlock=some b→(vs j).ownBlock≠some b
 lt:rb<Bo∧rb<W.heap.size
theorem zpz.kp {S:List Nat} {W W':World} {Bo rb k:Nat} {vs:Nat→Value} {F:Nat→List GF} (h:zpz W Bo rb k vs F) (hk:Kp S W W') (hr:rb∉S) (hS:∀x∈S,x<Bo∨W.heap.size≤x):zpz W' Bo rb k vs F :=
 ⟨fun i hi=>(hk.cell (p:=⟨rb,i,none⟩) h.lt.2 hr).trans (h.cell i hi),fun i hi=>(hk.frozen (p:=⟨rb,i,none⟩) h.lt.2 hr).trans (h.fr i hi),fun i hi=>(h.own i hi).kp hk (fun b hb hm=>by
  have h1:=(h.own i hi).lt b hb;rcases hS b hm with h2|h2<;>omega),h.dist,h.lt.1,Zaf h.lt.2 hk.size⟩
theorem zpz.congr {W:World} {Bo rb k:Nat} {vs:Nat→Value} {F G:Nat→List GF} (h:zpz W Bo rb k vs F) (e:∀i,i<k→F i=G i):zpz W Bo rb k vs G :=
 ⟨h.cell,h.fr,fun i hi=>by rw[←e i hi];exact h.own i hi,h.dist,h.lt⟩
def ydc {α:Type} (f:Nat→α) (i:Nat) (x:α):Nat→α:=fun j=>if j=i then x else f j
theorem zdj {α:Type} (f:Nat→α) (i:Nat) (x:α):ydc f i x i=x:=if_pos rfl
theorem zd7 {α:Type} (f:Nat→α) {i j:Nat} (x:α) (h:j≠i):ydc f i x j=f j:=if_neg h
theorem zpz.app {W W3:World} {Bo rb k i:Nat} {vs:Nat→Value} {F:Nat→List GF} {v1:Value} {l:List GF} (h:zpz W Bo rb k vs F) (hi:i<k) (ho:zao W3 Bo v1 l) (hk:Kp (vs i).ownBlock.toList W W3) (hat:v1.ownBlock=(vs i).ownBlock∨∃b,v1.ownBlock=some b∧W.heap.size≤b) :
  zpz (W3.setCell ⟨rb,i,none⟩ v1) Bo rb k (ydc vs i v1) (ydc F i l):=by
 have hrb:rb∉(vs i).ownBlock.toList:=fun hm=>by
  have:=(h.own i hi).lt rb (by simpa using hm)
  have:=h.lt.1
  omega
 have hs:Kp [rb] W3 (W3.setCell ⟨rb,i,none⟩ v1):=(Kp.refl _ _).setCell (.inl (by simp)) _;have hlt3:=Zaf h.lt.2 hk.size;have hown:∀j,j<k→j≠i→zao (W3.setCell ⟨rb,i,none⟩ v1) Bo (vs j) (F j):=fun j hj hne=>by refine ((h.own j hj).kp hk (fun b hb hm=>h.dist j i hj hi hne b hb (by simpa using hm))).kp hs (fun b hb hm=>?_);have:=((h.own j hj).lt b hb).1;have:=h.lt.1;simp at hm;omega
 refine⟨fun j hj=>?_,fun j hj=>?_,fun j hj=>?_,fun p q hp hq hne b hb=>?_,h.lt.1,Zaf hlt3 hs.size⟩
 ·by_cases e:j=i
  ·subst e;rw[zdj];have hc:=(hk.cell (p:=⟨rb,j,none⟩) h.lt.2 hrb).trans (h.cell j hj);exact World.cell?_setCell_same _ ⟨rb,j,none⟩ _ (by rw[hc])
  ·rw[zd7 _ _ e];exact (Zcn _ ⟨rb,i,none⟩ ⟨rb,j,none⟩ _ (by simp[e])).trans ((hk.cell (p:=⟨rb,j,none⟩) h.lt.2 hrb).trans (h.cell j hj))
 ·rw[Zcg];exact (hk.frozen (p:=⟨rb,j,none⟩) h.lt.2 hrb).trans (h.fr j hj)
 ·by_cases e:j=i
  ·subst e;rw[zdj,zdj];refine ho.kp hs (fun b hb hm=>?_);have:=(ho.lt b hb).1;have:=h.lt.1;simp at hm;omega
  ·rw[zd7 _ _ e,zd7 _ _ e];exact hown j hj e
 ·by_cases e1:p=i
  ·subst e1;have e2:q≠p:=fun e=>hne e.symm;rw[zdj] at hb;rw[zd7 _ _ e2];rcases hat with h1|⟨b2,h1,h2⟩
   ·rw[h1] at hb;exact h.dist p q hp hq hne b hb
   ·rw[h1] at hb;cases hb;intro h3;have:=((h.own q hq).lt b h3).2;omega
  ·rw[zd7 _ _ e1] at hb;by_cases e2:q=i
   ·subst e2;rw[zdj];rcases hat with h1|⟨b2,h1,h2⟩
    ·rw[h1];exact h.dist p q hp hq hne b hb
    ·rw[h1];intro h3;cases h3;have:=((h.own p hp).lt b hb).2;omega
   ·rw[zd7 _ _ e2];exact h.dist p q hp hq hne b hb
def zt4 (K D j c:Nat):Prop:=c<D∧(K≤c∧c<K+j∨c<K∧c+(D-K)<j)
def zxt (K D t:Nat) (xs:List GF) (l:List Sy) (j:Nat) (a:Nat→Nat→GF):Prop:=∀c,zt4 K D j c→zbs xs K (Sy.nodes l) (l.map (zek K D xs a c)) t (some (rowF (fun i=>a i c) K))
noncomputable def zp8 (a:Nat→Nat→GF) (c:Nat) (m:List GF):Nat→Nat→GF:=fun i c'=>if c'=c then m.getD i 0 else a i c'
theorem zix (a:Nat→Nat→GF) (c:Nat) (m:List GF) (i:Nat):zp8 a c m i c=m.getD i 0:=if_pos rfl
theorem ziy (a:Nat→Nat→GF) {c c':Nat} (m:List GF) (i:Nat) (h:c'≠c):zp8 a c m i c'=a i c':=if_neg h
theorem zgh {k d j:Nat} (h:j<d-k) (hk:k≤d):zc1 k d j=k+j:=by unfold zc1;rw[Zbl (by omega)];omega
theorem zgi {k d j:Nat} (h:d-k≤j) (hj:j<d) (hk:k≤d) (h1:1≤k):zc1 k d j=j-(d-k):=by unfold zc1;rw[Nat.mod_eq_sub_mod (by omega),Zbl (by omega)];omega
theorem zzw {k d j:Nat} (hd:0<d):zc1 k d j<d:=Zck _ hd
theorem zu0 {m:List GF} {n:Nat} (h:m.length=n):rowF (fun i=>m.getD i 0) n=m:=by subst h;refine Zco (by simp[rowF]) fun i h1 h2=>?_;simp[rowF,zE1 h2]
theorem zrd {K D:Nat} {xs:List GF} {a:Nat→Nat→GF} {c c2:Nat} {m:List GF} {s:Sy} (h:K≤c2∨c<K):zek K D xs (zp8 a c m) c2 s=zek K D xs a c2 s:=by
 unfold zek;by_cases h1:c2<K
 ·rw[if_pos h1,if_pos h1];congr 1;unfold zsh;refine zaj fun i _=>?_;rw[ziy _ _ _ (by omega)]
 ·rw[if_neg h1,if_neg h1]
theorem ztf {K D t j:Nat} {xs:List GF} {l:List Sy} {a:Nat→Nat→GF} {m:List GF} (h1:1≤K) (hKD:K≤D) (hj:j<D) (h:zxt K D t xs l j a) (hm:zbs xs K (Sy.nodes l) (l.map (zek K D xs a (zc1 K D j))) t (some m)) :
  zxt K D t xs l (j+1) (zp8 a (zc1 K D j) m):=by
 intro c hc;have hml:m.length=K:=hm.1;by_cases e:c=zc1 K D j
 ·rw[e];have e1:(fun i=>zp8 a (zc1 K D j) m i (zc1 K D j))=fun i=>m.getD i 0:=funext fun i=>zix _ _ _ _;rw[e1,zu0 hml];have e2:l.map (zek K D xs (zp8 a (zc1 K D j) m) (zc1 K D j))=l.map (zek K D xs a (zc1 K D j)):=Zbu fun s _=>zrd (by omega);rw[e2];exact hm
 ·have e1:(fun i=>zp8 a (zc1 K D j) m i c)=fun i=>a i c:=funext fun i=>ziy _ _ _ e;have hold:zt4 K D j c:=by
   unfold zt4 at hc ⊢;refine⟨hc.1,?_⟩;rcases Zcf j (D-K) with h2|h2
   ·rw[zgh h2 hKD] at e;omega
   ·rw[zgi h2 hj hKD h1] at e;omega
  have hout:K≤c∨zc1 K D j<K:=by
   rcases Zcf j (D-K) with h2|h2
   ·unfold zt4 at hold;omega
   ·rw[zgi h2 hj hKD h1];omega
  have e2:l.map (zek K D xs (zp8 a (zc1 K D j) m) c)=l.map (zek K D xs a c):=Zbu fun s _=>zrd hout;rw[e1,e2];exact h c hold
theorem zw9 {K D t:Nat} {xs:List GF} {l:List Sy} {a:Nat→Nat→GF} (h:zxt K D t xs l D a) (h1:1≤K) (hKD:K≤D):ydb K D t xs l a:=fun c hc=>h c ⟨hc,by omega⟩
noncomputable def zhk (K E j:Nat) (a:Nat→Nat→GF) (i:Nat):List GF:=rowF (fun e=>a i (K+e)) (min j E)
noncomputable def zh7 (E j:Nat) (a:Nat→Nat→GF):Nat→Nat→GF:=fun i c=>if c+E<j then a i c else 0
noncomputable def ztu (E j:Nat) (a:Nat→Nat→GF) (m:List GF) (I:Nat):Nat→Nat→GF:=fun i c=>if c+E<j then a i c else if c+E=j∧i<I then m.getD i 0 else 0
theorem zwl {E j:Nat} {a:Nat→Nat→GF} {m:List GF} (i c:Nat):ztu E j a m 0 i c=zh7 E j a i c:=by
 unfold ztu zh7;split
 ·rfl
 ·rw[if_neg (by omega)]
theorem zza {K E j:Nat} {a:Nat→Nat→GF} {m:List GF} (hE:E≤j) (i c:Nat) (hi:i<K):ztu E j a m K i c=zh7 E (j+1) (zp8 a (j-E) m) i c:=by
 unfold ztu zh7;by_cases h1:c+E<j
 ·rw[if_pos h1,if_pos (by omega),ziy _ _ _ (by omega)]
 ·rw[if_neg h1];by_cases h2:c+E=j
  ·obtain rfl:c=j-E:=by omega
   rw[if_pos ⟨h2,hi⟩,if_pos (by omega),zix]
  ·rw[if_neg (by omega),if_neg (by omega)]
theorem zwm {K E j I c:Nat} {a:Nat→Nat→GF} {m:List GF} (hI:I<K) (hc:c<K) (hcE:c+E=j) {p:Nat} (hp:p<K*K):(if p=I*K+c then m.getD I 0 else flat K (ztu E j a m I) p)=flat K (ztu E j a m (I+1)) p:=by
 obtain⟨r,q,hr,hq,rfl⟩:=za2 (R:=K) (by omega) hp;rw[zab (by omega) _ _ _ hq,zab (by omega) _ _ _ hq];by_cases h1:r*K+q=I*K+c
 ·obtain⟨rfl,rfl⟩:=zcy hq hc h1;rw[if_pos rfl];unfold ztu;rw[if_neg (by omega),if_pos ⟨hcE,by omega⟩]
 ·rw[if_neg h1];have e1:¬(r=I∧q=c):=fun h=>h1 (by rw[h.1,h.2]);unfold ztu;by_cases h2:q+E<j
  ·rw[if_pos h2,if_pos h2]
  ·rw[if_neg h2,if_neg h2];by_cases h3:q+E=j∧r<I
   ·rw[if_pos h3,if_pos (by omega)]
   ·rw[if_neg h3,if_neg (by omega)]
theorem zzb {E j c:Nat} {a:Nat→Nat→GF} {m:List GF} (hj:j<E) (i q:Nat):zh7 E j a i q=zh7 E (j+1) (zp8 a c m) i q:=by unfold zh7;rw[if_neg (by omega),if_neg (by omega)]
theorem zyn {K E j c:Nat} {a:Nat→Nat→GF} {m:List GF} (hE:E≤j) (hc:c<K) (i:Nat):zhk K E j a i=zhk K E (j+1) (zp8 a c m) i:=by unfold zhk;rw[Nat.min_eq_right hE,Nat.min_eq_right (by omega)];exact Zbu fun e _=>(ziy _ _ _ (by omega)).symm
theorem zyo {K E j:Nat} {a:Nat→Nat→GF} {m:List GF} (hj:j<E) (i:Nat):zhk K E j a i++[m.getD i 0]=zhk K E (j+1) (zp8 a (K+j) m) i:=by unfold zhk;rw[Zbn (by omega),Zbn (by omega),zbq,zix];congr 1;exact Zbu fun e he=>(ziy _ _ _ (by have:=Zaj.1 he;omega)).symm
theorem zf5 {K E j:Nat} {a:Nat→Nat→GF} (i:Nat):(zhk K E j a i).length=min j E:=zaa _ _
def cGo:List Nat→Code→Code
 | 0 :: p,.seq x _=>cGo p x
 | 1 :: p,.seq _ y=>cGo p y
 | 2 :: p,.scope c=>cGo p c
 | 3 :: p,.block _ c=>cGo p c
 | 4 :: p,.rangeFunc _ _ _ c=>cGo p c
 | _,c=>c
def zti (fn:Func):Code:=match fn.body with
 | some c=>c
 | none=>.skip
theorem zpa {F:Fence} {n:Nat} {P:Program} {Q:Exit→Act→World→Prop} {a:Act} {w:World} {fn:Func} {r0 b0 r7 r8 r9 r10 r11 r12 q13 r18 asg c rest:Code} {id:Nat} {g:Operand} {ps:Array Tmp}
  (hb:fn.body=some (.seq r0 (.scope (.seq b0 (.seq r7 (.seq r8 (.seq r9 (.seq r10 (.seq r11 (.seq r12 (.seq q13 (.seq (.seq r18 (.block id (.rangeFunc g ps asg c))) rest)))))))))))) (h:c.wpIn F n P Q a w):(cGo [1,2,1,1,1,1,1,1,1,1,0,1,3,4] (zti fn)).wpIn F n P Q a w:=by
 unfold zti;rw[hb];exact h
theorem zvf {P:Program} {Q:Exit→Act→World→Prop} {a:Act} {w:World} {fn:Func} {r0 b0 r7 r8 r9 r10 r11 r12 q13 q rest:Code}
  (hb:fn.body=some (.seq r0 (.scope (.seq b0 (.seq r7 (.seq r8 (.seq r9 (.seq r10 (.seq r11 (.seq r12 (.seq q13 (.seq q rest)))))))))))) (h:rest.wp P Q a w):(cGo [1,2,1,1,1,1,1,1,1,1,1] (zti fn)).wp P Q a w:=by
 unfold zti;rw[hb];exact h
structure ztq (w0:World) (lb fb k ob rb ib gb qb Bc K2 L ch c1 B0:Nat) (tn:Nat) (ah a1:Option Addr) (zs:List Int) (W:World):Prop where
 ok:FOk W fb
 b3:W.heap[w0.heap.size]? = some (.cells #[.pointer (some ⟨lb,0,none⟩)] 25 (0,0))
 b4:W.heap[w0.heap.size+1]? = some (.cells #[.slice ah L ch] 41 (0,0))
 b5:W.heap[w0.heap.size+1+1]? = some (.cells #[.int .i64 tn] 3 (0,0))
 b9:W.heap[ob]? = some (.cells #[.slice (some ⟨rb,0,none⟩) k k] 33 (0,0))
 b10:W.heap[ib]? = some (.cells #[.int .i64 k,.int .i64 k,.slice (some ⟨gb,0,none⟩) K2 K2] 66 (0,0))
 b14:W.heap[qb]? = some (.cells #[.slice a1 L c1] 44 (0,0))
 nd:IRd W (.slice a1 L c1) zs
 kp:Kp [fb] w0 W
 lt:fb<w0.heap.size∧w0.heap.size+1+1<rb∧rb<ob∧ob<ib∧ob<gb∧ib≠gb∧ib<qb∧gb<qb∧qb<Bc∧Bc<B0
 na:∀b,(Value.slice a1 L c1).ownBlock=some b→qb<b∧b<B0
theorem ztq.step {w0 W W':World} {lb fb k ob rb ib gb qb Bc K2 L ch c1 B0 tn:Nat} {ah a1:Option Addr} {zs:List Int} (h:ztq w0 lb fb k ob rb ib gb qb Bc K2 L ch c1 B0 tn ah a1 zs W) {S:List Nat} (hk:Kp S W W') (hS:∀x∈S,x=fb∨x=gb∨x=rb∨B0≤x) (hf:FOk W' fb):ztq w0 lb fb k ob rb ib gb qb Bc K2 L ch c1 B0 tn ah a1 zs W':=by
 obtain⟨h1,h2,h3,h4,h5,h6,h7,h8,h9,h10⟩:=h.lt;have hn:∀x,x≠fb→x≠gb→x≠rb→x<B0→x∉S:=fun x g1 g2 g3 g4 hm=>by rcases hS x hm with e|e|e|e<;>omega
 exact⟨hf,hk.heap h.b3 (hn _ (by omega) (by omega) (by omega) (by omega)),hk.heap h.b4 (hn _ (by omega) (by omega) (by omega) (by omega)),hk.heap h.b5 (hn _ (by omega) (by omega) (by omega) (by omega)),hk.heap h.b9 (hn _ (by omega) (by omega) (by omega) (by omega)),hk.heap h.b10 (hn _ (by omega) (by omega) (by omega) (by omega)),hk.heap h.b14 (hn _ (by omega) (by omega) (by omega) (by omega)),
  h.nd.kp hk (fun b hb=>hn b (by have:=h.na b hb;omega) (by have:=h.na b hb;omega) (by have:=h.na b hb;omega) (h.na b hb).2),h.kp.step hk (fun x hx=>by rcases hS x hx with e|e|e|e;exact .inl (by simp[e]);exact .inr (by omega);exact .inr (by omega);exact .inr (by omega)),h.lt,h.na⟩
theorem ztq.stp {w0 W W':World} {lb fb k ob rb ib gb qb Bc K2 L ch c1 B0 tn m:Nat} {ah a1:Option Addr} {zs:List Int} (h:ztq w0 lb fb k ob rb ib gb qb Bc K2 L ch c1 B0 tn ah a1 zs W) (hk:Stp fb B0 m W W'):ztq w0 lb fb k ob rb ib gb qb Bc K2 L ch c1 B0 tn ah a1 zs W' :=
 h.step hk.kp (fun x hx=>by
  rcases Zbf.1 hx with rfl|hx
  ·exact .inl rfl
  ·exact .inr (.inr (.inr (Zbb.1 hx).1))) (hk.ok h.ok)
def yda (w0:World) (lb fb k ob rb ib gb qb Bc K2 L ch c1 B0 tn d:Nat) (ah a1:Option Addr) (xs:List GF) (l:List Sy) (j:Nat) (W:World):Prop :=
 ztq w0 lb fb k ob rb ib gb qb Bc K2 L ch c1 B0 tn ah a1 (Sy.nodes l) W∧∃(a:Nat→Nat→GF) (vs:Nat→Value),zpz W (B0+0+2) rb k vs (zhk k (d-k) j a)∧zag W gb K2 (flat k (zh7 (d-k) j a))∧zxt k d tn xs l j a
def ydd (w0:World) (fb k d tn:Nat) (xs:List GF) (l:List Sy) (W:World):Prop :=
 Kp [fb] w0 W∧FOk W fb∧zc2 (fun m=>m.length=mbB k d) (fun m i=>zau k d m (xs.getD i 0)) l tn none
theorem yda.stp {w0 W W':World} {lb fb k ob rb ib gb qb Bc K2 L ch c1 B0 tn d j:Nat} {ah a1:Option Addr} {xs:List GF} {l:List Sy} (h:yda w0 lb fb k ob rb ib gb qb Bc K2 L ch c1 B0 tn d ah a1 xs l j W) (hk:Stp fb B0 (0+2) W W'):yda w0 lb fb k ob rb ib gb qb Bc K2 L ch c1 B0 tn d ah a1 xs l j W':=by
 obtain⟨hs,a,vs,ho,hv,hc⟩:=h;obtain⟨h1,h2,h3,h4,h5,h6,h7,h8,h9,h10⟩:=hs.lt;exact⟨hs.stp hk,a,vs,ho.kp hk.kp (zdd (by omega) (.inl (by omega))) (fun x hx=>by
  rcases Zbf.1 hx with rfl|hx
  ·exact .inl (by omega)
  ·exact .inl (by have:=Zbb.1 hx;omega)),hv.stp hk (by omega) (by omega),hc⟩
theorem ydd.stp {w0 W W':World} {fb k d tn B0 m:Nat} {xs:List GF} {l:List Sy} (h:ydd w0 fb k d tn xs l W) (hk:Stp fb B0 m W W') (hB:w0.heap.size≤B0):ydd w0 fb k d tn xs l W' :=
 ⟨h.1.step hk.kp (fun x hx=>by
  rcases Zbf.1 hx with rfl|hx
  ·exact .inl (by simp)
  ·exact .inr (by have:=Zbb.1 hx;omega)),hk.ok h.2.1,h.2.2⟩
def ycu (s0 ob ib qb col:Nat) (u:Nat→Value):Array Value:=#[u 0,u 1,u 2,.pointer (some ⟨s0,0,none⟩),.pointer (some ⟨s0+1,0,none⟩),.pointer (some ⟨s0+1+1,0,none⟩),u 6,u 7,u 8,.pointer (some ⟨ob,0,none⟩),.pointer (some ⟨ib,0,none⟩),u 11,u 12,u 13,.pointer (some ⟨qb,0,none⟩),u 15,u 16,.int .i64 (col:Nat),u 18,u 19,u 20,u 21,u 22,u 23,u 24,u 25,u 26,u 27,u 28,u 29,u 30,u 31,u 32,u 33,u 34,u 35,u 36,u 37,u 38,u 39,u 40,u 41,u 42,u 43,u 44,u 45,u 46,u 47,u 48,u 49,u 50,u 51,u 52,u 53,u 54,u 55,u 56,u 57,u 58,u 59,u 60,u 61,u 62,u 63,u 64,u 65,u 66,u 67,u 68,u 69,u 70,u 71,u 72,u 73,u 74,u 75,u 76,u 77,u 78,u 79,u 80,u 81,u 82,u 83,u 84,u 85,u 86,u 87,u 88,u 89,u 90,u 91,u 92,u 93,u 94,u 95,u 96,u 97,u 98,u 99,u 100,u 101,.int .i64 (col:Nat),u 103,u 104,u 105,u 106,u 107,u 108,u 109,u 110,u 111,u 112,u 113,u 114,u 115,u 116,u 117,u 118,u 119,u 120,u 121,u 122,u 123,u 124,u 125,u 126,u 127,u 128,u 129,u 130,u 131,u 132,u 133,u 134,u 135,u 136,u 137,u 138,u 139,u 140,u 141,u 142,u 143,u 144,u 145,u 146,u 147,u 148,u 149,u 150,u 151,u 152,u 153,u 154,u 155,u 156,u 157,u 158,u 159,u 160,u 161,u 162,u 163,u 164,u 165,u 166,u 167,u 168,u 169,u 170,u 171,u 172,u 173,u 174,u 175,u 176,u 177,u 178,u 179,u 180,u 181,u 182,u 183,u 184,u 185,u 186,u 187,u 188,u 189,u 190,u 191,u 192,u 193,u 194,u 195,u 196,u 197,u 198,u 199,u 200,u 201,u 202,u 203,u 204,u 205,u 206,u 207,u 208,u 209,u 210,u 211,u 212,u 213,u 214,u 215,u 216,u 217,u 218,u 219,u 220,u 221,u 222,u 223,u 224,u 225,u 226,u 227,u 228,u 229,u 230,u 231]
def yav (s0 ob ib qb col:Nat) (u:Nat→Value):Array Value:=#[u 0,u 1,u 2,.pointer (some ⟨s0,0,none⟩),.pointer (some ⟨s0+1,0,none⟩),.pointer (some ⟨s0+1+1,0,none⟩),u 6,u 7,u 8,.pointer (some ⟨ob,0,none⟩),.pointer (some ⟨ib,0,none⟩),u 11,u 12,u 13,.pointer (some ⟨qb,0,none⟩),u 15,u 16,u 17,u 18,u 19,u 20,u 21,u 22,u 23,u 24,u 25,u 26,u 27,u 28,u 29,u 30,u 31,u 32,u 33,u 34,u 35,u 36,u 37,u 38,u 39,u 40,u 41,u 42,u 43,u 44,u 45,u 46,u 47,u 48,u 49,u 50,u 51,u 52,u 53,u 54,u 55,u 56,u 57,u 58,u 59,u 60,u 61,u 62,u 63,u 64,u 65,u 66,u 67,u 68,u 69,u 70,u 71,u 72,u 73,u 74,u 75,u 76,u 77,u 78,u 79,u 80,u 81,u 82,u 83,u 84,u 85,u 86,u 87,u 88,u 89,u 90,u 91,u 92,u 93,u 94,u 95,u 96,u 97,u 98,u 99,u 100,u 101,.int .i64 (col:Nat),u 103,u 104,u 105,u 106,u 107,u 108,u 109,u 110,u 111,u 112,u 113,u 114,u 115,u 116,u 117,u 118,u 119,u 120,u 121,u 122,u 123,u 124,u 125,u 126,u 127,u 128,u 129,u 130,u 131,u 132,u 133,u 134,u 135,u 136,u 137,u 138,u 139,u 140,u 141,u 142,u 143,u 144,u 145,u 146,u 147,u 148,u 149,u 150,u 151,u 152,u 153,u 154,u 155,u 156,u 157,u 158,u 159,u 160,u 161,u 162,u 163,u 164,u 165,u 166,u 167,u 168,u 169,u 170,u 171,u 172,u 173,u 174,u 175,u 176,u 177,u 178,u 179,u 180,u 181,u 182,u 183,u 184,u 185,u 186,u 187,u 188,u 189,u 190,u 191,u 192,u 193,u 194,u 195,u 196,u 197,u 198,u 199,u 200,u 201,u 202,u 203,u 204,u 205,u 206,u 207,u 208,u 209,u 210,u 211,u 212,u 213,u 214,u 215,u 216,u 217,u 218,u 219,u 220,u 221,u 222,u 223,u 224,u 225,u 226,u 227,u 228,u 229,u 230,u 231]
open Go.Shelf
attribute [local go_sem] Oper.semAt_some
theorem zvt (n:Nat) (u v:Value) (l m:List GF) (w:World) (hu:GRd w u l) (hv:GRd w v m) :
  Calls Tryz.prog 103 #[.agg #[.int .i64 n,.int .i64 n,u],.agg #[.int .i64 n,.int .i64 n,v]] w fun e w'=>e=.returned (.bool (decide (l=m)))∧Below w.heap.size w w':=by
 obtain⟨a1,c1,rfl,-⟩:=hu.form;obtain⟨a2,c2,rfl,-⟩:=hv.form;have HU:=Hd hu;have HV:=Hd hv;have HEQ:=Hd (fun W (h:Below w.heap.size w W)=>zxd _ _ _ _ W (hu.below h) (hv.below h));obtain⟨q,hq⟩:=zE4 (decide (l=m));rw[hq] at HEQ ⊢;clear hu hv hq;go_enter Tryz.func103,Tryz.ntmps103;go_wp2_with (go_at_call 64;(with_reducible refine (HEQ.out _ (by (repeat' (first|with_reducible (first|exact Zaa _ _|assumption|refine Zac ?_|refine Zab ?_ ?_ _)|omega|(simp;done)|(simp;omega))))).mono ?_);rintro e wc ⟨rfl,rfl⟩);go_ret;exact⟨rfl,by (repeat' (first|with_reducible (first|exact Zaa _ _|assumption|refine Zac ?_|refine Zab ?_ ?_ _)|omega|(simp;done)|(simp;omega)))⟩
def zrm (fb n:Nat) (A:Nat→Nat→GF) (w:World) (e:Ending) (w':World):Prop:=Kp [fb] w w'∧FOk w' fb∧((∀i k,i<n→k<n→A i k=A k i)∧(∃v,e=.returned (.tuple #[v,.int .i64 0])∧zao w' w.heap.size v (zqo n A))∨¬(∀i k,i<n→k<n→A i k=A k i)∧e=.returned (.tuple #[.slice none 0 0,.int .i64 50]))
noncomputable def zym (n:Nat) (A:Nat→Nat→GF) (i:Nat):List GF:=(List.range i).flatMap fun i=>rowF (fun e=>A i (i+e)) (n-i)
theorem znh (n:Nat) (A:Nat→Nat→GF) (i:Nat):zym n A (i+1)=zym n A i++rowF (fun e=>A i (i+e)) (n-i):=by unfold zym;rw[Zbh,List.flatMap_append,Zbr,List.flatMap_nil,Zal]
theorem zqn (n:Nat) (A:Nat→Nat→GF):∀i,(zym n A i).length≤i*n
 | 0=>by simp[zym]
 | i+1=>by
  have:=zqn n A i
  rw[znh,Zak,zaa,Zcc,Zbw];omega
structure yc6 (fb b6 n M pa:Nat) (Mx:Nat) (A:Nat→Nat→GF) (w:World) (p:Nat) (W:World):Prop where
 ok:FOk W fb
 ex:∃V',W.heap[b6]? = some (.cells #[V'] 22 (0,0))∧zao W w.heap.size V' (zym n A p)∧(∀b,V'.ownBlock=some b→Mx≤b)
 va:zag W pa M (flat n A)
 kp:Kp [fb] w W
def ydv (w:World) (b6:Nat) (u:Nat→Value):Array Value:=#[u 0,.pointer (some ⟨w.heap.size,0,none⟩),u 2,u 3,u 4,u 5,.pointer (some ⟨b6,0,none⟩),u 7,u 8,u 9,u 10,u 11,u 12,u 13,u 14,u 15,u 16,u 17,u 18,u 19,u 20,u 21,u 22,u 23,u 24,u 25,u 26,u 27,u 28,u 29,u 30,u 31]
theorem zvv (fb n pa ca:Nat) (A:Nat→Nat→GF) (w:World) (hF:FOk w fb) (hn:1≤n∧n≤256) (ha:zag w pa (n*n) (flat n A)) (hca:n*n≤ca) (hna:pa≠fb) :
  Calls Tryz.prog 62 #[.agg #[.int .i64 n,.int .i64 n,.slice (some ⟨pa,0,none⟩) (n*n) ca]] w (zrm fb n A w):=by
 obtain⟨M,hM⟩:=zE4 (n*n);have hMb:M≤256*256:=by rw[←hM];exact Zai hn.2 hn.2
 have hal:=ha.1;have hfl:=hF.lt;have HTU:=Hd (fun W (h:Below w.heap.size w W)=>zvr fb n pa ca A W (hF.below h) hn (ha.below h) hca hna);unfold zmm at HTU;rw[hM] at ha hca HTU ⊢;have HMM:=Hd hM;have HA:=Hd ha;have HF:=Hd hF;have hsy:(rowF (flat n fun r c=>A c r) M=rowF (flat n A) M)↔(∀i k,i<n→k<n→A i k=A k i):=by
  constructor
  ·intro h i k hi hk;have h1:=zc7 h (i:=k*n+i) (by rw[←hM];exact zaz hk hi);rw[zab (by omega) _ _ _ hi,zab (by omega) _ _ _ hi] at h1;exact h1
  ·intro h;refine Zbu fun j hj=>?_;obtain⟨r,c,hr,hc,rfl⟩:=za2 (R:=n) (C:=n) (by omega) (by rw[hM];exact Zaj.1 hj);rw[zab (by omega) _ _ _ hc,zab (by omega) _ _ _ hc];exact h c r hc hr
 obtain⟨q,hq⟩:=zmk (∀i k,i<n→k<n→A i k=A k i);have HSY:Hid (decide (rowF (flat n fun r c=>A c r) M=rowF (flat n A) M)=q):=Hd (by rw[Bool.eq_iff_iff,decide_eq_true_iff,hsy,hq]);have HQ:=Hd hq;clear ha hF hM hsy hq;refine zav Tryz.func62 rfl ?_;simp only[Tryz.ntmps62,TR,Nat.reduceAdd,Nat.reduceSub];go_wp2_with fail;refine (HTU.out _ (by (repeat' (first|with_reducible (first|exact Zaa _ _|assumption|refine Zac ?_|refine Zab ?_ ?_ _)|omega|(simp;done)|(simp;omega))))).mono ?_;rintro e w1 ⟨gb,rfl,hg,hv1,hk1,hf1⟩;have hb0:Below w.heap.size w (w.alloc (.cells #[.int .i64 n,.int .i64 n,.slice (some ⟨pa,0,none⟩) M ca] 66)):=by (repeat' (first|with_reducible (first|exact Zaa _ _|assumption|refine Zac ?_|refine Zab ?_ ?_ _)|omega|(simp;done)|(simp;omega)))
 have b1:w1.heap[w.heap.size]? = some (.cells #[.int .i64 n,.int .i64 n,.slice (some ⟨pa,0,none⟩) M ca] 66 (0,0)):=hk1.heap (nwA _ _) (by simp;omega);have HK1:Hid (Kp [fb] w w1):=Hd ((Kp.of_below hb0).trans hk1);have HA1:=Hd (HA.out.kp HK1.out (by simpa using hna));have HF1:=Hd hf1;have HV1:=Hd hv1;have B1:=Hd b1;have hsz1:=HK1.out.size;have y0:=cOH b1 (j:=0) rfl;have y1:=cOH b1 (j:=1) rfl;have y2:=cOH b1 (j:=2) rfl;have g1:=lOH b1;have HSA:Hid (∀W,Below w1.heap.size w1 W→Calls Tryz.prog 103 #[.agg #[.int .i64 n,.int .i64 n,.slice (some ⟨gb,0,none⟩) M M],.agg #[.int .i64 n,.int .i64 n,.slice (some ⟨pa,0,none⟩) M ca]] W fun e w'=>e=.returned (.bool q)∧Below W.heap.size W w'):=Hd fun W h=>by
  have:=zvt n _ _ _ _ W ((HV1.out.below h).rowF (zE3 M)) ((HA1.out.below h).rowF hca)
  rwa[HSY.out] at this
 clear hg hv1 hk1 hf1 b1 hb0 HTU;go_wp2_with fail;refine (HSA.out _ (by (repeat' (first|with_reducible (first|exact Zaa _ _|assumption|refine Zac ?_|refine Zab ?_ ?_ _)|omega|(simp;done)|(simp;omega))))).mono ?_;rintro e w2 ⟨rfl,hb2⟩;have hb12:Below w1.heap.size w1 w2:=Below.trans (by (repeat' (first|with_reducible (first|exact Zaa _ _|assumption|refine Zac ?_|refine Zab ?_ ?_ _)|omega|(simp;done)|(simp;omega)))) (hb2.mono (by simp));have HB12:=Hd hb12;have hs12:=hb12.size;have HK2:Hid (Kp [fb] w w2):=Hd (HK1.out.below_step hb12);have HF2:=Hd (HF1.out.below hb12);have B2:=Hd (zad hb12 B1.out);have y0:=cOH B2.out (j:=0) rfl;have y1:=cOH B2.out (j:=1) rfl;have y2:=cOH B2.out (j:=2) rfl;have g2:=lOH B2.out;clear hb2 hb12;cases q
 case false =>
  have HNS:Hid (¬(∀i k,i<n→k<n→A i k=A k i)):=Hd (fun h=>by have:=HQ.out.2 h;cases this);go_wp2;refine zal (B:=w.heap.size) [] _ (zbf.nil _ _) fun w' hk=>⟨.tuple #[.slice none 0 0,.int .i64 50],?_,?_⟩
  ·simp[results,Tryz.results62,go_sem]
  ·exact⟨HK2.out.trans (hk.mono (by simp)),HF2.out.kp hk (by simp),.inr ⟨HNS.out,rfl⟩⟩
 case true =>
  have HS:Hid (∀i k,i<n→k<n→A i k=A k i):=Hd (HQ.out.1 rfl);have HA2:=Hd (HA1.out.below HB12.out);go_wp2_with (go_at_call 72;refine (zer n n pa M ca _).mono ?_;rintro e w7 ⟨rfl,hb7,hbx7⟩);obtain⟨b6,hb6⟩:=zE4 w2.heap.size;have h27:Below w2.heap.size w2 w7:=((Zaa _ _).alloc (zE3 _) _).trans (hb7.mono (by simp));have bx7:w7.heap[b6]? = some (.cells #[.slice none 0 0] 22 (0,0)):=by rw[←hb6];exact zad hb7 (nwA _ _)
  have HPI:Hid (yc6 fb b6 n M pa (w7.heap.size+0+2) A w 0 w7):=Hd ⟨HF2.out.below h27,⟨_,bx7,zao.nil _ _,fun b hb=>by simp[Value.ownBlock] at hb⟩,HA2.out.below h27,HK2.out.below_step h27⟩;have HBX:Hid (zhp w7 (b6+1) n n pa M ca):=Hd (by rw[←hb6];simpa using hbx7);have hbl6:b6+1<w7.heap.size:=HBX.out.lt;have hwb6:w.heap.size≤b6:=by rw[←hb6];omega
  clear hb7 hbx7 h27 bx7 B1 B2 HA HA1 HA2 HF HF1 HF2 HK1 HK2 HV1 HSA y0 y1 y2 g1 g2 HB12 HSY HQ;refine zc3 (ydv w b6) _ (by rw[←hb6];kernel_rfl) 23 (.func (.func 110) #[] #[.pointer (some ⟨b6+1,0,none⟩)]) (by rw[←hb6];simp) ?_;clear hb6;intro u hu;have HU:=Hd hu;clear hu;refine zdg (gf:=110) (lb:=#[.pointer (some ⟨b6+1,0,none⟩)]) (show u 23=_ from HU.out) (enters_of Tryz.func110 (by kernel_rfl) rfl) (zlu fb n n pa M ca (b6+1) w7 HBX.out (by omega) (by rw[HMM.out];exact hca) (by omega) (by rw[HMM.out];omega)) (Zaa _ _) (fun _=>rfl) (by omega) n (fun n h=>by cases h;rfl)
   (fun pre W=>yc6 fb b6 n M pa (w7.heap.size+0+2) A w pre.length W) (fun _ _=>False)
   (fun pre A0 A' h hst=>by
    obtain⟨V',h1,h2,h3⟩:=h.ex;refine⟨hst.ok h.ok,⟨V',(hst.kp.block _ (lOH h1) (zdd (by omega) (.inl (by omega)))).trans h1,h2.kp hst.kp (fun b hb=>zdd (by have:=h3 b hb;omega) (.inr (by have:=h3 b hb;omega))),h3⟩,h.va.stp hst (by omega) hna,h.kp.step hst.kp fun x hx=>?_⟩;rcases Zbf.1 hx with rfl|hx
    ·exact .inl (by simp)
    ·have:=(Zbb.1 hx).1
     exact .inr (by omega))
   (fun _ _ _ h _=>h) (fun pre W h=>h.ok) HPI.out (fun h=>by cases h) (fun b hb=>by rw[Zaq] at hb;omega)
   (fun x=>{ tmps:=#[u 0,.pointer (some ⟨w.heap.size,0,none⟩),u 2,u 3,u 4,u 5,.pointer (some ⟨b6,0,none⟩),u 7,u 8,u 9,u 10,u 11,u 12,u 13,u 14,u 15,u 16,u 17,u 18,u 19,u 20,u 21,u 22,u 23,.int .i64 (x:Nat),.slice (some ⟨pa,x*n,none⟩) n n,u 26,u 27,u 28,u 29,u 30,u 31],defers:=[] })
   (fun x=>{ tmps:=#[u 0,.pointer (some ⟨w.heap.size,0,none⟩),u 2,u 3,u 4,u 5,.pointer (some ⟨b6,0,none⟩),.int .i64 (x:Nat),.slice (some ⟨pa,x*n,none⟩) n n,u 9,u 10,u 11,u 12,u 13,u 14,u 15,u 16,u 17,u 18,u 19,u 20,u 21,u 22,u 23,.int .i64 (x:Nat),.slice (some ⟨pa,x*n,none⟩) n n,u 26,u 27,u 28,u 29,u 30,u 31],defers:=[] }) (fun x=>by kernel_rfl) ?assign ?body ?done ?stop
  case assign =>
   intro lv x W K hK;gi_wp2;exact hK
  case stop=>intro D pre W hD hp hx;exact hx.elim
  case body =>
   rintro lv pre i W1 hI ⟨hsp,hsl⟩ hlt hsz
   try dsimp only
   have hi:i=pre.length:=by
    have:=congrArg (fun l=>l[pre.length]?) hsp
    simpa[Zax] using this
   obtain⟨L,hL⟩:=zE4 pre.length;rw[hL] at hi hlt hI;subst hi;have HL:=Hd hL;obtain⟨V',hbx,hV',hVb⟩:=hI.ex;obtain⟨a5,c5,rfl,hc5⟩:=hV'.form;obtain⟨L1,hL1⟩:=zE4 ((zym n A i).length);have hL1b:L1≤256*256:=by rw[←hL1];exact Zat (zqn n A i) (Zai (by omega) hn.2)
   rw[hL1] at hbx hV' hVb hc5;have hW1:=hI.kp.size;have hrow:=zng (C:=n) hlt;rw[HMM.out] at hrow;obtain⟨o2,hsl2,ho2⟩:=zgt pa (i*n) i n n (by omega) (zE3 _);have ho2':=ho2 hlt;subst ho2';obtain⟨d,hd⟩:=zE4 (n-i);rw[hd] at hsl2;have hpart:GRd W1 (.slice (some ⟨pa,i*n+i,none⟩) d d) (rowF (fun e=>A i (i+e)) (n-i)):=by
    have h1:=hI.va.rd (o:=i*n+i) (m:=d) (by omega) (zE3 _);have h2:(List.range d).map (fun j=>flat n A (i*n+i+j))=rowF (fun e=>A i (i+e)) (n-i):=by rw[hd];refine Zbu fun j hj=>?_;have:=Zaj.1 hj;rw[Nat.add_assoc,zab (by omega) _ _ _ (by omega)]
    rwa[h2] at h1
   obtain⟨v6,w8,hap,ho6,hk6,hb6,hat6⟩:=zdt (W:=W1.drew) hV' hpart (by rw[hL1];omega) (by rw[zaa];omega) (show w.heap.size≤W1.heap.size by omega);rw[←znh] at ho6;obtain⟨a6,c6,rfl,-⟩:=ho6.form;obtain⟨L6,hL6⟩:=zE4 ((zym n A (i+1)).length);rw[hL6] at hap ho6 hat6;have hk6':Kp (Value.slice a5 L1 c5).ownBlock.toList W1 w8:=((Kp.refl _ W1).drew).trans hk6;have hv6:∀b,(Value.slice a6 L6 c6).ownBlock=some b→w7.heap.size+0+2≤b:=fun b hb=>by
    rcases hat6 with h|h
    ·exact hVb b (by rw[←h];exact hb)
    ·rw[h] at hb;cases hb;have hh:W1.drew.heap.size=W1.heap.size:=rfl;omega
   have hnb:∀x,x∈(Value.slice a5 L1 c5).ownBlock.toList→w7.heap.size+0+2≤x:=fun x hx=>hVb x (by simpa using hx);have hbx8:=hk6'.heap hbx (fun hm=>by have:=hnb _ hm;omega);have y9:=cOH hbx8 (j:=0) rfl;have z9:=fOH hbx8 0;have g9:=lOH hbx8;have hk9:Kp [b6] w8 (w8.setCell ⟨b6,0,none⟩ (.slice a6 L6 c6)):=(Kp.refl _ _).setCell (.inl (by simp)) _;have hbx9:=hSS hbx8 0 (.slice a6 L6 c6);have hk19:Kp (b6 :: (Value.slice a5 L1 c5).ownBlock.toList) W1 (w8.setCell ⟨b6,0,none⟩ (.slice a6 L6 c6)):=(hk6'.mono (fun x hx=>Zcb _ hx)).trans (hk9.mono (by simp));have hmem:∀x,x∈b6 :: (Value.slice a5 L1 c5).ownBlock.toList→x=b6∨w7.heap.size+0+2≤x:=fun x hx=>by
    rcases Zbf.1 hx with h|h
    ·exact .inl h
    ·exact .inr (hnb x h)
   have HFIN:Hid (KS ([b6+1]++List.range' w7.heap.size (0+2)) W1 (w8.setCell ⟨b6,0,none⟩ (.slice a6 L6 c6))∧W1.heap.size≤(w8.setCell ⟨b6,0,none⟩ (.slice a6 L6 c6)).heap.size ∧
     yc6 fb b6 n M pa (w7.heap.size+0+2) A w (pre++[i]).length (w8.setCell ⟨b6,0,none⟩ (.slice a6 L6 c6))):=Hd (by
    refine⟨fun b hb=>hk19.block b ?_ fun hm=>?_,hk19.size,hI.ok.kp hk19 (fun hm=>by have:=hmem _ hm;omega),⟨_,by simpa using hbx9,?_,hv6⟩,hI.va.kp hk19 (fun hm=>by have:=hmem _ hm;omega),hI.kp.step hk19 fun x hx=>.inr (by have:=hmem x hx;omega)⟩
    ·rcases Zba.1 hb with h|h
     ·rw[Zaq] at h;omega
     ·have:=Zbb.1 h
      omega
    ·have h2:=hmem b hm;rcases Zba.1 hb with h|h
     ·rw[Zaq] at h;omega
     ·have:=Zbb.1 h
      omega
    ·rw[Zak,List.length_singleton,HL.out];exact ho6.kp hk9 (fun b hb hm=>by obtain rfl:=Zaq.1 hm;have:=hv6 _ hb;omega))
   have x5:=cOH hbx (j:=0) rfl;have HKE:Hid (∀kk,kk<W1.heap.size∧kk≠b6∧kk∉(Value.slice a5 L1 c5).ownBlock.toList→w8.heap[kk]? = W1.heap[kk]?):=Hd fun kk hkk=>hk6'.block kk hkk.1 hkk.2.2;obtain⟨kp,hkp⟩:∃kp:Nat→Bool,∀k,kp k=true↔k<W1.heap.size∧k≠b6∧k∉(Value.slice a5 L1 c5).ownBlock.toList:=⟨fun k=>decide (k<W1.heap.size∧k≠b6∧k∉(Value.slice a5 L1 c5).ownBlock.toList),by simp⟩;have HKP:=Hd hkp;have hgx:=lOH hbx;clear hI hV' hVb hk6 hk6' hb6 hat6 hv6 hbx8 hk9 hbx9 hk19 hmem ho6 hpart hsp hsl hL1 hL6 hbx hkp hL ho2;gi_wp2;have hgr:=hgK (fun k=>kp k=true);refine zak (fun k=>kp k=true) [0,4,5] (.sq [1,2,3,0,4,5] .done) (by kernel_rfl) (by kernel_rfl) (by kernel_rfl) ?_;simp only[TQ,Oper.slim,Nat.reduceBEq,Nat.reduceAdd]
   repeat' first|((with_reducible refine w_I ?_);first|(with_reducible refine w_D ?_)|((refine zai _ _ _ rfl rfl rfl rfl rfl hap (fun kk hkk=>HKE.out kk ((HKP.out kk).1 hkk)) ?_))|((with_reducible refine w_S (fun K hK=>?_));go_simp;first|(refine hK _ _ ?_;clear hK K)|(refine⟨by (intro kk hkk;first|(simp (disch:=(simp;omega)) only[h_D,h_N,h_A,h_S];done)|(simp[h_D,h_N,h_I,hkk];done)|(exact (h_S _ _ _ _ (by simp;exact ((HKP.out kk).1 hkk).2.1)).trans (HKE.out kk ((HKP.out kk).1 hkk)))),hK _ _ ?_⟩;clear hK K)))|fail
   clear hgr;gi_wp2
   first|exact HFIN.out|exact⟨HFIN.out.1,HFIN.out.2.1,HFIN.out.2.2⟩|exact⟨HFIN.out.1,by simpa using HFIN.out.2.1,by simpa using HFIN.out.2.2⟩|exact⟨HFIN.out.1,by simpa using HFIN.out.2.1,.inl ⟨rfl,HFIN.out.2.2⟩⟩
  case done =>
   rintro D0 xs W hD0 rfl hI hK0;obtain⟨V',hbx,hV',hVb⟩:=hI.ex;obtain⟨a1,c1,rfl,hc1⟩:=hV'.form;rw[Zbg] at hbx hV' hVb;obtain⟨L1,hL1⟩:=zE4 ((zym n A n).length);rw[hL1] at hbx hV' hVb;have y1:=cOH hbx (j:=0) rfl;have g1:=lOH hbx;have HV':=Hd hV';have HVB:=Hd hVb;have HI:=Hd hI;have HD:=Hd hD0;have HK:=Hd hK0;clear hI hV' hVb hD0 hK0 hL1 hbx hc1;unfold ydv;go_wp2;have hD:=HD.out;refine zal (B:=w.heap.size) [D0] _ (zbf.cons (zbf.nil _ _) (by omega) HK.out (by simp)) fun w' hk=>⟨.tuple #[.slice a1 L1 c1,.int .i64 0],?_,?_⟩
   ·simp[results,Tryz.results62,go_sem]
   ·refine⟨HI.out.kp.step hk fun x hx=>.inr (by obtain rfl:=Zaq.1 hx;omega),HI.out.ok.kp hk (by simp;omega),.inl ⟨HS.out,.slice a1 L1 c1,rfl,?_⟩⟩;refine HV'.out.kp hk fun b hb hm=>?_;obtain rfl:=Zaq.1 hm;have:=HVB.out _ hb;omega
end Go.Proofs.YtcclhhjcejmepaaGreat
namespace Go.Proofs.YtcclhhjcejmepaaGreat
open Go.RowKit Fld Go.Lib
theorem zz0 {W:World} {base:Nat} {V:Value} {l m:List GF} {x:Value} (h:zao W base V l) (hx:GRd W x m) (hl:l.length≤1000000) (hm:m.length≤1000000) (hb:base≤W.heap.size) :
  ∃v1 w3,(Builtin.append_ #[22,22] 22 #[V,x]).run Tryz.prog W=.ok v1 w3∧zao w3 base v1 (l++m)∧Below base W w3:=by
 obtain⟨a,c,rfl,hc⟩:=hx.form;cases a with
 | none =>
  have hm0:=hx.nil_of;subst hm0;obtain⟨i0,hi,hz0,hz1,hz2⟩:=info_parts zbi;obtain⟨av,cv,rfl,hcv⟩:=h.form;have hs:Src Tryz.prog i0.size 22 (.slice none 0 c) 0 [] W:=Src.ofNil W Tryz.underlying22 c;exact⟨_,_,run_append_nothing (P:=Tryz.prog) W 22 22 22 5 i0 Tryz.underlying22 hi av l.length cv hcv (.slice none 0 c) hs,by rw[Zal];exact h,Zaa _ _⟩
 | some A =>
  obtain⟨v1,w3,h1,h2,h3,h4,h5⟩:=zdt h hx hl hm hb;exact⟨v1,w3,h1,h2,h4⟩
theorem zj1 {P:Program} {ops:Array Oper} {rest:List Oper} {o:Oper} {a:Act} {w:World} {Q:Exit→Act→World→Prop} (hgd:o.guard=none) (s x:Operand) (t u:TypeId)
  (ho:o.op=.call { callee:=.builtin .append,args:=#[s,x],argTypes:=#[t,u] }) {V X v:Value} {w3:World} (hs:a.eval s=V) (hx:a.eval x=X)
  (hr:(Builtin.append_ #[t,u] o.type #[V,X]).run P w=.ok v w3) (h:wpList P ops Q rest (a.put o.dst v) w3):wpList P ops Q (o :: rest) a w:=by
 refine wpList_plain hgd fun _ hK=>?_;unfold Oper.wp execOp;simp only[ho,resolve,invoke,builtin,Sem.run_bind,Sem.run_pure,Result.andThen_ok,List.map_toArray,List.map_cons,List.map_nil,hs,hx,hr];exact hK _ _ h
theorem zao.front0 {w:World} {B g n cap:Nat} {l:List GF} (h:zao w B (.slice (some ⟨g,0,none⟩) n cap) l):zao w B (.slice (some ⟨g,0,none⟩) 0 cap) []:=by
 refine⟨rfl,.inr ?_⟩;rcases h.2 with ⟨h1,_⟩|⟨g',cap',cur,h1,h2,h3,h4,h5,h6,h7⟩
 ·cases h1
 ·cases h1;exact⟨g,cap,cur,rfl,h2,h3,Zbp _,h5,h6,by simp[gv]⟩
def zz9 (w:World) (e:Ending) (w':World):Prop:=∃v,e=.returned v∧zao w' w.heap.size v []∧Below w.heap.size w w'
theorem zv2 (n:Nat) (w:World) (hn:n≤1000000):Calls Tryz.prog 104 #[.slice none 0 0,.int .i64 n] w (zz9 w):=by
 have x1:¬(n:Int)<0:=by omega
 have x2:=zE6 (n:Int) (by omega);have x3:(n:Int)-0=(n:Int):=by omega
 by_cases h0:n=0
 ·subst h0;go_enter Tryz.func104,Tryz.ntmps104;go_wp2;go_ret;exact⟨_,rfl,zao.nil _ _,Zaa _ _⟩
 ·have x4:(n:Int)>0:=by omega
  have x5:(0:Int)<(n:Int):=by omega
  obtain⟨v1,w3,hap,ho3,hk3,hb3⟩:=zof (W:=w) (zao.nil w w.heap.size) (by simp) (zE3 _) n (by omega);obtain⟨g,cap,e1,hg1,hg2,-⟩:=ho3.view (by simp;omega);have hlen:([]++List.replicate n (0:GF)).length=n:=by simp
  rw[hlen] at e1 hg2;subst e1;have hsl:∀W:World,(Instr.slice 22 (.slice (some ⟨g,0,none⟩) n cap) none (some (.int .i64 0)) none).run Tryz.prog W=.ok (.slice (some ⟨g,0,none⟩) 0 cap) W:=zea g 0 0 n cap hg2 (by omega);have HO:=Hd ho3.front0;have HB:=Hd hb3;clear ho3 hb3 hlen;go_enter Tryz.func104,Tryz.ntmps104;go_wp2_with (at_builtin;refine zj1 rfl _ _ _ _ rfl rfl rfl hap ?_);go_ret;exact⟨_,rfl,HO.out,HB.out⟩
def zlg (S:List Ro) (w:World) (e:Ending) (w':World):Prop:=∃v,e=.returned v∧zao w' w.heap.size v (S.flatMap Ro.d)∧Below w.heap.size w w'
theorem zn0 {S:List Ro} {I:Nat} {s:Ro} (h:S[I]? = some s):(S.take (I+1)).flatMap Ro.d=(S.take I).flatMap Ro.d++s.d:=by rw[Zaz,h,List.flatMap_append];simp
theorem zws {b:Nat}:∀{S:List Ro},(∀s∈S,s.d.length≤b)→(S.flatMap Ro.d).length≤S.length*b
 | [],_=>by simp
 | s :: S,h=>by have h1:=zws (S:=S) fun t ht=>h t (Zcb _ ht);have h2:=h s List.mem_cons_self;rw[Zbr,Zak,Zbt,Zcc,Zbw];omega
theorem zte (v:Value) (S:List Ro) (w:World) (h:zdv w v S) (hl:S.length≤1000) (hd:∀s∈S,s.d.length≤1000):Calls Tryz.prog 63 #[v] w (zlg S w):=by
 obtain⟨a,cap,rfl⟩:=h.rd.form;obtain⟨L,hL⟩:=zE4 S.length;have HL:=Hd hL;have HD:=Hd hd;have H:=Hd h;have hbound:∀I,((S.take I).flatMap Ro.d).length≤L*1000:=fun I=>Zat (zws fun s hs=>hd s (List.mem_of_mem_take hs)) (by rw[Zan];exact Zar _ (by omega));have HBD:=Hd hbound;rw[hL] at H hl ⊢;clear h hL hd hbound;go_enter Tryz.func63,Tryz.ntmps63;go_wp2;go_loopg [3,11] L (fun gk s i wr=>∃(I z:Nat),I≤L∧gk=L-I∧s=.int .i64 z∧i=.int .i64 I∧Hid (((S.take I).flatMap Ro.d).length=z)∧z≤1000000∧Hid (Below w.heap.size w wr))
 case atStart=>exact⟨0,0,by omega,rfl,rfl,rfl,Hd (by simp),by omega,Hd (Zaa _ _)⟩
 case round =>
  obtain⟨I,z,hI,rfl,rfl,rfl,HZ,hz,HB⟩:=hrel;by_cases hlt:I<L
  ·obtain⟨s,hs⟩:∃s,S[I]? = some s:=⟨_,zE1 (by rw[HL.out];exact hlt)⟩;obtain⟨-,-,b,o,rfl,hb,hat⟩:=SRd.at (H.out.below HB.out).rd hs;have c1:wr.cell? ⟨b,o+I,none⟩=some s.v:=by have:=hat 0 _ rfl;rwa[Nat.mul_one] at this
   unfold Ro.v at c1;obtain⟨n,hn⟩:=zE4 s.d.length;rw[hn] at c1;obtain⟨z2,hz2⟩:=zE4 (z+n);have hz3:((S.take (I+1)).flatMap Ro.d).length=z2:=by rw[zn0 hs,Zak,HZ.out,hn,hz2]
   have hz4:z2≤1000000:=by rw[←hz3];exact Zat (HBD.out _) (Zar _ hl)
   have HZ3:=Hd hz3;have x1:(z:Int)+(n:Int)=(z2:Int):=by omega
   have x2:=zE6 (z2:Int) (by omega);have x3:¬(z2:Int)<0:=by omega
   have i1:(0:Int)≤(I:Int)∧(I:Int)<(L:Int):=by omega
   clear hs hat hn hz2 hz3 HZ;go_wp2;go_roundg (L-(I+1))
   case measure=>omega
   case rel=>exact⟨I+1,z2,by omega,rfl,rfl,by go_num,HZ3,hz4,HB⟩
  ·obtain rfl:I=L:=by omega
   have hsr:=HB.out.size;have HGR:=Hd (zv2 z wr hz);clear HZ;go_wp2_with fail;refine HGR.out.mono ?_;rintro e w2 ⟨V0,rfl,ho2,hb2⟩;have HO2:=Hd (zao.mono ho2 hsr);have HB2:=Hd (HB.out.trans (hb2.mono hsr));obtain⟨av,cv,rfl,-⟩:=ho2.form;clear ho2 hb2 HGR;go_wp2;go_loopg [6,27] I (fun gk V i wr=>∃(J:Nat) (a:Option Addr) (n c:Nat),J≤I∧gk=I-J∧V=.slice a n c∧i=.int .i64 J∧Hid (zao wr w.heap.size (.slice a n c) ((S.take J).flatMap Ro.d))∧Hid (Below w.heap.size w wr))
   case atStart=>exact⟨0,_,_,_,by omega,rfl,rfl,rfl,by rw[List.take_zero];exact HO2,HB2⟩
   case round =>
    clear HO2 HB2 HB;obtain⟨J,a',n',c',hJ,rfl,rfl,rfl,HO,HB⟩:=hrel;have hsr:=HB.out.size;by_cases hlt:J<I
    ·obtain⟨s,hs⟩:∃s,S[J]? = some s:=⟨_,zE1 (by rw[HL.out];exact hlt)⟩;obtain⟨-,-,b,o,rfl,hb,hat⟩:=SRd.at (H.out.below HB.out).rd hs;have c1:wr.cell? ⟨b,o+J,none⟩=some s.v:=by have:=hat 0 _ rfl;rwa[Nat.mul_one] at this
     have hrd:=(H.out.below HB.out).each s (Zad hs);obtain⟨v1,w3,hap,ho3,hb3⟩:=zz0 HO.out hrd (by have:=HBD.out J;omega) (by have:=HD.out s (Zad hs);omega) hsr;rw[←zn0 hs] at ho3;obtain⟨a3,c3,rfl,-⟩:=ho3.form;unfold Ro.v at c1 hap;obtain⟨n,hn⟩:=zE4 s.d.length;obtain⟨n3,hn3⟩:=zE4 (((S.take (J+1)).flatMap Ro.d).length);rw[hn] at c1 hap;rw[hn3] at ho3 hap;have HO3:=Hd ho3;have HB3:=Hd (HB.out.trans hb3);have i1:(0:Int)≤(J:Int)∧(J:Int)<(I:Int):=by omega
     clear hs hat hn hn3 hrd ho3 hb3 HO;go_wp2_with (at_builtin;refine zae rfl _ _ _ rfl rfl rfl hap ?_);go_roundg (I-(J+1))
     case measure=>omega
     case rel=>exact⟨J+1,a3,n3,c3,by omega,rfl,rfl,by go_num,HO3,HB3⟩
    ·obtain rfl:J=I:=by omega
     have hO:=HO.out;have hT:S.take J=S:=by rw[←HL.out,Zbs]
     rw[hT] at hO;have HO2:=Hd hO;clear hO hT;go_wp2;go_ret;exact⟨_,rfl,HO2.out,HB.out⟩
end Go.Proofs.YtcclhhjcejmepaaGreat
