/-
  How many numbers stand ahead of a row of the upper half of a square: plain laws.
  Rows added; words apart: the plain laws.
  Shares that nodes tell, some of them made others: the plain laws.
  Shares that nodes store, rows of bytes each: whose are wrong, what they tell: the plain laws.
  The matrix of a message; what nodes store: the plain laws of codes that are repaired by just what they store.
  As many equations as unknowns, of which only nought meets nought: there is one solution.
  What places store by two symmetric matrices: the plain laws of codes whose nodes store as little as may be.
  What a place stores, as what each number of the two matrices is multiplied with.
  Codes whose nodes store as little as may be: which may be, their points, and why what the first places store tells the two matrices.
  Edges of nodes; what nodes store of a word: the plain laws of codes that are repaired by what others store.
  Codes of groups: the plain laws of their points.
-/
import Derived.Test.YtnjbkfeihbcalaaGreatZBase
import Derived.Test.YtnjbkfeihbcalaaGreatZKit
import Derived.Test.YtnjbkfeihbcalaaGreatZPlains
import Derived.Test.YtnjbkfeihbcalaaGreatZSyG
import Derived.Test.YtnjbkfeihbcalaaGreatZWeRefs
import Derived.Test.YtnjbkfeihbcalaaGreatZSol
import Derived.Test.YtnjbkfeihbcalaaGreatZCos
/- How many numbers stand ahead of a row of the upper half of a square: plain laws. -/
namespace Go.Proofs.YtnjbkfeihbcalaaGreat
set_option linter.unusedVariables false
set_option linter.unusedSimpArgs false

def tri (K:Nat):Nat→Nat
 | 0=>0
 | i+1=>tri K i+(K - i)
theorem tri_succ (K i:Nat):tri K (i+1)=tri K i+(K - i):=rfl
theorem tri_two {K:Nat}:∀ {i:Nat},i≤K→2 * tri K i+i * i=i * (2 * K+1)
 | 0,_=>by simp [tri]
 | i+1,h=>by
  have ih:=tri_two (K:=K) (i:=i) (by omega)
  rw [tri_succ]
  obtain ⟨e,rfl⟩:∃ e,K=i+1+e:=⟨K - (i+1),by omega⟩
  have h1:i+1+e - i=1+e:=by omega
  rw [h1]
  simp only [Nat.mul_add,Nat.add_mul,Nat.mul_one,Nat.one_mul] at ih ⊢
  omega
theorem tri_full (K:Nat):tri K K=K * (K+1) / 2:=by
 have h:=tri_two (Nat.le_refl K)
 have:2 * tri K K=K * (K+1):=by
  have e:K * (2 * K+1)=K * (K+1)+K * K:=by rw [← Nat.mul_add];congr 1;omega
  omega
 omega
theorem tri_mono {K i j:Nat} (h:i≤j):tri K i≤tri K j:=by
 induction j with
 | zero =>
  obtain rfl:i=0:=by omega
  exact Nat.le_refl _
 | succ j ih =>
  rw [tri_succ]
  rcases Nat.lt_or_ge j i with h1 | h1
  ·obtain rfl:i=j+1:=by omega
   rw [tri_succ]
   exact Nat.le_refl _
  ·have:=ih h1
   omega
theorem tri_find {K p:Nat}:∀ {n:Nat},p < tri K n→∃ i,i < n∧∃ e,e < K - i∧p=tri K i+e
 | 0,h=>by simp [tri] at h
 | n+1,h=>by
  rw [tri_succ] at h
  rcases Nat.lt_or_ge p (tri K n) with h1 | h1
  ·obtain ⟨i,hi,e⟩:=tri_find h1
   exact ⟨i,by omega,e⟩
  ·exact ⟨n,by omega,p - tri K n,by omega,by omega⟩
end Go.Proofs.YtnjbkfeihbcalaaGreat
/- Rows added; words apart: the plain laws. -/
namespace Go.Proofs.YtnjbkfeihbcalaaGreat
open Go.RowKit Fld
set_option linter.unusedVariables false
set_option linter.unusedSimpArgs false

end Go.Proofs.YtnjbkfeihbcalaaGreat
/- Shares that nodes tell, some of them made others: the plain laws. -/
namespace Go.Proofs.YtnjbkfeihbcalaaGreat
open Go.RowKit Fld
set_option linter.unusedVariables false
set_option linter.unusedSimpArgs false

end Go.Proofs.YtnjbkfeihbcalaaGreat
/- Shares that nodes store, rows of bytes each: whose are wrong, what they tell: the plain laws. -/
namespace Go.Proofs.YtnjbkfeihbcalaaGreat
open Go.RowKit Fld
set_option linter.unusedVariables false
set_option linter.unusedSimpArgs false

theorem rowF_inj {f g:Nat→GF} {n i:Nat} (h:rowF f n=rowF g n) (hi:i < n):f i=g i:=by
 have:=congrArg (·.getD i 0) h
 simp only [rowF_get _ hi] at this
 exact this
def badS (f:Nat→List GF) (s:Sy):Bool:=decide (s.d ≠ f s.node.toNat)
def wrD (f:Nat→List GF) (l:List Sy):List Int:=riseI (Sy.nodes (l.filter (badS f)))
theorem wrD_len (f:Nat→List GF) (l:List Sy):(wrD f l).length=(l.filter (badS f)).length:=by rw [wrD,riseI_len,Sy.nodes,List.length_map]
theorem filter_two {α:Type} (p q:α→Bool):∀ l:List α,l.length≤(l.filter fun s=>!p s && !q s).length+(l.filter p).length+(l.filter q).length
 | []=>by simp
 | s :: l=>by
  have ih:=filter_two p q l
  cases hp:p s <;> cases hq:q s <;> simp [List.filter_cons,hp,hq] <;> omega
section
variable {α:Type} {ok:α→Prop} {f:α→Nat→List GF} {l:List Sy} {t N k:Nat}
def TellD (ok:α→Prop) (f:α→Nat→List GF) (l:List Sy) (t:Nat):Option α→Prop
 | some m=>ok m∧(wrD (f m) l).length≤t
 | none=>∀ m,ok m→¬ (wrD (f m) l).length≤t
def InjD (ok:α→Prop) (f:α→Nat→List GF) (N k:Nat):Prop:=∀ m m',ok m→ok m'→∀ ns:List Nat,ns.Nodup→(∀ i ∈ ns,i < N)→k≤ns.length→(∀ i ∈ ns,f m i=f m' i)→m=m'
theorem nodes_nat {l:List Sy} (hg:GoodP N (Sy.nodes l)):(l.map fun s=>s.node.toNat).Nodup∧∀ i ∈ l.map (fun s=>s.node.toNat),i < N:=by
 constructor
 ·have h:=hg.2
  unfold Sy.nodes at h
  rw [List.nodup_iff_pairwise_ne,List.pairwise_map] at h ⊢
  refine h.imp_of_mem fun {a b} ha hb hne e=>hne ?_
  have h1:=hg.1 a.node (List.mem_map.2 ⟨a,ha,rfl⟩)
  have h2:=hg.1 b.node (List.mem_map.2 ⟨b,hb,rfl⟩)
  omega
 ·intro i hi
  obtain ⟨s,hs,rfl⟩:=List.mem_map.1 hi
  have:=hg.1 s.node (List.mem_map.2 ⟨s,hs,rfl⟩)
  omega
theorem GoodP.filter {N:Nat} {l:List Sy} (hg:GoodP N (Sy.nodes l)) (p:Sy→Bool):GoodP N (Sy.nodes (l.filter p)) :=
 ⟨fun x hx=>hg.1 x ((List.Sublist.map _ List.filter_sublist).mem hx),hg.2.sublist (List.Sublist.map _ List.filter_sublist)⟩
theorem TellD.one {o o':Option α} (hi:InjD ok f N k) (hg:GoodP N (Sy.nodes l)) (hk:k+2 * t≤l.length) (h:TellD ok f l t o) (h':TellD ok f l t o'):o=o':=by
 cases o with
 | none=>cases o' with
  | none=>rfl
  | some m'=>exact absurd h'.2 (h m' h'.1)
 | some m=>cases o' with
  | none=>exact absurd h.2 (h' m h.1)
  | some m' =>
   have h2:=filter_two (badS (f m)) (badS (f m')) l
   have h3:=h.2
   have h4:=h'.2
   rw [wrD_len] at h3 h4
   have hn:=nodes_nat (hg.filter fun s=>!badS (f m) s && !badS (f m') s)
   rw [hi m m' h.1 h'.1 _ hn.1 hn.2 (by rw [List.length_map];omega) fun i hi'=>?_]
   obtain ⟨s,hs,rfl⟩:=List.mem_map.1 hi'
   have hb:=(List.mem_filter.1 hs).2
   simp only [badS,Bool.and_eq_true,Bool.not_eq_true',decide_eq_false_iff_not,ne_eq,Decidable.not_not] at hb
   rw [← hb.1,hb.2]
def FailD (ok:α→Prop) (f:α→Nat→List GF) (l:List Sy) (k t:Nat) (r:Nat→Nat):Prop:=∀ m,ok m→(∀ j,j < k→∀ s,l[r j]? = some s→s.d=f m s.node.toNat)→¬ (wrD (f m) l).length≤t
theorem FailD.congr {r r':Nat→Nat} (h:∀ j,j < k→r j=r' j) (hf:FailD ok f l k t r'):FailD ok f l k t r:=fun m hm hr=>hf m hm fun j hj s hs=>hr j hj s (by rw [h j hj];exact hs)
end
end Go.Proofs.YtnjbkfeihbcalaaGreat
/- The matrix of a message; what nodes store: the plain laws of codes that are repaired by just what they store. -/
namespace Go.Proofs.YtnjbkfeihbcalaaGreat
open Go.RowKit Fld
set_option linter.unusedVariables false
set_option linter.unusedSimpArgs false

def mbB (K D:Nat):Nat:=tri K K+K * (D - K)
theorem mbB_eq {K D:Nat} (h:K≤D):mbB K D=K * D - K * (K - 1) / 2:=by
 unfold mbB
 rw [tri_full]
 obtain ⟨e,rfl⟩:∃ e,D=K+e:=⟨D - K,by omega⟩
 rw [Nat.add_sub_cancel_left]
 cases K with
 | zero=>simp
 | succ k =>
  have h1:(k+1) * (k+1+1)=(k+1) * k+2 * (k+1):=by rw [Nat.mul_comm 2,← Nat.mul_add]
  have h2:(k+1) * (k+1)=(k+1) * k+(k+1):=by rw [Nat.mul_add,Nat.mul_one]
  have h3:(k+1) * k % 2=0:=by
   rcases Nat.mod_two_eq_zero_or_one k with h | h
   ·rw [Nat.mul_mod,h,Nat.mul_zero]
   ·rw [Nat.mul_mod,Nat.add_mod,h]
  have h4:(k+1) * (k+1+e)=(k+1) * (k+1)+(k+1) * e:=Nat.mul_add _ _ _
  rw [Nat.add_sub_cancel,h1,h4,h2]
  omega
def sI (K i k:Nat):Nat:=tri K (min i k)+(max i k - min i k)
theorem sI_comm (K i k:Nat):sI K i k=sI K k i:=by unfold sI;rw [Nat.min_comm,Nat.max_comm]
theorem sI_le {K i k:Nat} (h:i≤k):sI K i k=tri K i+(k - i):=by unfold sI;rw [Nat.min_eq_left h,Nat.max_eq_right h]
theorem sI_lt {K i k:Nat} (hi:i < K) (hk:k < K):sI K i k < tri K K:=by
 rcases Nat.le_total i k with h | h
 ·rw [sI_le h]
  have h1:=tri_mono (K:=K) (show i+1≤K by omega)
  rw [tri_succ] at h1
  omega
 ·rw [sI_comm,sI_le h]
  have h1:=tri_mono (K:=K) (show k+1≤K by omega)
  rw [tri_succ] at h1
  omega
end Go.Proofs.YtnjbkfeihbcalaaGreat
/- As many equations as unknowns, of which only nought meets nought: there is one solution. -/
namespace Go.Proofs.YtnjbkfeihbcalaaGreat
open Go.RowKit Fld
set_option linter.unusedVariables false
set_option linter.unusedSimpArgs false

section
variable {F:Type} [Fld F]
theorem ech_any (R C:Nat) (A:Nat→Nat→F):∀ c,c≤C→∃ (a:Nat) (p:Nat→Nat) (N:Nat→Nat→F),Ech R c a N p∧∀ (D:Nat) (B:Nat→Nat→F),∃ NB,∀ x z,MetS R C D N NB x z↔MetS R C D A B x z
 | 0,_=>⟨0,_,A,Ech.zero R A,fun D B=>⟨B,fun x z=>Iff.rfl⟩⟩
 | c+1,h=>by
  obtain ⟨a,p,N,hE,hM⟩:=ech_any R C A c (by omega)
  by_cases hz:∃ fr,a≤fr∧fr < R∧N fr c ≠ 0
  ·obtain ⟨fr,h1,h2,h3⟩:=hz
   refine ⟨a+1,_,_,hE.step h1 h2 h3,fun D B=>?_⟩
   obtain ⟨NB,hNB⟩:=hM D B
   exact ⟨stepR a fr c N NB,fun x z=>(met_step (by omega) h2 h3).trans (hNB x z)⟩
  ·refine ⟨a,p,N,hE.skip fun i h1 h2=>?_,hM⟩
   exact Classical.byContradiction fun h3=>hz ⟨i,h1,h2,h3⟩
theorem square_surj {R:Nat} {A:Nat→Nat→F} (hinj:∀ x:Nat→F,(∀ i,i < R→sm R (fun k=>A i k * x k)=0)→∀ k,k < R→x k=0) (b:Nat→F):∃ x:Nat→F,∀ i,i < R→sm R (fun k=>A i k * x k)=b i:=by
 obtain ⟨a,p,N,hE,hM⟩:=ech_any R R A R (Nat.le_refl _)
 obtain ⟨NB,hNB⟩:=hM 1 fun i _=>b i
 have haR:=hE.aR
 rcases Nat.lt_or_ge a R with hlt | hge
 ·obtain ⟨x,⟨k,hk,hxk⟩,hx⟩:=hE.kernel (Nat.le_refl _) hlt (.inl rfl)
  exact absurd (hinj x (met_zero.1 ((hNB x fun _=>0).1 (met_zero.2 hx))) k hk) hxk
 ·obtain rfl:a=R:=by omega
  have hid:=hE.full (Nat.le_refl _)
  refine ⟨fun k=>NB k 0,fun i hi=>?_⟩
  have hmet:MetS a a 1 N NB (fun k=>NB k 0) (fun _=>1):=fun i hi=>by
   unfold eqn
   rw [sm_one i hi (fun k hk hne=>by rw [hid i hi k hk,if_neg (fun e=>hne e.symm),zmul]),hid i hi i hi,if_pos rfl,onem]
   simp only [sm,mone,zadd]
   exact adds _
  have:=(hNB _ _).1 hmet i hi
  rw [eqn_iff] at this
  rw [this]
  simp only [sm,mone,zadd]
end
end Go.Proofs.YtnjbkfeihbcalaaGreat
/- What places store by two symmetric matrices: the plain laws of codes whose nodes store as little as may be. -/
namespace Go.Proofs.YtnjbkfeihbcalaaGreat
open Go.RowKit Fld
set_option linter.unusedVariables false
set_option linter.unusedSimpArgs false

def hf (a:Nat):Nat:=tri a a
theorem hf_two (a:Nat):2 * hf a=a * (a+1):=by
 have h:=tri_two (Nat.le_refl a)
 have e:a * (2 * a+1)=a * (a+1)+a * a:=by rw [← Nat.mul_add];congr 1;omega
 unfold hf
 omega
noncomputable def s1M (a:Nat) (z:Nat→GF) (i k:Nat):GF:=z (sI a i k)
noncomputable def s2M (a:Nat) (z:Nat→GF) (i k:Nat):GF:=z (hf a+sI a i k)
theorem s1M_comm (a:Nat) (z:Nat→GF) (i k:Nat):s1M a z i k=s1M a z k i:=by unfold s1M;rw [sI_comm]
theorem s2M_comm (a:Nat) (z:Nat→GF) (i k:Nat):s2M a z i k=s2M a z k i:=by unfold s2M;rw [sI_comm]
noncomputable def rw1 (a:Nat) (M:Nat→Nat→GF) (x:GF) (c:Nat):GF:=ev (rowF (fun i=>M i c) a) x
noncomputable def sSh (a:Nat) (z:Nat→GF) (x:GF) (c:Nat):GF:=rw1 a (s1M a z) x c+pw x a * rw1 a (s2M a z) x c
noncomputable def bi (a:Nat) (M:Nat→Nat→GF) (x y:GF):GF:=ev (rowF (rw1 a M x) a) y
theorem bi_sum (a:Nat) (M:Nat→Nat→GF) (x y:GF):bi a M x y=sm a fun c=>sm a fun i=>M i c * pw x i * pw y c:=by
 unfold bi
 rw [ev_sm,rowF_len]
 refine sm_congr fun c hc=>?_
 rw [rowF_get _ hc]
 unfold rw1
 rw [ev_sm,rowF_len,← sm_mulr]
 exact sm_congr fun i hi=>by rw [rowF_get _ hi]
theorem bi_comm {a:Nat} {M:Nat→Nat→GF} (h:∀ i k,M i k=M k i) (x y:GF):bi a M x y=bi a M y x:=by
 rw [bi_sum,bi_sum,sm_swap]
 exact sm_congr fun i _=>sm_congr fun c _=>by rw [h i c,Fld.mulA,Fld.mulA,Fld.mulC (pw x _)]
noncomputable def tellS (a:Nat) (z:Nat→GF) (x y:GF):GF:=bi a (s1M a z) x y+pw x a * bi a (s2M a z) x y
theorem tellS_sm (a:Nat) (z:Nat→GF) (x y:GF):(sm a fun c=>sSh a z x c * pw y c)=tellS a z x y:=by
 unfold tellS bi
 rw [ev_sm,ev_sm,rowF_len,rowF_len,← sm_mul,← sm_add]
 refine sm_congr fun c hc=>?_
 rw [rowF_get _ hc,rowF_get _ hc]
 unfold sSh
 rw [dam,Fld.mulA]
theorem pair_two {l m u v u' v':GF} (hlm:l ≠ m) (h1:u+l * v=u'+l * v') (h2:u+m * v=u'+m * v'):u=u'∧v=v':=by
 have h3:(l+m) * v=(l+m) * v':=by
  have e1:(u+l * v)+(u+m * v)=(l+m) * v:=by rw [dam,addA,addL (l * v) u,adds2]
  have e2:(u'+l * v')+(u'+m * v')=(l+m) * v':=by rw [dam,addA,addL (l * v') u',adds2]
  rw [← e1,← e2,h1,h2]
 have hv:v=v':=mul_cancel (fun e=>hlm (add_eq0 e)) h3
 refine ⟨?_,hv⟩
 rw [hv,addC,addC u'] at h1
 exact add_cancel h1
theorem rw1_inj {a:Nat} {M M':Nat→Nat→GF} {X:List GF} (hX:X.Nodup) (hl:a≤X.length) {c:Nat} (h:∀ x ∈ X,rw1 a M x c=rw1 a M' x c):∀ i,i < a→M i c=M' i c:=fun i hi=>by
 have:=ev_inj hX (p:=rowF (fun i=>M i c) a) (q:=rowF (fun i=>M' i c) a) (by rw [rowF_len,rowF_len]) (by rw [rowF_len];exact hl) h
 exact rowF_inj (f:=fun i=>M i c) (g:=fun i=>M' i c) this hi
theorem bi_inj {a:Nat} {M M':Nat→Nat→GF} {x:GF} {Y:List GF} (hY:Y.Nodup) (hl:a≤Y.length) (h:∀ y ∈ Y,bi a M x y=bi a M' x y):∀ c,c < a→rw1 a M x c=rw1 a M' x c:=fun c hc=>by
 have:=ev_inj hY (p:=rowF (rw1 a M x) a) (q:=rowF (rw1 a M' x) a) (by rw [rowF_len,rowF_len]) (by rw [rowF_len];exact hl) h
 exact rowF_inj this hc
theorem ms_mats {a:Nat} {z z':Nat→GF} {X:List GF} (hX:X.Nodup) (hL:∀ x ∈ X,∀ y ∈ X,x ≠ y→pw x a ≠ pw y a) (hl:a+1≤X.length) (h:∀ x ∈ X,∀ c,c < a→sSh a z x c=sSh a z' x c) :
  ∀ i c,i < a→c < a→s1M a z i c=s1M a z' i c∧s2M a z i c=s2M a z' i c:=by
 have ht:∀ x ∈ X,∀ y,tellS a z x y=tellS a z' x y:=fun x hx y=>by
  rw [← tellS_sm,← tellS_sm]
  exact sm_congr fun c hc=>by rw [h x hx c hc]
 have hp:∀ x ∈ X,∀ y ∈ X,x ≠ y→bi a (s1M a z) x y=bi a (s1M a z') x y∧bi a (s2M a z) x y=bi a (s2M a z') x y:=fun x hx y hy hne=>by
  have h1:=ht x hx y
  have h2:=ht y hy x
  unfold tellS at h1 h2
  rw [bi_comm (s1M_comm a z) y x,bi_comm (s2M_comm a z) y x,bi_comm (s1M_comm a z') y x,bi_comm (s2M_comm a z') y x] at h2
  exact pair_two (hL x hx y hy hne) h1 h2
 have hr:∀ x ∈ X,∀ c,c < a→rw1 a (s1M a z) x c=rw1 a (s1M a z') x c∧rw1 a (s2M a z) x c=rw1 a (s2M a z') x c:=fun x hx c hc=>by
  have hY:(X.filter fun y=>decide (y ≠ x)).Nodup:=hX.filter _
  have hYl:a≤(X.filter fun y=>decide (y ≠ x)).length:=by
   have h1:=two_parts (fun y=>decide (y=x)) X
   have h2:(X.filter fun y=>decide (y=x)).length≤1:=by
    have h3:(X.filter fun y=>decide (y=x)).Nodup:=hX.filter _
    have h4:=h3.length_le_of_subset (l₂:=[x]) fun y hy=>by
     have:=of_decide_eq_true (List.mem_filter.1 hy).2
     rw [this]
     exact List.mem_singleton.2 rfl
    simpa using h4
   have h5:(X.filter fun y=>!decide (y=x))=X.filter fun y=>decide (y ≠ x):=List.filter_congr fun y _=>by simp
   rw [h5] at h1
   omega
  have hmem:∀ y ∈ X.filter (fun y=>decide (y ≠ x)),y ∈ X∧x ≠ y:=fun y hy=>⟨(List.mem_filter.1 hy).1,fun e=>of_decide_eq_true (List.mem_filter.1 hy).2 e.symm⟩
  exact ⟨bi_inj hY hYl (fun y hy=>(hp x hx y (hmem y hy).1 (hmem y hy).2).1) c hc,bi_inj hY hYl (fun y hy=>(hp x hx y (hmem y hy).1 (hmem y hy).2).2) c hc⟩
 exact fun i c hi hc=>⟨rw1_inj hX (by omega) (fun x hx=>(hr x hx c hc).1) i hi,rw1_inj hX (by omega) (fun x hx=>(hr x hx c hc).2) i hi⟩
theorem ms_inj {a:Nat} {z z':Nat→GF} {X:List GF} (hX:X.Nodup) (hL:∀ x ∈ X,∀ y ∈ X,x ≠ y→pw x a ≠ pw y a) (hl:a+1≤X.length) (h:∀ x ∈ X,∀ c,c < a→sSh a z x c=sSh a z' x c):∀ p,p < 2 * hf a→z p=z' p:=fun p hp=>by
 have hm:=ms_mats hX hL hl h
 rcases Nat.lt_or_ge p (hf a) with h1 | h1
 ·obtain ⟨i,hi,e,he,rfl⟩:=tri_find h1
  have:=(hm i (i+e) hi (by omega)).1
  unfold s1M at this
  rwa [sI_le (by omega),Nat.add_sub_cancel_left] at this
 ·obtain ⟨q,rfl⟩:∃ q,p=hf a+q:=⟨p - hf a,by omega⟩
  obtain ⟨i,hi,e,he,rfl⟩:=tri_find (K:=a) (n:=a) (p:=q) (by unfold hf at hp;omega)
  have:=(hm i (i+e) hi (by omega)).2
  unfold s2M at this
  rwa [sI_le (by omega),Nat.add_sub_cancel_left] at this
end Go.Proofs.YtnjbkfeihbcalaaGreat
/- What a place stores, as what each number of the two matrices is multiplied with. -/
namespace Go.Proofs.YtnjbkfeihbcalaaGreat
open Go.RowKit Fld
set_option linter.unusedVariables false
set_option linter.unusedSimpArgs false

theorem st_off {C r c i k:Nat} (hc:c < C) (hk:k < C) (e:r * C+c=i * C+k):r=i∧c=k:=by
 have h1:r=i:=(off_in (a:=i) hc).1 (by omega)
 subst h1
 exact ⟨rfl,by omega⟩
theorem tri_lt {a i j e:Nat} (hi:i < j) (he:e < a - i):tri a i+e < tri a j:=by
 have h1:tri a (i+1)≤tri a j:=tri_mono (by omega)
 rw [tri_succ] at h1
 omega
theorem sI_inj {a i k i' k':Nat} (hik:i≤k) (hk:k < a) (hik':i'≤k') (hk':k' < a) (h:sI a i k=sI a i' k'):i=i'∧k=k':=by
 rw [sI_le hik,sI_le hik'] at h
 rcases Nat.lt_trichotomy i i' with h1 | h1 | h1
 ·have:=tri_lt (a:=a) h1 (show k - i < a - i by omega)
  omega
 ·subst h1
  omega
 ·have:=tri_lt (a:=a) h1 (show k' - i' < a - i' by omega)
  omega
noncomputable def stU (a:Nat) (f:Nat→GF) (c p:Nat):GF:=sm a fun i=>if sI a i c=p then f i else 0
noncomputable def stM (a:Nat) (f:Nat→GF) (l:GF) (c p:Nat):GF:=if p < hf a then stU a f c p else l * stU a f c (p - hf a)
theorem stU_low {a i k:Nat} (f:Nat→GF) (hik:i≤k) (hk:k < a):stU a f k (sI a i k)=f i:=by
 unfold stU
 rw [sm_one i (by omega) (fun j hj hne=>?_),if_pos rfl]
 rw [if_neg]
 intro e
 rcases Nat.le_total j k with h1 | h1
 ·have:=sI_inj h1 hk hik hk e
  exact hne this.1
 ·rw [sI_comm] at e
  have:=sI_inj h1 hj hik hk e
  omega
theorem stU_high {a i k:Nat} (f:Nat→GF) (hik:i≤k) (hk:k < a):stU a f i (sI a i k)=f k:=by
 unfold stU
 rw [sm_one k hk (fun j hj hne=>?_),if_pos (sI_comm a k i)]
 rw [if_neg]
 intro e
 rcases Nat.le_total j i with h1 | h1
 ·have:=sI_inj h1 (by omega) hik hk e
  omega
 ·rw [sI_comm] at e
  have:=sI_inj h1 hj hik hk e
  exact hne this.2
theorem stU_none {a i k c:Nat} (f:Nat→GF) (hik:i≤k) (hk:k < a) (hc:c < a) (h1:c ≠ i) (h2:c ≠ k):stU a f c (sI a i k)=0:=by
 unfold stU
 refine sm_0 fun j hj=>if_neg fun e=>?_
 rcases Nat.le_total j c with h3 | h3
 ·have:=sI_inj h3 hc hik hk e
  exact h2 this.2
 ·rw [sI_comm] at e
  have:=sI_inj h3 hj hik hk e
  exact h1 this.1
theorem sI_lthf {a i k:Nat} (hi:i < a) (hk:k < a):sI a i k < hf a:=sI_lt hi hk
theorem stU_sum {a c:Nat} (f:Nat→GF) (z:Nat→GF) (hc:c < a):sm (hf a) (fun p=>stU a f c p * z p)=sm a fun i=>z (sI a i c) * f i:=by
 unfold stU
 have h1:(fun p=>(sm a fun i=>if sI a i c=p then f i else 0) * z p)=fun p=>sm a fun i=>(if sI a i c=p then f i else 0) * z p:=by
  funext p
  rw [← sm_mulr]
 rw [h1,sm_swap]
 refine sm_congr fun i hi=>?_
 rw [sm_one (sI a i c) (sI_lthf hi hc) (fun p hp hne=>by rw [if_neg (fun e=>hne e.symm),zmul]),if_pos rfl,mulC]
theorem st_sum {a c:Nat} (z:Nat→GF) (x:GF) (hc:c < a):sm (2 * hf a) (fun p=>stM a (fun i=>pw x i) (pw x a) c p * z p)=sSh a z x c:=by
 rw [Nat.two_mul,sm_split]
 unfold sSh
 have h1:sm (hf a) (fun p=>stM a (fun i=>pw x i) (pw x a) c p * z p)=rw1 a (s1M a z) x c:=by
  rw [show sm (hf a) (fun p=>stM a (fun i=>pw x i) (pw x a) c p * z p)=sm (hf a) (fun p=>stU a (fun i=>pw x i) c p * z p) from sm_congr fun p hp=>by unfold stM;rw [if_pos hp],stU_sum _ _ hc]
  unfold rw1
  rw [rowF_ev]
  rfl
 have h2:sm (hf a) (fun p=>stM a (fun i=>pw x i) (pw x a) c (hf a+p) * z (hf a+p))=pw x a * rw1 a (s2M a z) x c:=by
  rw [show sm (hf a) (fun p=>stM a (fun i=>pw x i) (pw x a) c (hf a+p) * z (hf a+p))=sm (hf a) (fun p=>pw x a * (stU a (fun i=>pw x i) c p * z (hf a+p))) from sm_congr fun p hp=>by unfold stM;rw [if_neg (by omega),Nat.add_sub_cancel_left,Fld.mulA],sm_mul,stU_sum _ (fun p=>z (hf a+p)) hc]
  unfold rw1
  rw [rowF_ev]
  rfl
 rw [h1,h2]
noncomputable def stW (a:Nat) (f:Nat→GF) (l:GF) (t:Nat):Nat→Nat→GF:=fun c p=>if (if p < hf a then p else p - hf a) < t then stM a f l c p else 0
theorem stW_zero (a:Nat) (f:Nat→GF) (l:GF) (c p:Nat):stW a f l 0 c p=0:=by unfold stW;rw [if_neg (Nat.not_lt_zero _)]
theorem stW_full {a c p:Nat} (f:Nat→GF) (l:GF) (hp:p < 2 * hf a):stW a f l (hf a) c p=stM a f l c p:=by
 unfold stW
 rw [if_pos]
 split <;> omega
theorem stW_step {a i k h W:Nat} {f:Nat→GF} {l:GF} (hh:hf a=h) (hW:2 * h=W) (hik:i≤k) (hk:k < a) {j:Nat} (hj:j < a * W) :
  (if j=i * W+h+sI a i k then l * f k else if j=i * W+sI a i k then f k else if j=k * W+h+sI a i k then l * f i else if j=k * W+sI a i k then f i else flat W (stW a f l (sI a i k)) j)=flat W (stW a f l (sI a i k+1)) j:=by
 subst hh hW
 have hs:=sI_lthf (a:=a) (i:=i) (k:=k) (by omega) hk
 obtain ⟨c,p,hc,hp,rfl⟩:=off_ex (C:=2 * hf a) (by omega) hj
 rw [flat_at (by omega) _ _ _ hp,flat_at (by omega) _ _ _ hp]
 have e1:∀ r q,q < 2 * hf a→(c * (2 * hf a)+p=r * (2 * hf a)+q↔c=r∧p=q):=fun r q hq=>⟨fun e=>st_off hp hq e,fun e=>by rw [e.1,e.2]⟩
 have e2:=e1 i (hf a+sI a i k) (by omega)
 have e3:=e1 i (sI a i k) (by omega)
 have e4:=e1 k (hf a+sI a i k) (by omega)
 have e5:=e1 k (sI a i k) (by omega)
 rw [← Nat.add_assoc] at e2 e4
 by_cases h1:c=i∧p=hf a+sI a i k
 ·rw [if_pos (e2.2 h1)]
  obtain ⟨rfl,rfl⟩:=h1
  unfold stW stM
  rw [if_pos (by rw [if_neg (by omega)];omega),if_neg (by omega),Nat.add_sub_cancel_left,stU_high f hik hk]
 rw [if_neg (fun e=>h1 (e2.1 e))]
 by_cases h2:c=i∧p=sI a i k
 ·rw [if_pos (e3.2 h2)]
  obtain ⟨rfl,rfl⟩:=h2
  unfold stW stM
  rw [if_pos (by rw [if_pos hs];omega),if_pos hs,stU_high f hik hk]
 rw [if_neg (fun e=>h2 (e3.1 e))]
 by_cases h3:c=k∧p=hf a+sI a i k
 ·rw [if_pos (e4.2 h3)]
  obtain ⟨rfl,rfl⟩:=h3
  unfold stW stM
  rw [if_pos (by rw [if_neg (by omega)];omega),if_neg (by omega),Nat.add_sub_cancel_left,stU_low f hik hk]
 rw [if_neg (fun e=>h3 (e4.1 e))]
 by_cases h4:c=k∧p=sI a i k
 ·rw [if_pos (e5.2 h4)]
  obtain ⟨rfl,rfl⟩:=h4
  unfold stW stM
  rw [if_pos (by rw [if_pos hs];omega),if_pos hs,stU_low f hik hk]
 rw [if_neg (fun e=>h4 (e5.1 e))]
 unfold stW
 by_cases h5:(if p < hf a then p else p - hf a) < sI a i k
 ·rw [if_pos h5,if_pos (by omega)]
 ·rw [if_neg h5]
  by_cases h6:(if p < hf a then p else p - hf a)=sI a i k
  ·rw [if_pos (by omega)]
   by_cases hlt:p < hf a
   ·rw [if_pos hlt] at h6
    unfold stM
    rw [if_pos hlt,h6,stU_none f hik hk hc (fun e=>h2 ⟨e,h6⟩) (fun e=>h4 ⟨e,h6⟩)]
   ·rw [if_neg hlt] at h6
    unfold stM
    rw [if_neg hlt,h6,stU_none f hik hk hc (fun e=>h1 ⟨e,by omega⟩) (fun e=>h3 ⟨e,by omega⟩),mzero]
  ·rw [if_neg (by omega)]
end Go.Proofs.YtnjbkfeihbcalaaGreat
/- Codes whose nodes store as little as may be: which may be, their points, and why what the first places store tells the two matrices. -/
namespace Go.Proofs.YtnjbkfeihbcalaaGreat
open Go.RowKit Fld
set_option linter.unusedVariables false
set_option linter.unusedSimpArgs false

structure MsOk (N K D u a:Nat):Prop where
 hk:2≤K
 hn:N≤255
 hd:D < N
 hu:D+2=2 * K+u
 ha:D+1=K+a
 h16:a≤16
 hg:N+u≤255 / Nat.gcd a 255
theorem MsOk.pos {N K D u a:Nat} (h:MsOk N K D u a):0 < a∧a+1≤N+u∧N+u≤255:=by
 have h1:=h.hk
 have h2:=h.hu
 have h3:=h.ha
 have h4:=h.hd
 have h5:=h.hg
 have h6:255 / Nat.gcd a 255≤255:=Nat.div_le_self _ _
 omega
theorem pown_eq {i j:Nat} (h:GF.pown GF.two i=GF.pown GF.two j):i % 255=j % 255:=by
 rw [← GF.pow_mod i,← GF.pow_mod j] at h
 exact GF.log_inj (Nat.mod_lt _ (by omega)) (Nat.mod_lt _ (by omega)) h
theorem lam_pow (p a:Nat):pw (GF.pown GF.two p) a=GF.pown GF.two (p * a):=by
 rw [GF.pown_pw,pw_pw,GF.pown_pw]
theorem lam_inj {a L p q:Nat} (ha:0 < a) (hL:L≤255 / Nat.gcd a 255) (hp:p < L) (hq:q < L) (h:pw (GF.pown GF.two p) a=pw (GF.pown GF.two q) a):p=q:=by
 rw [lam_pow,lam_pow] at h
 have hm:=pown_eq h
 obtain ⟨g,hg⟩:∃ g,Nat.gcd a 255=g:=⟨_,rfl⟩
 have hg0:0 < g:=by rw [← hg];exact Nat.gcd_pos_of_pos_left _ ha
 have hga:g ∣ a:=by rw [← hg];exact Nat.gcd_dvd_left _ _
 have hgb:g ∣ 255:=by rw [← hg];exact Nat.gcd_dvd_right _ _
 obtain ⟨a',rfl⟩:=hga
 obtain ⟨b',hb⟩:=hgb
 have hq':255 / g=b':=by rw [hb];exact Nat.mul_div_cancel_left _ hg0
 rw [hg,hq'] at hL
 have hco:Nat.Coprime a' b':=by
  have h1:Nat.gcd (g * a') (g * b')=g:=by rw [← hb];exact hg
  rw [Nat.gcd_mul_left] at h1
  have h2:g * Nat.gcd a' b'=g * 1:=by rw [h1,Nat.mul_one]
  exact Nat.eq_of_mul_eq_mul_left hg0 h2
 have key:∀ {x y:Nat},x≤y→y < b'→x * (g * a') % 255=y * (g * a') % 255→x=y:=by
  intro x y hxy hy e
  have h1:255 ∣ (y - x) * (g * a'):=by
   rw [Nat.sub_mul]
   exact Nat.dvd_of_mod_eq_zero (Nat.sub_mod_eq_zero_of_mod_eq e.symm)
  rw [hb] at h1
  have h2:g * b' ∣ g * ((y - x) * a'):=by rwa [← Nat.mul_assoc,Nat.mul_comm g (y - x),Nat.mul_assoc]
  have h3:b' ∣ (y - x) * a':=Nat.dvd_of_mul_dvd_mul_left hg0 h2
  have h4:b' ∣ y - x:=Nat.Coprime.dvd_of_dvd_mul_right hco.symm h3
  rcases Nat.eq_zero_or_pos (y - x) with h5 | h5
  ·omega
  ·have:=Nat.le_of_dvd h5 h4
   omega
 rcases Nat.le_total p q with h1 | h1
 ·exact key h1 (by omega) hm
 ·exact (key h1 (by omega) hm.symm).symm
noncomputable def msA (a:Nat) (i p:Nat):GF:=stM a (fun c=>pw (GF.pown GF.two (i / a)) c) (pw (GF.pown GF.two (i / a)) a) (i % a) p
theorem msA_at {a P c:Nat} (hc:c < a) (p:Nat):msA a (P * a+c) p=stM a (fun i=>pw (GF.pown GF.two P) i) (pw (GF.pown GF.two P) a) c p:=by
 unfold msA
 have h1:(P * a+c) / a=P:=by rw [Nat.mul_comm,Nat.mul_add_div (by omega),Nat.div_eq_of_lt hc,Nat.add_zero]
 have h2:(P * a+c) % a=c:=by rw [Nat.mul_comm,Nat.mul_add_mod,Nat.mod_eq_of_lt hc]
 rw [h1,h2]
theorem msA_sum {a P c:Nat} (hc:c < a) (z:Nat→GF):sm (2 * hf a) (fun p=>msA a (P * a+c) p * z p)=sSh a z (GF.pown GF.two P) c:=by
 rw [show (fun p=>msA a (P * a+c) p * z p)=fun p=>stM a (fun i=>pw (GF.pown GF.two P) i) (pw (GF.pown GF.two P) a) c p * z p from funext fun p=>by rw [msA_at hc]]
 exact st_sum z _ hc
theorem sSh_zero {a c:Nat} (x:GF):sSh a (fun _=>0) x c=0:=by
 unfold sSh rw1 s1M s2M
 rw [rowF_ev,sm_0 (fun i hi=>by rw [zmul]),mzero,addz]
theorem ms_one {a L:Nat} (ha:0 < a) (hL:L≤255 / Nat.gcd a 255) {E:List Nat} (hE:E.Nodup) (hlt:∀ p ∈ E,p < L) (hl:a+1≤E.length) {z z':Nat→GF}
  (h:∀ p ∈ E,∀ c,c < a→sSh a z (GF.pown GF.two p) c=sSh a z' (GF.pown GF.two p) c):∀ p,p < 2 * hf a→z p=z' p:=by
 have hL2:L≤255:=Nat.le_trans hL (Nat.div_le_self _ _)
 refine ms_inj (X:=E.map (GF.pown GF.two)) ?_ ?_ (by rw [List.length_map];exact hl) ?_
 ·refine List.pairwise_map.2 (hE.imp_of_mem fun {p q} hp hq hne e=>hne ?_)
  have:=hlt p hp
  have:=hlt q hq
  exact GF.log_inj (by omega) (by omega) e
 ·intro x hx y hy hne e
  obtain ⟨p,hp,rfl⟩:=List.mem_map.1 hx
  obtain ⟨q,hq,rfl⟩:=List.mem_map.1 hy
  exact hne (by rw [lam_inj ha hL (hlt p hp) (hlt q hq) e])
 ·intro x hx c hc
  obtain ⟨p,hp,rfl⟩:=List.mem_map.1 hx
  exact h p hp c hc
theorem msA_inj {a L:Nat} (ha:0 < a) (hL:L≤255 / Nat.gcd a 255) (hl:a+1≤L) (z:Nat→GF) (h:∀ i,i < 2 * hf a→sm (2 * hf a) (fun p=>msA a i p * z p)=0):∀ p,p < 2 * hf a→z p=0:=by
 have h1:=ms_one (z:=z) (z':=fun _=>0) ha hL (E:=List.range (a+1)) List.nodup_range (fun p hp=>by have:=List.mem_range.1 hp;omega) (by simp) (fun p hp c hc=>by
  have hp2:=List.mem_range.1 hp
  rw [← msA_sum hc z,h _ (by
   rw [hf_two]
   have:=Nat.mul_le_mul_right a (show p+1≤a+1 by omega)
   rw [Nat.mul_comm a (a+1)]
   rw [Nat.add_mul,Nat.one_mul] at this
   omega),sSh_zero])
 exact h1
end Go.Proofs.YtnjbkfeihbcalaaGreat
/- Edges of nodes; what nodes store of a word: the plain laws of codes that are repaired by what others store. -/
namespace Go.Proofs.YtnjbkfeihbcalaaGreat
open Go.RowKit Fld
set_option linter.unusedVariables false
set_option linter.unusedSimpArgs false

def eE (n i j:Nat):Nat:=tri (n - 1) (min i j)+(max i j - min i j - 1)
def eN (n:Nat):Nat:=tri (n - 1) (n - 1)
theorem eE_comm (n i j:Nat):eE n i j=eE n j i:=by unfold eE;rw [Nat.min_comm,Nat.max_comm]
theorem eE_le {n a b:Nat} (h:a < b):eE n a b=tri (n - 1) a+(b - a - 1):=by unfold eE;rw [Nat.min_eq_left (by omega),Nat.max_eq_right (by omega)]
theorem eE_up {n a b:Nat} (h:a < b) (hb:b < n):eE n a b < tri (n - 1) (a+1):=by rw [eE_le h,tri_succ];omega
theorem eE_lo {n a b:Nat} (h:a < b):tri (n - 1) a≤eE n a b:=by rw [eE_le h];omega
theorem eE_inj1 {n a b c d:Nat} (h:a < b) (hb:b < n) (h':c < d) (hd:d < n) (e:eE n a b=eE n c d):a=c∧b=d:=by
 have h1:=eE_up h hb
 have h2:=eE_up h' hd
 have h3:=eE_lo (n:=n) h
 have h4:=eE_lo (n:=n) h'
 rcases Nat.lt_trichotomy a c with hlt | rfl | hlt
 ·have:=tri_mono (K:=n - 1) (show a+1≤c from hlt)
  omega
 ·rw [eE_le h,eE_le h'] at e
  omega
 ·have:=tri_mono (K:=n - 1) (show c+1≤a from hlt)
  omega
theorem eE_inj {n i j a b:Nat} (hij:i ≠ j) (hab:a ≠ b) (hi:i < n) (hj:j < n) (ha:a < n) (hb:b < n) (e:eE n i j=eE n a b):i=a∧j=b ∨ i=b∧j=a:=by
 rcases Nat.lt_or_ge i j with h | h <;> rcases Nat.lt_or_ge a b with h' | h'
 ·exact .inl (eE_inj1 h hj h' hb e)
 ·rw [eE_comm n a b] at e
  have:=eE_inj1 h hj (show b < a by omega) ha e
  omega
 ·rw [eE_comm n i j] at e
  have:=eE_inj1 (show j < i by omega) hi h' hb e
  omega
 ·rw [eE_comm n i j,eE_comm n a b] at e
  have:=eE_inj1 (show j < i by omega) hi (show b < a by omega) ha e
  omega
theorem eE_lt {n i j:Nat} (hij:i ≠ j) (hi:i < n) (hj:j < n):eE n i j < eN n:=by
 unfold eN
 rcases Nat.lt_or_ge i j with h | h
 ·exact Nat.lt_of_lt_of_le (eE_up h hj) (tri_mono (by omega))
 ·rw [eE_comm]
  exact Nat.lt_of_lt_of_le (eE_up (show j < i by omega) hi) (tri_mono (by omega))
theorem eN_eq (n:Nat):eN n=n * (n - 1) / 2:=by
 unfold eN
 rw [tri_full]
 cases n with
 | zero=>rfl
 | succ n=>rw [Nat.add_sub_cancel,Nat.mul_comm]
theorem eN_le {n:Nat} (h:n≤23):eN n≤253:=by
 rw [eN_eq]
 have h6:n * (n - 1)≤23 * 22:=Nat.mul_le_mul h (by omega)
 omega
def trB (n k:Nat):Nat:=tri (n - 1) k
theorem trB_eq {n k:Nat} (h:k < n):trB n k=k * (n - 1) - k * (k - 1) / 2:=by
 have h1:=tri_two (K:=n - 1) (i:=k) (by omega)
 unfold trB
 obtain ⟨m,rfl⟩:∃ m,n=m+1:=⟨n - 1,by omega⟩
 rw [Nat.add_sub_cancel] at h1 ⊢
 cases k with
 | zero=>simp [tri]
 | succ k =>
  rw [Nat.add_sub_cancel]
  have h2:(k+1) * k % 2=0:=by
   rcases Nat.mod_two_eq_zero_or_one k with h | h
   ·rw [Nat.mul_mod,h,Nat.mul_zero]
   ·rw [Nat.mul_mod,Nat.add_mod,h]
  have h3:(k+1) * (2 * m+1)=2 * ((k+1) * m)+(k+1):=by rw [Nat.mul_add,Nat.mul_one,Nat.mul_left_comm]
  have h4:(k+1) * (k+1)=(k+1) * k+(k+1):=by rw [Nat.mul_add,Nat.mul_one]
  omega
theorem trB_pos {n k:Nat} (hk:1≤k) (h:k < n):1≤trB n k:=by
 unfold trB
 have:=tri_mono (K:=n - 1) hk
 have h1:tri (n - 1) 1=n - 1:=by simp [tri]
 omega
theorem trB_le {n k:Nat} (h:k < n):trB n k≤eN n:=tri_mono (by omega)
def othN (j p:Nat):Nat:=if p < j then p else p+1
def plcN (j o:Nat):Nat:=if o < j then o else o - 1
theorem oth_plc {j o:Nat} (h:o ≠ j):othN j (plcN j o)=o:=by
 unfold othN plcN
 by_cases h2:o < j
 ·rw [if_pos h2,if_pos h2]
 ·rw [if_neg h2,if_neg (by omega)]
  omega
theorem plc_lt {n j o:Nat} (h:o ≠ j) (ho:o < n) (hj:j < n):plcN j o < n - 1:=by unfold plcN;split <;> omega
noncomputable def trSh (n:Nat) (xs m:List GF) (j:Nat):List GF:=rowF (fun p=>ev m (xs.getD (eE n j (othN j p)) 0)) (n - 1)
noncomputable def addT (S:List (Nat × GF) × Bool) (e:Nat) (b:GF):List (Nat × GF) × Bool :=
 match S.1.lookup e with
 | some c=>(S.1,S.2 || decide (c ≠ b))
 | none=>(S.1 ++ [(e,b)],S.2)
noncomputable def rowT (n:Nat) (s:Sy) (S:List (Nat × GF) × Bool):Nat→List (Nat × GF) × Bool
 | 0=>S
 | o+1=>if o=s.node.toNat then rowT n s S o else addT (rowT n s S o) (eE n s.node.toNat o) (s.d.getD (plcN s.node.toNat o) 0)
structure TI (P:Nat→GF→Prop) (S:List (Nat × GF) × Bool):Prop where
 nd:(S.1.map Prod.fst).Nodup
 sub:∀ p ∈ S.1,P p.1 p.2
 all:∀ e b,P e b→e ∈ S.1.map Prod.fst
 ap:S.2=false↔∀ e b,P e b→(e,b) ∈ S.1
theorem lookup_some {l:List (Nat × GF)} {e:Nat} {c:GF} (h:l.lookup e=some c):(e,c) ∈ l:=by
 induction l with
 | nil=>simp at h
 | cons a l ih =>
  obtain ⟨x,y⟩:=a
  rw [List.lookup_cons] at h
  split at h
  ·rename_i h2
   simp at h2 h
   subst h2 h
   exact List.mem_cons_self
  ·exact List.mem_cons_of_mem _ (ih h)
theorem lookup_none {l:List (Nat × GF)} {e:Nat} (h:l.lookup e=none):e ∉ l.map Prod.fst:=by
 induction l with
 | nil=>simp
 | cons a l ih =>
  obtain ⟨x,y⟩:=a
  rw [List.lookup_cons] at h
  split at h
  ·cases h
  ·rename_i h2
   simp at h2
   rw [List.map_cons,List.mem_cons]
   rintro (h3 | h3)
   ·exact h2 h3
   ·exact ih h h3
theorem fst_one {l:List (Nat × GF)} (h:(l.map Prod.fst).Nodup) {e:Nat} {b c:GF} (hb:(e,b) ∈ l) (hc:(e,c) ∈ l):b=c:=by
 induction l with
 | nil=>cases hb
 | cons a l ih =>
  rw [List.map_cons,List.nodup_cons] at h
  rcases List.mem_cons.1 hb with h1 | h1 <;> rcases List.mem_cons.1 hc with h2 | h2
  ·rw [← h1] at h2;exact (Prod.mk.inj h2).2.symm
  ·subst h1;exact absurd (show (e,b).1 ∈ l.map Prod.fst from List.mem_map.2 ⟨(e,c),h2,rfl⟩) h.1
  ·subst h2;exact absurd (show (e,c).1 ∈ l.map Prod.fst from List.mem_map.2 ⟨(e,b),h1,rfl⟩) h.1
  ·exact ih h.2 h1 h2
theorem TI.add {P:Nat→GF→Prop} {S:List (Nat × GF) × Bool} (h:TI P S) (e:Nat) (b:GF):TI (fun e' b'=>P e' b' ∨ e'=e∧b'=b) (addT S e b):=by
 unfold addT
 cases hl:S.1.lookup e with
 | some c =>
  have hc:=lookup_some hl
  refine ⟨h.nd,fun p hp=>.inl (h.sub p hp),fun e' b' hp=>?_,?_⟩
  ·rcases hp with hp | ⟨rfl,rfl⟩
   ·exact h.all _ _ hp
   ·exact List.mem_map.2 ⟨_,hc,rfl⟩
  ·show (S.2 || decide (c ≠ b))=false↔_
   rw [Bool.or_eq_false_iff,h.ap,decide_eq_false_iff_not,Decidable.not_not]
   constructor
   ·rintro ⟨h1,rfl⟩ e' b' (h2 | ⟨rfl,rfl⟩)
    ·exact h1 _ _ h2
    ·exact hc
   ·intro h1
    exact ⟨fun e' b' h2=>h1 _ _ (.inl h2),fst_one h.nd hc (h1 _ _ (.inr ⟨rfl,rfl⟩))⟩
 | none =>
  have hn:=lookup_none hl
  refine ⟨?_,fun p hp=>?_,fun e' b' hp=>?_,?_⟩
  ·show ((S.1 ++ [(e,b)]).map Prod.fst).Nodup
   rw [List.map_append,List.nodup_append]
   exact ⟨h.nd,by simp,fun x hx y hy=>by simp at hy;subst hy;exact fun e2=>hn (e2 ▸ hx)⟩
  ·rcases List.mem_append.1 hp with hp | hp
   ·exact .inl (h.sub p hp)
   ·rw [List.mem_singleton.1 hp];exact .inr ⟨rfl,rfl⟩
  ·show e' ∈ (S.1 ++ [(e,b)]).map Prod.fst
   rw [List.map_append,List.mem_append]
   rcases hp with hp | ⟨rfl,rfl⟩
   ·exact .inl (h.all _ _ hp)
   ·exact .inr (by simp)
  ·show S.2=false↔∀ e' b',_→(e',b') ∈ S.1 ++ [(e,b)]
   rw [h.ap]
   constructor
   ·rintro h1 e' b' (h2 | ⟨rfl,rfl⟩)
    ·exact List.mem_append.2 (.inl (h1 _ _ h2))
    ·exact List.mem_append.2 (.inr (by simp))
   ·intro h1 e' b' h2
    rcases List.mem_append.1 (h1 _ _ (.inl h2)) with h3 | h3
    ·exact h3
    ·obtain ⟨rfl,rfl⟩:=Prod.mk.inj (List.mem_singleton.1 h3)
     exact absurd (h.all _ _ h2) hn
theorem TI.congr {P Q:Nat→GF→Prop} {S:List (Nat × GF) × Bool} (h:TI P S) (e:∀ a b,P a b↔Q a b):TI Q S :=
 ⟨h.nd,fun p hp=>(e _ _).1 (h.sub p hp),fun a b hq=>h.all a b ((e a b).2 hq),h.ap.trans ⟨fun g a b hq=>g a b ((e a b).2 hq),fun g a b hp=>g a b ((e a b).1 hp)⟩⟩
def saysT (n:Nat) (s:Sy) (m e:Nat) (b:GF):Prop:=∃ o,o < m∧o ≠ s.node.toNat∧e=eE n s.node.toNat o∧b=s.d.getD (plcN s.node.toNat o) 0
theorem TI.row {P:Nat→GF→Prop} {S:List (Nat × GF) × Bool} (h:TI P S) (n:Nat) (s:Sy):∀ m,TI (fun e b=>P e b ∨ saysT n s m e b) (rowT n s S m)
 | 0=>h.congr fun e b=>⟨.inl,fun h=>h.elim id fun ⟨o,ho,_⟩=>absurd ho (Nat.not_lt_zero _)⟩
 | m+1=>by
  have ih:=TI.row h n s m
  rw [rowT]
  split
  ·rename_i hm
   refine ih.congr fun e b=>or_congr_right ⟨fun ⟨o,ho,h2⟩=>⟨o,by omega,h2⟩,fun ⟨o,ho,h2,h3⟩=>⟨o,by omega,h2,h3⟩⟩
  ·rename_i hm
   refine (ih.add _ _).congr fun e b=>?_
   rw [or_assoc]
   refine or_congr_right ⟨?_,?_⟩
   ·rintro (⟨o,ho,h2⟩ | ⟨rfl,rfl⟩)
    ·exact ⟨o,by omega,h2⟩
    ·exact ⟨m,by omega,hm,rfl,rfl⟩
   ·rintro ⟨o,ho,h2,h3,h4⟩
    rcases Nat.lt_or_ge o m with h5 | h5
    ·exact .inl ⟨o,h5,h2,h3,h4⟩
    ·obtain rfl:o=m:=by omega
     exact .inr ⟨h3,h4⟩
def TrTell (n B:Nat) (xs:List GF) (l:List Sy):Option (List GF)→Prop
 | some m=>m.length=B∧∀ s ∈ l,s.d=trSh n xs m s.node.toNat
 | none=>∀ m:List GF,m.length=B→¬ ∀ s ∈ l,s.d=trSh n xs m s.node.toNat
theorem TI.fits {P:Nat→GF→Prop} {S:List (Nat × GF) × Bool} (h:TI P S) (f:Nat→GF):(S.2=false∧∀ p ∈ S.1,f p.1=p.2)↔∀ e b,P e b→f e=b:=by
 constructor
 ·rintro ⟨h1,h2⟩ e b hp
  exact h2 _ (h.ap.1 h1 e b hp)
 ·intro h1
  refine ⟨h.ap.2 fun e b hp=>?_,fun p hp=>h1 _ _ (h.sub p hp)⟩
  obtain ⟨⟨e',c⟩,hc,rfl⟩:=List.mem_map.1 (h.all e b hp)
  have h2:=h1 _ _ (h.sub _ hc)
  rw [h1 _ _ hp] at h2
  rw [h2];exact hc
def edL (n:Nat):List Nat→List Nat
 | []=>[]
 | a :: l=>((List.range n).filter fun o=>decide (o ∉ a :: l)).map (eE n a) ++ edL n l
theorem edL_mem {n e:Nat}:∀ {ns:List Nat},e ∈ edL n ns→(∀ a ∈ ns,a < n)→∃ a ∈ ns,∃ o,o < n∧o ≠ a∧e=eE n a o
 | [],h,_=>by cases h
 | a :: l,h,hn=>by
  rw [edL] at h
  rcases List.mem_append.1 h with h | h
  ·obtain ⟨o,ho,rfl⟩:=List.mem_map.1 h
   obtain ⟨h1,h2⟩:=List.mem_filter.1 ho
   have h2:=of_decide_eq_true h2
   exact ⟨a,List.mem_cons_self,o,List.mem_range.1 h1,fun e=>h2 (by rw [e];exact List.mem_cons_self),rfl⟩
  ·obtain ⟨b,hb,o,h3⟩:=edL_mem h fun a ha=>hn a (List.mem_cons_of_mem _ ha)
   exact ⟨b,List.mem_cons_of_mem _ hb,o,h3⟩
theorem cnt_not {n:Nat}:∀ {L:List Nat},L.Nodup→(∀ x ∈ L,x < n)→((List.range n).filter fun o=>decide (o ∉ L)).length+L.length=n
 | [],_,_=>by rw [List.filter_eq_self.2 (fun _ _=>by simp)];simp
 | a :: l,h,hn=>by
  rw [List.nodup_cons] at h
  have ih:=cnt_not h.2 fun x hx=>hn x (List.mem_cons_of_mem _ hx)
  have h1:a ∈ (List.range n).filter fun o=>decide (o ∉ l):=List.mem_filter.2 ⟨List.mem_range.2 (hn a List.mem_cons_self),decide_eq_true h.1⟩
  have h2:((List.range n).filter fun o=>decide (o ∉ a :: l))=((List.range n).filter fun o=>decide (o ∉ l)).erase a:=by
   rw [List.Nodup.erase_eq_filter (List.nodup_range.filter _),List.filter_filter]
   refine List.filter_congr fun x _=>?_
   by_cases e:x=a <;> simp [e]
  rw [h2,List.length_erase_of_mem h1,List.length_cons]
  have:=List.length_pos_of_mem h1
  omega
theorem edL_len {n:Nat}:∀ {ns:List Nat},ns.Nodup→(∀ a ∈ ns,a < n)→(edL n ns).length=tri (n - 1) ns.length
 | [],_,_=>rfl
 | a :: l,h,hn=>by
  have h1:=cnt_not h hn
  rw [List.nodup_cons] at h
  rw [edL,List.length_append,List.length_map,edL_len h.2 fun x hx=>hn x (List.mem_cons_of_mem _ hx),List.length_cons,tri_succ]
  rw [List.length_cons] at h1
  omega
theorem edL_nodup {n:Nat}:∀ {ns:List Nat},ns.Nodup→(∀ a ∈ ns,a < n)→(edL n ns).Nodup
 | [],_,_=>List.nodup_nil
 | a :: l,h,hn=>by
  rw [List.nodup_cons] at h
  have ha:=hn a List.mem_cons_self
  have hl:∀ x ∈ l,x < n:=fun x hx=>hn x (List.mem_cons_of_mem _ hx)
  rw [edL,List.nodup_append]
  refine ⟨?_,edL_nodup h.2 hl,?_⟩
  ·rw [List.nodup_iff_pairwise_ne,List.pairwise_map]
   refine (List.nodup_range.filter _).imp_of_mem fun {x y} hx hy hne e=>hne ?_
   obtain ⟨hx1,hx2⟩:=List.mem_filter.1 hx
   obtain ⟨hy1,hy2⟩:=List.mem_filter.1 hy
   have hx2:=of_decide_eq_true hx2
   have hy2:=of_decide_eq_true hy2
   rw [List.mem_cons,not_or] at hx2 hy2
   have:=eE_inj (Ne.symm hx2.1) (Ne.symm hy2.1) ha (List.mem_range.1 hx1) ha (List.mem_range.1 hy1) e
   omega
  ·intro x hx y hy e
   subst e
   obtain ⟨o,ho,rfl⟩:=List.mem_map.1 hx
   obtain ⟨h1,h2⟩:=List.mem_filter.1 ho
   have h2:=of_decide_eq_true h2
   rw [List.mem_cons,not_or] at h2
   obtain ⟨b,hb,p,hp,hpb,e⟩:=edL_mem hy hl
   rcases eE_inj (Ne.symm h2.1) (Ne.symm hpb) ha (List.mem_range.1 h1) (hl b hb) hp e with ⟨rfl,_⟩ | ⟨_,rfl⟩
   ·exact h.1 hb
   ·exact h2.2 hb
theorem ev_many {xs m m':List GF} {E:List Nat} (hx:xs.Nodup) (hE:E.Nodup) (hb:∀ e ∈ E,e < xs.length) (hm:m.length=m'.length) (hl:m.length≤E.length) (h:∀ e ∈ E,ev m (xs.getD e 0)=ev m' (xs.getD e 0)):m=m':=by
 have hX:(E.map fun e=>xs.getD e 0).Nodup:=List.pairwise_map.2 (hE.imp_of_mem fun {a b} ha hb' hne e=>hne (getD_inj hx (hb a ha) (hb b hb') e))
 exact ev_inj hX hm (by rw [List.length_map];exact hl) fun x hx=>by
  obtain ⟨e,he,rfl⟩:=List.mem_map.1 hx
  exact h e he
theorem TrTell.one {n k:Nat} {xs:List GF} {l:List Sy} {o o':Option (List GF)} (hx:xs.Nodup) (hxl:xs.length=eN n) (hg:GoodP n (Sy.nodes l)) (hk:k≤l.length) (h:TrTell n (trB n k) xs l o) (h':TrTell n (trB n k) xs l o'):o=o':=by
 cases o with
 | none=>cases o' with
  | none=>rfl
  | some m'=>exact absurd h'.2 (h m' h'.1)
 | some m=>cases o' with
  | none=>exact absurd h.2 (h' m h.1)
  | some m' =>
   have hn:=nodes_nat hg
   have hb:∀ e ∈ edL n (l.map fun s=>s.node.toNat),e < xs.length:=fun e he=>by
    obtain ⟨a,ha,p,hp,hne,rfl⟩:=edL_mem he hn.2
    rw [hxl]
    exact eE_lt (Ne.symm hne) (hn.2 a ha) hp
   have hl:m.length≤(edL n (l.map fun s=>s.node.toNat)).length:=by
    rw [h.1,edL_len hn.1 hn.2,List.length_map]
    exact tri_mono hk
   rw [ev_many hx (edL_nodup hn.1 hn.2) hb (h.1.trans h'.1.symm) hl fun e he=>?_]
   obtain ⟨a,ha,p,hp,hne,rfl⟩:=edL_mem he hn.2
   obtain ⟨s,hs,rfl⟩:=List.mem_map.1 ha
   have e1:=(h.2 s hs).symm.trans (h'.2 s hs)
   have:=rowF_inj (f:=fun p=>ev m (xs.getD (eE n s.node.toNat (othN s.node.toNat p)) 0)) e1 (plc_lt hne hp (hn.2 _ ha))
   simpa only [oth_plc hne] using this
end Go.Proofs.YtnjbkfeihbcalaaGreat
/- Codes of groups: the plain laws of their points. -/
namespace Go.Proofs.YtnjbkfeihbcalaaGreat
open Go.RowKit Fld
set_option linter.unusedVariables false
set_option linter.unusedSimpArgs false

def cosF (r i:Nat):GF:=GF.pown GF.two (i / (r+1)+i % (r+1) * (255 / (r+1)))
theorem cosL_eq (r g:Nat):cosL r g=rowF (cosF r) (g * (r+1)):=by
 induction g with
 | zero=>simp [cosL,rowF]
 | succ g ih =>
  rw [cosL_succ,ih,Nat.add_mul,Nat.one_mul]
  unfold rowF
  have er:List.range (g * (r+1)+(r+1))=List.range (g * (r+1)) ++ (List.range (r+1)).map (g * (r+1)+·):=List.range_add ..
  rw [er,List.map_append,List.map_map]
  refine congrArg _ (List.map_congr_left fun e he=>?_)
  have he:=List.mem_range.1 he
  have h1:(g * (r+1)+e) / (r+1)=g:=by
   rw [Nat.mul_comm,Nat.mul_add_div (by omega),Nat.div_eq_of_lt he];omega
  have h2:(g * (r+1)+e) % (r+1)=e:=by
   rw [Nat.mul_comm,Nat.mul_add_mod,Nat.mod_eq_of_lt he]
  show gPow g (255 / (r+1)) e=cosF r (g * (r+1)+e)
  unfold gPow cosF
  rw [h1,h2]
theorem cosF_inj {r g i j:Nat} (h:255 % (r+1)=0) (hg:g≤255 / (r+1)) (hi:i < g * (r+1)) (hj:j < g * (r+1)) (e:cosF r i=cosF r j):i=j:=by
 have h255:(r+1) * (255 / (r+1))=255:=Nat.mul_div_cancel' (Nat.dvd_of_mod_eq_zero h)
 generalize hS:255 / (r+1)=S at *
 have hdiv:∀ i,i < g * (r+1)→i / (r+1) < S:=fun i hi=>Nat.lt_of_lt_of_le (Nat.div_lt_of_lt_mul (by rw [Nat.mul_comm];exact hi)) hg
 have hlt:∀ i,i < g * (r+1)→i / (r+1)+i % (r+1) * S < 255:=fun i hi=>by
  have h1:=hdiv i hi
  have h2:i % (r+1) < r+1:=Nat.mod_lt _ (by omega)
  have h3:=Nat.mul_le_mul_right S (show i % (r+1)+1≤r+1 from h2)
  rw [Nat.add_mul,Nat.one_mul] at h3
  omega
 have he:=GF.log_inj (by rw [hS];exact hlt i hi) (by rw [hS];exact hlt j hj) e
 rw [hS] at he
 have hS0:0 < S:=Nat.lt_of_le_of_lt (Nat.zero_le _) (hdiv i hi)
 have e1:i / (r+1)=j / (r+1):=by
  have:=congrArg (· % S) he
  simp only [Nat.add_mul_mod_self_right] at this
  rwa [Nat.mod_eq_of_lt (hdiv i hi),Nat.mod_eq_of_lt (hdiv j hj)] at this
 have e2:i % (r+1)=j % (r+1):=by
  rw [e1] at he
  exact Nat.eq_of_mul_eq_mul_right hS0 (by omega)
 rw [← Nat.div_add_mod i (r+1),← Nat.div_add_mod j (r+1),e1,e2]
theorem cosL_nodup {r g:Nat} (h:255 % (r+1)=0) (hg:g≤255 / (r+1)):(cosL r g).Nodup:=by
 rw [cosL_eq]
 refine List.pairwise_map.2 (List.nodup_range.imp_of_mem fun {a c} ha hc hne e=>hne ?_)
 exact cosF_inj h hg (List.mem_range.1 ha) (List.mem_range.1 hc) e
structure LOkN (N K R:Nat):Prop where
 r1:1≤R∧R≤254
 n1:1≤N∧N≤255
 nr:N % (R+1)=0
 k1:1≤K∧K≤255
 kr:K % R=0
 dv:255 % (R+1)=0
 le:K+K / R - 1≤N
def LOk (n k r:Int):Prop:=∃ N K R:Nat,n=(N:Int)∧k=(K:Int)∧r=(R:Int)∧LOkN N K R
theorem LOk.nat {N K R:Nat} (h:LOk N K R):LOkN N K R:=by
 obtain ⟨N',K',R',h1,h2,h3,h4⟩:=h
 obtain rfl:N=N':=by omega
 obtain rfl:K=K':=by omega
 obtain rfl:R=R':=by omega
 exact h4
theorem LOkN.len {N K R:Nat} (h:LOkN N K R):(cosL R (N / (R+1))).length=N:=by
 rw [cosL_len,Nat.div_mul_cancel (Nat.dvd_of_mod_eq_zero h.nr)]
theorem LOkN.grp {N K R:Nat} (h:LOkN N K R):N / (R+1)≤255 / (R+1):=Nat.div_le_div_right h.n1.2
theorem LOkN.nodup {N K R:Nat} (h:LOkN N K R):(cosL R (N / (R+1))).Nodup:=cosL_nodup h.dv h.grp
theorem LOkN.tells {N K R:Nat} (h:LOkN N K R):1≤K+K / R - 1∧K+K / R=(K / R) * (R+1)∧1≤K / R:=by
 have h1:=Nat.div_add_mod K R
 rw [h.kr] at h1
 have h2:1≤K / R:=Nat.div_pos (Nat.le_of_dvd h.k1.1 (Nat.dvd_of_mod_eq_zero h.kr)) h.r1.1
 have h3:K / R * (R+1)=R * (K / R)+K / R:=by rw [Nat.mul_add,Nat.mul_one,Nat.mul_comm]
 have:=h.k1
 omega
def grpF (r i k:Nat):Nat:=i - i % (r+1)+k+if i % (r+1)≤k then 1 else 0
end Go.Proofs.YtnjbkfeihbcalaaGreat
