/-
  How many numbers stand ahead of a row of the upper half of a square: plain laws.
  Rows added; words apart: the plain laws.
  Shares that nodes store, rows of bytes each: whose are wrong, what they tell: the plain laws.
  The matrix of a message; what nodes store: the plain laws of codes that are repaired by just what they store.
  A product and a symmetric matrix, half made: the plain laws.
  What shares tell of a message's matrix, column by column: the plain laws.
-/
import Derived.Test.YtcclhhjcejmepaaGreatZBase
import Derived.Test.YtcclhhjcejmepaaGreatZKit
import Derived.Test.YtcclhhjcejmepaaGreatZPlains
import Derived.Test.YtcclhhjcejmepaaGreatZWeRefs
import Derived.Test.YtcclhhjcejmepaaGreatZSyG
import Derived.Test.YtcclhhjcejmepaaGreatZToldG
import Derived.Test.YtcclhhjcejmepaaGreatZLins
import Derived.Test.YtcclhhjcejmepaaGreatZR05a
/- How many numbers stand ahead of a row of the upper half of a square: plain laws. -/
namespace Go.Proofs.YtcclhhjcejmepaaGreat
set_option linter.unusedVariables false
set_option linter.unusedSimpArgs false

def tri (K:Nat):Nat→Nat
 | 0=>0
 | i+1=>tri K i+(K - i)
theorem tri_succ (K i:Nat):tri K (i+1)=tri K i+(K - i):=rfl
theorem tri_two {K:Nat}:∀ {i:Nat},i≤K→2 * tri K i+i * i=i * (2 * K+1)
 | 0,_=>by simp [tri]
 | i+1,h=>by
  have ih:=tri_two (K:=K) (i:=i) (by omega)
  rw [tri_succ]
  obtain ⟨e,rfl⟩:∃ e,K=i+1+e:=⟨K - (i+1),by omega⟩
  have h1:i+1+e - i=1+e:=by omega
  rw [h1]
  simp only [Nat.mul_add,Nat.add_mul,Nat.mul_one,Nat.one_mul] at ih ⊢
  omega
theorem tri_full (K:Nat):tri K K=K * (K+1) / 2:=by
 have h:=tri_two (Nat.le_refl K)
 have:2 * tri K K=K * (K+1):=by
  have e:K * (2 * K+1)=K * (K+1)+K * K:=by rw [← Nat.mul_add];congr 1;omega
  omega
 omega
theorem tri_mono {K i j:Nat} (h:i≤j):tri K i≤tri K j:=by
 induction j with
 | zero =>
  obtain rfl:i=0:=by omega
  exact Nat.le_refl _
 | succ j ih =>
  rw [tri_succ]
  rcases Nat.lt_or_ge j i with h1 | h1
  ·obtain rfl:i=j+1:=by omega
   rw [tri_succ]
   exact Nat.le_refl _
  ·have:=ih h1
   omega
theorem tri_find {K p:Nat}:∀ {n:Nat},p < tri K n→∃ i,i < n∧∃ e,e < K - i∧p=tri K i+e
 | 0,h=>by simp [tri] at h
 | n+1,h=>by
  rw [tri_succ] at h
  rcases Nat.lt_or_ge p (tri K n) with h1 | h1
  ·obtain ⟨i,hi,e⟩:=tri_find h1
   exact ⟨i,by omega,e⟩
  ·exact ⟨n,by omega,p - tri K n,by omega,by omega⟩
end Go.Proofs.YtcclhhjcejmepaaGreat
/- Rows added; words apart: the plain laws. -/
namespace Go.Proofs.YtcclhhjcejmepaaGreat
open Go.RowKit Fld
set_option linter.unusedVariables false
set_option linter.unusedSimpArgs false

end Go.Proofs.YtcclhhjcejmepaaGreat
/- Shares that nodes store, rows of bytes each: whose are wrong, what they tell: the plain laws. -/
namespace Go.Proofs.YtcclhhjcejmepaaGreat
open Go.RowKit Fld
set_option linter.unusedVariables false
set_option linter.unusedSimpArgs false

theorem rowF_inj {f g:Nat→GF} {n i:Nat} (h:rowF f n=rowF g n) (hi:i < n):f i=g i:=by
 have:=congrArg (·.getD i 0) h
 simp only [rowF_get _ hi] at this
 exact this
def badS (f:Nat→List GF) (s:Sy):Bool:=decide (s.d ≠ f s.node.toNat)
def wrD (f:Nat→List GF) (l:List Sy):List Int:=riseI (Sy.nodes (l.filter (badS f)))
theorem wrD_len (f:Nat→List GF) (l:List Sy):(wrD f l).length=(l.filter (badS f)).length:=by rw [wrD,riseI_len,Sy.nodes,List.length_map]
theorem wrD_le (f:Nat→List GF) (l:List Sy):(wrD f l).length≤l.length:=by rw [wrD_len];exact List.length_filter_le _ _
theorem wrD_mem {f:Nat→List GF} {l:List Sy} {x:Int}:x ∈ wrD f l↔∃ s ∈ l,s.node=x∧s.d ≠ f s.node.toNat:=by
 rw [wrD,riseI_mem]
 unfold Sy.nodes
 rw [List.mem_map]
 constructor
 ·rintro ⟨s,hs,e⟩
  obtain ⟨h1,h2⟩:=List.mem_filter.1 hs
  exact ⟨s,h1,e,of_decide_eq_true h2⟩
 ·rintro ⟨s,hs,e,h⟩
  exact ⟨s,List.mem_filter.2 ⟨hs,decide_eq_true h⟩,e⟩
theorem wrD_lt {f:Nat→List GF} {l:List Sy} (h:(Sy.nodes l).Nodup):(wrD f l).Pairwise (· < ·):=riseI_lt (h.sublist (List.Sublist.map _ List.filter_sublist))
theorem filter_two {α:Type} (p q:α→Bool):∀ l:List α,l.length≤(l.filter fun s=>!p s && !q s).length+(l.filter p).length+(l.filter q).length
 | []=>by simp
 | s :: l=>by
  have ih:=filter_two p q l
  cases hp:p s <;> cases hq:q s <;> simp [List.filter_cons,hp,hq] <;> omega
section
variable {α:Type} {ok:α→Prop} {f:α→Nat→List GF} {l:List Sy} {t N k:Nat}
def TellD (ok:α→Prop) (f:α→Nat→List GF) (l:List Sy) (t:Nat):Option α→Prop
 | some m=>ok m∧(wrD (f m) l).length≤t
 | none=>∀ m,ok m→¬ (wrD (f m) l).length≤t
def InjD (ok:α→Prop) (f:α→Nat→List GF) (N k:Nat):Prop:=∀ m m',ok m→ok m'→∀ ns:List Nat,ns.Nodup→(∀ i ∈ ns,i < N)→k≤ns.length→(∀ i ∈ ns,f m i=f m' i)→m=m'
theorem nodes_nat {l:List Sy} (hg:GoodP N (Sy.nodes l)):(l.map fun s=>s.node.toNat).Nodup∧∀ i ∈ l.map (fun s=>s.node.toNat),i < N:=by
 constructor
 ·have h:=hg.2
  unfold Sy.nodes at h
  rw [List.nodup_iff_pairwise_ne,List.pairwise_map] at h ⊢
  refine h.imp_of_mem fun {a b} ha hb hne e=>hne ?_
  have h1:=hg.1 a.node (List.mem_map.2 ⟨a,ha,rfl⟩)
  have h2:=hg.1 b.node (List.mem_map.2 ⟨b,hb,rfl⟩)
  omega
 ·intro i hi
  obtain ⟨s,hs,rfl⟩:=List.mem_map.1 hi
  have:=hg.1 s.node (List.mem_map.2 ⟨s,hs,rfl⟩)
  omega
theorem GoodP.filter {N:Nat} {l:List Sy} (hg:GoodP N (Sy.nodes l)) (p:Sy→Bool):GoodP N (Sy.nodes (l.filter p)) :=
 ⟨fun x hx=>hg.1 x ((List.Sublist.map _ List.filter_sublist).mem hx),hg.2.sublist (List.Sublist.map _ List.filter_sublist)⟩
theorem TellD.one {o o':Option α} (hi:InjD ok f N k) (hg:GoodP N (Sy.nodes l)) (hk:k+2 * t≤l.length) (h:TellD ok f l t o) (h':TellD ok f l t o'):o=o':=by
 cases o with
 | none=>cases o' with
  | none=>rfl
  | some m'=>exact absurd h'.2 (h m' h'.1)
 | some m=>cases o' with
  | none=>exact absurd h.2 (h' m h.1)
  | some m' =>
   have h2:=filter_two (badS (f m)) (badS (f m')) l
   have h3:=h.2
   have h4:=h'.2
   rw [wrD_len] at h3 h4
   have hn:=nodes_nat (hg.filter fun s=>!badS (f m) s && !badS (f m') s)
   rw [hi m m' h.1 h'.1 _ hn.1 hn.2 (by rw [List.length_map];omega) fun i hi'=>?_]
   obtain ⟨s,hs,rfl⟩:=List.mem_map.1 hi'
   have hb:=(List.mem_filter.1 hs).2
   simp only [badS,Bool.and_eq_true,Bool.not_eq_true',decide_eq_false_iff_not,ne_eq,Decidable.not_not] at hb
   rw [← hb.1,hb.2]
theorem right_risD {g:Nat→List GF} (h:(l.filter (badS g)).length≤t) (hk:k+t≤l.length):∃ r,Ris k l.length r∧∀ j,j < k→∀ s,l[r j]? = some s→s.d=g s.node.toNat:=by
 have h2:=two_parts (fun i=>match l[i]? with | some s=>badS g s | none=>false) (List.range l.length)
 have h3:((List.range l.length).filter fun i=>match l[i]? with | some s=>badS g s | none=>false).length=(l.filter (badS g)).length:=by
  have e:l.filter (badS g)=(((List.range l.length).filter fun i=>match l[i]? with | some s=>badS g s | none=>false).map fun i=>l.getD i default):=by
   have hl:l=(List.range l.length).map fun i=>l.getD i default:=by
    refine List.ext_getElem (by simp) fun i h1 h2=>?_
    simp [List.getD_eq_getElem?_getD,List.getElem?_eq_getElem h1]
   conv=>lhs;rw [hl]
   rw [List.filter_map]
   congr 1
   refine List.filter_congr fun i hi=>?_
   have hi:=List.mem_range.1 hi
   simp [List.getD_eq_getElem?_getD,List.getElem?_eq_getElem hi]
  rw [e,List.length_map]
 rw [List.length_range] at h2
 obtain ⟨r,hr,hf⟩:=ris_of_list (n:=l.length) (k:=k) (ls:=(List.range l.length).filter fun i=>!(match l[i]? with | some s=>badS g s | none=>false)) (List.pairwise_lt_range.filter _) (fun i hi=>List.mem_range.1 (List.mem_filter.1 hi).1) (by omega)
 refine ⟨r,hr,fun j hj s hs=>?_⟩
 have:=(List.mem_filter.1 (hf j hj)).2
 rw [hs] at this
 simp only [Bool.not_eq_true'] at this
 have h5:=of_decide_eq_false this
 exact Decidable.not_not.1 h5
def FailD (ok:α→Prop) (f:α→Nat→List GF) (l:List Sy) (k t:Nat) (r:Nat→Nat):Prop:=∀ m,ok m→(∀ j,j < k→∀ s,l[r j]? = some s→s.d=f m s.node.toNat)→¬ (wrD (f m) l).length≤t
theorem all_failD (hk:k+t≤l.length) (h:∀ r,Ris k l.length r→FailD ok f l k t r):TellD ok f l t none:=fun m hm hw=>by
 have h2:=hw
 rw [wrD_len] at h2
 obtain ⟨r,hr,hf⟩:=right_risD h2 hk
 exact h r hr m hm hf hw
theorem FailD.congr {r r':Nat→Nat} (h:∀ j,j < k→r j=r' j) (hf:FailD ok f l k t r'):FailD ok f l k t r:=fun m hm hr=>hf m hm fun j hj s hs=>hr j hj s (by rw [h j hj];exact hs)
theorem failD_one {r:Nat→Nat} {m:α} (hi:InjD ok f N k) (hg:GoodP N (Sy.nodes l)) (h:Ris k l.length r) (hm:ok m) (hr:∀ j,j < k→∀ s,l[r j]? = some s→s.d=f m s.node.toNat) (hw:¬ (wrD (f m) l).length≤t):FailD ok f l k t r:=fun m' hm' hr'=>by
 have hs:∀ j,j < k→∃ s,l[r j]? = some s:=fun j hj=>⟨_,List.getElem?_eq_getElem (h.1 j hj)⟩
 have e:m'=m:=by
  refine hi m' m hm' hm ((List.range k).map fun j=>((Sy.nodes l).getD (r j) 0).toNat) ?_ ?_ (by simp) fun i hi=>?_
  ·refine List.pairwise_map.2 (List.nodup_range.imp_of_mem fun {a b} ha hb hne e=>hne ?_)
   have ha:=List.mem_range.1 ha
   have hb:=List.mem_range.1 hb
   have hla:r a < (Sy.nodes l).length:=by simpa [Sy.nodes] using h.1 a ha
   have hlb:r b < (Sy.nodes l).length:=by simpa [Sy.nodes] using h.1 b hb
   have g1:=hg.1 ((Sy.nodes l).getD (r a) 0) (by rw [List.getD_eq_getElem?_getD,List.getElem?_eq_getElem hla];exact List.getElem_mem _)
   have g2:=hg.1 ((Sy.nodes l).getD (r b) 0) (by rw [List.getD_eq_getElem?_getD,List.getElem?_eq_getElem hlb];exact List.getElem_mem _)
   exact ris_inj h ha hb (getI_inj hg.2 hla hlb (by omega))
  ·intro i hi
   obtain ⟨j,hj,rfl⟩:=List.mem_map.1 hi
   have hj:=List.mem_range.1 hj
   have hla:r j < (Sy.nodes l).length:=by simpa [Sy.nodes] using h.1 j hj
   have g1:=hg.1 ((Sy.nodes l).getD (r j) 0) (by rw [List.getD_eq_getElem?_getD,List.getElem?_eq_getElem hla];exact List.getElem_mem _)
   omega
  ·obtain ⟨j,hj,rfl⟩:=List.mem_map.1 hi
   have hj:=List.mem_range.1 hj
   obtain ⟨s,hsj⟩:=hs j hj
   have hn:(Sy.nodes l).getD (r j) 0=s.node:=by rw [Sy.nodes,List.getD_eq_getElem?_getD,List.getElem?_map,hsj];rfl
   rw [hn,← hr j hj s hsj,← hr' j hj s hsj]
 rw [e]
 exact hw
end
end Go.Proofs.YtcclhhjcejmepaaGreat
/- The matrix of a message; what nodes store: the plain laws of codes that are repaired by just what they store. -/
namespace Go.Proofs.YtcclhhjcejmepaaGreat
open Go.RowKit Fld
set_option linter.unusedVariables false
set_option linter.unusedSimpArgs false

def mbB (K D:Nat):Nat:=tri K K+K * (D - K)
theorem mbB_eq {K D:Nat} (h:K≤D):mbB K D=K * D - K * (K - 1) / 2:=by
 unfold mbB
 rw [tri_full]
 obtain ⟨e,rfl⟩:∃ e,D=K+e:=⟨D - K,by omega⟩
 rw [Nat.add_sub_cancel_left]
 cases K with
 | zero=>simp
 | succ k =>
  have h1:(k+1) * (k+1+1)=(k+1) * k+2 * (k+1):=by rw [Nat.mul_comm 2,← Nat.mul_add]
  have h2:(k+1) * (k+1)=(k+1) * k+(k+1):=by rw [Nat.mul_add,Nat.mul_one]
  have h3:(k+1) * k % 2=0:=by
   rcases Nat.mod_two_eq_zero_or_one k with h | h
   ·rw [Nat.mul_mod,h,Nat.mul_zero]
   ·rw [Nat.mul_mod,Nat.add_mod,h]
  have h4:(k+1) * (k+1+e)=(k+1) * (k+1)+(k+1) * e:=Nat.mul_add _ _ _
  rw [Nat.add_sub_cancel,h1,h4,h2]
  omega
def sI (K i k:Nat):Nat:=tri K (min i k)+(max i k - min i k)
theorem sI_comm (K i k:Nat):sI K i k=sI K k i:=by unfold sI;rw [Nat.min_comm,Nat.max_comm]
theorem sI_le {K i k:Nat} (h:i≤k):sI K i k=tri K i+(k - i):=by unfold sI;rw [Nat.min_eq_left h,Nat.max_eq_right h]
theorem sI_lt {K i k:Nat} (hi:i < K) (hk:k < K):sI K i k < tri K K:=by
 rcases Nat.le_total i k with h | h
 ·rw [sI_le h]
  have h1:=tri_mono (K:=K) (show i+1≤K by omega)
  rw [tri_succ] at h1
  omega
 ·rw [sI_comm,sI_le h]
  have h1:=tri_mono (K:=K) (show k+1≤K by omega)
  rw [tri_succ] at h1
  omega
def tI (K D i k:Nat):Nat:=tri K K+(i * (D - K)+(k - K))
theorem tI_lt {K D i k:Nat} (hi:i < K) (hk:k < D) (hk2:K≤k):tI K D i k < mbB K D:=by
 unfold tI mbB
 have:(i+1) * (D - K)≤K * (D - K):=Nat.mul_le_mul_right _ hi
 rw [Nat.add_mul,Nat.one_mul] at this
 omega
theorem sI_ltB {K D i k:Nat} (hi:i < K) (hk:k < K):sI K i k < mbB K D:=Nat.lt_of_lt_of_le (sI_lt hi hk) (by unfold mbB;omega)
noncomputable def mM (K D:Nat) (m:List GF) (i k:Nat):GF :=
 if i < K∧k < K then m.getD (sI K i k) 0 else if i < K then (if k < D then m.getD (tI K D i k) 0 else 0) else if k < K then (if i < D then m.getD (tI K D k i) 0 else 0) else 0
theorem mM_comm (K D:Nat) (m:List GF) (i k:Nat):mM K D m i k=mM K D m k i:=by
 unfold mM
 by_cases h1:i < K <;> by_cases h2:k < K <;> simp [h1,h2,sI_comm K i k]
theorem mM_ss {K D i k:Nat} (m:List GF) (hi:i < K) (hk:k < K):mM K D m i k=m.getD (sI K i k) 0:=by unfold mM;rw [if_pos ⟨hi,hk⟩]
theorem mM_st {K D i k:Nat} (m:List GF) (hi:i < K) (hk:K≤k) (hd:k < D):mM K D m i k=m.getD (tI K D i k) 0:=by unfold mM;rw [if_neg (by omega),if_pos hi,if_pos hd]
theorem mM_tt {K D i k:Nat} (m:List GF) (hi:K≤i) (hk:K≤k):mM K D m i k=0:=by unfold mM;rw [if_neg (by omega),if_neg (by omega),if_neg (by omega)]
theorem mM_inj {K D:Nat} {m m':List GF} (hm:m.length=mbB K D) (hm':m'.length=mbB K D) (h:∀ i k,i < K→k < D→mM K D m i k=mM K D m' i k) (hKD:K≤D):m=m':=by
 refine List.ext_getElem (by rw [hm,hm']) fun p h1 h2=>?_
 have e1:m[p]=m.getD p 0:=by rw [List.getD_eq_getElem?_getD,List.getElem?_eq_getElem h1];rfl
 have e2:m'[p]=m'.getD p 0:=by rw [List.getD_eq_getElem?_getD,List.getElem?_eq_getElem h2];rfl
 rw [e1,e2]
 rw [hm] at h1
 unfold mbB at h1
 rcases Nat.lt_or_ge p (tri K K) with hp | hp
 ·obtain ⟨i,hi,e,he,rfl⟩:=tri_find hp
  have:=h i (i+e) hi (by omega)
  rwa [mM_ss _ hi (by omega),mM_ss _ hi (by omega),sI_le (by omega),Nat.add_sub_cancel_left] at this
 ·obtain ⟨q,rfl⟩:∃ q,p=tri K K+q:=⟨p - tri K K,by omega⟩
  have hd:0 < D - K:=by
   rcases Nat.eq_zero_or_pos (D - K) with e | e
   ·rw [e,Nat.mul_zero] at h1;omega
   ·exact e
  have hq:q < K * (D - K):=by omega
  have hi:q / (D - K) < K:=Nat.div_lt_of_lt_mul (by rw [Nat.mul_comm];exact hq)
  have hk:=Nat.mod_lt q hd
  have hdm:=Nat.div_add_mod q (D - K)
  have:=h (q / (D - K)) (K+q % (D - K)) hi (by omega)
  rwa [mM_st _ hi (by omega) (by omega),mM_st _ hi (by omega) (by omega),show tI K D (q / (D - K)) (K+q % (D - K))=tri K K+q by
   unfold tI
   rw [Nat.add_sub_cancel_left,Nat.mul_comm]
   omega] at this
noncomputable def mSh (K D:Nat) (m:List GF) (x:GF) (c:Nat):GF:=ev (rowF (fun a=>mM K D m a c) D) x
noncomputable def mShare (K D:Nat) (m:List GF) (x:GF):List GF:=rowF (mSh K D m x) D
theorem mShare_len (K D:Nat) (m:List GF) (x:GF):(mShare K D m x).length=D:=rowF_len _ _
theorem ev_split {f:Nat→GF} {n k:Nat} (x:GF):ev (rowF f (k+n)) x=ev (rowF f k) x+sm n fun i=>f (k+i) * pw x (k+i):=by
 rw [ev_sm,ev_sm,rowF_len,rowF_len,sm_split]
 congr 1
 ·exact sm_congr fun i hi=>by rw [rowF_get _ hi,rowF_get _ (by omega)]
 ·exact sm_congr fun i hi=>by rw [rowF_get _ (by omega)]
theorem mSh_outer {K D c:Nat} (m:List GF) (x:GF) (hKD:K≤D) (hc:K≤c):mSh K D m x c=ev (rowF (fun a=>mM K D m a c) K) x:=by
 obtain ⟨e,rfl⟩:∃ e,D=K+e:=⟨D - K,by omega⟩
 unfold mSh
 rw [ev_split,sm_0 (fun i _=>by rw [mM_tt _ (by omega) hc,zmul]),addz]
noncomputable def mRest (K D:Nat) (m:List GF) (x:GF) (c:Nat):GF:=sm (D - K) fun i=>mM K D m c (K+i) * pw x (K+i)
theorem mSh_inner {K D c:Nat} (m:List GF) (x:GF) (hKD:K≤D):mSh K D m x c=ev (rowF (fun a=>mM K D m a c) K) x+mRest K D m x c:=by
 obtain ⟨e,rfl⟩:∃ e,D=K+e:=⟨D - K,by omega⟩
 unfold mSh mRest
 rw [ev_split,Nat.add_sub_cancel_left]
 congr 1
 exact sm_congr fun i _=>by rw [mM_comm]
theorem mb_inj {K D N:Nat} {xs:List GF} (hKD:K≤D) (hx:xs.Nodup) (hxl:xs.length=N):InjD (fun m=>m.length=mbB K D) (fun m i=>mShare K D m (xs.getD i 0)) N K:=fun m m' hm hm' ns hn hb hk h=>by
 have hX:(ns.map fun i=>xs.getD i 0).Nodup:=List.pairwise_map.2 (hn.imp_of_mem fun {a b} ha hb' hne e=>hne (getD_inj hx (by rw [hxl];exact hb a ha) (by rw [hxl];exact hb b hb') e))
 have hsh:∀ c,c < D→∀ y ∈ ns.map (fun i=>xs.getD i 0),mSh K D m y c=mSh K D m' y c:=fun c hc y hy=>by
  obtain ⟨i,hi,rfl⟩:=List.mem_map.1 hy
  exact rowF_inj (h i hi) hc
 have hout:∀ c,K≤c→c < D→∀ a,a < K→mM K D m a c=mM K D m' a c:=fun c hc hcd a ha=>by
  have:=ev_inj hX (p:=rowF (fun a=>mM K D m a c) K) (q:=rowF (fun a=>mM K D m' a c) K) (by rw [rowF_len,rowF_len]) (by rw [rowF_len,List.length_map];exact hk) fun y hy=>by
   rw [← mSh_outer m y hKD hc,← mSh_outer m' y hKD hc]
   exact hsh c hcd y hy
  exact rowF_inj (f:=fun a=>mM K D m a c) (g:=fun a=>mM K D m' a c) this ha
 have hin:∀ c,c < K→∀ a,a < K→mM K D m a c=mM K D m' a c:=fun c hc a ha=>by
  have:=ev_inj hX (p:=rowF (fun a=>mM K D m a c) K) (q:=rowF (fun a=>mM K D m' a c) K) (by rw [rowF_len,rowF_len]) (by rw [rowF_len,List.length_map];exact hk) fun y hy=>by
   have h1:=hsh c (by omega) y hy
   rw [mSh_inner m y hKD,mSh_inner m' y hKD] at h1
   have h2:mRest K D m y c=mRest K D m' y c:=sm_congr fun i hi=>by rw [hout (K+i) (by omega) (by omega) c hc]
   rw [h2,addC,addC _ (mRest K D m' y c)] at h1
   exact add_cancel h1
  exact rowF_inj (f:=fun a=>mM K D m a c) (g:=fun a=>mM K D m' a c) this ha
 refine mM_inj hm hm' (fun i k hi hk=>?_) hKD
 rcases Nat.lt_or_ge k K with h1 | h1
 ·exact hin k h1 i hi
 ·exact hout k h1 hk i hi
end Go.Proofs.YtcclhhjcejmepaaGreat
/- A product and a symmetric matrix, half made: the plain laws. -/
namespace Go.Proofs.YtcclhhjcejmepaaGreat
open Go.RowKit Fld
set_option linter.unusedVariables false
set_option linter.unusedSimpArgs false

noncomputable def mulR (N:Nat) (A B:Nat→Nat→GF) (I J:Nat):Nat→Nat→GF:=fun r c=>if r < I then mulF N A B r c else if r=I then sm J fun j=>A r j * B j c else 0
theorem mulR_zero {N:Nat} {A B:Nat→Nat→GF} (r c:Nat):mulR N A B 0 0 r c=0:=by
 unfold mulR
 rw [if_neg (Nat.not_lt_zero _)]
 split <;> rfl
theorem mulR_next {N I:Nat} {A B:Nat→Nat→GF} (r c:Nat):mulR N A B I N r c=mulR N A B (I+1) 0 r c:=by
 unfold mulR
 by_cases h:r < I
 ·rw [if_pos h,if_pos (by omega)]
 ·rw [if_neg h]
  by_cases h2:r=I
  ·rw [if_pos h2,if_pos (by omega)];rfl
  ·rw [if_neg h2,if_neg (by omega)]
   split <;> rfl
theorem mulR_step {R N C I J:Nat} {A B:Nat→Nat→GF} (hC:0 < C) {j:Nat} (hj:j < R * C):addTo (I * C) C (B J) (A I J) (flat C (mulR N A B I J)) j=flat C (mulR N A B I (J+1)) j:=by
 obtain ⟨r,c,hr,hc,rfl⟩:=off_ex (R:=R) hC hj
 unfold addTo
 rw [flat_at hC _ _ _ hc,flat_at hC _ _ _ hc]
 by_cases h:r=I
 ·subst h
  rw [if_pos ⟨by omega,by omega⟩,Nat.add_sub_cancel_left]
  unfold mulR
  rw [if_neg (Nat.lt_irrefl _),if_pos rfl,if_neg (Nat.lt_irrefl _),if_pos rfl,sm_succ,Fld.mulC (B J c)]
 ·rw [if_neg (fun h2=>h ((off_in hc).1 h2))]
  unfold mulR
  split
  ·rfl
  ·simp only [if_neg h]
theorem mulR_all {N R:Nat} {A B:Nat→Nat→GF} (r c:Nat) (hr:r < R):mulR N A B R 0 r c=mulF N A B r c:=by unfold mulR;rw [if_pos hr]

noncomputable def symF (n:Nat) (b:List GF) (I K:Nat):Nat→Nat→GF:=fun r c=>if min r c < I ∨ min r c=I∧max r c < K then b.getD (sI n r c) 0 else 0
theorem symF_zero {n:Nat} {b:List GF} (r c:Nat):symF n b 0 0 r c=0:=by unfold symF;rw [if_neg (by omega)]
theorem symF_row {n I:Nat} {b:List GF} (r c:Nat):symF n b I I r c=symF n b I 0 r c:=by
 unfold symF
 by_cases h:min r c < I ∨ min r c=I∧max r c < I
 ·rw [if_pos h,if_pos (by omega)]
 ·rw [if_neg h,if_neg (by omega)]
theorem symF_next {n I:Nat} {b:List GF} (r c:Nat) (hr:r < n) (hc:c < n):symF n b I n r c=symF n b (I+1) 0 r c:=by
 unfold symF
 by_cases h:min r c < I ∨ min r c=I∧max r c < n
 ·rw [if_pos h,if_pos (by omega)]
 ·rw [if_neg h,if_neg (by omega)]
theorem symF_step {n I k:Nat} {b:List GF} (hI:I < n) (hk:k < n) (hIk:I≤k) {j:Nat} (hj:j < n * n) :
  (if j=k * n+I then b.getD (sI n I k) 0 else if j=I * n+k then b.getD (sI n I k) 0 else flat n (symF n b I k) j)=flat n (symF n b I (k+1)) j:=by
 obtain ⟨r,c,hr,hc,rfl⟩:=off_ex (R:=n) (by omega) hj
 rw [flat_at (by omega) _ _ _ hc,flat_at (by omega) _ _ _ hc]
 by_cases h1:r * n+c=k * n+I
 ·obtain ⟨rfl,rfl⟩:=off_eq hc hI h1
  rw [if_pos rfl]
  unfold symF
  rw [if_pos (by omega),sI_comm]
 ·rw [if_neg h1]
  by_cases h2:r * n+c=I * n+k
  ·obtain ⟨rfl,rfl⟩:=off_eq hc hk h2
   rw [if_pos rfl]
   unfold symF
   rw [if_pos (by omega)]
  ·rw [if_neg h2]
   unfold symF
   have e1:¬ (r=k∧c=I):=fun h=>h1 (by rw [h.1,h.2])
   have e2:¬ (r=I∧c=k):=fun h=>h2 (by rw [h.1,h.2])
   by_cases h:min r c < I ∨ min r c=I∧max r c < k
   ·rw [if_pos h,if_pos (by omega)]
   ·rw [if_neg h,if_neg (by omega)]
theorem symF_all {n:Nat} {b:List GF} (r c:Nat) (hr:r < n) (hc:c < n):symF n b n 0 r c=b.getD (sI n r c) 0:=by unfold symF;rw [if_pos (by omega)]

noncomputable def mofF (K D:Nat) (m:List GF) (I k:Nat):Nat→Nat→GF:=fun r c=>if r < I ∨ c < I ∨ r=I∧c < k ∨ c=I∧r < k then mM K D m r c else 0
theorem mofF_zero {K D:Nat} {m:List GF} (r c:Nat):mofF K D m 0 0 r c=0:=by unfold mofF;rw [if_neg (by omega)]
theorem mofF_next {K D I:Nat} {m:List GF} (r c:Nat) (hr:r < D) (hc:c < D):mofF K D m I D r c=mofF K D m (I+1) 0 r c:=by
 unfold mofF
 by_cases h:r < I ∨ c < I ∨ r=I∧c < D ∨ c=I∧r < D
 ·rw [if_pos h,if_pos (by omega)]
 ·rw [if_neg h,if_neg (by omega)]
theorem mofF_step {K D I k:Nat} {m:List GF} (hI:I < D) (hk:k < D) {j:Nat} (hj:j < D * D) :
  (if j=k * D+I then mM K D m I k else if j=I * D+k then mM K D m I k else flat D (mofF K D m I k) j)=flat D (mofF K D m I (k+1)) j:=by
 obtain ⟨r,c,hr,hc,rfl⟩:=off_ex (R:=D) (by omega) hj
 rw [flat_at (by omega) _ _ _ hc,flat_at (by omega) _ _ _ hc]
 by_cases h1:r * D+c=k * D+I
 ·obtain ⟨rfl,rfl⟩:=off_eq hc hI h1
  rw [if_pos rfl]
  unfold mofF
  rw [if_pos (by omega),mM_comm]
 ·rw [if_neg h1]
  by_cases h2:r * D+c=I * D+k
  ·obtain ⟨rfl,rfl⟩:=off_eq hc hk h2
   rw [if_pos rfl]
   unfold mofF
   rw [if_pos (by omega)]
  ·rw [if_neg h2]
   unfold mofF
   have e1:¬ (r=k∧c=I):=fun h=>h1 (by rw [h.1,h.2])
   have e2:¬ (r=I∧c=k):=fun h=>h2 (by rw [h.1,h.2])
   by_cases h:r < I ∨ c < I ∨ r=I∧c < k ∨ c=I∧r < k
   ·rw [if_pos h,if_pos (by omega)]
   ·rw [if_neg h,if_neg (by omega)]
theorem mofF_all {K D:Nat} {m:List GF} (hKD:K≤D) (r c:Nat) (hr:r < D) (hc:c < D):mofF K D m K 0 r c=mM K D m r c:=by
 unfold mofF
 by_cases h:r < K ∨ c < K ∨ r=K∧c < 0 ∨ c=K∧r < 0
 ·rw [if_pos h]
 ·rw [if_neg h,mM_tt _ (by omega) (by omega)]
end Go.Proofs.YtcclhhjcejmepaaGreat
/- What shares tell of a message's matrix, column by column: the plain laws. -/
namespace Go.Proofs.YtcclhhjcejmepaaGreat
open Go.RowKit Fld
set_option linter.unusedVariables false
set_option linter.unusedSimpArgs false

theorem flat_tri {K:Nat} {F:Nat→List GF} (hF:∀ i,i < K→(F i).length=K - i):∀ n,n≤K→((List.range n).flatMap F).length=tri K n∧∀ i,i < n→∀ e,e < K - i→((List.range n).flatMap F).getD (tri K i+e) 0=(F i).getD e 0
 | 0,_=>⟨rfl,fun i hi=>absurd hi (Nat.not_lt_zero _)⟩
 | n+1,h=>by
  obtain ⟨h1,h2⟩:=flat_tri hF n (by omega)
  rw [List.range_succ,List.flatMap_append,List.flatMap_cons,List.flatMap_nil,List.append_nil]
  refine ⟨by rw [List.length_append,h1,hF n (by omega),tri_succ],fun i hi e he=>?_⟩
  rw [List.getD_eq_getElem?_getD]
  rcases Nat.lt_or_ge i n with h3 | h3
  ·have h4:tri K i+e < tri K n:=by
    have h5:=tri_mono (K:=K) (show i+1≤n by omega)
    rw [tri_succ] at h5
    omega
   rw [List.getElem?_append_left (by rw [h1];exact h4),← List.getD_eq_getElem?_getD]
   exact h2 i h3 e he
  ·obtain rfl:i=n:=by omega
   rw [List.getElem?_append_right (by rw [h1];omega),h1,Nat.add_sub_cancel_left,List.getD_eq_getElem?_getD]
theorem flat_rows {E:Nat} {F:Nat→List GF} (hF:∀ i,(F i).length=E):∀ n,((List.range n).flatMap F).length=n * E∧∀ i,i < n→∀ e,e < E→((List.range n).flatMap F).getD (i * E+e) 0=(F i).getD e 0
 | 0=>⟨by simp,fun i hi=>absurd hi (Nat.not_lt_zero _)⟩
 | n+1=>by
  obtain ⟨h1,h2⟩:=flat_rows hF n
  rw [List.range_succ,List.flatMap_append,List.flatMap_cons,List.flatMap_nil,List.append_nil]
  refine ⟨by rw [List.length_append,h1,hF n,Nat.add_mul,Nat.one_mul],fun i hi e he=>?_⟩
  rw [List.getD_eq_getElem?_getD]
  rcases Nat.lt_or_ge i n with h3 | h3
  ·have h4:i * E+e < n * E:=by
    have:=Nat.mul_le_mul_right E (show i+1≤n by omega)
    rw [Nat.add_mul,Nat.one_mul] at this
    omega
   rw [List.getElem?_append_left (by rw [h1];exact h4),← List.getD_eq_getElem?_getD]
   exact h2 i h3 e he
  ·obtain rfl:i=n:=by omega
   rw [List.getElem?_append_right (by rw [h1];omega),h1,Nat.add_sub_cancel_left,List.getD_eq_getElem?_getD]
noncomputable def pakM (K:Nat) (s:Nat→Nat→GF):List GF:=(List.range K).flatMap fun i=>rowF (fun e=>s i (i+e)) (K - i)
noncomputable def otrM (K D:Nat) (o:Nat→Nat→GF):List GF:=(List.range K).flatMap fun i=>rowF (fun e=>o i (K+e)) (D - K)
noncomputable def mkM (K D:Nat) (a:Nat→Nat→GF):List GF:=pakM K a ++ otrM K D a
theorem pakM_at (K:Nat) (s:Nat→Nat→GF):(pakM K s).length=tri K K∧∀ i,i < K→∀ e,e < K - i→(pakM K s).getD (tri K i+e) 0=s i (i+e):=by
 obtain ⟨h1,h2⟩:=flat_tri (K:=K) (F:=fun i=>rowF (fun e=>s i (i+e)) (K - i)) (fun i _=>rowF_len _ _) K (Nat.le_refl _)
 exact ⟨h1,fun i hi e he=>(h2 i hi e he).trans (rowF_get _ he)⟩
theorem otrM_at (K D:Nat) (o:Nat→Nat→GF):(otrM K D o).length=K * (D - K)∧∀ i,i < K→∀ e,e < D - K→(otrM K D o).getD (i * (D - K)+e) 0=o i (K+e):=by
 obtain ⟨h1,h2⟩:=flat_rows (E:=D - K) (F:=fun i=>rowF (fun e=>o i (K+e)) (D - K)) (fun i=>rowF_len _ _) K
 exact ⟨h1,fun i hi e he=>(h2 i hi e he).trans (rowF_get _ he)⟩
theorem mkM_len (K D:Nat) (a:Nat→Nat→GF):(mkM K D a).length=mbB K D:=by
 rw [mkM,List.length_append,(pakM_at K a).1,(otrM_at K D a).1]
 rfl
theorem mM_mkM {K D i k:Nat} {a:Nat→Nat→GF} (hs:∀ i k,i < K→k < K→a i k=a k i) (hi:i < K) (hk:k < D) (hKD:K≤D):mM K D (mkM K D a) i k=a i k:=by
 rcases Nat.lt_or_ge k K with h1 | h1
 ·rw [mM_ss _ hi h1]
  have key:∀ i k,i < K→k < K→i≤k→(mkM K D a).getD (sI K i k) 0=a i k:=fun i k hi hk h=>by
   have hl:=sI_lt hi hk
   have e:k - i < K - i:=by omega
   rw [mkM,List.getD_eq_getElem?_getD,List.getElem?_append_left (by rw [(pakM_at K a).1];exact hl),← List.getD_eq_getElem?_getD,sI_le h,(pakM_at K a).2 i hi _ e]
   congr 1
   omega
  rcases Nat.le_total i k with h | h
  ·exact key i k hi h1 h
  ·rw [sI_comm,key k i h1 hi h,hs k i h1 hi]
 ·rw [mM_st _ hi h1 hk,mkM,tI,List.getD_eq_getElem?_getD,List.getElem?_append_right (by rw [(pakM_at K a).1];omega),(pakM_at K a).1,Nat.add_sub_cancel_left,← List.getD_eq_getElem?_getD,(otrM_at K D a).2 i hi _ (by omega)]
  congr 1
  omega
theorem mkM_mM {K D:Nat} {m:List GF} (hm:m.length=mbB K D) (hKD:K≤D):mkM K D (mM K D m)=m :=
 mM_inj (mkM_len _ _ _) hm (fun i k hi hk=>mM_mkM (fun i k _ _=>mM_comm K D m i k) hi hk hKD) hKD
theorem mkM_congr {K D:Nat} {a b:Nat→Nat→GF} (h:∀ i k,i < K→k < D→a i k=b i k) (ha:∀ i k,i < K→k < K→a i k=a k i) (hb:∀ i k,i < K→k < K→b i k=b k i) (hKD:K≤D):mkM K D a=mkM K D b :=
 mM_inj (mkM_len _ _ _) (mkM_len _ _ _) (fun i k hi hk=>by rw [mM_mkM ha hi hk hKD,mM_mkM hb hi hk hKD];exact h i k hi hk) hKD

theorem filter_imp_mem {α:Type} {p q:α→Bool}:∀ L:List α,(∀ x ∈ L,p x=true→q x=true)→(L.filter p).length≤(L.filter q).length
 | [],_=>Nat.le_refl _
 | x :: L,h=>by
  have ih:=filter_imp_mem L fun y hy=>h y (List.mem_cons_of_mem _ hy)
  cases hp:p x
  ·cases hq:q x <;> simp [List.filter_cons,hp,hq] <;> omega
  ·have:=h x List.mem_cons_self hp
   simp [List.filter_cons,hp,this]
   exact ih
theorem wr_few {xs p:List GF} {l:List Sy} {Y:Sy→GF} {bad:Sy→Bool} (h:∀ s ∈ l,bad s=false→ev p (xs.getD s.node.toNat 0)=Y s):(wrS xs (Sy.nodes l) (l.map Y) p).length≤(l.filter bad).length:=by
 rw [wrS_len]
 have hl:l=(List.range l.length).map fun i=>l.getD i default:=by
  refine List.ext_getElem? fun i=>?_
  rw [List.getElem?_map]
  by_cases hi:i < l.length
  ·rw [List.getElem?_range hi,List.getElem?_eq_getElem hi]
   simp [List.getD_eq_getElem?_getD,hi]
  ·rw [List.getElem?_eq_none (by omega),List.getElem?_eq_none (by simp;omega)]
   rfl
 have hb:(l.filter bad).length=((List.range l.length).filter fun i=>bad (l.getD i default)).length:=by
  conv=>lhs;rw [hl]
  rw [List.filter_map,List.length_map]
  rfl
 rw [hb]
 unfold wrI
 rw [pts_len,show (Sy.nodes l).length=l.length by simp [Sy.nodes]]
 have key:∀ L:List Nat,(∀ i ∈ L,i < l.length)→(L.filter fun i=>decide (ev p ((ptsOf xs (Sy.nodes l)).getD i 0) ≠ (l.map Y).getD i 0)).length≤(L.filter fun i=>bad (l.getD i default)).length:=by
  intro L hL
  refine filter_imp_mem L fun i hi h1=>?_
  have hi:=hL i hi
  have hs:l.getD i default ∈ l:=by
   rw [List.getD_eq_getElem?_getD,List.getElem?_eq_getElem hi]
   exact List.getElem_mem hi
  have hn:(Sy.nodes l).getD i 0=(l.getD i default).node:=by simp [Sy.nodes,List.getD_eq_getElem?_getD,hi]
  have hy:(l.map Y).getD i 0=Y (l.getD i default):=by simp [List.getD_eq_getElem?_getD,hi]
  cases hbi:bad (l.getD i default)
  ·exfalso
   have h2:=of_decide_eq_true h1
   rw [pts_get xs (by simpa [Sy.nodes] using hi),hn,hy] at h2
   exact h2 (h _ hs hbi)
  ·rfl
 exact key _ fun i hi=>List.mem_range.1 hi
noncomputable def restM (K D:Nat) (o:Nat→Nat→GF) (x:GF) (c:Nat):GF:=sm (D - K) fun i=>o c (K+i) * pw x (K+i)
noncomputable def colY (K D:Nat) (xs:List GF) (o:Nat→Nat→GF) (c:Nat) (s:Sy):GF:=if c < K then s.d.getD c 0+restM K D o (xs.getD s.node.toNat 0) c else s.d.getD c 0
def ColsT (K D t:Nat) (xs:List GF) (l:List Sy) (a:Nat→Nat→GF):Prop:=∀ c,c < D→WeTells xs K (Sy.nodes l) (l.map (colY K D xs a c)) t (some (rowF (fun i=>a i c) K))
theorem colY_right {K D c:Nat} {xs m:List GF} {o:Nat→Nat→GF} {s:Sy} (hKD:K≤D) (hc:c < D) (ho:∀ i k,i < K→K≤k→k < D→o i k=mM K D m i k) (hs:s.d=mShare K D m (xs.getD s.node.toNat 0)):ev (rowF (fun a=>mM K D m a c) K) (xs.getD s.node.toNat 0)=colY K D xs o c s:=by
 have hd:s.d.getD c 0=mSh K D m (xs.getD s.node.toNat 0) c:=by rw [hs];exact rowF_get _ hc
 unfold colY
 rw [hd]
 by_cases h:c < K
 ·rw [if_pos h,mSh_inner m _ hKD]
  have:restM K D o (xs.getD s.node.toNat 0) c=mRest K D m (xs.getD s.node.toNat 0) c:=sm_congr fun i hi=>by rw [ho c (K+i) h (by omega) (by omega)]
  rw [this,addA,adds,addz]
 ·rw [if_neg h,mSh_outer m _ hKD (by omega)]
theorem cols_one {K D N t:Nat} {xs m:List GF} {l:List Sy} {a:Nat→Nat→GF} (hKD:K≤D) (hx:xs.Nodup) (hxl:xs.length=N) (hg:GoodP N (Sy.nodes l)) (hk:K+2 * t≤l.length) (hf:(l.filter (badS fun i=>mShare K D m (xs.getD i 0))).length≤t)
  {c:Nat} (hc:c < D) (ho:c < K→∀ i k,i < K→K≤k→k < D→a i k=mM K D m i k) {o:Option (List GF)} (h:WeTells xs K (Sy.nodes l) (l.map (colY K D xs a c)) t o):o=some (rowF (fun i=>mM K D m i c) K):=by
 refine weTells_one hx (by rw [hxl];exact hg) (by simpa [Sy.nodes] using hk) h ⟨rowF_len _ _,Nat.le_trans (wr_few fun s hs hb=>?_) hf⟩
 have hs':s.d=mShare K D m (xs.getD s.node.toNat 0):=by simpa [badS] using hb
 by_cases h1:c < K
 ·exact colY_right hKD hc (ho h1) hs'
 ·have hd:s.d.getD c 0=mSh K D m (xs.getD s.node.toNat 0) c:=by rw [hs'];exact rowF_get _ hc
  unfold colY
  rw [if_neg h1,hd,mSh_outer m _ hKD (by omega)]
theorem cols_all {K D N t:Nat} {xs m:List GF} {l:List Sy} {a:Nat→Nat→GF} (hKD:K≤D) (hx:xs.Nodup) (hxl:xs.length=N) (hg:GoodP N (Sy.nodes l)) (hk:K+2 * t≤l.length) (hf:(l.filter (badS fun i=>mShare K D m (xs.getD i 0))).length≤t)
  (h:ColsT K D t xs l a):∀ i k,i < K→k < D→a i k=mM K D m i k:=by
 have hout:∀ i k,i < K→K≤k→k < D→a i k=mM K D m i k:=fun i k hi hk1 hk2=>by
  have:=cols_one hKD hx hxl hg hk hf hk2 (fun h=>by omega) (h k hk2)
  exact rowF_inj (f:=fun i=>a i k) (g:=fun i=>mM K D m i k) (Option.some.inj this) hi
 intro i k hi hk1
 by_cases h1:k < K
 ·have:=cols_one hKD hx hxl hg hk hf hk1 (fun _=>hout) (h k hk1)
  exact rowF_inj (f:=fun i=>a i k) (g:=fun i=>mM K D m i k) (Option.some.inj this) hi
 ·exact hout i k hi (by omega) hk1
theorem cols_tell {K D N t:Nat} {xs:List GF} {l:List Sy} {a:Nat→Nat→GF} {o:Option (List GF)} (ho:((∀ i k,i < K→k < K→a i k=a k i)∧(l.filter (badS fun i=>mShare K D (mkM K D a) (xs.getD i 0))).length≤t)∧o=some (mkM K D a) ∨ ¬ ((∀ i k,i < K→k < K→a i k=a k i)∧(l.filter (badS fun i=>mShare K D (mkM K D a) (xs.getD i 0))).length≤t)∧o=none) (hKD:K≤D) (hx:xs.Nodup) (hxl:xs.length=N) (hg:GoodP N (Sy.nodes l)) (hk:K+2 * t≤l.length) (h:ColsT K D t xs l a) :
  TellD (fun m=>m.length=mbB K D) (fun m i=>mShare K D m (xs.getD i 0)) l t o:=by
 rcases ho with ⟨hh,rfl⟩ | ⟨hh,rfl⟩
 ·exact ⟨mkM_len _ _ _,by rw [wrD_len];exact hh.2⟩
 ·intro m hm hw
  rw [wrD_len] at hw
  have ha:=cols_all hKD hx hxl hg hk hw h
  have hsym:∀ i k,i < K→k < K→a i k=a k i:=fun i k hi hk'=>by rw [ha i k hi (by omega),ha k i hk' (by omega),mM_comm]
  have he:mkM K D a=m:=by
   rw [← mkM_mM hm hKD]
   exact mkM_congr ha hsym (fun i k _ _=>mM_comm K D m i k) hKD
  exact hh ⟨hsym,by rw [he];exact hw⟩
theorem cols_none {K D N t c:Nat} {xs:List GF} {l:List Sy} {a:Nat→Nat→GF} (hKD:K≤D) (hx:xs.Nodup) (hxl:xs.length=N) (hg:GoodP N (Sy.nodes l)) (hk:K+2 * t≤l.length) (hc:c < D)
  (hb:c < K→∀ k,K≤k→k < D→WeTells xs K (Sy.nodes l) (l.map (colY K D xs a k)) t (some (rowF (fun i=>a i k) K))) (h:WeTells xs K (Sy.nodes l) (l.map (colY K D xs a c)) t none) :
  TellD (fun m=>m.length=mbB K D) (fun m i=>mShare K D m (xs.getD i 0)) l t none:=by
 intro m hm hw
 rw [wrD_len] at hw
 have:=cols_one hKD hx hxl hg hk hw hc (fun h1 i k hi hk1 hk2=>by
  have:=cols_one hKD hx hxl hg hk hw hk2 (fun h=>by omega) (hb h1 k hk1 hk2)
  exact rowF_inj (f:=fun i=>a i k) (g:=fun i=>mM K D m i k) (Option.some.inj this) hi) h
 cases this
end Go.Proofs.YtcclhhjcejmepaaGreat
