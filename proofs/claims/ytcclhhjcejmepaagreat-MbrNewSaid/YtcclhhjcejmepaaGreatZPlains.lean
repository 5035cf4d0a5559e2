/-
  Symbols of a word that are told, one of them perhaps another one.
  Polynomials by definition: trimmed ones, and what tells that one passes through some values.
  Words of which some symbols are wrong: the plain laws.
  Rising rows of numbers, one behind the other: the plain laws.
  The places of wrong symbols, rising: the plain laws.
-/
import Derived.Test.YtcclhhjcejmepaaGreatZDecA
import Derived.Test.YtcclhhjcejmepaaGreatZKit
/- Symbols of a word that are told, one of them perhaps another one. -/
namespace Go.Proofs.YtcclhhjcejmepaaGreat
open Go.RowKit Fld
set_option linter.unusedVariables false
set_option linter.unusedSimpArgs false

def rowF (f:Nat→GF) (J:Nat):List GF:=(List.range J).map f
theorem rowF_len (f:Nat→GF) (J:Nat):(rowF f J).length=J:=by simp [rowF]
theorem rowF_succ (f:Nat→GF) (J:Nat):rowF f (J+1)=rowF f J ++ [f J]:=by simp [rowF,List.range_succ]
theorem rowF_get (f:Nat→GF) {J i:Nat} (h:i < J):(rowF f J).getD i 0=f i:=by
 rw [List.getD_eq_getElem?_getD,rowF,List.getElem?_map,List.getElem?_range h]
 rfl
theorem View.rowF {w:World} {b N:Nat} {g:Nat→GF} (h:View w b N g) {cap:Nat} (hc:N≤cap):GRd w (.slice (some ⟨b,0,none⟩) N cap) (rowF g N):=by
 have:=h.rd (o:=0) (m:=N) (by omega) hc
 unfold Go.Proofs.YtcclhhjcejmepaaGreat.rowF
 simpa using this
theorem View.list {w:World} {b N:Nat} {l:List GF} (h:View w b N (fun i=>l.getD i 0)) (hl:l.length=N) {cap:Nat} (hc:N≤cap):GRd w (.slice (some ⟨b,0,none⟩) N cap) l:=by
 have:=h.rowF hc
 have e:Go.Proofs.YtcclhhjcejmepaaGreat.rowF (fun i=>l.getD i 0) N=l:=by
  subst hl
  refine List.ext_getElem (by simp [Go.Proofs.YtcclhhjcejmepaaGreat.rowF]) fun i h1 h2=>?_
  simp [Go.Proofs.YtcclhhjcejmepaaGreat.rowF,List.getElem?_eq_getElem h2]
 rwa [e] at this
theorem apart_grow {V V' v1:Value} {n:Nat} (h:Apart V' V.ownBlock.toList) (hn:∀ k,V'.ownBlock=some k→k < n) (h1:v1.ownBlock=V.ownBlock ∨ v1.ownBlock=some (n+1)):Apart V' v1.ownBlock.toList:=by
 rcases h1 with h1 | h1
 ·rw [h1];exact h
 ·rw [h1]
  intro k hk hm
  have:=hn k hk
  simp at hm
  omega
theorem apart_swap {V V':Value} (h:Apart V' V.ownBlock.toList):Apart V V'.ownBlock.toList:=fun k hk hm=>h k (by simpa using hm) (by simpa using hk)
end Go.Proofs.YtcclhhjcejmepaaGreat
/- Polynomials by definition: trimmed ones, and what tells that one passes through some values. -/
namespace Go.Proofs.YtcclhhjcejmepaaGreat
open Go.RowKit Fld
set_option linter.unusedVariables false
set_option linter.unusedSimpArgs false

def Trimd (l:List GF):Prop:=l=[] ∨ l.getD (l.length - 1) 0 ≠ 0
def TrimOf (l p:List GF):Prop:=∃ n,n≤l.length∧p=l.take n∧Trimd p∧∀ j,n≤j→l.getD j 0=0
theorem TrimOf.ev {l p:List GF} (h:TrimOf l p) (x:GF):ev p x=ev l x:=by
 obtain ⟨n,hn,rfl,_,h2⟩:=h
 conv=>rhs;rw [← List.take_append_drop n l,ev_append]
 rw [ev_zeros (p:=l.drop n),mzero,addz]
 intro c hc
 obtain ⟨i,hi,rfl⟩:=List.mem_iff_getElem.1 hc
 have:=h2 (n+i) (by omega)
 rw [List.getElem_drop]
 rw [List.length_drop] at hi
 rwa [List.getD_eq_getElem?_getD,List.getElem?_eq_getElem (by omega),Option.getD_some] at this
theorem TrimOf.len {l p:List GF} (h:TrimOf l p):p.length≤l.length:=by
 obtain ⟨n,hn,rfl,_⟩:=h
 rw [List.length_take]
 omega
theorem TrimOf.trimd {l p:List GF} (h:TrimOf l p):Trimd p:=by
 obtain ⟨n,hn,rfl,h1,_⟩:=h
 exact h1
theorem trimd_take {l:List GF} {n:Nat} (hn:n≤l.length) (h:n=0 ∨ l.getD (n - 1) 0 ≠ 0):Trimd (l.take n):=by
 rcases h with rfl | h
 ·exact .inl (by simp)
 ·by_cases h0:n=0
  ·subst h0
   exact .inl (by simp)
  ·refine .inr ?_
   rw [List.length_take,Nat.min_eq_left hn,List.getD_eq_getElem?_getD,List.getElem?_take,if_pos (by omega),← List.getD_eq_getElem?_getD]
   exact h
theorem rowF_ev (f:Nat→GF) (n:Nat) (x:GF):ev (rowF f n) x=sm n (fun i=>f i * pw x i):=by
 rw [ev_sm,rowF_len]
 exact sm_congr fun i hi=>by rw [rowF_get f hi]
noncomputable def prodN (f:Nat→GF) (y:GF):Nat→GF
 | 0=>1
 | n+1=>prodN f y n * (f n+y)
theorem prodN_eq0 (f:Nat→GF) (y:GF):∀ n,prodN f y n=0↔∃ j,j < n∧f j=y
 | 0=>by simp [prodN,one_ne0]
 | n+1=>by
  rw [prodN]
  constructor
  ·intro h
   rcases mul_eq0 h with h | h
   ·obtain ⟨j,h1,h2⟩:=(prodN_eq0 f y n).1 h
    exact ⟨j,by omega,h2⟩
   ·exact ⟨n,by omega,add_eq0 h⟩
  ·rintro ⟨j,h1,h2⟩
   by_cases e:j=n
   ·subst e
    rw [h2,adds,mzero]
   ·rw [(prodN_eq0 f y n).2 ⟨j,by omega,h2⟩,zmul]
theorem ev_one1 (c y:GF):ev [c] y=c:=by rw [ev_cons,ev_nil,mzero,addz]
noncomputable def padTo (p:List GF) (k:Nat):List GF:=p ++ List.replicate (k - p.length) 0
theorem padTo_len (p:List GF) {k:Nat} (h:p.length≤k):(padTo p k).length=k:=by simp [padTo];omega
theorem padTo_ev (p:List GF) (k:Nat) (x:GF):ev (padTo p k) x=ev p x:=by
 rw [padTo,ev_append,ev_zeros (p:=List.replicate _ (0:GF)) (fun c hc=>(List.mem_replicate.1 hc).2),mzero,addz]
end Go.Proofs.YtcclhhjcejmepaaGreat
/- Words of which some symbols are wrong: the plain laws. -/
namespace Go.Proofs.YtcclhhjcejmepaaGreat
open Go.RowKit Fld
set_option linter.unusedVariables false
set_option linter.unusedSimpArgs false

theorem trimd_zero {p:List GF} (h:Trimd p) (hz:∀ c ∈ p,c=0):p=[]:=by
 rcases h with h | h
 ·exact h
 ·refine Classical.byContradiction fun hne=>h ?_
  have hl:0 < p.length:=List.length_pos_iff.2 hne
  rw [List.getD_eq_getElem?_getD,List.getElem?_eq_getElem (by omega)]
  exact hz _ (List.getElem_mem _)
noncomputable def wrI (X ys m:List GF):List Nat:=(List.range X.length).filter fun i=>decide (ev m (X.getD i 0) ≠ ys.getD i 0)
theorem mem_wrI {X ys m:List GF} {i:Nat}:i ∈ wrI X ys m↔i < X.length∧ev m (X.getD i 0) ≠ ys.getD i 0:=by
 unfold wrI
 rw [List.mem_filter,List.mem_range,decide_eq_true_eq]
theorem wrI_nodup (X ys m:List GF):(wrI X ys m).Nodup:=List.nodup_range.filter _
theorem three_parts {α:Type} (p q:α→Bool):∀ l:List α,l.length≤(l.filter fun a=>p a && q a).length+(l.filter fun a=>!p a).length+(l.filter fun a=>!q a).length
 | []=>by simp
 | a :: l=>by
  have:=three_parts p q l
  simp only [List.filter_cons,List.length_cons]
  cases p a <;> cases q a <;> simp <;> omega
theorem two_parts {α:Type} (p:α→Bool):∀ l:List α,l.length=(l.filter p).length+(l.filter fun a=>!p a).length
 | []=>by simp
 | a :: l=>by
  have:=two_parts p l
  simp only [List.filter_cons,List.length_cons]
  cases p a <;> simp <;> omega
theorem pts_of {X:List GF} (hn:X.Nodup) {ls:List Nat} (hl:ls.Nodup) (hb:∀ i ∈ ls,i < X.length):(ls.map fun i=>X.getD i 0).Nodup :=
 List.pairwise_map.2 (hl.imp_of_mem fun {a b} ha hb' hne e=>hne (getD_inj hn (hb a ha) (hb b hb') e))
theorem agree_many {X m m':List GF} (hn:X.Nodup) (hm:m.length=m'.length) {ls:List Nat} (hl:ls.Nodup) (hb:∀ i ∈ ls,i < X.length) (hk:m.length≤ls.length) (h:∀ i ∈ ls,ev m (X.getD i 0)=ev m' (X.getD i 0)):m=m' :=
 ev_inj (pts_of hn hl hb) hm (by rw [List.length_map];exact hk) fun z hz=>by
  obtain ⟨i,hi,rfl⟩:=List.mem_map.1 hz
  exact h i hi
theorem vanish_many {X p:List GF} (hn:X.Nodup) {ls:List Nat} (hl:ls.Nodup) (hb:∀ i ∈ ls,i < X.length) (hk:p.length≤ls.length) (h:∀ i ∈ ls,ev p (X.getD i 0)=0):∀ c ∈ p,c=0 :=
 roots_all (pts_of hn hl hb) (by rw [List.length_map];exact hk) fun z hz=>by
  obtain ⟨i,hi,rfl⟩:=List.mem_map.1 hz
  exact h i hi
theorem wr_one {X ys m m':List GF} {k t:Nat} (hn:X.Nodup) (hm:m.length=k) (hm':m'.length=k) (h:(wrI X ys m).length≤t) (h':(wrI X ys m').length≤t) (hk:k+2 * t≤X.length):m=m':=by
 have h3:=three_parts (fun i=>decide (ev m (X.getD i 0)=ys.getD i 0)) (fun i=>decide (ev m' (X.getD i 0)=ys.getD i 0)) (List.range X.length)
 rw [List.length_range] at h3
 have e1:∀ p:List GF,((List.range X.length).filter fun i=>!decide (ev p (X.getD i 0)=ys.getD i 0))=wrI X ys p:=fun p=>by
  unfold wrI
  congr 1
  funext i
  simp
 rw [e1,e1] at h3
 refine agree_many hn (hm.trans hm'.symm) (ls:=(List.range X.length).filter fun i=>decide (ev m (X.getD i 0)=ys.getD i 0) && decide (ev m' (X.getD i 0)=ys.getD i 0)) (List.nodup_range.filter _) (fun i hi=>List.mem_range.1 (List.mem_filter.1 hi).1) (by rw [hm];omega) fun i hi=>?_
 have:=(List.mem_filter.1 hi).2
 rw [Bool.and_eq_true,decide_eq_true_eq,decide_eq_true_eq] at this
 rw [this.1,this.2]
theorem prod_ex:∀ (a b:List GF),b ≠ []→∃ p:List GF,p.length=a.length+b.length - 1∧∀ y,ev p y=ev a y * ev b y
 | [],b,hb=>⟨List.replicate (b.length - 1) 0,by simp,fun y=>by rw [ev_zeros (fun c hc=>(List.mem_replicate.1 hc).2),ev_nil,zmul]⟩
 | c :: a,b,hb=>by
  obtain ⟨p,hp,he⟩:=prod_ex a b hb
  have hl:0 < b.length:=List.length_pos_iff.2 hb
  refine ⟨padd (psc c b) (0 :: p),?_,fun y=>?_⟩
  ·rw [length_padd,length_psc,List.length_cons,List.length_cons,hp]
   omega
  ·rw [ev_padd,ev_psc,ev_cons,ev_cons,he,zadd,dam,Fld.mulA]
theorem rts_top:∀ xs:List GF,(rts xs).getD xs.length 0=1
 | []=>rfl
 | x :: xs=>by
  have hl:(psc x (rts xs)).length=xs.length+1:=by rw [length_psc,length_rts]
  rw [rts,getD_padd,List.length_cons,List.getD_cons_succ,rts_top xs,List.getD_eq_getElem?_getD (l:=psc x (rts xs)),List.getElem?_eq_none (by omega)]
  exact addz _
noncomputable def sysA (X ys:List GF) (n:Nat):Nat→Nat→GF:=fun i p=>if p < n then pw (X.getD i 0) p else ys.getD i 0 * pw (X.getD i 0) (p - n)
noncomputable def sysB (X ys:List GF) (v:Nat):Nat→GF:=fun i=>ys.getD i 0 * pw (X.getD i 0) v
noncomputable def eOf (s:Nat→GF) (n v:Nat):List GF:=rowF (fun j=>s (n+j)) v ++ [1]
theorem eOf_len (s:Nat→GF) (n v:Nat):(eOf s n v).length=v+1:=by simp [eOf,rowF_len]
theorem eOf_ev (s:Nat→GF) (n v:Nat) (x:GF):ev (eOf s n v) x=ev (rowF (fun j=>s (n+j)) v) x+pw x v:=by
 rw [eOf,ev_append,rowF_len,ev_cons,ev_nil,mzero,addz,mone]
theorem sys_sum (X ys:List GF) (n v i:Nat) (s:Nat→GF):sm (n+v) (fun p=>sysA X ys n i p * s p)=ev (rowF s n) (X.getD i 0)+ys.getD i 0 * ev (rowF (fun j=>s (n+j)) v) (X.getD i 0):=by
 rw [sm_split,rowF_ev,rowF_ev,← sm_mul]
 congr 1
 ·exact sm_congr fun p hp=>by rw [sysA,if_pos hp,mulC]
 ·exact sm_congr fun p hp=>by rw [sysA,if_neg (by omega),show n+p - n=p by omega,Fld.mulA,mulC (pw _ p)]
theorem sys_iff (X ys:List GF) (n v i:Nat) (s:Nat→GF):sm (n+v) (fun p=>sysA X ys n i p * s p)=sysB X ys v i↔ev (rowF s n) (X.getD i 0)=ys.getD i 0 * ev (eOf s n v) (X.getD i 0):=by
 rw [sys_sum,eOf_ev,mad,sysB]
 constructor
 ·intro h
  rw [← h,addC (ev _ _),← Fld.addA,adds,zadd]
 ·intro h
  rw [h,addC,← Fld.addA,adds,zadd]
section
variable {X ys m:List GF} {k v:Nat}
theorem right_many (hv:(wrI X ys m).length=v):∃ ls:List Nat,ls.Nodup∧(∀ i ∈ ls,i < X.length∧ev m (X.getD i 0)=ys.getD i 0)∧X.length=ls.length+v:=by
 refine ⟨(List.range X.length).filter fun i=>!decide (ev m (X.getD i 0) ≠ ys.getD i 0),List.nodup_range.filter _,fun i hi=>?_,?_⟩
 ·obtain ⟨h1,h2⟩:=List.mem_filter.1 hi
  exact ⟨List.mem_range.1 h1,by simpa using h2⟩
 ·have:=two_parts (fun i=>decide (ev m (X.getD i 0) ≠ ys.getD i 0)) (List.range X.length)
  rw [List.length_range] at this
  have e:(wrI X ys m).length=((List.range X.length).filter fun i=>decide (ev m (X.getD i 0) ≠ ys.getD i 0)).length:=rfl
  omega
theorem sol_tells (hn:X.Nodup) (hm:m.length=k) (hv:(wrI X ys m).length=v) (hk:k+2 * v≤X.length) {s:Nat→GF} (hs:∀ i,i < X.length→sm (k+v+v) (fun p=>sysA X ys (k+v) i p * s p)=sysB X ys v i) :
  (∀ y,ev (rowF s (k+v)) y=ev m y * ev (eOf s (k+v) v) y)∧∀ i ∈ wrI X ys m,ev (eOf s (k+v) v) (X.getD i 0)=0:=by
 have hs':=fun i hi=>(sys_iff X ys (k+v) v i s).1 (hs i hi)
 obtain ⟨p,hp,he⟩:=prod_ex m (eOf s (k+v) v) (by intro h;have:=congrArg List.length h;rw [eOf_len] at this;simp at this)
 obtain ⟨ls,hl,hr,hc⟩:=right_many hv
 have e:rowF s (k+v)=p:=by
  refine agree_many hn (by rw [rowF_len,hp,eOf_len,hm];omega) hl (fun i hi=>(hr i hi).1) (by rw [rowF_len];omega) fun i hi=>?_
  rw [hs' i (hr i hi).1,he,(hr i hi).2]
 have h1:∀ y,ev (rowF s (k+v)) y=ev m y * ev (eOf s (k+v) v) y:=fun y=>by rw [e,he]
 refine ⟨h1,fun i hi=>?_⟩
 obtain ⟨hi1,hi2⟩:=mem_wrI.1 hi
 have h2:=hs' i hi1
 rw [h1] at h2
 have h3:(ev m (X.getD i 0)+ys.getD i 0) * ev (eOf s (k+v) v) (X.getD i 0)=0:=by rw [dam,h2,adds]
 rcases mul_eq0 h3 with h | h
 ·exact absurd (add_eq0 h) hi2
 ·exact h
theorem sol_ex (hn:X.Nodup) (hm:m.length=k) (hv:(wrI X ys m).length=v) (hk:k+2 * v≤X.length):∃ s:Nat→GF,∀ i,i < X.length→sm (k+v+v) (fun p=>sysA X ys (k+v) i p * s p)=sysB X ys v i:=by
 obtain ⟨ws,hws⟩:∃ ws,ws=(wrI X ys m).map fun i=>X.getD i 0:=⟨_,rfl⟩
 have hwl:ws.length=v:=by rw [hws,List.length_map,hv]
 obtain ⟨q,hq,he⟩:=prod_ex m (rts ws) (by intro h;have:=congrArg List.length h;rw [length_rts] at this;simp at this)
 rw [length_rts,hm,hwl] at hq
 obtain ⟨s,hs⟩:∃ s:Nat→GF,s=fun p=>if p < k+v then q.getD p 0 else (rts ws).getD (p - (k+v)) 0:=⟨_,rfl⟩
 have e1:rowF s (k+v)=q:=by
  refine List.ext_getElem (by rw [rowF_len];omega) fun i h1 h2=>?_
  rw [rowF_len] at h1
  simp [rowF,hs,h1,List.getElem?_eq_getElem h2]
 have e2:eOf s (k+v) v=rts ws:=by
  refine List.ext_getElem (by rw [eOf_len,length_rts,hwl]) fun i h1 h2=>?_
  rw [eOf_len] at h1
  have ht:=rts_top ws
  rw [hwl] at ht
  by_cases hi:i < v
  ·have hn':¬ (k+v+i < k+v):=by omega
   simp [eOf,List.getElem_append,rowF_len,hi,rowF,hs,List.getElem?_eq_getElem h2,hn']
  ·obtain rfl:i=v:=by omega
   rw [List.getD_eq_getElem?_getD,List.getElem?_eq_getElem h2] at ht
   simp [eOf,List.getElem_append,rowF_len]
   exact ht.symm
 refine ⟨s,fun i hi=>(sys_iff X ys (k+v) v i s).2 ?_⟩
 rw [e1,e2,he]
 by_cases hw:ev m (X.getD i 0)=ys.getD i 0
 ·rw [hw]
 ·have:ev (rts ws) (X.getD i 0)=0:=ev_rts_zero.2 (by rw [hws];exact List.mem_map.2 ⟨i,mem_wrI.2 ⟨hi,hw⟩,rfl⟩)
  rw [this,mzero,mzero]
theorem sol_one (hn:X.Nodup) (hm:m.length=k) (hv:(wrI X ys m).length=v) (hk:k+2 * v≤X.length) {z:Nat→GF} (hz:∀ i,i < X.length→sm (k+v+v) (fun p=>sysA X ys (k+v) i p * z p)=0):∀ p,p < k+v+v→z p=0:=by
 obtain ⟨s,hs⟩:=sol_ex hn hm hv hk
 have hs2:∀ i,i < X.length→sm (k+v+v) (fun p=>sysA X ys (k+v) i p * (s p+z p))=sysB X ys v i:=fun i hi=>by
  rw [← hs i hi,← addz (sm (k+v+v) fun p=>sysA X ys (k+v) i p * s p),← hz i hi,← sm_add]
  exact sm_congr fun p _=>mad _ _ _
 obtain ⟨h1,h2⟩:=sol_tells hn hm hv hk hs
 obtain ⟨h3,h4⟩:=sol_tells hn hm hv hk hs2
 have hadd:∀ n o x,ev (rowF (fun p=>s (o+p)+z (o+p)) n) x=ev (rowF (fun p=>s (o+p)) n) x+ev (rowF (fun p=>z (o+p)) n) x:=fun n o x=>by
  rw [rowF_ev,rowF_ev,rowF_ev,← sm_add]
  exact sm_congr fun p _=>dam _ _ _
 have hzero:∀ c ∈ rowF (fun p=>z (k+v+p)) v,c=0:=by
  refine vanish_many hn (wrI_nodup X ys m) (fun i hi=>(mem_wrI.1 hi).1) (by rw [rowF_len,hv];exact Nat.le_refl _) fun i hi=>?_
  have a:=h2 i hi
  have b:=h4 i hi
  rw [eOf_ev] at a b
  rw [hadd] at b
  rw [addC (ev _ _+ev _ _),← Fld.addA,addC (pw _ _),a,zadd] at b
  exact b
 have hz2:∀ j,j < v→z (k+v+j)=0:=fun j hj=>hzero _ (List.mem_map.2 ⟨j,List.mem_range.2 hj,rfl⟩)
 have he:∀ y,ev (eOf (fun p=>s p+z p) (k+v) v) y=ev (eOf s (k+v) v) y:=fun y=>by
  rw [eOf_ev,eOf_ev,hadd,ev_zeros hzero,addz]
 have hq:∀ y,ev (rowF z (k+v)) y=0:=fun y=>by
  have a:=h1 y
  have b:=h3 y
  have c:=hadd (k+v) 0 y
  simp only [Nat.zero_add] at c
  rw [he,← a,c] at b
  exact add_cancel (a:=ev (rowF s (k+v)) y) (by rw [b,addz])
 have hz1:∀ c ∈ rowF z (k+v),c=0:=vanish_many hn List.nodup_range (ls:=List.range X.length) (fun i hi=>List.mem_range.1 hi) (by rw [rowF_len,List.length_range];omega) fun i _=>hq _
 intro p hp
 by_cases h:p < k+v
 ·exact hz1 _ (List.mem_map.2 ⟨p,List.mem_range.2 h,rfl⟩)
 ·have:=hz2 (p - (k+v)) (by omega)
  rwa [show k+v+(p - (k+v))=p by omega] at this
theorem div_tells (hn:X.Nodup) (hm:m.length=k) (hv:(wrI X ys m).length=v) (hk:k+2 * v≤X.length) {s:Nat→GF} (hs:∀ i,i < X.length→sm (k+v+v) (fun p=>sysA X ys (k+v) i p * s p)=sysB X ys v i)
  {Q R:List GF} (hd:∀ y,ev (rowF s (k+v)) y=ev Q y * ev (eOf s (k+v) v) y+ev R y) (hR:R.length≤v) (ht:Trimd R) (hQ:Q.length≤k):R=[]∧padTo Q k=m:=by
 obtain ⟨h1,h2⟩:=sol_tells hn hm hv hk hs
 have hR0:R=[]:=trimd_zero ht (vanish_many hn (wrI_nodup X ys m) (fun i hi=>(mem_wrI.1 hi).1) (by rw [hv];exact hR) fun i hi=>by
  have:=hd (X.getD i 0)
  rw [h1,h2 i hi,mzero,mzero,zadd] at this
  exact this.symm)
 refine ⟨hR0,?_⟩
 rw [hR0] at hd
 have hE:∀ y,ev (eOf s (k+v) v) y ≠ 0→ev Q y=ev m y:=fun y hy=>by
  have:=hd y
  rw [h1,ev_nil,addz,mulC,mulC (ev Q y)] at this
  exact (mul_cancel hy this).symm
 have hc:((List.range X.length).filter fun i=>!decide (ev (eOf s (k+v) v) (X.getD i 0) ≠ 0)).length≤v:=by
  refine Nat.le_of_not_lt fun hlt=>?_
  have:=vanish_many (p:=eOf s (k+v) v) hn (List.nodup_range.filter fun i=>!decide (ev (eOf s (k+v) v) (X.getD i 0) ≠ 0)) (fun i hi=>List.mem_range.1 (List.mem_filter.1 hi).1) (by rw [eOf_len];omega) (fun i hi=>by
   have:=(List.mem_filter.1 hi).2
   simpa using this)
  exact one_ne0 (F:=GF) (this 1 (by simp [eOf]))
 have h3:=two_parts (fun i=>decide (ev (eOf s (k+v) v) (X.getD i 0) ≠ 0)) (List.range X.length)
 rw [List.length_range] at h3
 refine agree_many hn (by rw [padTo_len _ hQ,hm]) (List.nodup_range.filter fun i=>decide (ev (eOf s (k+v) v) (X.getD i 0) ≠ 0)) (fun i hi=>List.mem_range.1 (List.mem_filter.1 hi).1) (by rw [padTo_len _ hQ];omega) fun i hi=>?_
 rw [padTo_ev]
 exact hE _ (of_decide_eq_true (List.mem_filter.1 hi).2)
end
theorem ptsRow (xs:List GF) (ps:List Int):rowF (fun i=>xs.getD (ps.getD i 0).toNat 0) ps.length=ptsOf xs ps:=by
 refine List.ext_getElem (by simp [rowF,ptsOf]) fun i h1 h2=>?_
 rw [rowF_len] at h1
 simp [rowF,ptsOf,List.getElem?_eq_getElem h1]
end Go.Proofs.YtcclhhjcejmepaaGreat
/- Rising rows of numbers, one behind the other: the plain laws. -/
namespace Go.Proofs.YtcclhhjcejmepaaGreat
open Go.RowKit Fld
set_option linter.unusedVariables false
set_option linter.unusedSimpArgs false

def rowN (k:Nat) (l:Nat→Nat):List Int:=(List.range k).map fun j=>((l j:Nat):Int)
theorem rowN_len (k:Nat) (l:Nat→Nat):(rowN k l).length=k:=by simp [rowN]
theorem rowN_get {k:Nat} {l:Nat→Nat} {j:Nat} (h:j < k):(rowN k l)[j]? = some ((l j:Nat):Int):=by
 rw [rowN,List.getElem?_map,List.getElem?_range h]
 rfl
end Go.Proofs.YtcclhhjcejmepaaGreat
/- The places of wrong symbols, rising: the plain laws. -/
namespace Go.Proofs.YtcclhhjcejmepaaGreat
open Go.RowKit Fld
set_option linter.unusedVariables false
set_option linter.unusedSimpArgs false

theorem strict_eq:∀ {a b:List Int},a.Pairwise (· < ·)→b.Pairwise (· < ·)→(∀ x,x ∈ a↔x ∈ b)→a=b
 | [],[],_,_,_=>rfl
 | [],y :: b,_,_,h=>by have:=(h y).2 (by simp);cases this
 | x :: a,[],_,_,h=>by have:=(h x).1 (by simp);cases this
 | x :: a,y :: b,ha,hb,h=>by
  rw [List.pairwise_cons] at ha hb
  have e:x=y:=by
   have h1:=(h x).1 (by simp)
   have h2:=(h y).2 (by simp)
   rcases List.mem_cons.1 h1 with h1 | h1
   ·exact h1
   ·rcases List.mem_cons.1 h2 with h2 | h2
    ·exact h2.symm
    ·have:=ha.1 _ h2
     have:=hb.1 _ h1
     omega
  subst e
  have ih:=strict_eq ha.2 hb.2 fun z=>by
   constructor
   ·intro hz
    rcases List.mem_cons.1 ((h z).1 (List.mem_cons_of_mem _ hz)) with e | e
    ·have:=ha.1 _ hz;omega
    ·exact e
   ·intro hz
    rcases List.mem_cons.1 ((h z).2 (List.mem_cons_of_mem _ hz)) with e | e
    ·have:=hb.1 _ hz;omega
    ·exact e
  rw [ih]
def riseI (l:List Int):List Int:=l.mergeSort fun x y=>decide (x≤y)
theorem riseI_perm (l:List Int):(riseI l).Perm l:=List.mergeSort_perm _ _
theorem riseI_len (l:List Int):(riseI l).length=l.length:=(riseI_perm l).length_eq
theorem riseI_mem {l:List Int} {x:Int}:x ∈ riseI l↔x ∈ l:=(riseI_perm l).mem_iff
theorem riseI_lt {l:List Int} (h:l.Nodup):(riseI l).Pairwise (· < ·):=by
 have h1:(riseI l).Pairwise fun a b=>decide (a≤b)=true:=List.pairwise_mergeSort (fun a b c h1 h2=>by simp only [decide_eq_true_eq] at *;omega) (fun a b=>by simp only [Bool.or_eq_true,decide_eq_true_eq];omega) l
 have h2:(riseI l).Pairwise (· ≠ ·):=(riseI_perm l).nodup_iff.2 h
 refine List.Pairwise.imp ?_ (List.pairwise_and_iff.2 ⟨h1,h2⟩)
 rintro a b ⟨h3,h4⟩
 simp only [decide_eq_true_eq] at h3
 have:a ≠ b:=h4
 omega
noncomputable def wrP (xs:List GF) (ps:List Int) (ys m:List GF):List Int:=(wrI (ptsOf xs ps) ys m).map fun i=>ps.getD i 0
noncomputable def wrS (xs:List GF) (ps:List Int) (ys m:List GF):List Int:=riseI (wrP xs ps ys m)
theorem pts_len (xs:List GF) (ps:List Int):(ptsOf xs ps).length=ps.length:=by simp [ptsOf]
theorem pts_get (xs:List GF) {ps:List Int} {i:Nat} (h:i < ps.length):(ptsOf xs ps).getD i 0=xs.getD (ps.getD i 0).toNat 0:=by
 unfold ptsOf
 rw [List.getD_eq_getElem?_getD,List.getElem?_map,List.getD_eq_getElem?_getD (l:=ps),List.getElem?_eq_getElem h]
 rfl
theorem wrS_len (xs:List GF) (ps:List Int) (ys m:List GF):(wrS xs ps ys m).length=(wrI (ptsOf xs ps) ys m).length:=by rw [wrS,riseI_len,wrP,List.length_map]
theorem getI_inj {l:List Int} (hn:l.Nodup) {i j:Nat} (hi:i < l.length) (hj:j < l.length) (h:l.getD i 0=l.getD j 0):i=j:=by
 rw [List.getD_eq_getElem?_getD,List.getElem?_eq_getElem hi,List.getD_eq_getElem?_getD,List.getElem?_eq_getElem hj] at h
 simp only [Option.getD_some] at h
 rcases Nat.lt_trichotomy i j with e | e | e
 ·exact absurd h (List.pairwise_iff_getElem.1 hn i j hi hj e)
 ·exact e
 ·exact absurd h.symm (List.pairwise_iff_getElem.1 hn j i hj hi e)
theorem wrP_nodup {xs:List GF} {ps:List Int} (ys m:List GF) (hg:ps.Nodup):(wrP xs ps ys m).Nodup :=
 List.pairwise_map.2 ((wrI_nodup _ ys m).imp_of_mem fun {a b} ha hb hne e=>hne (by
  have h1:=(mem_wrI.1 ha).1
  have h2:=(mem_wrI.1 hb).1
  rw [pts_len] at h1 h2
  exact getI_inj hg h1 h2 e))
def WeTells (xs:List GF) (k:Nat) (ps:List Int) (ys:List GF) (t:Nat) (r:Option (List GF)):Prop :=
 match r with
 | some m=>m.length=k∧(wrS xs ps ys m).length≤t
 | none=>∀ m:List GF,m.length=k→¬ (wrS xs ps ys m).length≤t
theorem weTells_one {xs:List GF} {k t:Nat} {ps:List Int} {ys:List GF} {r r':Option (List GF)} (hn:xs.Nodup) (hg:GoodP xs.length ps) (hk:k+2 * t≤ps.length) (h:WeTells xs k ps ys t r) (h':WeTells xs k ps ys t r'):r=r':=by
 cases r with
 | none=>cases r' with
  | none=>rfl
  | some m=>exact absurd h'.2 (h m h'.1)
 | some m=>cases r' with
  | none=>exact absurd h.2 (h' m h.1)
  | some m' =>
   have h1:=h.2
   have h2:=h'.2
   rw [wrS_len] at h1 h2
   exact congrArg some (wr_one (pts_nodup hn hg) h.1 h'.1 h1 h2 (by rw [pts_len];exact hk))
end Go.Proofs.YtcclhhjcejmepaaGreat
