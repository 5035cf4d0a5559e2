/-
  Symbols of a word that are told, one of them perhaps another one.
  Polynomials by definition: trimmed ones, and what tells that one passes through some values.
  Words of which some symbols are wrong: the plain laws.
  Rising rows of numbers, one behind the other: the plain laws.
  The places of wrong symbols, rising: the plain laws.
-/
import Derived.Test.YtcclhhjcejmepaaGreatZDecA
import Derived.Test.YtcclhhjcejmepaaGreatZKit
/- Symbols of a word that are told, one of them perhaps another one. -/
namespace Go.Proofs.YtcclhhjcejmepaaGreat
open Go.RowKit Fld
set_option linter.unusedVariables false
set_option linter.unusedSimpArgs false

def rowF (f:Nat→GF) (J:Nat):List GF:=(List.range J).map f
theorem rowF_len (f:Nat→GF) (J:Nat):(rowF f J).length=J:=by simp [rowF]
theorem rowF_succ (f:Nat→GF) (J:Nat):rowF f (J+1)=rowF f J ++ [f J]:=by simp [rowF,List.range_succ]
theorem rowF_get (f:Nat→GF) {J i:Nat} (h:i < J):(rowF f J).getD i 0=f i:=by
 rw [List.getD_eq_getElem?_getD,rowF,List.getElem?_map,List.getElem?_range h]
 rfl
theorem View.rowF {w:World} {b N:Nat} {g:Nat→GF} (h:View w b N g) {cap:Nat} (hc:N≤cap):GRd w (.slice (some ⟨b,0,none⟩) N cap) (rowF g N):=by
 have:=h.rd (o:=0) (m:=N) (by omega) hc
 unfold Go.Proofs.YtcclhhjcejmepaaGreat.rowF
 simpa using this
theorem View.list {w:World} {b N:Nat} {l:List GF} (h:View w b N (fun i=>l.getD i 0)) (hl:l.length=N) {cap:Nat} (hc:N≤cap):GRd w (.slice (some ⟨b,0,none⟩) N cap) l:=by
 have:=h.rowF hc
 have e:Go.Proofs.YtcclhhjcejmepaaGreat.rowF (fun i=>l.getD i 0) N=l:=by
  subst hl
  refine List.ext_getElem (by simp [Go.Proofs.YtcclhhjcejmepaaGreat.rowF]) fun i h1 h2=>?_
  simp [Go.Proofs.YtcclhhjcejmepaaGreat.rowF,List.getElem?_eq_getElem h2]
 rwa [e] at this
theorem app_row {W:World} {B:Nat} {V:Value} {f:Nat→GF} {J:Nat} (h:OwnG W B V (rowF f J)) (hJ:J≤1000000) (hb:B≤W.heap.size) {n:Nat} (hn:(f J).n=n) {ad:Nat} (had:ad=W.heap.size) :
  ∃ v1 w3,(Builtin.append_ #[22,22] 22 #[V,.slice (some ⟨ad,0,none⟩) 1 1]).run Tryz.prog (W.alloc (.cells #[.int .u8 (n:Int)] 5))=.ok v1 w3 ∧
   OwnG w3 B v1 (rowF f (J+1))∧Kp V.ownBlock.toList W w3∧Below B W w3∧(v1.ownBlock=V.ownBlock ∨ v1.ownBlock=some (W.heap.size+1)):=by
 obtain ⟨v1,w3,h1,h2,h3⟩:=app_byte (f J) h (by rw [rowF_len];exact hJ) hb hn had
 exact ⟨v1,w3,h1,by rw [rowF_succ];exact h2,h3⟩
theorem apart_grow {V V' v1:Value} {n:Nat} (h:Apart V' V.ownBlock.toList) (hn:∀ k,V'.ownBlock=some k→k < n) (h1:v1.ownBlock=V.ownBlock ∨ v1.ownBlock=some (n+1)):Apart V' v1.ownBlock.toList:=by
 rcases h1 with h1 | h1
 ·rw [h1];exact h
 ·rw [h1]
  intro k hk hm
  have:=hn k hk
  simp at hm
  omega
theorem apart_swap {V V':Value} (h:Apart V' V.ownBlock.toList):Apart V V'.ownBlock.toList:=fun k hk hm=>h k (by simpa using hm) (by simpa using hk)
end Go.Proofs.YtcclhhjcejmepaaGreat
/- Polynomials by definition: trimmed ones, and what tells that one passes through some values. -/
namespace Go.Proofs.YtcclhhjcejmepaaGreat
open Go.RowKit Fld
set_option linter.unusedVariables false
set_option linter.unusedSimpArgs false

def Trimd (l:List GF):Prop:=l=[] ∨ l.getD (l.length - 1) 0 ≠ 0
def TrimOf (l p:List GF):Prop:=∃ n,n≤l.length∧p=l.take n∧Trimd p∧∀ j,n≤j→l.getD j 0=0
theorem TrimOf.ev {l p:List GF} (h:TrimOf l p) (x:GF):ev p x=ev l x:=by
 obtain ⟨n,hn,rfl,_,h2⟩:=h
 conv=>rhs;rw [← List.take_append_drop n l,ev_append]
 rw [ev_zeros (p:=l.drop n),mzero,addz]
 intro c hc
 obtain ⟨i,hi,rfl⟩:=List.mem_iff_getElem.1 hc
 have:=h2 (n+i) (by omega)
 rw [List.getElem_drop]
 rw [List.length_drop] at hi
 rwa [List.getD_eq_getElem?_getD,List.getElem?_eq_getElem (by omega),Option.getD_some] at this
theorem TrimOf.len {l p:List GF} (h:TrimOf l p):p.length≤l.length:=by
 obtain ⟨n,hn,rfl,_⟩:=h
 rw [List.length_take]
 omega
theorem TrimOf.trimd {l p:List GF} (h:TrimOf l p):Trimd p:=by
 obtain ⟨n,hn,rfl,h1,_⟩:=h
 exact h1
theorem trimd_take {l:List GF} {n:Nat} (hn:n≤l.length) (h:n=0 ∨ l.getD (n - 1) 0 ≠ 0):Trimd (l.take n):=by
 rcases h with rfl | h
 ·exact .inl (by simp)
 ·by_cases h0:n=0
  ·subst h0
   exact .inl (by simp)
  ·refine .inr ?_
   rw [List.length_take,Nat.min_eq_left hn,List.getD_eq_getElem?_getD,List.getElem?_take,if_pos (by omega),← List.getD_eq_getElem?_getD]
   exact h
theorem rowF_ev (f:Nat→GF) (n:Nat) (x:GF):ev (rowF f n) x=sm n (fun i=>f i * pw x i):=by
 rw [ev_sm,rowF_len]
 exact sm_congr fun i hi=>by rw [rowF_get f hi]
theorem ev_wide (l:List GF) {n:Nat} (hn:l.length≤n) (x:GF):ev l x=sm n (fun i=>l.getD i 0 * pw x i):=by
 obtain ⟨k,rfl⟩:∃ k,n=l.length+k:=⟨n - l.length,by omega⟩
 rw [ev_sm,sm_split,sm_0 (n:=k),addz]
 intro i _
 rw [List.getD_eq_getElem?_getD,List.getElem?_eq_none (by omega)]
 exact zmul _
noncomputable def sumF (l m:List GF):Nat→GF:=fun i=>l.getD i 0+m.getD i 0
theorem sumF_ev (l m:List GF) {n:Nat} (h1:l.length≤n) (h2:m.length≤n) (x:GF):ev (rowF (sumF l m) n) x=ev l x+ev m x:=by
 rw [rowF_ev,ev_wide l h1,ev_wide m h2,← sm_add]
 exact sm_congr fun i _=>dam _ _ _
theorem shift_ev (i:Nat) (c:GF) (m:List GF) (x:GF):ev (List.replicate i (0:GF) ++ rowF (fun k=>c * m.getD k 0) m.length) x=pw x i * (c * ev m x):=by
 rw [ev_append,ev_zeros (p:=List.replicate i (0:GF)) (fun c hc=>(List.mem_replicate.1 hc).2),zadd,List.length_replicate,rowF_ev,ev_sm m]
 congr 1
 rw [← sm_mul]
 exact sm_congr fun k _=>Fld.mulA _ _ _
theorem take_ev (l:List GF) {I:Nat} (h:I < l.length) (x:GF):ev (l.take (I+1)) x=ev (l.take I) x+pw x I * l.getD I 0:=by
 rw [List.take_succ_eq_append_getElem h,ev_append,List.length_take,Nat.min_eq_left (by omega),ev_cons,ev_nil,mzero,addz,List.getD_eq_getElem?_getD,List.getElem?_eq_getElem h]
 rfl
noncomputable def prodN (f:Nat→GF) (y:GF):Nat→GF
 | 0=>1
 | n+1=>prodN f y n * (f n+y)
theorem prodN_eq0 (f:Nat→GF) (y:GF):∀ n,prodN f y n=0↔∃ j,j < n∧f j=y
 | 0=>by simp [prodN,one_ne0]
 | n+1=>by
  rw [prodN]
  constructor
  ·intro h
   rcases mul_eq0 h with h | h
   ·obtain ⟨j,h1,h2⟩:=(prodN_eq0 f y n).1 h
    exact ⟨j,by omega,h2⟩
   ·exact ⟨n,by omega,add_eq0 h⟩
  ·rintro ⟨j,h1,h2⟩
   by_cases e:j=n
   ·subst e
    rw [h2,adds,mzero]
   ·rw [(prodN_eq0 f y n).2 ⟨j,by omega,h2⟩,zmul]
theorem ev_two (x y:GF):ev [x,1] y=x+y:=by
 rw [ev_cons,ev_cons,ev_nil,mzero,addz,mone]
theorem ev_one1 (c y:GF):ev [c] y=c:=by rw [ev_cons,ev_nil,mzero,addz]
def Thru (xs ys p:List GF):Prop:=Trimd p∧p.length≤xs.length∧∀ j,j < xs.length→ev p (xs.getD j 0)=ys.getD j 0
noncomputable def padTo (p:List GF) (k:Nat):List GF:=p ++ List.replicate (k - p.length) 0
theorem padTo_len (p:List GF) {k:Nat} (h:p.length≤k):(padTo p k).length=k:=by simp [padTo];omega
theorem padTo_ev (p:List GF) (k:Nat) (x:GF):ev (padTo p k) x=ev p x:=by
 rw [padTo,ev_append,ev_zeros (p:=List.replicate _ (0:GF)) (fun c hc=>(List.mem_replicate.1 hc).2),mzero,addz]
theorem padTo_get (p:List GF) (k j:Nat):(padTo p k).getD j 0=p.getD j 0:=by
 rw [padTo,List.getD_eq_getElem?_getD,List.getD_eq_getElem?_getD]
 by_cases h:j < p.length
 ·rw [List.getElem?_append_left h]
 ·rw [List.getElem?_append_right (by omega),List.getElem?_eq_none (l:=p) (by omega),List.getElem?_replicate]
  by_cases h2:j - p.length < k - p.length
  ·rw [if_pos h2];rfl
  ·rw [if_neg h2]
theorem thru_tells {xs ys p:List GF} {ps:List Int} {k:Nat} (hn:xs.Nodup) (hg:GoodP xs.length ps) (hl:ps.length=ys.length) (hk:k≤ps.length) (h:Thru (ptsOf xs ps) ys p) :
  (p.length≤k→Fits xs k ps ys (padTo p k))∧(k < p.length→∀ m,¬ Fits xs k ps ys m):=by
 obtain ⟨h1,h2,h3⟩:=h
 have hpl:(ptsOf xs ps).length=ps.length:=by simp [ptsOf]
 rw [hpl] at h2 h3
 have hpt:∀ j,j < ps.length→(ptsOf xs ps).getD j 0=xs.getD (ps.getD j 0).toNat 0:=fun j hj=>by
  rw [List.getD_eq_getElem?_getD,ptsOf,List.getElem?_map,List.getElem?_eq_getElem hj,List.getD_eq_getElem?_getD (l:=ps),List.getElem?_eq_getElem hj]
  rfl
 refine ⟨fun hp=>⟨padTo_len p hp,fun i hi=>by rw [padTo_ev,← hpt i hi,h3 i hi]⟩,fun hp m hm=>?_⟩
 have e:padTo m ps.length=padTo p ps.length:=by
  refine ev_inj (pts_nodup hn hg) (by rw [padTo_len _ (by rw [hm.1];exact hk),padTo_len _ h2]) (by rw [padTo_len _ (by rw [hm.1];exact hk),hpl];exact Nat.le_refl _) fun z hz=>?_
  obtain ⟨j,hj,rfl⟩:=List.mem_iff_getElem.1 hz
  rw [hpl] at hj
  have e1:=hm.2 j hj
  have e2:=h3 j hj
  rw [List.getD_eq_getElem?_getD,List.getElem?_eq_getElem (by rw [hpl];exact hj),Option.getD_some] at e2
  have e3:=hpt j hj
  rw [List.getD_eq_getElem?_getD,List.getElem?_eq_getElem (by rw [hpl];exact hj),Option.getD_some] at e3
  rw [padTo_ev,padTo_ev,e2,← e1,e3]
 rcases h1 with h1 | h1
 ·rw [h1] at hp
  simp at hp
 ·refine h1 ?_
  rw [← padTo_get p ps.length,← e,padTo_get,List.getD_eq_getElem?_getD,List.getElem?_eq_none (by rw [hm.1];omega)]
  rfl
end Go.Proofs.YtcclhhjcejmepaaGreat
/- Words of which some symbols are wrong: the plain laws. -/
namespace Go.Proofs.YtcclhhjcejmepaaGreat
open Go.RowKit Fld
set_option linter.unusedVariables false
set_option linter.unusedSimpArgs false

theorem trimd_zero {p:List GF} (h:Trimd p) (hz:∀ c ∈ p,c=0):p=[]:=by
 rcases h with h | h
 ·exact h
 ·refine Classical.byContradiction fun hne=>h ?_
  have hl:0 < p.length:=List.length_pos_iff.2 hne
  rw [List.getD_eq_getElem?_getD,List.getElem?_eq_getElem (by omega)]
  exact hz _ (List.getElem_mem _)
noncomputable def wrI (X ys m:List GF):List Nat:=(List.range X.length).filter fun i=>decide (ev m (X.getD i 0) ≠ ys.getD i 0)
theorem mem_wrI {X ys m:List GF} {i:Nat}:i ∈ wrI X ys m↔i < X.length∧ev m (X.getD i 0) ≠ ys.getD i 0:=by
 unfold wrI
 rw [List.mem_filter,List.mem_range,decide_eq_true_eq]
theorem wrI_nodup (X ys m:List GF):(wrI X ys m).Nodup:=List.nodup_range.filter _
theorem three_parts {α:Type} (p q:α→Bool):∀ l:List α,l.length≤(l.filter fun a=>p a && q a).length+(l.filter fun a=>!p a).length+(l.filter fun a=>!q a).length
 | []=>by simp
 | a :: l=>by
  have:=three_parts p q l
  simp only [List.filter_cons,List.length_cons]
  cases p a <;> cases q a <;> simp <;> omega
theorem two_parts {α:Type} (p:α→Bool):∀ l:List α,l.length=(l.filter p).length+(l.filter fun a=>!p a).length
 | []=>by simp
 | a :: l=>by
  have:=two_parts p l
  simp only [List.filter_cons,List.length_cons]
  cases p a <;> simp <;> omega
theorem pts_of {X:List GF} (hn:X.Nodup) {ls:List Nat} (hl:ls.Nodup) (hb:∀ i ∈ ls,i < X.length):(ls.map fun i=>X.getD i 0).Nodup :=
 List.pairwise_map.2 (hl.imp_of_mem fun {a b} ha hb' hne e=>hne (getD_inj hn (hb a ha) (hb b hb') e))
theorem agree_many {X m m':List GF} (hn:X.Nodup) (hm:m.length=m'.length) {ls:List Nat} (hl:ls.Nodup) (hb:∀ i ∈ ls,i < X.length) (hk:m.length≤ls.length) (h:∀ i ∈ ls,ev m (X.getD i 0)=ev m' (X.getD i 0)):m=m' :=
 ev_inj (pts_of hn hl hb) hm (by rw [List.length_map];exact hk) fun z hz=>by
  obtain ⟨i,hi,rfl⟩:=List.mem_map.1 hz
  exact h i hi
theorem vanish_many {X p:List GF} (hn:X.Nodup) {ls:List Nat} (hl:ls.Nodup) (hb:∀ i ∈ ls,i < X.length) (hk:p.length≤ls.length) (h:∀ i ∈ ls,ev p (X.getD i 0)=0):∀ c ∈ p,c=0 :=
 roots_all (pts_of hn hl hb) (by rw [List.length_map];exact hk) fun z hz=>by
  obtain ⟨i,hi,rfl⟩:=List.mem_map.1 hz
  exact h i hi
theorem wr_one {X ys m m':List GF} {k t:Nat} (hn:X.Nodup) (hm:m.length=k) (hm':m'.length=k) (h:(wrI X ys m).length≤t) (h':(wrI X ys m').length≤t) (hk:k+2 * t≤X.length):m=m':=by
 have h3:=three_parts (fun i=>decide (ev m (X.getD i 0)=ys.getD i 0)) (fun i=>decide (ev m' (X.getD i 0)=ys.getD i 0)) (List.range X.length)
 rw [List.length_range] at h3
 have e1:∀ p:List GF,((List.range X.length).filter fun i=>!decide (ev p (X.getD i 0)=ys.getD i 0))=wrI X ys p:=fun p=>by
  unfold wrI
  congr 1
  funext i
  simp
 rw [e1,e1] at h3
 refine agree_many hn (hm.trans hm'.symm) (ls:=(List.range X.length).filter fun i=>decide (ev m (X.getD i 0)=ys.getD i 0) && decide (ev m' (X.getD i 0)=ys.getD i 0)) (List.nodup_range.filter _) (fun i hi=>List.mem_range.1 (List.mem_filter.1 hi).1) (by rw [hm];omega) fun i hi=>?_
 have:=(List.mem_filter.1 hi).2
 rw [Bool.and_eq_true,decide_eq_true_eq,decide_eq_true_eq] at this
 rw [this.1,this.2]
theorem prod_ex:∀ (a b:List GF),b ≠ []→∃ p:List GF,p.length=a.length+b.length - 1∧∀ y,ev p y=ev a y * ev b y
 | [],b,hb=>⟨List.replicate (b.length - 1) 0,by simp,fun y=>by rw [ev_zeros (fun c hc=>(List.mem_replicate.1 hc).2),ev_nil,zmul]⟩
 | c :: a,b,hb=>by
  obtain ⟨p,hp,he⟩:=prod_ex a b hb
  have hl:0 < b.length:=List.length_pos_iff.2 hb
  refine ⟨padd (psc c b) (0 :: p),?_,fun y=>?_⟩
  ·rw [length_padd,length_psc,List.length_cons,List.length_cons,hp]
   omega
  ·rw [ev_padd,ev_psc,ev_cons,ev_cons,he,zadd,dam,Fld.mulA]
theorem rts_top:∀ xs:List GF,(rts xs).getD xs.length 0=1
 | []=>rfl
 | x :: xs=>by
  have hl:(psc x (rts xs)).length=xs.length+1:=by rw [length_psc,length_rts]
  rw [rts,getD_padd,List.length_cons,List.getD_cons_succ,rts_top xs,List.getD_eq_getElem?_getD (l:=psc x (rts xs)),List.getElem?_eq_none (by omega)]
  exact addz _
noncomputable def sysA (X ys:List GF) (n:Nat):Nat→Nat→GF:=fun i p=>if p < n then pw (X.getD i 0) p else ys.getD i 0 * pw (X.getD i 0) (p - n)
noncomputable def sysB (X ys:List GF) (v:Nat):Nat→GF:=fun i=>ys.getD i 0 * pw (X.getD i 0) v
noncomputable def eOf (s:Nat→GF) (n v:Nat):List GF:=rowF (fun j=>s (n+j)) v ++ [1]
theorem eOf_len (s:Nat→GF) (n v:Nat):(eOf s n v).length=v+1:=by simp [eOf,rowF_len]
theorem eOf_ev (s:Nat→GF) (n v:Nat) (x:GF):ev (eOf s n v) x=ev (rowF (fun j=>s (n+j)) v) x+pw x v:=by
 rw [eOf,ev_append,rowF_len,ev_cons,ev_nil,mzero,addz,mone]
theorem sys_sum (X ys:List GF) (n v i:Nat) (s:Nat→GF):sm (n+v) (fun p=>sysA X ys n i p * s p)=ev (rowF s n) (X.getD i 0)+ys.getD i 0 * ev (rowF (fun j=>s (n+j)) v) (X.getD i 0):=by
 rw [sm_split,rowF_ev,rowF_ev,← sm_mul]
 congr 1
 ·exact sm_congr fun p hp=>by rw [sysA,if_pos hp,mulC]
 ·exact sm_congr fun p hp=>by rw [sysA,if_neg (by omega),show n+p - n=p by omega,Fld.mulA,mulC (pw _ p)]
theorem sys_iff (X ys:List GF) (n v i:Nat) (s:Nat→GF):sm (n+v) (fun p=>sysA X ys n i p * s p)=sysB X ys v i↔ev (rowF s n) (X.getD i 0)=ys.getD i 0 * ev (eOf s n v) (X.getD i 0):=by
 rw [sys_sum,eOf_ev,mad,sysB]
 constructor
 ·intro h
  rw [← h,addC (ev _ _),← Fld.addA,adds,zadd]
 ·intro h
  rw [h,addC,← Fld.addA,adds,zadd]
section
variable {X ys m:List GF} {k v:Nat}
theorem right_many (hv:(wrI X ys m).length=v):∃ ls:List Nat,ls.Nodup∧(∀ i ∈ ls,i < X.length∧ev m (X.getD i 0)=ys.getD i 0)∧X.length=ls.length+v:=by
 refine ⟨(List.range X.length).filter fun i=>!decide (ev m (X.getD i 0) ≠ ys.getD i 0),List.nodup_range.filter _,fun i hi=>?_,?_⟩
 ·obtain ⟨h1,h2⟩:=List.mem_filter.1 hi
  exact ⟨List.mem_range.1 h1,by simpa using h2⟩
 ·have:=two_parts (fun i=>decide (ev m (X.getD i 0) ≠ ys.getD i 0)) (List.range X.length)
  rw [List.length_range] at this
  have e:(wrI X ys m).length=((List.range X.length).filter fun i=>decide (ev m (X.getD i 0) ≠ ys.getD i 0)).length:=rfl
  omega
theorem sol_tells (hn:X.Nodup) (hm:m.length=k) (hv:(wrI X ys m).length=v) (hk:k+2 * v≤X.length) {s:Nat→GF} (hs:∀ i,i < X.length→sm (k+v+v) (fun p=>sysA X ys (k+v) i p * s p)=sysB X ys v i) :
  (∀ y,ev (rowF s (k+v)) y=ev m y * ev (eOf s (k+v) v) y)∧∀ i ∈ wrI X ys m,ev (eOf s (k+v) v) (X.getD i 0)=0:=by
 have hs':=fun i hi=>(sys_iff X ys (k+v) v i s).1 (hs i hi)
 obtain ⟨p,hp,he⟩:=prod_ex m (eOf s (k+v) v) (by intro h;have:=congrArg List.length h;rw [eOf_len] at this;simp at this)
 obtain ⟨ls,hl,hr,hc⟩:=right_many hv
 have e:rowF s (k+v)=p:=by
  refine agree_many hn (by rw [rowF_len,hp,eOf_len,hm];omega) hl (fun i hi=>(hr i hi).1) (by rw [rowF_len];omega) fun i hi=>?_
  rw [hs' i (hr i hi).1,he,(hr i hi).2]
 have h1:∀ y,ev (rowF s (k+v)) y=ev m y * ev (eOf s (k+v) v) y:=fun y=>by rw [e,he]
 refine ⟨h1,fun i hi=>?_⟩
 obtain ⟨hi1,hi2⟩:=mem_wrI.1 hi
 have h2:=hs' i hi1
 rw [h1] at h2
 have h3:(ev m (X.getD i 0)+ys.getD i 0) * ev (eOf s (k+v) v) (X.getD i 0)=0:=by rw [dam,h2,adds]
 rcases mul_eq0 h3 with h | h
 ·exact absurd (add_eq0 h) hi2
 ·exact h
theorem sol_ex (hn:X.Nodup) (hm:m.length=k) (hv:(wrI X ys m).length=v) (hk:k+2 * v≤X.length):∃ s:Nat→GF,∀ i,i < X.length→sm (k+v+v) (fun p=>sysA X ys (k+v) i p * s p)=sysB X ys v i:=by
 obtain ⟨ws,hws⟩:∃ ws,ws=(wrI X ys m).map fun i=>X.getD i 0:=⟨_,rfl⟩
 have hwl:ws.length=v:=by rw [hws,List.length_map,hv]
 obtain ⟨q,hq,he⟩:=prod_ex m (rts ws) (by intro h;have:=congrArg List.length h;rw [length_rts] at this;simp at this)
 rw [length_rts,hm,hwl] at hq
 obtain ⟨s,hs⟩:∃ s:Nat→GF,s=fun p=>if p < k+v then q.getD p 0 else (rts ws).getD (p - (k+v)) 0:=⟨_,rfl⟩
 have e1:rowF s (k+v)=q:=by
  refine List.ext_getElem (by rw [rowF_len];omega) fun i h1 h2=>?_
  rw [rowF_len] at h1
  simp [rowF,hs,h1,List.getElem?_eq_getElem h2]
 have e2:eOf s (k+v) v=rts ws:=by
  refine List.ext_getElem (by rw [eOf_len,length_rts,hwl]) fun i h1 h2=>?_
  rw [eOf_len] at h1
  have ht:=rts_top ws
  rw [hwl] at ht
  by_cases hi:i < v
  ·have hn':¬ (k+v+i < k+v):=by omega
   simp [eOf,List.getElem_append,rowF_len,hi,rowF,hs,List.getElem?_eq_getElem h2,hn']
  ·obtain rfl:i=v:=by omega
   rw [List.getD_eq_getElem?_getD,List.getElem?_eq_getElem h2] at ht
   simp [eOf,List.getElem_append,rowF_len]
   exact ht.symm
 refine ⟨s,fun i hi=>(sys_iff X ys (k+v) v i s).2 ?_⟩
 rw [e1,e2,he]
 by_cases hw:ev m (X.getD i 0)=ys.getD i 0
 ·rw [hw]
 ·have:ev (rts ws) (X.getD i 0)=0:=ev_rts_zero.2 (by rw [hws];exact List.mem_map.2 ⟨i,mem_wrI.2 ⟨hi,hw⟩,rfl⟩)
  rw [this,mzero,mzero]
theorem sol_one (hn:X.Nodup) (hm:m.length=k) (hv:(wrI X ys m).length=v) (hk:k+2 * v≤X.length) {z:Nat→GF} (hz:∀ i,i < X.length→sm (k+v+v) (fun p=>sysA X ys (k+v) i p * z p)=0):∀ p,p < k+v+v→z p=0:=by
 obtain ⟨s,hs⟩:=sol_ex hn hm hv hk
 have hs2:∀ i,i < X.length→sm (k+v+v) (fun p=>sysA X ys (k+v) i p * (s p+z p))=sysB X ys v i:=fun i hi=>by
  rw [← hs i hi,← addz (sm (k+v+v) fun p=>sysA X ys (k+v) i p * s p),← hz i hi,← sm_add]
  exact sm_congr fun p _=>mad _ _ _
 obtain ⟨h1,h2⟩:=sol_tells hn hm hv hk hs
 obtain ⟨h3,h4⟩:=sol_tells hn hm hv hk hs2
 have hadd:∀ n o x,ev (rowF (fun p=>s (o+p)+z (o+p)) n) x=ev (rowF (fun p=>s (o+p)) n) x+ev (rowF (fun p=>z (o+p)) n) x:=fun n o x=>by
  rw [rowF_ev,rowF_ev,rowF_ev,← sm_add]
  exact sm_congr fun p _=>dam _ _ _
 have hzero:∀ c ∈ rowF (fun p=>z (k+v+p)) v,c=0:=by
  refine vanish_many hn (wrI_nodup X ys m) (fun i hi=>(mem_wrI.1 hi).1) (by rw [rowF_len,hv];exact Nat.le_refl _) fun i hi=>?_
  have a:=h2 i hi
  have b:=h4 i hi
  rw [eOf_ev] at a b
  rw [hadd] at b
  rw [addC (ev _ _+ev _ _),← Fld.addA,addC (pw _ _),a,zadd] at b
  exact b
 have hz2:∀ j,j < v→z (k+v+j)=0:=fun j hj=>hzero _ (List.mem_map.2 ⟨j,List.mem_range.2 hj,rfl⟩)
 have he:∀ y,ev (eOf (fun p=>s p+z p) (k+v) v) y=ev (eOf s (k+v) v) y:=fun y=>by
  rw [eOf_ev,eOf_ev,hadd,ev_zeros hzero,addz]
 have hq:∀ y,ev (rowF z (k+v)) y=0:=fun y=>by
  have a:=h1 y
  have b:=h3 y
  have c:=hadd (k+v) 0 y
  simp only [Nat.zero_add] at c
  rw [he,← a,c] at b
  exact add_cancel (a:=ev (rowF s (k+v)) y) (by rw [b,addz])
 have hz1:∀ c ∈ rowF z (k+v),c=0:=vanish_many hn List.nodup_range (ls:=List.range X.length) (fun i hi=>List.mem_range.1 hi) (by rw [rowF_len,List.length_range];omega) fun i _=>hq _
 intro p hp
 by_cases h:p < k+v
 ·exact hz1 _ (List.mem_map.2 ⟨p,List.mem_range.2 h,rfl⟩)
 ·have:=hz2 (p - (k+v)) (by omega)
  rwa [show k+v+(p - (k+v))=p by omega] at this
theorem div_tells (hn:X.Nodup) (hm:m.length=k) (hv:(wrI X ys m).length=v) (hk:k+2 * v≤X.length) {s:Nat→GF} (hs:∀ i,i < X.length→sm (k+v+v) (fun p=>sysA X ys (k+v) i p * s p)=sysB X ys v i)
  {Q R:List GF} (hd:∀ y,ev (rowF s (k+v)) y=ev Q y * ev (eOf s (k+v) v) y+ev R y) (hR:R.length≤v) (ht:Trimd R) (hQ:Q.length≤k):R=[]∧padTo Q k=m:=by
 obtain ⟨h1,h2⟩:=sol_tells hn hm hv hk hs
 have hR0:R=[]:=trimd_zero ht (vanish_many hn (wrI_nodup X ys m) (fun i hi=>(mem_wrI.1 hi).1) (by rw [hv];exact hR) fun i hi=>by
  have:=hd (X.getD i 0)
  rw [h1,h2 i hi,mzero,mzero,zadd] at this
  exact this.symm)
 refine ⟨hR0,?_⟩
 rw [hR0] at hd
 have hE:∀ y,ev (eOf s (k+v) v) y ≠ 0→ev Q y=ev m y:=fun y hy=>by
  have:=hd y
  rw [h1,ev_nil,addz,mulC,mulC (ev Q y)] at this
  exact (mul_cancel hy this).symm
 have hc:((List.range X.length).filter fun i=>!decide (ev (eOf s (k+v) v) (X.getD i 0) ≠ 0)).length≤v:=by
  refine Nat.le_of_not_lt fun hlt=>?_
  have:=vanish_many (p:=eOf s (k+v) v) hn (List.nodup_range.filter fun i=>!decide (ev (eOf s (k+v) v) (X.getD i 0) ≠ 0)) (fun i hi=>List.mem_range.1 (List.mem_filter.1 hi).1) (by rw [eOf_len];omega) (fun i hi=>by
   have:=(List.mem_filter.1 hi).2
   simpa using this)
  exact one_ne0 (F:=GF) (this 1 (by simp [eOf]))
 have h3:=two_parts (fun i=>decide (ev (eOf s (k+v) v) (X.getD i 0) ≠ 0)) (List.range X.length)
 rw [List.length_range] at h3
 refine agree_many hn (by rw [padTo_len _ hQ,hm]) (List.nodup_range.filter fun i=>decide (ev (eOf s (k+v) v) (X.getD i 0) ≠ 0)) (fun i hi=>List.mem_range.1 (List.mem_filter.1 hi).1) (by rw [padTo_len _ hQ];omega) fun i hi=>?_
 rw [padTo_ev]
 exact hE _ (of_decide_eq_true (List.mem_filter.1 hi).2)
end
theorem ptsRow (xs:List GF) (ps:List Int):rowF (fun i=>xs.getD (ps.getD i 0).toNat 0) ps.length=ptsOf xs ps:=by
 refine List.ext_getElem (by simp [rowF,ptsOf]) fun i h1 h2=>?_
 rw [rowF_len] at h1
 simp [rowF,ptsOf,List.getElem?_eq_getElem h1]
end Go.Proofs.YtcclhhjcejmepaaGreat
/- Rising rows of numbers, one behind the other: the plain laws. -/
namespace Go.Proofs.YtcclhhjcejmepaaGreat
open Go.RowKit Fld
set_option linter.unusedVariables false
set_option linter.unusedSimpArgs false

def Ris (k n:Nat) (r:Nat→Nat):Prop:=(∀ j,j < k→r j < n)∧∀ i,i+1 < k→r i < r (i+1)
def Lx (k:Nat) (r l:Nat→Nat):Prop:=∃ i,i < k∧(∀ j,j < i→r j=l j)∧r i < l i
theorem ris_add {k n:Nat} {r:Nat→Nat} (h:Ris k n r) (i:Nat):∀ d,i+d < k→r i+d≤r (i+d)
 | 0,_=>Nat.le_refl _
 | d+1,hd=>by
  have h1:=ris_add h i d (by omega)
  have h2:=h.2 (i+d) (by omega)
  show r i+(d+1)≤r (i+d+1)
  omega
theorem ris_le {k n:Nat} {r:Nat→Nat} (h:Ris k n r) {j:Nat} (hj:j < k):r j+(k - j)≤n:=by
 have h1:=ris_add h j (k - 1 - j) (by omega)
 have h2:=h.1 (j+(k - 1 - j)) (by omega)
 omega
theorem ris_ge {k n:Nat} {r:Nat→Nat} (h:Ris k n r) {j:Nat} (hj:j < k):j≤r j:=by
 have h1:=ris_add h 0 j (by omega)
 rw [Nat.zero_add] at h1
 omega
theorem lx_or {k:Nat} {r l:Nat→Nat}:∀ (d i:Nat),i+d=k→(∀ j,j < i→r j=l j)→(∀ j,i≤j→j < k→r j≤l j)→(∀ j,j < k→r j=l j) ∨ Lx k r l
 | 0,i,hk,h1,_=>.inl fun j hj=>h1 j (by omega)
 | d+1,i,hk,h1,h2=>by
  rcases Nat.lt_or_eq_of_le (h2 i (Nat.le_refl _) (by omega)) with h | h
  ·exact .inr ⟨i,by omega,h1,h⟩
  ·refine lx_or d (i+1) (by omega) (fun j hj=>?_) (fun j hj hk=>h2 j (by omega) hk)
   rcases Nat.lt_or_eq_of_le (Nat.le_of_lt_succ hj) with e | e
   ·exact h1 j e
   ·rw [e];exact h
def nxt (l:Nat→Nat) (i:Nat):Nat→Nat:=fun j=>if j < i then l j else l i+1+(j - i)
theorem nxt_ris {k n i:Nat} {l:Nat→Nat} (h:Ris k n l) (hi:i < k) (hg:l i+(k - i) < n):Ris k n (nxt l i):=by
 refine ⟨fun j hj=>?_,fun j hj=>?_⟩
 ·unfold nxt
  by_cases e:j < i
  ·rw [if_pos e];exact h.1 j hj
  ·rw [if_neg e];omega
 ·unfold nxt
  by_cases e:j+1 < i
  ·rw [if_pos (by omega),if_pos e];exact h.2 j hj
  ·rw [if_neg e]
   by_cases e2:j < i
   ·rw [if_pos e2]
    have h1:=h.2 j hj
    obtain rfl:i=j+1:=by omega
    omega
   ·rw [if_neg e2];omega
theorem nxt_lx {k n i:Nat} {l:Nat→Nat} (hi:i < k):Lx k l (nxt l i):=⟨i,hi,fun j hj=>by rw [nxt,if_pos hj],by rw [nxt,if_neg (Nat.lt_irrefl _)];omega⟩
theorem nxt_next {k n i:Nat} {l r:Nat→Nat} (hi:i < k) (ht:∀ j,i < j→j < k→n≤l j+(k - j)) (hr:Ris k n r) (hx:Lx k r (nxt l i)):(∀ j,j < k→r j=l j) ∨ Lx k r l:=by
 obtain ⟨p,hp,he,hlt⟩:=hx
 rcases Nat.lt_trichotomy p i with h | h | h
 ·refine .inr ⟨p,hp,fun j hj=>?_,?_⟩
  ·rw [he j hj,nxt,if_pos (by omega)]
  ·rwa [nxt,if_pos h] at hlt
 ·subst h
  rw [nxt,if_neg (Nat.lt_irrefl _)] at hlt
  refine lx_or (k - p) p (by omega) (fun j hj=>by rw [he j hj,nxt,if_pos hj]) fun j hj hk=>?_
  rcases Nat.lt_or_eq_of_le hj with e | e
  ·have h1:=ht j e hk
   have h2:=ris_le hr hk
   omega
  ·rw [← e];omega
 ·exfalso
  have h1:=ris_add hr i (p - i) (by omega)
  rw [show i+(p - i)=p by omega,he i h,nxt,if_neg (Nat.lt_irrefl _)] at h1
  rw [nxt,if_neg (by omega)] at hlt
  omega
theorem last_next {k n:Nat} {l r:Nat→Nat} (ht:∀ j,j < k→n≤l j+(k - j)) (hr:Ris k n r):(∀ j,j < k→r j=l j) ∨ Lx k r l :=
 lx_or k 0 (by omega) (fun j hj=>by omega) fun j _ hk=>by
  have h1:=ht j hk
  have h2:=ris_le hr hk
  omega
theorem first_none {k n:Nat} {r:Nat→Nat} (hr:Ris k n r):¬ Lx k r (fun j=>j):=by
 rintro ⟨i,hi,-,h⟩
 have:=ris_ge hr hi
 simp only [] at h
 omega
theorem first_ris {k n:Nat} (h:k≤n):Ris k n (fun j=>j):=⟨fun j hj=>by simp only [];omega,fun i hi=>by simp only [];omega⟩
def encE (n:Nat) (l:Nat→Nat):Nat→Nat
 | 0=>0
 | k+1=>encE n l k * n+l k
theorem encE_congr {n:Nat} {r l:Nat→Nat}:∀ k,(∀ j,j < k→r j=l j)→encE n r k=encE n l k
 | 0,_=>rfl
 | k+1,h=>by rw [encE,encE,encE_congr k (fun j hj=>h j (by omega)),h k (by omega)]
theorem encE_lt {n:Nat} {l:Nat→Nat}:∀ k,(∀ j,j < k→l j < n)→encE n l k < n ^ k
 | 0,_=>by simp [encE]
 | k+1,h=>by
  have h1:=encE_lt k (fun j hj=>h j (by omega))
  have h2:=h k (by omega)
  have h3:(encE n l k+1) * n≤n ^ k * n:=Nat.mul_le_mul_right n h1
  rw [encE,Nat.pow_succ]
  rw [Nat.succ_mul] at h3
  omega
theorem encE_lx {n:Nat} {r l:Nat→Nat}:∀ k,(∀ j,j < k→r j < n)→Lx k r l→encE n r k < encE n l k
 | 0,_,⟨i,h,_⟩=>by omega
 | k+1,hr,⟨i,hi,he,hlt⟩=>by
  rw [encE,encE]
  by_cases e:i < k
  ·have h1:=encE_lx k (fun j hj=>hr j (by omega)) ⟨i,e,he,hlt⟩
   have h2:=hr k (by omega)
   have h3:(encE n r k+1) * n≤encE n l k * n:=Nat.mul_le_mul_right n h1
   rw [Nat.succ_mul] at h3
   omega
  ·obtain rfl:i=k:=by omega
   rw [encE_congr i he]
   omega
def rowN (k:Nat) (l:Nat→Nat):List Int:=(List.range k).map fun j=>((l j:Nat):Int)
theorem rowN_len (k:Nat) (l:Nat→Nat):(rowN k l).length=k:=by simp [rowN]
theorem rowN_get {k:Nat} {l:Nat→Nat} {j:Nat} (h:j < k):(rowN k l)[j]? = some ((l j:Nat):Int):=by
 rw [rowN,List.getElem?_map,List.getElem?_range h]
 rfl
theorem ris_of_list {n:Nat} {ls:List Nat} {k:Nat} (hs:ls.Pairwise (· < ·)) (hb:∀ i ∈ ls,i < n) (hk:k≤ls.length):∃ r,Ris k n r∧∀ j,j < k→r j ∈ ls:=by
 refine ⟨fun j=>ls.getD j 0,⟨fun j hj=>?_,fun i hi=>?_⟩,fun j hj=>?_⟩
 ·simp only []
  rw [List.getD_eq_getElem?_getD,List.getElem?_eq_getElem (by omega)]
  exact hb _ (List.getElem_mem _)
 ·simp only []
  rw [List.getD_eq_getElem?_getD,List.getElem?_eq_getElem (by omega),List.getD_eq_getElem?_getD,List.getElem?_eq_getElem (by omega)]
  exact List.pairwise_iff_getElem.1 hs i (i+1) (by omega) (by omega) (by omega)
 ·simp only []
  rw [List.getD_eq_getElem?_getD,List.getElem?_eq_getElem (by omega)]
  exact List.getElem_mem _
theorem right_ris {X ys m:List GF} {k t:Nat} (hv:(wrI X ys m).length≤t) (hk:k+t≤X.length):∃ r,Ris k X.length r∧∀ j,j < k→ev m (X.getD (r j) 0)=ys.getD (r j) 0:=by
 have h2:=two_parts (fun i=>decide (ev m (X.getD i 0) ≠ ys.getD i 0)) (List.range X.length)
 rw [List.length_range] at h2
 have e:(wrI X ys m).length=((List.range X.length).filter fun i=>decide (ev m (X.getD i 0) ≠ ys.getD i 0)).length:=rfl
 obtain ⟨r,h3,h4⟩:=ris_of_list (n:=X.length) (k:=k) (ls:=(List.range X.length).filter fun i=>!decide (ev m (X.getD i 0) ≠ ys.getD i 0)) (List.pairwise_lt_range.filter _) (fun i hi=>List.mem_range.1 (List.mem_filter.1 hi).1) (by omega)
 exact ⟨r,h3,fun j hj=>by simpa using (List.mem_filter.1 (h4 j hj)).2⟩
end Go.Proofs.YtcclhhjcejmepaaGreat
/- The places of wrong symbols, rising: the plain laws. -/
namespace Go.Proofs.YtcclhhjcejmepaaGreat
open Go.RowKit Fld
set_option linter.unusedVariables false
set_option linter.unusedSimpArgs false

theorem strict_eq:∀ {a b:List Int},a.Pairwise (· < ·)→b.Pairwise (· < ·)→(∀ x,x ∈ a↔x ∈ b)→a=b
 | [],[],_,_,_=>rfl
 | [],y :: b,_,_,h=>by have:=(h y).2 (by simp);cases this
 | x :: a,[],_,_,h=>by have:=(h x).1 (by simp);cases this
 | x :: a,y :: b,ha,hb,h=>by
  rw [List.pairwise_cons] at ha hb
  have e:x=y:=by
   have h1:=(h x).1 (by simp)
   have h2:=(h y).2 (by simp)
   rcases List.mem_cons.1 h1 with h1 | h1
   ·exact h1
   ·rcases List.mem_cons.1 h2 with h2 | h2
    ·exact h2.symm
    ·have:=ha.1 _ h2
     have:=hb.1 _ h1
     omega
  subst e
  have ih:=strict_eq ha.2 hb.2 fun z=>by
   constructor
   ·intro hz
    rcases List.mem_cons.1 ((h z).1 (List.mem_cons_of_mem _ hz)) with e | e
    ·have:=ha.1 _ hz;omega
    ·exact e
   ·intro hz
    rcases List.mem_cons.1 ((h z).2 (List.mem_cons_of_mem _ hz)) with e | e
    ·have:=hb.1 _ hz;omega
    ·exact e
  rw [ih]
def riseI (l:List Int):List Int:=l.mergeSort fun x y=>decide (x≤y)
theorem riseI_perm (l:List Int):(riseI l).Perm l:=List.mergeSort_perm _ _
theorem riseI_len (l:List Int):(riseI l).length=l.length:=(riseI_perm l).length_eq
theorem riseI_mem {l:List Int} {x:Int}:x ∈ riseI l↔x ∈ l:=(riseI_perm l).mem_iff
theorem riseI_lt {l:List Int} (h:l.Nodup):(riseI l).Pairwise (· < ·):=by
 have h1:(riseI l).Pairwise fun a b=>decide (a≤b)=true:=List.pairwise_mergeSort (fun a b c h1 h2=>by simp only [decide_eq_true_eq] at *;omega) (fun a b=>by simp only [Bool.or_eq_true,decide_eq_true_eq];omega) l
 have h2:(riseI l).Pairwise (· ≠ ·):=(riseI_perm l).nodup_iff.2 h
 refine List.Pairwise.imp ?_ (List.pairwise_and_iff.2 ⟨h1,h2⟩)
 rintro a b ⟨h3,h4⟩
 simp only [decide_eq_true_eq] at h3
 have:a ≠ b:=h4
 omega
noncomputable def wrP (xs:List GF) (ps:List Int) (ys m:List GF):List Int:=(wrI (ptsOf xs ps) ys m).map fun i=>ps.getD i 0
noncomputable def wrS (xs:List GF) (ps:List Int) (ys m:List GF):List Int:=riseI (wrP xs ps ys m)
theorem pts_len (xs:List GF) (ps:List Int):(ptsOf xs ps).length=ps.length:=by simp [ptsOf]
theorem pts_get (xs:List GF) {ps:List Int} {i:Nat} (h:i < ps.length):(ptsOf xs ps).getD i 0=xs.getD (ps.getD i 0).toNat 0:=by
 unfold ptsOf
 rw [List.getD_eq_getElem?_getD,List.getElem?_map,List.getD_eq_getElem?_getD (l:=ps),List.getElem?_eq_getElem h]
 rfl
theorem wrS_len (xs:List GF) (ps:List Int) (ys m:List GF):(wrS xs ps ys m).length=(wrI (ptsOf xs ps) ys m).length:=by rw [wrS,riseI_len,wrP,List.length_map]
theorem getI_inj {l:List Int} (hn:l.Nodup) {i j:Nat} (hi:i < l.length) (hj:j < l.length) (h:l.getD i 0=l.getD j 0):i=j:=by
 rw [List.getD_eq_getElem?_getD,List.getElem?_eq_getElem hi,List.getD_eq_getElem?_getD,List.getElem?_eq_getElem hj] at h
 simp only [Option.getD_some] at h
 rcases Nat.lt_trichotomy i j with e | e | e
 ·exact absurd h (List.pairwise_iff_getElem.1 hn i j hi hj e)
 ·exact e
 ·exact absurd h.symm (List.pairwise_iff_getElem.1 hn j i hj hi e)
theorem wrP_nodup {xs:List GF} {ps:List Int} (ys m:List GF) (hg:ps.Nodup):(wrP xs ps ys m).Nodup :=
 List.pairwise_map.2 ((wrI_nodup _ ys m).imp_of_mem fun {a b} ha hb hne e=>hne (by
  have h1:=(mem_wrI.1 ha).1
  have h2:=(mem_wrI.1 hb).1
  rw [pts_len] at h1 h2
  exact getI_inj hg h1 h2 e))
theorem mem_wrS {xs:List GF} {ps:List Int} {ys m:List GF} {x:Int}:x ∈ wrS xs ps ys m↔∃ i,i < ps.length∧ev m (xs.getD (ps.getD i 0).toNat 0) ≠ ys.getD i 0∧x=ps.getD i 0:=by
 rw [wrS,riseI_mem,wrP,List.mem_map]
 constructor
 ·rintro ⟨i,hi,rfl⟩
  obtain ⟨h1,h2⟩:=mem_wrI.1 hi
  rw [pts_len] at h1
  rw [pts_get xs h1] at h2
  exact ⟨i,h1,h2,rfl⟩
 ·rintro ⟨i,h1,h2,rfl⟩
  exact ⟨i,mem_wrI.2 ⟨by rw [pts_len];exact h1,by rw [pts_get xs h1];exact h2⟩,rfl⟩
noncomputable def inR (ps:List Int) (W ys:List GF) (p i:Nat):List Int:=((List.range i).filter fun i=>decide (ps.getD i 0=(p:Int)) && decide (W.getD p 0 ≠ ys.getD i 0)).map fun _=>(p:Int)
noncomputable def wrR (ps:List Int) (W ys:List GF) (p:Nat):List Int:=(List.range p).flatMap fun p=>inR ps W ys p ps.length
theorem inR_zero (ps:List Int) (W ys:List GF) (p:Nat):inR ps W ys p 0=[]:=rfl
theorem inR_yes {ps:List Int} {W ys:List GF} {p i:Nat} (h1:ps.getD i 0=(p:Int)) (h2:W.getD p 0 ≠ ys.getD i 0):inR ps W ys p (i+1)=inR ps W ys p i ++ [(p:Int)]:=by
 unfold inR
 rw [List.range_succ,List.filter_append,List.map_append,List.filter_cons_of_pos (by rw [decide_eq_true h1,decide_eq_true h2];rfl)]
 rfl
theorem inR_no {ps:List Int} {W ys:List GF} {p i:Nat} (h:ps.getD i 0=(p:Int)→W.getD p 0=ys.getD i 0):inR ps W ys p (i+1)=inR ps W ys p i:=by
 unfold inR
 rw [List.range_succ,List.filter_append,List.map_append,List.filter_cons_of_neg (by
  rw [Bool.and_eq_true,decide_eq_true_eq,decide_eq_true_eq]
  exact fun h2=>h2.2 (h h2.1))]
 simp
theorem wrR_zero (ps:List Int) (W ys:List GF):wrR ps W ys 0=[]:=rfl
theorem wrR_succ (ps:List Int) (W ys:List GF) (p:Nat):wrR ps W ys (p+1)=wrR ps W ys p ++ inR ps W ys p ps.length:=by
 unfold wrR
 rw [List.range_succ,List.flatMap_append]
 simp
theorem mem_inR {ps:List Int} {W ys:List GF} {p n:Nat} {x:Int}:x ∈ inR ps W ys p n↔x=(p:Int)∧∃ i,i < n∧ps.getD i 0=(p:Int)∧W.getD p 0 ≠ ys.getD i 0:=by
 unfold inR
 rw [List.mem_map]
 constructor
 ·rintro ⟨i,hi,rfl⟩
  obtain ⟨h1,h2⟩:=List.mem_filter.1 hi
  rw [Bool.and_eq_true,decide_eq_true_eq,decide_eq_true_eq] at h2
  exact ⟨rfl,i,List.mem_range.1 h1,h2⟩
 ·rintro ⟨rfl,i,h1,h2,h3⟩
  exact ⟨i,List.mem_filter.2 ⟨List.mem_range.2 h1,by rw [decide_eq_true h2,decide_eq_true h3];rfl⟩,rfl⟩
theorem inR_one {ps:List Int} (W ys:List GF) (p:Nat) (hn:ps.Nodup):(inR ps W ys p ps.length).Pairwise (· < ·):=by
 unfold inR
 refine List.pairwise_map.2 ((List.pairwise_lt_range.filter _).imp_of_mem fun {a b} ha hb hab=>?_)
 exfalso
 obtain ⟨h1,h2⟩:=List.mem_filter.1 ha
 obtain ⟨h3,h4⟩:=List.mem_filter.1 hb
 rw [Bool.and_eq_true,decide_eq_true_eq] at h2 h4
 have:=getI_inj hn (List.mem_range.1 h1) (List.mem_range.1 h3) (h2.1.trans h4.1.symm)
 omega
theorem wrR_lt {ps:List Int} (W ys:List GF) (hn:ps.Nodup):∀ p,(wrR ps W ys p).Pairwise (· < ·)∧∀ x ∈ wrR ps W ys p,x < (p:Int)
 | 0=>⟨List.Pairwise.nil,fun x hx=>by cases hx⟩
 | p+1=>by
  obtain ⟨h1,h2⟩:=wrR_lt W ys hn p
  rw [wrR_succ]
  refine ⟨List.pairwise_append.2 ⟨h1,inR_one W ys p hn,fun a ha b hb=>?_⟩,fun x hx=>?_⟩
  ·rw [(mem_inR.1 hb).1]
   exact h2 a ha
  ·rcases List.mem_append.1 hx with h | h
   ·have:=h2 x h;omega
   ·rw [(mem_inR.1 h).1];omega
theorem mem_wrR {ps:List Int} {W ys:List GF} {x:Int}:∀ {n:Nat},x ∈ wrR ps W ys n↔∃ p,p < n∧x=(p:Int)∧∃ i,i < ps.length∧ps.getD i 0=(p:Int)∧W.getD p 0 ≠ ys.getD i 0:=by
 intro n
 unfold wrR
 rw [List.mem_flatMap]
 constructor
 ·rintro ⟨p,hp,hx⟩
  exact ⟨p,List.mem_range.1 hp,mem_inR.1 hx⟩
 ·rintro ⟨p,hp,hx⟩
  exact ⟨p,List.mem_range.2 hp,mem_inR.2 hx⟩
theorem wrR_wrS {xs:List GF} {ps:List Int} (ys m:List GF) (hg:GoodP xs.length ps):wrR ps (xs.map (ev m)) ys xs.length=wrS xs ps ys m:=by
 refine strict_eq (wrR_lt _ ys hg.2 _).1 (riseI_lt (wrP_nodup ys m hg.2)) fun x=>?_
 have hev:∀ p,p < xs.length→(xs.map (ev m)).getD p 0=ev m (xs.getD p 0):=fun p hp=>by
  rw [List.getD_eq_getElem?_getD,List.getElem?_map,List.getD_eq_getElem?_getD (l:=xs),List.getElem?_eq_getElem hp]
  rfl
 refine Iff.trans mem_wrR (Iff.trans ?_ (mem_wrS (xs:=xs) (ps:=ps) (ys:=ys) (m:=m)).symm)
 constructor
 ·rintro ⟨p,hp,rfl,i,h1,h2,h3⟩
  rw [hev p hp] at h3
  exact ⟨i,h1,by rw [h2,Int.toNat_natCast];exact h3,h2.symm⟩
 ·rintro ⟨i,h1,h2,rfl⟩
  have hb:=hg.1 (ps.getD i 0) (by rw [List.getD_eq_getElem?_getD,List.getElem?_eq_getElem h1];exact List.getElem_mem _)
  refine ⟨(ps.getD i 0).toNat,by omega,by omega,i,h1,by omega,?_⟩
  rw [hev _ (by omega)]
  exact h2
def WeTells (xs:List GF) (k:Nat) (ps:List Int) (ys:List GF) (t:Nat) (r:Option (List GF)):Prop :=
 match r with
 | some m=>m.length=k∧(wrS xs ps ys m).length≤t
 | none=>∀ m:List GF,m.length=k→¬ (wrS xs ps ys m).length≤t
theorem weTells_one {xs:List GF} {k t:Nat} {ps:List Int} {ys:List GF} {r r':Option (List GF)} (hn:xs.Nodup) (hg:GoodP xs.length ps) (hk:k+2 * t≤ps.length) (h:WeTells xs k ps ys t r) (h':WeTells xs k ps ys t r'):r=r':=by
 cases r with
 | none=>cases r' with
  | none=>rfl
  | some m=>exact absurd h'.2 (h m h'.1)
 | some m=>cases r' with
  | none=>exact absurd h.2 (h' m h.1)
  | some m' =>
   have h1:=h.2
   have h2:=h'.2
   rw [wrS_len] at h1 h2
   exact congrArg some (wr_one (pts_nodup hn hg) h.1 h'.1 h1 h2 (by rw [pts_len];exact hk))
end Go.Proofs.YtcclhhjcejmepaaGreat
