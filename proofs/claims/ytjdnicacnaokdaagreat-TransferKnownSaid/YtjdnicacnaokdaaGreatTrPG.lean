/-
  How many numbers stand ahead of a row of the upper half of a square: plain laws.
  Shares that nodes store, rows of bytes each: whose are wrong, what they tell: the plain laws.
  Edges of nodes; what nodes store of a word: the plain laws of codes that are repaired by what others store.
  The table of edges: a map whose keys are pairs of nodes; what is told: a map of bytes.
  A code of edges: it is made; its sizes.
-/
import Derived.Test.YtjdnicacnaokdaaGreatBase
import Derived.Test.YtjdnicacnaokdaaGreatWeRefs
import Derived.Test.YtjdnicacnaokdaaGreatSyG
import Derived.Test.YtjdnicacnaokdaaGreatToldG
import Derived.Maps.OwnOps
import Derived.Maps.OwnSet
import Derived.Maps.Views
import Derived.DeepKeys5
import Derived.Test.YtjdnicacnaokdaaGreatKit
/- How many numbers stand ahead of a row of the upper half of a square: plain laws. -/
namespace Go.Proofs.YtjdnicacnaokdaaGreat
set_option linter.unusedVariables false
set_option linter.unusedSimpArgs false

def tri (K:Nat):Nat→Nat
 | 0=>0
 | i+1=>tri K i+(K - i)
theorem tri_succ (K i:Nat):tri K (i+1)=tri K i+(K - i):=rfl
theorem tri_two {K:Nat}:∀ {i:Nat},i≤K→2 * tri K i+i * i=i * (2 * K+1)
 | 0,_=>by simp [tri]
 | i+1,h=>by
  have ih:=tri_two (K:=K) (i:=i) (by omega)
  rw [tri_succ]
  obtain ⟨e,rfl⟩:∃ e,K=i+1+e:=⟨K - (i+1),by omega⟩
  have h1:i+1+e - i=1+e:=by omega
  rw [h1]
  simp only [Nat.mul_add,Nat.add_mul,Nat.mul_one,Nat.one_mul] at ih ⊢
  omega
theorem tri_full (K:Nat):tri K K=K * (K+1) / 2:=by
 have h:=tri_two (Nat.le_refl K)
 have:2 * tri K K=K * (K+1):=by
  have e:K * (2 * K+1)=K * (K+1)+K * K:=by rw [← Nat.mul_add];congr 1;omega
  omega
 omega
theorem tri_mono {K i j:Nat} (h:i≤j):tri K i≤tri K j:=by
 induction j with
 | zero =>
  obtain rfl:i=0:=by omega
  exact Nat.le_refl _
 | succ j ih =>
  rw [tri_succ]
  rcases Nat.lt_or_ge j i with h1 | h1
  ·obtain rfl:i=j+1:=by omega
   rw [tri_succ]
   exact Nat.le_refl _
  ·have:=ih h1
   omega
theorem tri_find {K p:Nat}:∀ {n:Nat},p < tri K n→∃ i,i < n∧∃ e,e < K - i∧p=tri K i+e
 | 0,h=>by simp [tri] at h
 | n+1,h=>by
  rw [tri_succ] at h
  rcases Nat.lt_or_ge p (tri K n) with h1 | h1
  ·obtain ⟨i,hi,e⟩:=tri_find h1
   exact ⟨i,by omega,e⟩
  ·exact ⟨n,by omega,p - tri K n,by omega,by omega⟩
end Go.Proofs.YtjdnicacnaokdaaGreat
/- Shares that nodes store, rows of bytes each: whose are wrong, what they tell: the plain laws. -/
namespace Go.Proofs.YtjdnicacnaokdaaGreat
open Go.RowKit Fld
set_option linter.unusedVariables false
set_option linter.unusedSimpArgs false

theorem rowF_inj {f g:Nat→GF} {n i:Nat} (h:rowF f n=rowF g n) (hi:i < n):f i=g i:=by
 have:=congrArg (·.getD i 0) h
 simp only [rowF_get _ hi] at this
 exact this
def badS (f:Nat→List GF) (s:Sy):Bool:=decide (s.d ≠ f s.node.toNat)
def wrD (f:Nat→List GF) (l:List Sy):List Int:=riseI (Sy.nodes (l.filter (badS f)))
theorem wrD_len (f:Nat→List GF) (l:List Sy):(wrD f l).length=(l.filter (badS f)).length:=by rw [wrD,riseI_len,Sy.nodes,List.length_map]
theorem wrD_le (f:Nat→List GF) (l:List Sy):(wrD f l).length≤l.length:=by rw [wrD_len];exact List.length_filter_le _ _
theorem wrD_mem {f:Nat→List GF} {l:List Sy} {x:Int}:x ∈ wrD f l↔∃ s ∈ l,s.node=x∧s.d ≠ f s.node.toNat:=by
 rw [wrD,riseI_mem]
 unfold Sy.nodes
 rw [List.mem_map]
 constructor
 ·rintro ⟨s,hs,e⟩
  obtain ⟨h1,h2⟩:=List.mem_filter.1 hs
  exact ⟨s,h1,e,of_decide_eq_true h2⟩
 ·rintro ⟨s,hs,e,h⟩
  exact ⟨s,List.mem_filter.2 ⟨hs,decide_eq_true h⟩,e⟩
theorem wrD_lt {f:Nat→List GF} {l:List Sy} (h:(Sy.nodes l).Nodup):(wrD f l).Pairwise (· < ·):=riseI_lt (h.sublist (List.Sublist.map _ List.filter_sublist))
theorem wrD_told {D:List (List GF)} {f:Nat→List GF} {l:List Sy} {zs:List Int} {t N:Nat} (hl:D.length=N) (hf:∀ i,i < N→D.getD i []=f i) (h:ToldIs D t l zs):wrD f l=zs:=by
 refine strict_eq (wrD_lt h.good.2) h.rise fun x=>?_
 rw [wrD_mem,h.mem]
 have hn:∀ s ∈ l,D.getD s.node.toNat []=f s.node.toNat:=fun s hs=>hf _ (by
  have:=h.good.1 s.node (List.mem_map.2 ⟨s,hs,rfl⟩)
  omega)
 constructor
 ·rintro ⟨s,hs,e,h2⟩
  exact ⟨s,hs,e,by rw [hn s hs];exact h2⟩
 ·rintro ⟨s,hs,e,h2⟩
  exact ⟨s,hs,e,by rw [← hn s hs];exact h2⟩
theorem wrD_congr {f g:Nat→List GF} {l:List Sy} {N:Nat} (hg:∀ x ∈ Sy.nodes l,0≤x∧x < (N:Int)) (h:∀ i,i < N→f i=g i):wrD f l=wrD g l:=by
 unfold wrD
 congr 1
 unfold Sy.nodes
 congr 1
 refine List.filter_congr fun s hs=>?_
 have:=hg s.node (List.mem_map.2 ⟨s,hs,rfl⟩)
 unfold badS
 rw [h _ (by omega)]
theorem filter_two {α:Type} (p q:α→Bool):∀ l:List α,l.length≤(l.filter fun s=>!p s && !q s).length+(l.filter p).length+(l.filter q).length
 | []=>by simp
 | s :: l=>by
  have ih:=filter_two p q l
  cases hp:p s <;> cases hq:q s <;> simp [List.filter_cons,hp,hq] <;> omega
section
variable {α:Type} {ok:α→Prop} {f:α→Nat→List GF} {l:List Sy} {t N k:Nat}
def TellD (ok:α→Prop) (f:α→Nat→List GF) (l:List Sy) (t:Nat):Option α→Prop
 | some m=>ok m∧(wrD (f m) l).length≤t
 | none=>∀ m,ok m→¬ (wrD (f m) l).length≤t
def InjD (ok:α→Prop) (f:α→Nat→List GF) (N k:Nat):Prop:=∀ m m',ok m→ok m'→∀ ns:List Nat,ns.Nodup→(∀ i ∈ ns,i < N)→k≤ns.length→(∀ i ∈ ns,f m i=f m' i)→m=m'
theorem nodes_nat {l:List Sy} (hg:GoodP N (Sy.nodes l)):(l.map fun s=>s.node.toNat).Nodup∧∀ i ∈ l.map (fun s=>s.node.toNat),i < N:=by
 constructor
 ·have h:=hg.2
  unfold Sy.nodes at h
  rw [List.nodup_iff_pairwise_ne,List.pairwise_map] at h ⊢
  refine h.imp_of_mem fun {a b} ha hb hne e=>hne ?_
  have h1:=hg.1 a.node (List.mem_map.2 ⟨a,ha,rfl⟩)
  have h2:=hg.1 b.node (List.mem_map.2 ⟨b,hb,rfl⟩)
  omega
 ·intro i hi
  obtain ⟨s,hs,rfl⟩:=List.mem_map.1 hi
  have:=hg.1 s.node (List.mem_map.2 ⟨s,hs,rfl⟩)
  omega
theorem GoodP.filter {N:Nat} {l:List Sy} (hg:GoodP N (Sy.nodes l)) (p:Sy→Bool):GoodP N (Sy.nodes (l.filter p)) :=
 ⟨fun x hx=>hg.1 x ((List.Sublist.map _ List.filter_sublist).mem hx),hg.2.sublist (List.Sublist.map _ List.filter_sublist)⟩
theorem TellD.one {o o':Option α} (hi:InjD ok f N k) (hg:GoodP N (Sy.nodes l)) (hk:k+2 * t≤l.length) (h:TellD ok f l t o) (h':TellD ok f l t o'):o=o':=by
 cases o with
 | none=>cases o' with
  | none=>rfl
  | some m'=>exact absurd h'.2 (h m' h'.1)
 | some m=>cases o' with
  | none=>exact absurd h.2 (h' m h.1)
  | some m' =>
   have h2:=filter_two (badS (f m)) (badS (f m')) l
   have h3:=h.2
   have h4:=h'.2
   rw [wrD_len] at h3 h4
   have hn:=nodes_nat (hg.filter fun s=>!badS (f m) s && !badS (f m') s)
   rw [hi m m' h.1 h'.1 _ hn.1 hn.2 (by rw [List.length_map];omega) fun i hi'=>?_]
   obtain ⟨s,hs,rfl⟩:=List.mem_map.1 hi'
   have hb:=(List.mem_filter.1 hs).2
   simp only [badS,Bool.and_eq_true,Bool.not_eq_true',decide_eq_false_iff_not,ne_eq,Decidable.not_not] at hb
   rw [← hb.1,hb.2]
theorem right_risD {g:Nat→List GF} (h:(l.filter (badS g)).length≤t) (hk:k+t≤l.length):∃ r,Ris k l.length r∧∀ j,j < k→∀ s,l[r j]? = some s→s.d=g s.node.toNat:=by
 have h2:=two_parts (fun i=>match l[i]? with | some s=>badS g s | none=>false) (List.range l.length)
 have h3:((List.range l.length).filter fun i=>match l[i]? with | some s=>badS g s | none=>false).length=(l.filter (badS g)).length:=by
  have e:l.filter (badS g)=(((List.range l.length).filter fun i=>match l[i]? with | some s=>badS g s | none=>false).map fun i=>l.getD i default):=by
   have hl:l=(List.range l.length).map fun i=>l.getD i default:=by
    refine List.ext_getElem (by simp) fun i h1 h2=>?_
    simp [List.getD_eq_getElem?_getD,List.getElem?_eq_getElem h1]
   conv=>lhs;rw [hl]
   rw [List.filter_map]
   congr 1
   refine List.filter_congr fun i hi=>?_
   have hi:=List.mem_range.1 hi
   simp [List.getD_eq_getElem?_getD,List.getElem?_eq_getElem hi]
  rw [e,List.length_map]
 rw [List.length_range] at h2
 obtain ⟨r,hr,hf⟩:=ris_of_list (n:=l.length) (k:=k) (ls:=(List.range l.length).filter fun i=>!(match l[i]? with | some s=>badS g s | none=>false)) (List.pairwise_lt_range.filter _) (fun i hi=>List.mem_range.1 (List.mem_filter.1 hi).1) (by omega)
 refine ⟨r,hr,fun j hj s hs=>?_⟩
 have:=(List.mem_filter.1 (hf j hj)).2
 rw [hs] at this
 simp only [Bool.not_eq_true'] at this
 have h5:=of_decide_eq_false this
 exact Decidable.not_not.1 h5
def FailD (ok:α→Prop) (f:α→Nat→List GF) (l:List Sy) (k t:Nat) (r:Nat→Nat):Prop:=∀ m,ok m→(∀ j,j < k→∀ s,l[r j]? = some s→s.d=f m s.node.toNat)→¬ (wrD (f m) l).length≤t
theorem all_failD (hk:k+t≤l.length) (h:∀ r,Ris k l.length r→FailD ok f l k t r):TellD ok f l t none:=fun m hm hw=>by
 have h2:=hw
 rw [wrD_len] at h2
 obtain ⟨r,hr,hf⟩:=right_risD h2 hk
 exact h r hr m hm hf hw
theorem FailD.congr {r r':Nat→Nat} (h:∀ j,j < k→r j=r' j) (hf:FailD ok f l k t r'):FailD ok f l k t r:=fun m hm hr=>hf m hm fun j hj s hs=>hr j hj s (by rw [h j hj];exact hs)
theorem failD_one {r:Nat→Nat} {m:α} (hi:InjD ok f N k) (hg:GoodP N (Sy.nodes l)) (h:Ris k l.length r) (hm:ok m) (hr:∀ j,j < k→∀ s,l[r j]? = some s→s.d=f m s.node.toNat) (hw:¬ (wrD (f m) l).length≤t):FailD ok f l k t r:=fun m' hm' hr'=>by
 have hs:∀ j,j < k→∃ s,l[r j]? = some s:=fun j hj=>⟨_,List.getElem?_eq_getElem (h.1 j hj)⟩
 have e:m'=m:=by
  refine hi m' m hm' hm ((List.range k).map fun j=>((Sy.nodes l).getD (r j) 0).toNat) ?_ ?_ (by simp) fun i hi=>?_
  ·refine List.pairwise_map.2 (List.nodup_range.imp_of_mem fun {a b} ha hb hne e=>hne ?_)
   have ha:=List.mem_range.1 ha
   have hb:=List.mem_range.1 hb
   have hla:r a < (Sy.nodes l).length:=by simpa [Sy.nodes] using h.1 a ha
   have hlb:r b < (Sy.nodes l).length:=by simpa [Sy.nodes] using h.1 b hb
   have g1:=hg.1 ((Sy.nodes l).getD (r a) 0) (by rw [List.getD_eq_getElem?_getD,List.getElem?_eq_getElem hla];exact List.getElem_mem _)
   have g2:=hg.1 ((Sy.nodes l).getD (r b) 0) (by rw [List.getD_eq_getElem?_getD,List.getElem?_eq_getElem hlb];exact List.getElem_mem _)
   exact ris_inj h ha hb (getI_inj hg.2 hla hlb (by omega))
  ·intro i hi
   obtain ⟨j,hj,rfl⟩:=List.mem_map.1 hi
   have hj:=List.mem_range.1 hj
   have hla:r j < (Sy.nodes l).length:=by simpa [Sy.nodes] using h.1 j hj
   have g1:=hg.1 ((Sy.nodes l).getD (r j) 0) (by rw [List.getD_eq_getElem?_getD,List.getElem?_eq_getElem hla];exact List.getElem_mem _)
   omega
  ·obtain ⟨j,hj,rfl⟩:=List.mem_map.1 hi
   have hj:=List.mem_range.1 hj
   obtain ⟨s,hsj⟩:=hs j hj
   have hn:(Sy.nodes l).getD (r j) 0=s.node:=by rw [Sy.nodes,List.getD_eq_getElem?_getD,List.getElem?_map,hsj];rfl
   rw [hn,← hr j hj s hsj,← hr' j hj s hsj]
 rw [e]
 exact hw
end
end Go.Proofs.YtjdnicacnaokdaaGreat
/- Edges of nodes; what nodes store of a word: the plain laws of codes that are repaired by what others store. -/
namespace Go.Proofs.YtjdnicacnaokdaaGreat
open Go.RowKit Fld
set_option linter.unusedVariables false
set_option linter.unusedSimpArgs false

def eE (n i j:Nat):Nat:=tri (n - 1) (min i j)+(max i j - min i j - 1)
def eN (n:Nat):Nat:=tri (n - 1) (n - 1)
theorem eE_comm (n i j:Nat):eE n i j=eE n j i:=by unfold eE;rw [Nat.min_comm,Nat.max_comm]
theorem eE_le {n a b:Nat} (h:a < b):eE n a b=tri (n - 1) a+(b - a - 1):=by unfold eE;rw [Nat.min_eq_left (by omega),Nat.max_eq_right (by omega)]
theorem eE_up {n a b:Nat} (h:a < b) (hb:b < n):eE n a b < tri (n - 1) (a+1):=by rw [eE_le h,tri_succ];omega
theorem eE_lo {n a b:Nat} (h:a < b):tri (n - 1) a≤eE n a b:=by rw [eE_le h];omega
theorem eE_inj1 {n a b c d:Nat} (h:a < b) (hb:b < n) (h':c < d) (hd:d < n) (e:eE n a b=eE n c d):a=c∧b=d:=by
 have h1:=eE_up h hb
 have h2:=eE_up h' hd
 have h3:=eE_lo (n:=n) h
 have h4:=eE_lo (n:=n) h'
 rcases Nat.lt_trichotomy a c with hlt | rfl | hlt
 ·have:=tri_mono (K:=n - 1) (show a+1≤c from hlt)
  omega
 ·rw [eE_le h,eE_le h'] at e
  omega
 ·have:=tri_mono (K:=n - 1) (show c+1≤a from hlt)
  omega
theorem eE_inj {n i j a b:Nat} (hij:i ≠ j) (hab:a ≠ b) (hi:i < n) (hj:j < n) (ha:a < n) (hb:b < n) (e:eE n i j=eE n a b):i=a∧j=b ∨ i=b∧j=a:=by
 rcases Nat.lt_or_ge i j with h | h <;> rcases Nat.lt_or_ge a b with h' | h'
 ·exact .inl (eE_inj1 h hj h' hb e)
 ·rw [eE_comm n a b] at e
  have:=eE_inj1 h hj (show b < a by omega) ha e
  omega
 ·rw [eE_comm n i j] at e
  have:=eE_inj1 (show j < i by omega) hi h' hb e
  omega
 ·rw [eE_comm n i j,eE_comm n a b] at e
  have:=eE_inj1 (show j < i by omega) hi (show b < a by omega) ha e
  omega
theorem eE_lt {n i j:Nat} (hij:i ≠ j) (hi:i < n) (hj:j < n):eE n i j < eN n:=by
 unfold eN
 rcases Nat.lt_or_ge i j with h | h
 ·exact Nat.lt_of_lt_of_le (eE_up h hj) (tri_mono (by omega))
 ·rw [eE_comm]
  exact Nat.lt_of_lt_of_le (eE_up (show j < i by omega) hi) (tri_mono (by omega))
theorem eN_eq (n:Nat):eN n=n * (n - 1) / 2:=by
 unfold eN
 rw [tri_full]
 cases n with
 | zero=>rfl
 | succ n=>rw [Nat.add_sub_cancel,Nat.mul_comm]
theorem eN_le {n:Nat} (h:n≤23):eN n≤253:=by
 rw [eN_eq]
 have h6:n * (n - 1)≤23 * 22:=Nat.mul_le_mul h (by omega)
 omega
def trB (n k:Nat):Nat:=tri (n - 1) k
theorem trB_eq {n k:Nat} (h:k < n):trB n k=k * (n - 1) - k * (k - 1) / 2:=by
 have h1:=tri_two (K:=n - 1) (i:=k) (by omega)
 unfold trB
 obtain ⟨m,rfl⟩:∃ m,n=m+1:=⟨n - 1,by omega⟩
 rw [Nat.add_sub_cancel] at h1 ⊢
 cases k with
 | zero=>simp [tri]
 | succ k =>
  rw [Nat.add_sub_cancel]
  have h2:(k+1) * k % 2=0:=by
   rcases Nat.mod_two_eq_zero_or_one k with h | h
   ·rw [Nat.mul_mod,h,Nat.mul_zero]
   ·rw [Nat.mul_mod,Nat.add_mod,h]
  have h3:(k+1) * (2 * m+1)=2 * ((k+1) * m)+(k+1):=by rw [Nat.mul_add,Nat.mul_one,Nat.mul_left_comm]
  have h4:(k+1) * (k+1)=(k+1) * k+(k+1):=by rw [Nat.mul_add,Nat.mul_one]
  omega
theorem trB_pos {n k:Nat} (hk:1≤k) (h:k < n):1≤trB n k:=by
 unfold trB
 have:=tri_mono (K:=n - 1) hk
 have h1:tri (n - 1) 1=n - 1:=by simp [tri]
 omega
theorem trB_le {n k:Nat} (h:k < n):trB n k≤eN n:=tri_mono (by omega)
def othN (j p:Nat):Nat:=if p < j then p else p+1
def plcN (j o:Nat):Nat:=if o < j then o else o - 1
theorem oth_plc {j o:Nat} (h:o ≠ j):othN j (plcN j o)=o:=by
 unfold othN plcN
 by_cases h2:o < j
 ·rw [if_pos h2,if_pos h2]
 ·rw [if_neg h2,if_neg (by omega)]
  omega
theorem plc_oth (j p:Nat):plcN j (othN j p)=p:=by
 unfold othN plcN
 by_cases h2:p < j
 ·rw [if_pos h2,if_pos h2]
 ·rw [if_neg h2,if_neg (by omega)]
  omega
theorem othN_ne (j p:Nat):othN j p ≠ j:=by unfold othN;split <;> omega
theorem oth_lt {n j p:Nat} (hp:p < n - 1):othN j p < n:=by unfold othN;split <;> omega
theorem plc_lt {n j o:Nat} (h:o ≠ j) (ho:o < n) (hj:j < n):plcN j o < n - 1:=by unfold plcN;split <;> omega
noncomputable def trSh (n:Nat) (xs m:List GF) (j:Nat):List GF:=rowF (fun p=>ev m (xs.getD (eE n j (othN j p)) 0)) (n - 1)
theorem trSh_len (n:Nat) (xs m:List GF) (j:Nat):(trSh n xs m j).length=n - 1:=rowF_len _ _
noncomputable def addT (S:List (Nat × GF) × Bool) (e:Nat) (b:GF):List (Nat × GF) × Bool :=
 match S.1.lookup e with
 | some c=>(S.1,S.2 || decide (c ≠ b))
 | none=>(S.1 ++ [(e,b)],S.2)
noncomputable def rowT (n:Nat) (s:Sy) (S:List (Nat × GF) × Bool):Nat→List (Nat × GF) × Bool
 | 0=>S
 | o+1=>if o=s.node.toNat then rowT n s S o else addT (rowT n s S o) (eE n s.node.toNat o) (s.d.getD (plcN s.node.toNat o) 0)
noncomputable def allT (n:Nat) (l:List Sy):Nat→List (Nat × GF) × Bool
 | 0=>([],false)
 | i+1=>rowT n (l.getD i default) (allT n l i) n
structure TI (P:Nat→GF→Prop) (S:List (Nat × GF) × Bool):Prop where
 nd:(S.1.map Prod.fst).Nodup
 sub:∀ p ∈ S.1,P p.1 p.2
 all:∀ e b,P e b→e ∈ S.1.map Prod.fst
 ap:S.2=false↔∀ e b,P e b→(e,b) ∈ S.1
theorem lookup_some {l:List (Nat × GF)} {e:Nat} {c:GF} (h:l.lookup e=some c):(e,c) ∈ l:=by
 induction l with
 | nil=>simp at h
 | cons a l ih =>
  obtain ⟨x,y⟩:=a
  rw [List.lookup_cons] at h
  split at h
  ·rename_i h2
   simp at h2 h
   subst h2 h
   exact List.mem_cons_self
  ·exact List.mem_cons_of_mem _ (ih h)
theorem lookup_none {l:List (Nat × GF)} {e:Nat} (h:l.lookup e=none):e ∉ l.map Prod.fst:=by
 induction l with
 | nil=>simp
 | cons a l ih =>
  obtain ⟨x,y⟩:=a
  rw [List.lookup_cons] at h
  split at h
  ·cases h
  ·rename_i h2
   simp at h2
   rw [List.map_cons,List.mem_cons]
   rintro (h3 | h3)
   ·exact h2 h3
   ·exact ih h h3
theorem fst_one {l:List (Nat × GF)} (h:(l.map Prod.fst).Nodup) {e:Nat} {b c:GF} (hb:(e,b) ∈ l) (hc:(e,c) ∈ l):b=c:=by
 induction l with
 | nil=>cases hb
 | cons a l ih =>
  rw [List.map_cons,List.nodup_cons] at h
  rcases List.mem_cons.1 hb with h1 | h1 <;> rcases List.mem_cons.1 hc with h2 | h2
  ·rw [← h1] at h2;exact (Prod.mk.inj h2).2.symm
  ·subst h1;exact absurd (show (e,b).1 ∈ l.map Prod.fst from List.mem_map.2 ⟨(e,c),h2,rfl⟩) h.1
  ·subst h2;exact absurd (show (e,c).1 ∈ l.map Prod.fst from List.mem_map.2 ⟨(e,b),h1,rfl⟩) h.1
  ·exact ih h.2 h1 h2
theorem TI.add {P:Nat→GF→Prop} {S:List (Nat × GF) × Bool} (h:TI P S) (e:Nat) (b:GF):TI (fun e' b'=>P e' b' ∨ e'=e∧b'=b) (addT S e b):=by
 unfold addT
 cases hl:S.1.lookup e with
 | some c =>
  have hc:=lookup_some hl
  refine ⟨h.nd,fun p hp=>.inl (h.sub p hp),fun e' b' hp=>?_,?_⟩
  ·rcases hp with hp | ⟨rfl,rfl⟩
   ·exact h.all _ _ hp
   ·exact List.mem_map.2 ⟨_,hc,rfl⟩
  ·show (S.2 || decide (c ≠ b))=false↔_
   rw [Bool.or_eq_false_iff,h.ap,decide_eq_false_iff_not,Decidable.not_not]
   constructor
   ·rintro ⟨h1,rfl⟩ e' b' (h2 | ⟨rfl,rfl⟩)
    ·exact h1 _ _ h2
    ·exact hc
   ·intro h1
    exact ⟨fun e' b' h2=>h1 _ _ (.inl h2),fst_one h.nd hc (h1 _ _ (.inr ⟨rfl,rfl⟩))⟩
 | none =>
  have hn:=lookup_none hl
  refine ⟨?_,fun p hp=>?_,fun e' b' hp=>?_,?_⟩
  ·show ((S.1 ++ [(e,b)]).map Prod.fst).Nodup
   rw [List.map_append,List.nodup_append]
   exact ⟨h.nd,by simp,fun x hx y hy=>by simp at hy;subst hy;exact fun e2=>hn (e2 ▸ hx)⟩
  ·rcases List.mem_append.1 hp with hp | hp
   ·exact .inl (h.sub p hp)
   ·rw [List.mem_singleton.1 hp];exact .inr ⟨rfl,rfl⟩
  ·show e' ∈ (S.1 ++ [(e,b)]).map Prod.fst
   rw [List.map_append,List.mem_append]
   rcases hp with hp | ⟨rfl,rfl⟩
   ·exact .inl (h.all _ _ hp)
   ·exact .inr (by simp)
  ·show S.2=false↔∀ e' b',_→(e',b') ∈ S.1 ++ [(e,b)]
   rw [h.ap]
   constructor
   ·rintro h1 e' b' (h2 | ⟨rfl,rfl⟩)
    ·exact List.mem_append.2 (.inl (h1 _ _ h2))
    ·exact List.mem_append.2 (.inr (by simp))
   ·intro h1 e' b' h2
    rcases List.mem_append.1 (h1 _ _ (.inl h2)) with h3 | h3
    ·exact h3
    ·obtain ⟨rfl,rfl⟩:=Prod.mk.inj (List.mem_singleton.1 h3)
     exact absurd (h.all _ _ h2) hn
theorem TI.congr {P Q:Nat→GF→Prop} {S:List (Nat × GF) × Bool} (h:TI P S) (e:∀ a b,P a b↔Q a b):TI Q S :=
 ⟨h.nd,fun p hp=>(e _ _).1 (h.sub p hp),fun a b hq=>h.all a b ((e a b).2 hq),h.ap.trans ⟨fun g a b hq=>g a b ((e a b).2 hq),fun g a b hp=>g a b ((e a b).1 hp)⟩⟩
def saysT (n:Nat) (s:Sy) (m e:Nat) (b:GF):Prop:=∃ o,o < m∧o ≠ s.node.toNat∧e=eE n s.node.toNat o∧b=s.d.getD (plcN s.node.toNat o) 0
theorem TI.row {P:Nat→GF→Prop} {S:List (Nat × GF) × Bool} (h:TI P S) (n:Nat) (s:Sy):∀ m,TI (fun e b=>P e b ∨ saysT n s m e b) (rowT n s S m)
 | 0=>h.congr fun e b=>⟨.inl,fun h=>h.elim id fun ⟨o,ho,_⟩=>absurd ho (Nat.not_lt_zero _)⟩
 | m+1=>by
  have ih:=TI.row h n s m
  rw [rowT]
  split
  ·rename_i hm
   refine ih.congr fun e b=>or_congr_right ⟨fun ⟨o,ho,h2⟩=>⟨o,by omega,h2⟩,fun ⟨o,ho,h2,h3⟩=>⟨o,by omega,h2,h3⟩⟩
  ·rename_i hm
   refine (ih.add _ _).congr fun e b=>?_
   rw [or_assoc]
   refine or_congr_right ⟨?_,?_⟩
   ·rintro (⟨o,ho,h2⟩ | ⟨rfl,rfl⟩)
    ·exact ⟨o,by omega,h2⟩
    ·exact ⟨m,by omega,hm,rfl,rfl⟩
   ·rintro ⟨o,ho,h2,h3,h4⟩
    rcases Nat.lt_or_ge o m with h5 | h5
    ·exact .inl ⟨o,h5,h2,h3,h4⟩
    ·obtain rfl:o=m:=by omega
     exact .inr ⟨h3,h4⟩
def toldT (n:Nat) (l:List Sy) (e:Nat) (b:GF):Prop:=∃ s ∈ l,saysT n s n e b
theorem allT_inv (n:Nat) (l:List Sy):∀ {i:Nat},i≤l.length→TI (toldT n (l.take i)) (allT n l i)
 | 0,_=>⟨by simp [allT],(fun p hp=>by cases hp),(fun e b ⟨s,hs,_⟩=>by simp at hs),⟨(fun _ e b ⟨s,hs,_⟩=>by simp at hs),fun _=>rfl⟩⟩
 | i+1,h=>by
  have hs:l[i]? = some l[i]:=List.getElem?_eq_getElem h
  have hd:l.getD i default=l[i]:=by rw [List.getD_eq_getElem?_getD,hs];rfl
  rw [allT,hd]
  refine ((allT_inv n l (by omega:i≤l.length)).row n l[i] n).congr fun e b=>?_
  unfold toldT
  rw [List.take_add_one,hs]
  constructor
  ·rintro (⟨s,h1,h2⟩ | h2)
   ·exact ⟨s,List.mem_append.2 (.inl h1),h2⟩
   ·exact ⟨_,List.mem_append.2 (.inr (by simp)),h2⟩
  ·rintro ⟨s,h1,h2⟩
   rcases List.mem_append.1 h1 with h1 | h1
   ·exact .inl ⟨s,h1,h2⟩
   ·simp at h1;subst h1;exact .inr h2
def TrTell (n B:Nat) (xs:List GF) (l:List Sy):Option (List GF)→Prop
 | some m=>m.length=B∧∀ s ∈ l,s.d=trSh n xs m s.node.toNat
 | none=>∀ m:List GF,m.length=B→¬ ∀ s ∈ l,s.d=trSh n xs m s.node.toNat
theorem told_iff {n:Nat} {xs m:List GF} {l:List Sy} (hg:GoodP n (Sy.nodes l)) (hl:∀ s ∈ l,s.d.length=n - 1) :
  (∀ e b,toldT n l e b→ev m (xs.getD e 0)=b)↔∀ s ∈ l,s.d=trSh n xs m s.node.toNat:=by
 constructor
 ·intro h s hs
  have hn:=hg.1 s.node (List.mem_map.2 ⟨s,hs,rfl⟩)
  refine List.ext_getElem (by rw [hl s hs,trSh_len]) fun p h1 h2=>?_
  have hp:p < n - 1:=by rw [← hl s hs];exact h1
  have:=h _ _ ⟨s,hs,othN s.node.toNat p,oth_lt hp,othN_ne _ _,rfl,rfl⟩
  have h4:s.d.getD p 0=s.d[p]:=by rw [List.getD_eq_getElem?_getD,List.getElem?_eq_getElem h1];rfl
  rw [plc_oth,h4] at this
  have h3:(trSh n xs m s.node.toNat)[p]=(trSh n xs m s.node.toNat).getD p 0:=by rw [List.getD_eq_getElem?_getD,List.getElem?_eq_getElem h2];rfl
  rw [h3,trSh,rowF_get _ hp,this]
 ·rintro h e b ⟨s,hs,o,ho,hne,rfl,rfl⟩
  have hn:=hg.1 s.node (List.mem_map.2 ⟨s,hs,rfl⟩)
  rw [h s hs,trSh,rowF_get _ (plc_lt hne ho (by omega)),oth_plc hne]
theorem TI.fits {P:Nat→GF→Prop} {S:List (Nat × GF) × Bool} (h:TI P S) (f:Nat→GF):(S.2=false∧∀ p ∈ S.1,f p.1=p.2)↔∀ e b,P e b→f e=b:=by
 constructor
 ·rintro ⟨h1,h2⟩ e b hp
  exact h2 _ (h.ap.1 h1 e b hp)
 ·intro h1
  refine ⟨h.ap.2 fun e b hp=>?_,fun p hp=>h1 _ _ (h.sub p hp)⟩
  obtain ⟨⟨e',c⟩,hc,rfl⟩:=List.mem_map.1 (h.all e b hp)
  have h2:=h1 _ _ (h.sub _ hc)
  rw [h1 _ _ hp] at h2
  rw [h2];exact hc
theorem fits_iff {xs m:List GF} {B:Nat} {T:List (Nat × GF)}:Fits xs B (T.map fun p=>(p.1:Int)) (T.map Prod.snd) m↔m.length=B∧∀ p ∈ T,ev m (xs.getD p.1 0)=p.2:=by
 unfold Fits
 refine and_congr_right fun _=>⟨fun h p hp=>?_,fun h i hi=>?_⟩
 ·obtain ⟨i,hi,rfl⟩:=List.getElem_of_mem hp
  have:=h i (by rw [List.length_map];exact hi)
  simpa [List.getD_eq_getElem?_getD,List.getElem?_eq_getElem hi] using this
 ·rw [List.length_map] at hi
  have:=h T[i] (List.getElem_mem _)
  simpa [List.getD_eq_getElem?_getD,List.getElem?_eq_getElem hi] using this
def edL (n:Nat):List Nat→List Nat
 | []=>[]
 | a :: l=>((List.range n).filter fun o=>decide (o ∉ a :: l)).map (eE n a) ++ edL n l
theorem edL_mem {n e:Nat}:∀ {ns:List Nat},e ∈ edL n ns→(∀ a ∈ ns,a < n)→∃ a ∈ ns,∃ o,o < n∧o ≠ a∧e=eE n a o
 | [],h,_=>by cases h
 | a :: l,h,hn=>by
  rw [edL] at h
  rcases List.mem_append.1 h with h | h
  ·obtain ⟨o,ho,rfl⟩:=List.mem_map.1 h
   obtain ⟨h1,h2⟩:=List.mem_filter.1 ho
   have h2:=of_decide_eq_true h2
   exact ⟨a,List.mem_cons_self,o,List.mem_range.1 h1,fun e=>h2 (by rw [e];exact List.mem_cons_self),rfl⟩
  ·obtain ⟨b,hb,o,h3⟩:=edL_mem h fun a ha=>hn a (List.mem_cons_of_mem _ ha)
   exact ⟨b,List.mem_cons_of_mem _ hb,o,h3⟩
theorem cnt_not {n:Nat}:∀ {L:List Nat},L.Nodup→(∀ x ∈ L,x < n)→((List.range n).filter fun o=>decide (o ∉ L)).length+L.length=n
 | [],_,_=>by rw [List.filter_eq_self.2 (fun _ _=>by simp)];simp
 | a :: l,h,hn=>by
  rw [List.nodup_cons] at h
  have ih:=cnt_not h.2 fun x hx=>hn x (List.mem_cons_of_mem _ hx)
  have h1:a ∈ (List.range n).filter fun o=>decide (o ∉ l):=List.mem_filter.2 ⟨List.mem_range.2 (hn a List.mem_cons_self),decide_eq_true h.1⟩
  have h2:((List.range n).filter fun o=>decide (o ∉ a :: l))=((List.range n).filter fun o=>decide (o ∉ l)).erase a:=by
   rw [List.Nodup.erase_eq_filter (List.nodup_range.filter _),List.filter_filter]
   refine List.filter_congr fun x _=>?_
   by_cases e:x=a <;> simp [e]
  rw [h2,List.length_erase_of_mem h1,List.length_cons]
  have:=List.length_pos_of_mem h1
  omega
theorem edL_len {n:Nat}:∀ {ns:List Nat},ns.Nodup→(∀ a ∈ ns,a < n)→(edL n ns).length=tri (n - 1) ns.length
 | [],_,_=>rfl
 | a :: l,h,hn=>by
  have h1:=cnt_not h hn
  rw [List.nodup_cons] at h
  rw [edL,List.length_append,List.length_map,edL_len h.2 fun x hx=>hn x (List.mem_cons_of_mem _ hx),List.length_cons,tri_succ]
  rw [List.length_cons] at h1
  omega
theorem edL_nodup {n:Nat}:∀ {ns:List Nat},ns.Nodup→(∀ a ∈ ns,a < n)→(edL n ns).Nodup
 | [],_,_=>List.nodup_nil
 | a :: l,h,hn=>by
  rw [List.nodup_cons] at h
  have ha:=hn a List.mem_cons_self
  have hl:∀ x ∈ l,x < n:=fun x hx=>hn x (List.mem_cons_of_mem _ hx)
  rw [edL,List.nodup_append]
  refine ⟨?_,edL_nodup h.2 hl,?_⟩
  ·rw [List.nodup_iff_pairwise_ne,List.pairwise_map]
   refine (List.nodup_range.filter _).imp_of_mem fun {x y} hx hy hne e=>hne ?_
   obtain ⟨hx1,hx2⟩:=List.mem_filter.1 hx
   obtain ⟨hy1,hy2⟩:=List.mem_filter.1 hy
   have hx2:=of_decide_eq_true hx2
   have hy2:=of_decide_eq_true hy2
   rw [List.mem_cons,not_or] at hx2 hy2
   have:=eE_inj (Ne.symm hx2.1) (Ne.symm hy2.1) ha (List.mem_range.1 hx1) ha (List.mem_range.1 hy1) e
   omega
  ·intro x hx y hy e
   subst e
   obtain ⟨o,ho,rfl⟩:=List.mem_map.1 hx
   obtain ⟨h1,h2⟩:=List.mem_filter.1 ho
   have h2:=of_decide_eq_true h2
   rw [List.mem_cons,not_or] at h2
   obtain ⟨b,hb,p,hp,hpb,e⟩:=edL_mem hy hl
   rcases eE_inj (Ne.symm h2.1) (Ne.symm hpb) ha (List.mem_range.1 h1) (hl b hb) hp e with ⟨rfl,_⟩ | ⟨_,rfl⟩
   ·exact h.1 hb
   ·exact h2.2 hb
theorem ev_many {xs m m':List GF} {E:List Nat} (hx:xs.Nodup) (hE:E.Nodup) (hb:∀ e ∈ E,e < xs.length) (hm:m.length=m'.length) (hl:m.length≤E.length) (h:∀ e ∈ E,ev m (xs.getD e 0)=ev m' (xs.getD e 0)):m=m':=by
 have hX:(E.map fun e=>xs.getD e 0).Nodup:=List.pairwise_map.2 (hE.imp_of_mem fun {a b} ha hb' hne e=>hne (getD_inj hx (hb a ha) (hb b hb') e))
 exact ev_inj hX hm (by rw [List.length_map];exact hl) fun x hx=>by
  obtain ⟨e,he,rfl⟩:=List.mem_map.1 hx
  exact h e he
theorem TrTell.one {n k:Nat} {xs:List GF} {l:List Sy} {o o':Option (List GF)} (hx:xs.Nodup) (hxl:xs.length=eN n) (hg:GoodP n (Sy.nodes l)) (hk:k≤l.length) (h:TrTell n (trB n k) xs l o) (h':TrTell n (trB n k) xs l o'):o=o':=by
 cases o with
 | none=>cases o' with
  | none=>rfl
  | some m'=>exact absurd h'.2 (h m' h'.1)
 | some m=>cases o' with
  | none=>exact absurd h.2 (h' m h.1)
  | some m' =>
   have hn:=nodes_nat hg
   have hb:∀ e ∈ edL n (l.map fun s=>s.node.toNat),e < xs.length:=fun e he=>by
    obtain ⟨a,ha,p,hp,hne,rfl⟩:=edL_mem he hn.2
    rw [hxl]
    exact eE_lt (Ne.symm hne) (hn.2 a ha) hp
   have hl:m.length≤(edL n (l.map fun s=>s.node.toNat)).length:=by
    rw [h.1,edL_len hn.1 hn.2,List.length_map]
    exact tri_mono hk
   rw [ev_many hx (edL_nodup hn.1 hn.2) hb (h.1.trans h'.1.symm) hl fun e he=>?_]
   obtain ⟨a,ha,p,hp,hne,rfl⟩:=edL_mem he hn.2
   obtain ⟨s,hs,rfl⟩:=List.mem_map.1 ha
   have e1:=(h.2 s hs).symm.trans (h'.2 s hs)
   have:=rowF_inj (f:=fun p=>ev m (xs.getD (eE n s.node.toNat (othN s.node.toNat p)) 0)) e1 (plc_lt hne hp (hn.2 _ ha))
   simpa only [oth_plc hne] using this
theorem told_many {n k:Nat} {l:List Sy} (hg:GoodP n (Sy.nodes l)) (hk:k≤l.length):trB n k≤(allT n l l.length).1.length:=by
 have hn:=nodes_nat hg
 have hi:=allT_inv n l (Nat.le_refl _)
 rw [List.take_length] at hi
 have h1:(edL n (l.map fun s=>s.node.toNat)).length≤((allT n l l.length).1.map Prod.fst).length:=by
  refine (edL_nodup hn.1 hn.2).length_le_of_subset fun e he=>?_
  obtain ⟨a,ha,p,hp,hne,rfl⟩:=edL_mem he hn.2
  obtain ⟨s,hs,rfl⟩:=List.mem_map.1 ha
  exact hi.all _ _ ⟨s,hs,p,hp,hne,rfl,rfl⟩
 rw [edL_len hn.1 hn.2,List.length_map,List.length_map] at h1
 exact Nat.le_trans (tri_mono hk) h1
end Go.Proofs.YtjdnicacnaokdaaGreat
/- The table of edges: a map whose keys are pairs of nodes; what is told: a map of bytes. -/
namespace Go.Proofs.YtjdnicacnaokdaaGreat
open Go.RowKit
set_option linter.unusedSimpArgs false
set_option linter.unusedVariables false

abbrev edgeV (x y:Int):Value:=.agg #[.int .i64 x,.int .i64 y]
theorem edge_laidOut:laidOutB Tryz.prog=true:=by kernel_rfl
theorem edge_keyType:Tryz.prog.keyType 65=true:=by kernel_rfl
theorem edge_cells:Tryz.prog.cellsOf 65=2:=by kernel_rfl
theorem edge_keyed:Maps.Keyed Tryz.prog 65 :=
 Maps.Keyed.of_law (deep_law_gate edge_laidOut (of_decide_eq_true (by kernel_rfl)) (of_decide_eq_true (by kernel_rfl)) edge_keyType (by rw [Tryz.underlying65]))
theorem edge_key (x y:Int) (hx:(Lit.int .i64 x).wf=true) (hy:(Lit.int .i64 y).wf=true):∃ kl,keyOf Tryz.prog 65 (edgeV x y)=some kl:=by
 unfold keyOf
 obtain ⟨m,hm⟩:∃ m,Tryz.prog.types.size=m+1:=⟨Tryz.prog.types.size - 1,by have:0 < Tryz.prog.types.size:=of_decide_eq_true (by kernel_rfl);omega⟩
 rw [hm]
 have c2:Tryz.prog.cellsOf 3=1:=by kernel_rfl
 simp [Tryz.underlying65,edge_keyType,Value.formed,edge_cells,Program.keyLits,Tryz.underlying3,c2,hx,hy,Value.cells,List.range_succ]
theorem nat_wf9 (k:Nat) (hk:k≤1000000):(Lit.int .i64 (k:Int)).wf=true:=by
 have h1:IntKind.i64.min=-9223372036854775808:=rfl
 have h2:IntKind.i64.max=9223372036854775807:=rfl
 simp only [Lit.wf,Bool.and_eq_true,decide_eq_true_eq]
 omega
def EdgeIs (w:World) (bm n:Nat) (S:Nat→Nat→Nat):Prop :=
 ∃ D:DataW Unit,w.ownsMap Tryz.prog 65 (plainElem Tryz.prog 3) bm n D∧Maps.IsMap D ∧
  ∀ (x y:Nat) kl,x≤1000→y≤1000→keyOf Tryz.prog 65 (edgeV x y)=some kl→D.atKey kl (.lit (.int .i64 0))=.lit (.int .i64 (S x y:Nat))
theorem EdgeIs.made (w:World):EdgeIs (w.alloc (.map #[] 0)) w.heap.size 0 (fun _ _=>0) :=
 ⟨_,World.ownsMap_made _ _ _ _,⟨[],rfl⟩,fun x y kl _ _ _=>rfl⟩
theorem EdgeIs.kept {w w':World} {bm n:Nat} {S:Nat→Nat→Nat} {row:Option Nat} (h:EdgeIs w bm n S) (hg:w.grownBy w' row) (hne:some bm ≠ row):EdgeIs w' bm n S:=by
 obtain ⟨D,h1,h2,h3⟩:=h
 exact ⟨D,h1.kept hg hne,h2,h3⟩
theorem EdgeIs.lt {w:World} {bm n:Nat} {S:Nat→Nat→Nat} (h:EdgeIs w bm n S):bm < w.heap.size:=by
 obtain ⟨D,h1,_,_⟩:=h
 exact h1.lt
theorem EdgeIs.block {w w':World} {bm n:Nat} {S:Nat→Nat→Nat} (h:EdgeIs w bm n S) (hb:w'.heap[bm]? = w.heap[bm]?):EdgeIs w' bm n S:=by
 obtain ⟨D,⟨es,clock,h1,h2⟩,h3⟩:=h
 exact ⟨D,⟨es,clock,hb.trans h1,h2⟩,h3⟩
theorem EdgeIs.kp {T:List Nat} {w w':World} {bm n:Nat} {S:Nat→Nat→Nat} (h:EdgeIs w bm n S) (hk:Kp T w w') (hn:bm ∉ T):EdgeIs w' bm n S:=h.block (hk.block bm h.lt hn)
theorem zeroInt9 (w:World):(zeroValue 3).run Tryz.prog w=.ok (.int .i64 0) w:=by kernel_rfl
theorem zeroByte9 (w:World):(zeroValue 5).run Tryz.prog w=.ok (.int .u8 0) w:=by kernel_rfl
theorem EdgeIs.look {w:World} {bm n:Nat} {S:Nat→Nat→Nat} (h:EdgeIs w bm n S) (x y:Nat) (hx:x≤1000) (hy:y≤1000) :
  (Instr.lookup 60 (.map (some bm)) (edgeV x y) false).run Tryz.prog w=.ok (.int .i64 (S x y:Nat)) w:=by
 obtain ⟨D,h1,h2,h3⟩:=h
 obtain ⟨kl,hk⟩:=edge_key x y (nat_wf9 x (by omega)) (nat_wf9 y (by omega))
 obtain ⟨c,hrun,hat,_⟩:=h1.lookup_int edge_keyed Tryz.underlying60 Tryz.underlying3 (zeroInt9 w) hk
 rw [h3 x y kl hx hy hk] at hat
 simp only [DataW.lit.injEq,Lit.int.injEq,true_and] at hat
 rw [hat]
 exact hrun
theorem EdgeIs.put {w:World} {bm n:Nat} {S:Nat→Nat→Nat} (h:EdgeIs w bm n S) (hn:n≤1000000) (x y v:Nat) (hx:x≤1000) (hy:y≤1000) (hv:v≤1000000) :
  ∃ w',(Instr.mapUpdate 60 (.map (some bm)) (edgeV x y) (.int .i64 v)).run Tryz.prog w=.ok () w'∧EdgeIs w' bm (n+1) (fun x' y'=>if x'=x∧y'=y then v else S x' y')∧w.grownBy w' (some bm):=by
 obtain ⟨D,h1,h2,h3⟩:=h
 obtain ⟨kl,hk⟩:=edge_key x y (nat_wf9 x (by omega)) (nat_wf9 y (by omega))
 obtain ⟨w',hrun,h4,h5⟩:=h1.update edge_keyed Tryz.underlying60 (by unfold maxLen;omega) hk (plainElem_int Tryz.underlying3 (nat_wf9 v hv))
 refine ⟨w',hrun,⟨_,h4,h2.put _ _,fun x' y' kl' hx' hy' hk'=>?_⟩,h5⟩
 show _=DataW.lit (.int .i64 ((if x'=x∧y'=y then v else S x' y':Nat):Int))
 by_cases e:x'=x∧y'=y
 ·rw [if_pos e]
  obtain ⟨rfl,rfl⟩:=e
  rw [hk] at hk'
  cases hk'
  exact Maps.atKey_put_same h2 (edge_keyed.key hk) _ _
 ·rw [if_neg e]
  have hne:kl' ≠ kl:=fun e2=>e (by
   subst e2
   have:=edge_keyed.inj hk hk'
   simp only [Value.agg.injEq,Array.mk.injEq,List.cons.injEq,Value.int.injEq,true_and,and_true] at this
   exact ⟨by omega,by omega⟩)
  rw [Maps.atKey_put_other hne]
  exact h3 x' y' kl' hx' hy' hk'
theorem int_keyed9:Maps.Keyed Tryz.prog 3:=Maps.int_keyed Tryz.underlying3
theorem int_key9 (k:Nat) (hk:k≤1000000):keyOf Tryz.prog 3 (.int .i64 (k:Int))=some (.int .i64 k):=Maps.keyOf_int_mk Tryz.underlying3 (nat_wf9 k hk)
theorem byte_wf9 (b:GF):(Lit.int .u8 (b.n:Int)).wf=true:=by
 have h:=b.lt
 have h1:IntKind.u8.min=0:=rfl
 have h2:IntKind.u8.max=255:=rfl
 simp only [Lit.wf,Bool.and_eq_true,decide_eq_true_eq]
 omega
def ToldM (w:World) (bm:Nat) (T:List (Nat × GF)):Prop :=
 ∃ D:DataW Unit,w.ownsMap Tryz.prog 3 (plainElem Tryz.prog 5) bm T.length D∧Maps.IsMap D ∧
  ∀ k:Nat,k≤1000000→Maps.has D (.int .i64 (k:Int))=(T.lookup k).isSome∧D.atKey (.int .i64 (k:Int)) (.lit (.int .u8 0))=.lit (.int .u8 (((T.lookup k).getD 0).n:Nat))
theorem ToldM.made (w:World):ToldM (w.alloc (.map #[] 0)) w.heap.size [] :=
 ⟨_,World.ownsMap_made _ _ _ _,⟨[],rfl⟩,fun k _=>⟨rfl,rfl⟩⟩
theorem ToldM.lt {w:World} {bm:Nat} {T:List (Nat × GF)} (h:ToldM w bm T):bm < w.heap.size:=by
 obtain ⟨D,h1,_,_⟩:=h
 exact h1.lt
theorem ToldM.block {w w':World} {bm:Nat} {T:List (Nat × GF)} (h:ToldM w bm T) (hb:w'.heap[bm]? = w.heap[bm]?):ToldM w' bm T:=by
 obtain ⟨D,⟨es,clock,h1,h2⟩,h3⟩:=h
 exact ⟨D,⟨es,clock,hb.trans h1,h2⟩,h3⟩
theorem ToldM.kp {S:List Nat} {w w':World} {bm:Nat} {T:List (Nat × GF)} (h:ToldM w bm T) (hk:Kp S w w') (hn:bm ∉ S):ToldM w' bm T:=h.block (hk.block bm h.lt hn)
theorem ToldM.look {w:World} {bm:Nat} {T:List (Nat × GF)} (h:ToldM w bm T) (k:Nat) (hk:k≤1000000) :
  (Instr.lookup 98 (.map (some bm)) (.int .i64 k) true).run Tryz.prog w=.ok (.tuple #[.int .u8 (((T.lookup k).getD 0).n:Nat),.bool (T.lookup k).isSome]) w:=by
 obtain ⟨D,h1,h2,h3⟩:=h
 obtain ⟨v,ps,hrun,hv⟩:=h1.look_ok int_keyed9 Tryz.underlying98 (zeroByte9 w) (plainElem_int Tryz.underlying5 (by decide)) (int_key9 k hk)
 obtain ⟨c,rfl,hc,_⟩:=plainElem_int_inv Tryz.underlying5 hv
 have h4:=congrArg Prod.fst hc
 rw [(h3 k hk).2] at h4
 simp only [DataW.lit.injEq,Lit.int.injEq,true_and] at h4
 rw [(h3 k hk).1,← h4] at hrun
 exact hrun
theorem lookup_append_none {T:List (Nat × GF)} {k:Nat} (h:T.lookup k=none) (b:GF) (j:Nat):(T ++ [(k,b)]).lookup j=if j=k then some b else T.lookup j:=by
 induction T with
 | nil =>
  by_cases e:j=k
  ·simp [List.lookup,e]
  ·have h2:(j == k)=false:=by simpa using e
   simp [List.lookup,e,h2]
 | cons a T ih =>
  obtain ⟨x,y⟩:=a
  rw [List.lookup_cons] at h
  split at h
  ·cases h
  ·rename_i h1
   simp at h1
   rw [List.cons_append,List.lookup_cons,List.lookup_cons,ih h]
   by_cases e:j=x
   ·subst e
    have:¬ j=k:=fun e2=>h1 e2.symm
    simp [this]
   ·have:(j == x)=false:=by simpa using e
    rw [this]
theorem ToldM.put {w:World} {bm:Nat} {T:List (Nat × GF)} (h:ToldM w bm T) (hn:T.length≤1000000) (k:Nat) (hk:k≤1000000) (b:GF) (hl:T.lookup k=none) :
  ∃ w',(Instr.mapUpdate 98 (.map (some bm)) (.int .i64 k) (.int .u8 (b.n:Nat))).run Tryz.prog w=.ok () w'∧ToldM w' bm (T ++ [(k,b)])∧w.grownBy w' (some bm):=by
 obtain ⟨D,h1,h2,h3⟩:=h
 obtain ⟨w',hrun,h4,h5⟩:=h1.update int_keyed9 Tryz.underlying98 (by unfold maxLen;omega) (int_key9 k hk) (plainElem_int Tryz.underlying5 (byte_wf9 b))
 refine ⟨w',hrun,⟨_,by simpa using h4,h2.put _ _,fun j hj=>?_⟩,h5⟩
 rw [lookup_append_none hl]
 by_cases e:j=k
 ·subst e
  rw [if_pos rfl]
  exact ⟨Maps.has_put_same h2 (int_keyed9.key (int_key9 j hj)) _,Maps.atKey_put_same h2 (int_keyed9.key (int_key9 j hj)) _ _⟩
 ·rw [if_neg e]
  have hne:(Lit.int .i64 (j:Int)) ≠ .int .i64 (k:Int):=fun e2=>e (by simp only [Lit.int.injEq,true_and] at e2;omega)
  rw [Maps.has_put_other hne,Maps.atKey_put_other hne]
  exact h3 j hj
end Go.Proofs.YtjdnicacnaokdaaGreat
/- A code of edges: it is made; its sizes. -/
namespace Go.Proofs.YtjdnicacnaokdaaGreat
open Go.RowKit Fld
set_option linter.unusedVariables false
set_option linter.unusedSimpArgs false

def EdgeTab (w:World) (mb n c:Nat):Prop:=∃ m S,m≤c∧EdgeIs w mb m S∧∀ a b,a < b→b < n→eE n a b < c→S a b=eE n a b
theorem EdgeTab.kp {T:List Nat} {w w':World} {mb n c:Nat} (h:EdgeTab w mb n c) (hk:Kp T w w') (hn:mb ∉ T):EdgeTab w' mb n c:=by
 obtain ⟨m,S,h1,h2,h3⟩:=h
 exact ⟨m,S,h1,h2.kp hk hn,h3⟩
theorem EdgeTab.lt {w:World} {mb n c:Nat} (h:EdgeTab w mb n c):mb < w.heap.size:=by
 obtain ⟨m,S,h1,h2,h3⟩:=h
 exact h2.lt
theorem EdgeTab.put {w:World} {mb n c a b:Nat} (h:EdgeTab w mb n c) (hab:a < b) (hb:b < n) (hn:n≤23) (hc:c=eE n a b) :
  ∃ w',(Instr.mapUpdate 60 (.map (some mb)) (edgeV a b) (.int .i64 c)).run Tryz.prog w=.ok () w'∧EdgeTab w' mb n (c+1)∧w.grownBy w' (some mb):=by
 obtain ⟨m,S,h1,h2,h3⟩:=h
 have hlt:=eE_lt (n:=n) (i:=a) (j:=b) (by omega) (by omega) hb
 have hle:=eN_le hn
 obtain ⟨w',hr,h4,h5⟩:=h2.put (by omega) a b c (by omega) (by omega) (by omega)
 refine ⟨w',hr,⟨_,_,by omega,h4,fun x y hxy hy he=>?_⟩,h5⟩
 by_cases e:x=a∧y=b
 ·simp only [if_pos e]
  rw [e.1,e.2,hc]
 ·simp only [if_neg e]
  refine h3 x y hxy hy ?_
  rcases Nat.lt_or_ge (eE n x y) c with h6 | h6
  ·exact h6
  ·exact absurd (eE_inj1 hxy hy hab hb (by omega)) e
theorem EdgeTab.look {w:World} {mb n c:Nat} (h:EdgeTab w mb n c) (hn:n≤23) (hc:eN n≤c) (a b:Nat) (hab:a < b) (hb:b < n) :
  (Instr.lookup 60 (.map (some mb)) (edgeV a b) false).run Tryz.prog w=.ok (.int .i64 (eE n a b:Nat)) w:=by
 obtain ⟨m,S,h1,h2,h3⟩:=h
 have hlt:=eE_lt (n:=n) (i:=a) (j:=b) (by omega) (by omega) hb
 rw [← h3 a b hab hb (by omega)]
 exact h2.look a b (by omega) (by omega)
structure TrC (w:World) (lb cb fb mb n k:Nat) (cv:Value):Prop where
 box:w.heap[lb]? = some (.cells #[.int .i64 n,.int .i64 k,.map (some mb),.pointer (some ⟨cb,0,none⟩)] 63 (0,0))
 code:CodeAt w cb fb (trB n k) cv (pows (eN n))
 tab:EdgeTab w mb n (eN n)
 ne:lb ≠ fb∧mb ≠ fb
theorem TrC.step {w w':World} {lb cb fb mb n k:Nat} {cv:Value} (h:TrC w lb cb fb mb n k cv) (hk:Kp [fb] w w') (hf:FOk w' fb):TrC w' lb cb fb mb n k cv :=
 ⟨hk.heap h.box (by simpa using h.ne.1),h.code.step hk hf,h.tab.kp hk (by simpa using h.ne.2),h.ne⟩
theorem TrC.below {w w':World} {lb cb fb mb n k:Nat} {cv:Value} (h:TrC w lb cb fb mb n k cv) (hb:Below w.heap.size w w'):TrC w' lb cb fb mb n k cv :=
 h.step (Kp.of_below hb) (h.code.ok.below hb)
structure TrI (fb n k:Nat) (w:World) (V:Value) (c:Nat) (W:World):Prop where
 ok:FOk W fb
 kp:Kp [fb] w W
 box:W.heap[w.heap.size+1]? = some (.cells #[.int .i64 n,.int .i64 k,.map (some w.heap.size),.pointer none] 63 (0,0))
 own:OwnG W (w.heap.size+2) V (pows c)
 tab:EdgeTab W w.heap.size n c
theorem TrI.push {fb n k:Nat} {w:World} {V:Value} {c:Nat} {W w1 w2:World} (h:TrI fb n k w V c W) (hfb:fb < w.heap.size) (hg:W.grownBy w1 (some w.heap.size)) (ht:EdgeTab w1 w.heap.size n (c+1)) (hk:Kp [fb] w1 w2) (hf:FOk w2 fb) (hc:c≤1000) {y:Nat} (hy:(GF.pown GF.two c).n=y) :
  ∃ v1 w3,(Builtin.append_ #[34,34] 34 #[V,.slice (some ⟨w2.heap.size,0,none⟩) 1 1]).run Tryz.prog (w2.alloc (.cells #[.int .u8 (y:Int)] 5))=.ok v1 w3∧TrI fb n k w v1 (c+1) w3:=by
 have hs:=lt_of_heap h.box
 have k1:=kp_grown hg
 have hs1:=k1.size
 have hs2:=hk.size
 have hV:∀ b,V.ownBlock=some b→w.heap.size+2≤b∧b < W.heap.size:=fun b hb=>h.own.lt b hb
 have o2:OwnG w2 (w.heap.size+2) V (pows c):=(h.own.kp k1 fun b hb hm=>by have:=hV b hb;simp at hm;omega).kp hk fun b hb hm=>by have:=hV b hb;simp at hm;omega
 obtain ⟨v1,w3,hap,ho,hk3,hb3,hat⟩:=app_byte (W:=w2) (GF.pown GF.two c) o2 (by rw [pows_len];omega) (by omega) hy rfl
 rw [← pows_succ] at ho
 have hn3:∀ x,x ∈ V.ownBlock.toList→w.heap.size+2≤x:=fun x hx=>(hV x (by simpa using hx)).1
 refine ⟨v1,w3,hap,hf.kp hk3 (fun hm=>by have:=hn3 _ hm;omega),?_,?_,ho,?_⟩
 ·exact ((h.kp.step k1 fun x hx=>.inr (by simp at hx;omega)).step hk fun x hx=>.inl hx).step hk3 fun x hx=>.inr (by have:=hn3 x hx;omega)
 ·exact hk3.heap (hk.heap (k1.heap h.box (by simp)) (by simp;omega)) fun hm=>by have:=hn3 _ hm;omega
 ·exact (ht.kp hk (by simp;omega)).kp hk3 fun hm=>by have:=hn3 _ hm;omega
def TrNewPost (fb:Nat) (n k:Int) (w:World) (e:Ending) (w':World):Prop :=
 Kp [fb] w w'∧FOk w' fb∧((∃ N K:Nat,n=(N:Int)∧k=(K:Int)∧(1≤K∧K < N∧N≤23)∧∃ lb cb mb cv,e=.returned (.tuple #[.pointer (some ⟨lb,0,none⟩),.int .i64 0])∧w.heap.size≤lb∧TrC w' lb cb fb mb N K cv) ∨
  ¬ (1≤k∧k < n∧n≤23)∧e=.returned (.tuple #[.pointer none,.int .i64 2]))
theorem tra_any (w:World) (lb n:Nat) (h0:w.cell? ⟨lb,0,none⟩=some (.int .i64 n)) (hn:1≤n∧n≤23) :
  Calls Tryz.prog 13 #[.pointer (some ⟨lb,0,none⟩)] w fun e w'=>e=.returned (.int .i64 (n - 1:Nat))∧w=w':=by
 have x1:(n:Int) - 1=((n - 1:Nat):Int):=by omega
 have x2:IntKind.i64.wrap ((n - 1:Nat):Int)=((n - 1:Nat):Int):=IntWalk.i64_in _ (by omega)
 generalize hq:n - 1=q at *
 clear hq
 go_enter Tryz.func13,Tryz.ntmps13
 go_wp2
 go_ret
 exact ⟨rfl,rfl⟩
theorem trb_any (w:World) (lb n k:Nat) (h0:w.cell? ⟨lb,0,none⟩=some (.int .i64 n)) (h1:w.cell? ⟨lb,1,none⟩=some (.int .i64 k)) (hlb:lb < w.heap.size) (hk:1≤k∧k < n) (hn:n≤23) :
  Calls Tryz.prog 14 #[.pointer (some ⟨lb,0,none⟩)] w fun e w'=>e=.returned (.int .i64 (trB n k:Nat))∧Below w.heap.size w w':=by
 obtain ⟨n1,hn1⟩:∃ n1,n - 1=n1:=⟨_,rfl⟩
 obtain ⟨k1,hk1⟩:∃ k1,k - 1=k1:=⟨_,rfl⟩
 obtain ⟨p,hp⟩:∃ p,k * n1=p:=⟨_,rfl⟩
 obtain ⟨q,hq⟩:∃ q,k * k1=q:=⟨_,rfl⟩
 obtain ⟨h,hh⟩:∃ h,q / 2=h:=⟨_,rfl⟩
 obtain ⟨B,hB⟩:∃ B,trB n k=B:=⟨_,rfl⟩
 have hBe:p - h=B:=by rw [← hB,trB_eq hk.2,hn1,hk1,hp,hq,hh]
 have hpl:p≤23 * 23:=by rw [← hp];exact Nat.mul_le_mul (by omega) (by omega)
 have hql:q≤p:=by rw [← hp,← hq];exact Nat.mul_le_mul_left _ (by omega)
 rw [hB]
 have x1:(n:Int) - 1=(n1:Int):=by omega
 have x2:IntKind.i64.wrap (n1:Int)=(n1:Int):=IntWalk.i64_in _ (by omega)
 have x3:(k:Int) - 1=(k1:Int):=by omega
 have x4:IntKind.i64.wrap (k1:Int)=(k1:Int):=IntWalk.i64_in _ (by omega)
 have x5:(k:Int) * (n1:Int)=(p:Int):=by rw [← hp];simp
 have x6:IntKind.i64.wrap (p:Int)=(p:Int):=IntWalk.i64_in _ (by omega)
 have x7:(k:Int) * (k1:Int)=(q:Int):=by rw [← hq];simp
 have x8:IntKind.i64.wrap (q:Int)=(q:Int):=IntWalk.i64_in _ (by omega)
 have x9:(q:Int).tdiv 2=(h:Int):=by rw [← hh];exact (Int.ofNat_tdiv q 2).symm
 have x10:IntKind.i64.wrap (h:Int)=(h:Int):=IntWalk.i64_in _ (by omega)
 have x11:(p:Int) - (h:Int)=(B:Int):=by omega
 have x12:IntKind.i64.wrap (B:Int)=(B:Int):=IntWalk.i64_in _ (by omega)
 clear hn1 hk1 hp hq hh hB hBe
 go_enter Tryz.func14,Tryz.ntmps14
 go_wp2_with fail
 have hgr:=fun (w0 W:World) (p:Addr) (hp:(fun kk=>kk < w.heap.size) p.block)=>graft_cell (w0:=w0) (keep:=(fun kk=>kk < w.heap.size)) W hp
 refine wp_region_tree (fun kk=>kk < w.heap.size) [] (.sq [0,1,2,3,4,5,6,7,8,9,10,11,12,13,14,15,16,17,18,19,20,21,22] .done) (by kernel_rfl) (by kernel_rfl) ?_
 simp only [Tr.sq,List.foldr_cons,List.foldr_nil,slimTr,slimStep,Oper.slim,List.contains_cons,List.contains_nil,Option.map_none,Option.map_some,List.getElem?_toArray,List.getElem?_cons_zero,List.getElem?_cons_succ,Option.bind_some,beq_self_eq_true,Bool.or_false,Nat.reduceBEq,Nat.reduceAdd,Nat.zero_add]
 repeat' first | ((with_reducible refine wpSlimT_id ?_);first | (with_reducible refine wpSlimT_done ?_) | ((with_reducible refine wpSlimT_step (fun K hK=>?_));go_simp;(refine hK _ _ ?_;clear hK K))) | fail
 clear hgr
 go_wp2
 go_ret
 exact ⟨rfl,by (repeat' (first | (with_reducible exact RowKit.Below.refl _ _) | (with_reducible assumption) | (with_reducible refine RowKit.Below.drew ?_) | (with_reducible refine RowKit.Below.alloc ?_ ?_ _) | omega | (simp;done) | (simp;omega)))⟩
set_option maxRecDepth 100000 in
set_option maxHeartbeats 4000000 in
theorem trnew_any (fb:Nat) (n k:Int) (w:World) (hF:FOk w fb) (hn:-9223372036854775808≤n∧n≤9223372036854775807) (hk:-9223372036854775808≤k∧k≤9223372036854775807) :
  Calls Tryz.prog 9 #[.pointer (some ⟨fb,0,none⟩),.int .i64 n,.int .i64 k] w (TrNewPost fb n k w):=by
 have hfl:=hF.lt
 have HF:=Lib.hid hF
 clear hF
 by_cases c1:k < 1
 ·have HFF:Hid (¬ (1≤k∧k < n∧n≤23)):=Lib.hid (by omega)
  go_enter Tryz.func9,Tryz.ntmps9
  go_wp2
  go_ret2
  exact ⟨Kp.refl _ _,HF.out,.inr ⟨HFF.out,rfl⟩⟩
 by_cases c2:n≤k
 ·have HFF:Hid (¬ (1≤k∧k < n∧n≤23)):=Lib.hid (by omega)
  go_enter Tryz.func9,Tryz.ntmps9
  go_wp2
  go_ret2
  exact ⟨Kp.refl _ _,HF.out,.inr ⟨HFF.out,rfl⟩⟩
 by_cases c3:n > 23
 ·have HFF:Hid (¬ (1≤k∧k < n∧n≤23)):=Lib.hid (by omega)
  go_enter Tryz.func9,Tryz.ntmps9
  go_wp2
  go_ret2
  exact ⟨Kp.refl _ _,HF.out,.inr ⟨HFF.out,rfl⟩⟩
 obtain ⟨N,rfl⟩:∃ N:Nat,n=(N:Int):=⟨n.toNat,by omega⟩
 obtain ⟨K,rfl⟩:∃ K:Nat,k=(K:Int):=⟨k.toNat,by omega⟩
 have hNK:K < N:=by omega
 have hN:N≤23:=by omega
 have hK:1≤K:=by omega
 have hmm:=@run_makeMap Tryz.prog
 obtain ⟨w0,hw0⟩:∃ w0,w0=(w.alloc (.map #[] 0)).alloc (.cells #[.int .i64 N,.int .i64 K,.map (some w.heap.size),.pointer none] 63):=⟨_,rfl⟩
 have HI0:Hid (TrI fb N K w (.slice none 0 0) (tri (N - 1) 0) w0):=Lib.hid (by
  have hb0:Below w.heap.size w w0:=by rw [hw0];exact ((Below.refl _ _).alloc (Nat.le_refl _) _).alloc (by simp) _
  refine ⟨HF.out.below hb0,Kp.of_below hb0,by rw [hw0];exact heap_newE _ _ _ (by simp),OwnG.nil _ _,⟨0,fun _ _=>0,Nat.le_refl _,?_,fun a b _ _ h=>absurd h (Nat.not_lt_zero _)⟩⟩
  have h1:=EdgeIs.made w
  rw [hw0]
  exact h1.kp (Kp.of_below ((Below.refl _ _).alloc (Nat.le_refl _) _)) (List.not_mem_nil))
 go_enter Tryz.func9,Tryz.ntmps9
 go_wp2
 rw [← hw0]
 clear hw0 hmm
 go_loopg [9,30] N (fun gk p i wr=>∃ (V:Value) (I:Nat),V=p∧I≤N∧gk=N - I∧i=.int .i64 I∧Hid (TrI fb N K w V (tri (N - 1) I) wr))
 case atStart=>exact ⟨_,0,rfl,by omega,rfl,rfl,HI0⟩
 case round =>
  obtain ⟨V,I,rfl,hI,rfl,rfl,HI⟩:=hrel
  by_cases hlt:I < N
  ·have HI1:Hid (TrI fb N K w V (tri (N - 1) I+(I+1 - I - 1)) wr):=Lib.hid (by simpa using HI.out)
   clear HI0 HI
   have x1:(I:Int)+1=((I+1:Nat):Int):=by omega
   have x2:IntKind.i64.wrap ((I+1:Nat):Int)=((I+1:Nat):Int):=IntWalk.i64_in _ (by omega)
   generalize hI1:I+1=I1 at *
   go_wp2
   go_loopg [9,11] (N - I1) (fun gk p i wx=>∃ (V:Value) (J:Nat),V=p∧(I < J∧J≤N)∧gk=N - J∧i=.int .i64 J∧Hid (TrI fb N K w V (tri (N - 1) I+(J - I - 1)) wx))
   case atStart=>exact ⟨_,I1,rfl,by omega,rfl,rfl,HI1⟩
   case round =>
    obtain ⟨V2,J,rfl,hJ,rfl,rfl,HI⟩:=hrel
    by_cases hlt2:J < N
    ·obtain ⟨wx,rfl⟩:∃ wx:World,wx=wr:=⟨_,rfl⟩
     obtain ⟨c,hc⟩:∃ c,tri (N - 1) I+(J - I - 1)=c:=⟨_,rfl⟩
     have hce:c=eE N I J:=by rw [eE_le hJ.1,hc]
     have hcl:c < 253:=Nat.lt_of_lt_of_le (by rw [hce];exact eE_lt (by omega) (by omega) hlt2) (eN_le hN)
     rw [hc] at HI
     obtain ⟨w1,hput,ht1,hg1⟩:=HI.out.tab.put hJ.1 hlt2 hN hce
     obtain ⟨a0,c0,rfl,hc0⟩:=HI.out.own.form
     have hbx:=HI.out.box
     rw [pows_len] at HI hc0 ⊢
     have y0:=cell_of_heap hbx (j:=2) rfl
     have hk1:=kp_grown hg1
     have HEX:=Lib.hid (fexp_any c fb w1 (HI.out.ok.kp hk1 (by simp;omega)) (by omega))
     have HT1:=Lib.hid ht1
     have HG1:=Lib.hid hg1
     have HCE:Hid (tri (N - 1) I+(J+1 - I - 1)=c+1):=Lib.hid (by omega)
     have hsw:=lt_of_heap hbx
     clear hc hce ht1 hg1 hk1 hbx
     go_wp2_with fail
     refine HEX.out.mono ?_
     rintro e w2 ⟨rfl,hk2,hf2⟩
     obtain ⟨y,hy⟩:∃ y,(GF.pown GF.two c).n=y:=⟨_,rfl⟩
     obtain ⟨v3,w3,hap,hi3⟩:=HI.out.push (by omega) HG1.out HT1.out hk2 hf2 (by omega) hy
     rw [hy]
     have HI3:=Lib.hid hi3
     clear hk2 hf2 hi3 hy HEX HT1 HG1
     go_wp2_with (at_builtin;refine wpList_append rfl _ _ _ rfl rfl rfl hap ?_)
     go_roundg (N - (J+1))
     case measure=>omega
     case rel=>exact ⟨v3,J+1,rfl,by omega,rfl,by go_num,by rw [HCE.out];exact HI3⟩
    ·obtain rfl:J=N:=by omega
     have HI5:Hid (TrI fb J K w V2 (tri (J - 1) (I+1)) wr):=Lib.hid (by
      rw [tri_succ,show J - 1 - I=J - I - 1 by omega]
      exact HI.out)
     clear HI
     rw [hI1] at HI5
     go_wp2
     go_roundg (J - I1)
     case measure=>omega
     case rel=>exact ⟨V2,I1,rfl,by omega,rfl,by go_num,HI5⟩
  ·obtain rfl:I=N:=by omega
   have hEN:tri (I - 1) I=eN I:=by
    unfold eN
    obtain ⟨m,rfl⟩:∃ m,I=m+1:=⟨I - 1,by omega⟩
    rw [Nat.add_sub_cancel,tri_succ,Nat.sub_self,Nat.add_zero]
   rw [hEN] at HI
   have hEl:=eN_le hN
   have hBl:=trB_le hNK
   have hB1:=trB_pos hK hNK
   have hbx:=HI.out.box
   have hsw:=lt_of_heap hbx
   have HB:=Lib.hid (trb_any wr (w.heap.size+1) I K (cell_of_heap hbx (j:=0) rfl) (cell_of_heap hbx (j:=1) rfl) hsw ⟨hK,hNK⟩ hN)
   clear HI0 hEN hbx
   go_wp2_with fail
   refine HB.out.mono ?_
   rintro e w1 ⟨rfl,hb1⟩
   obtain ⟨B,hB⟩:∃ B,trB I K=B:=⟨_,rfl⟩
   have HNW:=Lib.hid (new_any fb V (pows (eN I)) (B:Int) w1 (HI.out.ok.below hb1) (HI.out.own.below hb1).rd (by rw [pows_len];omega) (by omega))
   have HB1:=Lib.hid hb1
   have HBB:=Lib.hid hB
   rw [hB] at hBl hB1 ⊢
   have hs1:=hb1.size
   clear hb1 hB HB
   go_wp2_with fail
   refine HNW.out.mono ?_
   rintro e w2 ⟨hb2,⟨-,cb,v2,rfl,hcb,hcode,hov⟩ | ⟨hno,rfl⟩⟩
   case inr=>exact absurd ⟨pows_nodup (by omega),by omega,by rw [pows_len];omega⟩ hno
   have hs2:=hb2.size
   have hbx2:=keepB hb2 (keepB HB1.out HI.out.box)
   have z3:=cell_of_heap hbx2 (j:=3) rfl
   have f3:=free_of_heap hbx2 3
   have hl2:=lt_of_heap hbx2
   have hk3:Kp [w.heap.size+1] w2 (w2.setCell ⟨w.heap.size+1,3,none⟩ (.pointer (some ⟨cb,0,none⟩))):=(Kp.refl _ _).setCell (.inl (by simp)) _
   have HP:Hid (TrNewPost fb (I:Int) (K:Int) w (.returned (.tuple #[.pointer (some ⟨w.heap.size+1,0,none⟩),.int .i64 0])) (w2.setCell ⟨w.heap.size+1,3,none⟩ (.pointer (some ⟨cb,0,none⟩)))):=Lib.hid (by
    have hf3:FOk (w2.setCell ⟨w.heap.size+1,3,none⟩ (.pointer (some ⟨cb,0,none⟩))) fb:=((HI.out.ok.below HB1.out).below hb2).kp hk3 (by simp;omega)
    refine ⟨((HI.out.kp.below_step HB1.out).below_step hb2).step hk3 (fun x hx=>.inr (by simp at hx;omega)),hf3,.inl ⟨I,K,rfl,rfl,⟨hK,hNK,hN⟩,w.heap.size+1,cb,w.heap.size,v2,rfl,by omega,?_,?_,?_,by omega⟩⟩
    ·simpa using heap_set_same hbx2 3 (.pointer (some ⟨cb,0,none⟩))
    ·rw [HBB.out]
     rw [Int.toNat_natCast] at hcode
     have hlb:=HI.out.kp.size
     exact ⟨hk3.heap hcode.box (by simp;omega),hf3,hcode.rd.kp hk3 (fun b hb hm=>by have:=(hov.lt b hb).1;simp at hm;omega),hcode.apart,hcode.ne⟩
    ·exact ((HI.out.tab.kp (Kp.of_below (S:=[]) HB1.out) (List.not_mem_nil)).kp (Kp.of_below (S:=[]) hb2) (List.not_mem_nil)).kp hk3 (by simp))
   clear hb2 hcb hcode hov hbx2 hk3 HNW
   go_wp2
   go_ret2
   exact HP.out
end Go.Proofs.YtjdnicacnaokdaaGreat
