/-
  Rows added, scaled, exchanged: what a system of equations says stays; reduced forms.
  A matrix laid out row by row; its rows exchanged, scaled, taken off, cell by cell.
-/
import Derived.Test.YtnjbkfeihbcalaaGreatZBase
/- Rows added, scaled, exchanged: what a system of equations says stays; reduced forms. -/
namespace Go.Proofs.YtnjbkfeihbcalaaGreat
set_option linter.unusedVariables false
namespace Fld
variable {F:Type} [Fld F]

def eqn (C D:Nat) (A B:Nat→Nat→F) (x z:Nat→F) (i:Nat):F:=sm C (fun k=>A i k * x k)+sm D (fun l=>B i l * z l)
theorem eqn_iff (C D:Nat) (A B:Nat→Nat→F) (x z:Nat→F) (i:Nat):eqn C D A B x z i=0↔sm C (fun k=>A i k * x k)=sm D (fun l=>B i l * z l):=add_eq0'
def MetS (R C D:Nat) (A B:Nat→Nat→F) (x z:Nat→F):Prop:=∀ i,i < R→eqn C D A B x z i=0

def swR (a b:Nat) (A:Nat→Nat→F):Nat→Nat→F:=fun i k=>if i=a then A b k else if i=b then A a k else A i k
def scR (a:Nat) (v:F) (A:Nat→Nat→F):Nat→Nat→F:=fun i k=>if i=a then A a k * v else A i k
def elR (a:Nat) (t:Nat→F) (A:Nat→Nat→F):Nat→Nat→F:=fun i k=>if i=a then A a k else A i k+A a k * t i

theorem met_sw {R C D a b:Nat} {A B:Nat→Nat→F} {x z:Nat→F} (ha:a < R) (hb:b < R):MetS R C D (swR a b A) (swR a b B) x z↔MetS R C D A B x z:=by
 have h1:∀ i,eqn C D (swR a b A) (swR a b B) x z i=if i=a then eqn C D A B x z b else if i=b then eqn C D A B x z a else eqn C D A B x z i:=fun i=>by
  unfold eqn swR
  by_cases e:i=a
  ·simp only [e,if_true]
  ·by_cases e2:i=b
   ·simp only [e2,if_true]
    split <;> rfl
   ·simp only [e,e2,if_false]
 constructor
 ·intro h i hi
  by_cases e:i=b
  ·have:=h a ha;rw [h1,if_pos rfl] at this;rw [e];exact this
  ·by_cases e2:i=a
   ·have:=h b hb
    rw [h1] at this
    by_cases e3:b=a
    ·exact absurd (e2.trans e3.symm) e
    ·rw [if_neg e3,if_pos rfl] at this;rw [e2];exact this
   ·have:=h i hi;rwa [h1,if_neg e2,if_neg e] at this
 ·intro h i hi
  rw [h1]
  split
  ·exact h b hb
  ·split
   ·exact h a ha
   ·exact h i hi
theorem met_sc {R C D a:Nat} {v:F} {A B:Nat→Nat→F} {x z:Nat→F} (hv:v ≠ 0):MetS R C D (scR a v A) (scR a v B) x z↔MetS R C D A B x z:=by
 have h1:∀ i,eqn C D (scR a v A) (scR a v B) x z i=if i=a then v * eqn C D A B x z a else eqn C D A B x z i:=fun i=>by
  unfold eqn scR
  by_cases e:i=a
  ·simp only [e,if_true]
   rw [mad,← sm_mul,← sm_mul]
   congr 1 <;> exact sm_congr fun k _=>by rw [mulC _ v,mulA]
  ·simp only [e,if_false]
 constructor
 ·intro h i hi
  have:=h i hi
  rw [h1] at this
  split at this
  ·rename_i e;rw [e];exact (mul_eq0 this).resolve_left hv
  ·exact this
 ·intro h i hi
  rw [h1]
  split
  ·rename_i e;rw [← e,h i hi,mzero]
  ·exact h i hi
theorem met_el {R C D a:Nat} {t:Nat→F} {A B:Nat→Nat→F} {x z:Nat→F} (ha:a < R):MetS R C D (elR a t A) (elR a t B) x z↔MetS R C D A B x z:=by
 have h1:∀ i,eqn C D (elR a t A) (elR a t B) x z i=if i=a then eqn C D A B x z a else eqn C D A B x z i+t i * eqn C D A B x z a:=fun i=>by
  unfold eqn elR
  by_cases e:i=a
  ·simp only [e,if_true]
  ·simp only [e,if_false]
   rw [mad,← sm_mul,← sm_mul]
   have h2:∀ (n:Nat) (f g:Nat→F),sm n (fun k=>f k * g k)=sm n (fun k=>f k * g k):=fun _ _ _=>rfl
   rw [show sm C (fun k=>(A i k+A a k * t i) * x k)=sm C (fun k=>A i k * x k)+sm C (fun k=>t i * (A a k * x k)) by
    rw [← sm_add];exact sm_congr fun k _=>by rw [dam,mulC (A a k),mulA]]
   rw [show sm D (fun k=>(B i k+B a k * t i) * z k)=sm D (fun k=>B i k * z k)+sm D (fun k=>t i * (B a k * z k)) by
    rw [← sm_add];exact sm_congr fun k _=>by rw [dam,mulC (B a k),mulA]]
   simp only [addA,addL]
 constructor
 ·intro h i hi
  have h0:eqn C D A B x z a=0:=by have:=h a ha;rwa [h1,if_pos rfl] at this
  have:=h i hi
  rw [h1,h0,mzero,addz] at this
  split at this
  ·rename_i e;rw [e];exact h0
  ·exact this
 ·intro h i hi
  rw [h1,h a ha,mzero,addz]
  split
  ·rfl
  ·exact h i hi

def stepR (a fr c:Nat) (A0 A:Nat→Nat→F):Nat→Nat→F :=
 elR a (fun i=>scR a (inv (A0 fr c)) (swR a fr A0) i c) (scR a (inv (A0 fr c)) (swR a fr A))
theorem met_step {R C D a fr c:Nat} {A B:Nat→Nat→F} {x z:Nat→F} (ha:a < R) (hf:fr < R) (hne:A fr c ≠ 0):MetS R C D (stepR a fr c A A) (stepR a fr c A B) x z↔MetS R C D A B x z:=by
 unfold stepR
 rw [met_el ha,met_sc (inv_ne0 hne),met_sw ha hf]

structure Ech (R c a:Nat) (A:Nat→Nat→F) (p:Nat→Nat):Prop where
 aR:a≤R
 lt:∀ r,r < a→p r < c
 mono:∀ r s,r < s→s < a→p r < p s
 piv:∀ r,r < a→∀ i,i < R→A i (p r)=if i=r then 1 else 0
 low:∀ i,a≤i→i < R→∀ k,k < c→A i k=0
 free:c=a ∨ ∃ f,f < c∧∀ r,r < a→p r ≠ f
theorem Ech.zero (R:Nat) (A:Nat→Nat→F):Ech R 0 0 A (fun _=>0):=⟨Nat.zero_le _,fun r h=>by omega,fun r s h k=>by omega,fun r h=>by omega,fun i _ _ k hk=>by omega,.inl rfl⟩
theorem Ech.skip {R c a:Nat} {A:Nat→Nat→F} {p:Nat→Nat} (h:Ech R c a A p) (hz:∀ i,a≤i→i < R→A i c=0):Ech R (c+1) a A p:=by
 refine ⟨h.aR,fun r hr=>by have:=h.lt r hr;omega,h.mono,h.piv,fun i h1 h2 k hk=>?_,?_⟩
 ·by_cases e:k=c
  ·rw [e];exact hz i h1 h2
  ·exact h.low i h1 h2 k (by omega)
 ·right
  exact ⟨c,by omega,fun r hr e=>by have:=h.lt r hr;omega⟩
theorem Ech.step {R c a fr:Nat} {A:Nat→Nat→F} {p:Nat→Nat} (h:Ech R c a A p) (hf:a≤fr) (hfR:fr < R) (hne:A fr c ≠ 0) :
  Ech R (c+1) (a+1) (stepR a fr c A A) (fun r=>if r=a then c else p r):=by
 have haR:a < R:=by omega
 obtain ⟨v,hv⟩:∃ v,v=inv (A fr c):=⟨_,rfl⟩
 have hM:∀ i k,stepR a fr c A A i k=if i=a then A fr k * v else (if i=fr then A a k else A i k)+A fr k * v * (if i=fr then A a c else A i c):=fun i k=>by
  unfold stepR elR scR swR
  rw [← hv]
  by_cases e:i=a
  ·simp only [e,if_true]
  ·simp only [e,if_false,if_true]
 have hvc:A fr c * v=1:=by rw [hv];exact m_inv _ hne
 have hlow:∀ i,a≤i→i < R→∀ r,r < a→A i (p r)=0:=fun i h1 h2 r hr=>by rw [h.piv r hr i h2,if_neg (by omega)]
 refine ⟨haR,fun r hr=>?_,fun r s hrs hs=>?_,fun r hr i hi=>?_,fun i h1 h2 k hk=>?_,?_⟩
 ·try dsimp only
  split
  ·omega
  ·have:=h.lt r (by omega);omega
 ·try dsimp only
  rw [if_neg (by omega)]
  split
  ·exact h.lt r (by omega)
  ·exact h.mono r s hrs (by omega)
 ·try dsimp only
  rw [hM]
  by_cases er:r=a
  ·rw [if_pos er,er]
   by_cases ei:i=a
   ·rw [if_pos ei,if_pos ei,hvc]
   ·rw [if_neg ei,if_neg ei,hvc,onem,adds]
  ·rw [if_neg er]
   have hr':r < a:=by omega
   rw [hlow fr hf hfR r hr',zmul,zmul,addz]
   by_cases ei:i=a
   ·rw [if_pos ei,if_neg (by omega)]
   ·rw [if_neg ei]
    by_cases ef:i=fr
    ·rw [if_pos ef,hlow a (Nat.le_refl _) haR r hr',if_neg (by omega)]
    ·rw [if_neg ef];exact h.piv r hr' i hi
 ·rw [hM,if_neg (by omega)]
  by_cases ek:k=c
  ·rw [ek,hvc,onem,adds]
  ·have hk':k < c:=by omega
   rw [h.low fr hf hfR k hk',zmul,zmul,addz]
   split
   ·exact h.low a (Nat.le_refl _) haR k hk'
   ·exact h.low i (by omega) h2 k hk'
 ·rcases h.free with e | ⟨f,h1,h2⟩
  ·left;omega
  ·right
   refine ⟨f,by omega,fun r hr=>?_⟩
   try dsimp only
   split
   ·omega
   ·exact h2 r (by omega)
theorem sm_two {n:Nat} {f:Nat→F} (i j:Nat) (hi:i < n) (hj:j < n) (hij:i ≠ j) (h:∀ k,k < n→k ≠ i→k ≠ j→f k=0):sm n f=f i+f j:=by
 have e:sm n f=sm n (fun k=>(if k=i then f i else 0)+(if k=j then f j else 0)):=sm_congr fun k hk=>by
  by_cases h1:k=i
  ·rw [if_pos h1,if_neg (by omega),addz,h1]
  ·rw [if_neg h1]
   by_cases h2:k=j
   ·rw [if_pos h2,zadd,h2]
   ·rw [if_neg h2,addz];exact h k hk h1 h2
 rw [e,sm_add,sm_one i hi (fun k _ hk=>if_neg hk),sm_one j hj (fun k _ hk=>if_neg hk),if_pos rfl,if_pos rfl]
theorem Ech.kernel {R c C a:Nat} {A:Nat→Nat→F} {p:Nat→Nat} (h:Ech R c a A p) (hc:c≤C) (ha:a < C) (hend:c=C ∨ a=R) :
  ∃ x:Nat→F,(∃ k,k < C∧x k ≠ 0)∧∀ i,i < R→sm C (fun k=>A i k * x k)=0:=by
 obtain ⟨f,hf,hfp⟩:∃ f,f < C∧∀ r,r < a→p r ≠ f:=by
  by_cases e:c=C
  ·rcases h.free with e2 | ⟨f,h1,h2⟩
   ·omega
   ·exact ⟨f,by omega,h2⟩
  ·exact ⟨c,by omega,fun r hr e2=>by have:=h.lt r hr;omega⟩
 have hrow:∀ i,a≤i→i < R→c=C:=fun i h1 h2=>hend.resolve_right (by omega)
 have pinj:∀ r s,r < a→s < a→p r=p s→r=s:=fun r s hr hs e=>by
  rcases Nat.lt_trichotomy r s with h1 | h1 | h1
  ·have:=h.mono r s h1 hs;omega
  ·exact h1
  ·have:=h.mono s r h1 hr;omega
 have hx:∃ x:Nat→F,x f=1∧(∀ r,r < a→x (p r)=A r f)∧∀ k,k ≠ f→(∀ r,r < a→p r ≠ k)→x k=0:=by
  refine ⟨fun k=>if k=f then 1 else sm a (fun r=>if p r=k then A r f else 0),if_pos rfl,fun r hr=>?_,fun k h1 h2=>?_⟩
  ·try dsimp only
   rw [if_neg (hfp r hr),sm_one r hr (fun s hs hne=>if_neg fun e=>hne (pinj s r hs hr e)),if_pos rfl]
  ·try dsimp only
   rw [if_neg h1]
   exact sm_0 fun r hr=>if_neg (h2 r hr)
 obtain ⟨x,x1,x2,x3⟩:=hx
 refine ⟨x,⟨f,hf,by rw [x1];exact one_ne0⟩,fun i hi=>?_⟩
 by_cases hia:i < a
 ·have hpi:p i < C:=by have:=h.lt i hia;omega
  rw [sm_two f (p i) hf hpi (fun e=>hfp i hia e.symm) fun k hk h1 h2=>?_]
  ·rw [x1,mone,x2 i hia,h.piv i hia i hi,if_pos rfl,onem,adds]
  ·by_cases e:∃ r,r < a∧p r=k
   ·obtain ⟨r,hr,rfl⟩:=e
    rw [h.piv r hr i hi,if_neg (fun e=>h2 (by rw [e])),zmul]
   ·rw [x3 k h1 (fun r hr e2=>e ⟨r,hr,e2⟩),mzero]
 ·have e:=hrow i (by omega) hi
  exact sm_0 fun k hk=>by rw [h.low i (by omega) hi k (by omega),zmul]
theorem Ech.full {R c C:Nat} {A:Nat→Nat→F} {p:Nat→Nat} (h:Ech R c C A p) (hc:c≤C):∀ i,i < R→∀ k,k < C→A i k=if i=k then 1 else 0:=by
 have hp:∀ r,r < C→p r=r:=by
  have h1:∀ r,r < C→r≤p r:=fun r=>by
   induction r with
   | zero=>intro _;omega
   | succ r ih=>intro hr;have:=ih (by omega);have:=h.mono r (r+1) (by omega) hr;omega
  have h2:∀ d r,r+d+1=C→p r+d < C:=fun d=>by
   induction d with
   | zero=>intro r hr;have:=h.lt r (by omega);omega
   | succ d ih=>intro r hr;have:=ih (r+1) (by omega);have:=h.mono r (r+1) (by omega) (by omega);omega
  intro r hr
  have:=h1 r hr
  have:=h2 (C - 1 - r) r (by omega)
  omega
 intro i hi k hk
 have:=h.piv k hk i hi
 rwa [hp k hk] at this
end Fld
end Go.Proofs.YtnjbkfeihbcalaaGreat
/- A matrix laid out row by row; its rows exchanged, scaled, taken off, cell by cell. -/
namespace Go.Proofs.YtnjbkfeihbcalaaGreat
set_option linter.unusedVariables false
set_option linter.unusedSectionVars false
namespace Fld
variable {F:Type} [Fld F]

def flat (C:Nat) (M:Nat→Nat→F):Nat→F:=fun j=>M (j / C) (j % C)
theorem flat_at {C:Nat} (hC:0 < C) (M:Nat→Nat→F) (i k:Nat) (hk:k < C):flat C M (i * C+k)=M i k:=by
 unfold flat
 rw [Nat.mul_comm,Nat.mul_add_div hC,Nat.div_eq_of_lt hk,Nat.mul_add_mod,Nat.mod_eq_of_lt hk,Nat.add_zero]
theorem off_ex {R C:Nat} (hC:0 < C) {j:Nat} (hj:j < R * C):∃ i k,i < R∧k < C∧j=i * C+k :=
 ⟨j / C,j % C,Nat.div_lt_of_lt_mul (by rwa [Nat.mul_comm]),Nat.mod_lt _ hC,by rw [Nat.mul_comm];exact (Nat.div_add_mod j C).symm⟩
theorem off_lt {R C i k:Nat} (hi:i < R) (hk:k < C):i * C+k < R * C:=by
 have:(i+1) * C≤R * C:=Nat.mul_le_mul_right C hi
 rw [Nat.add_mul,Nat.one_mul] at this
 omega
theorem off_in {C i k a:Nat} (hk:k < C):(a * C≤i * C+k∧i * C+k < a * C+C)↔i=a:=by
 constructor
 ·rintro ⟨h1,h2⟩
  rcases Nat.lt_trichotomy i a with h | h | h
  ·have:(i+1) * C≤a * C:=Nat.mul_le_mul_right C h
   rw [Nat.add_mul,Nat.one_mul] at this
   omega
  ·exact h
  ·have:(a+1) * C≤i * C:=Nat.mul_le_mul_right C h
   rw [Nat.add_mul,Nat.one_mul] at this
   omega
 ·rintro rfl;omega
theorem row_apart {C a b:Nat} (h:a ≠ b):a * C+C≤b * C ∨ b * C+C≤a * C:=by
 rcases Nat.lt_or_gt_of_ne h with h | h
 ·left
  have:(a+1) * C≤b * C:=Nat.mul_le_mul_right C h
  rwa [Nat.add_mul,Nat.one_mul] at this
 ·right
  have:(b+1) * C≤a * C:=Nat.mul_le_mul_right C h
  rwa [Nat.add_mul,Nat.one_mul] at this

def swF (x y n:Nat) (g:Nat→F):Nat→F:=fun j=>if x≤j∧j < x+n then g (y+(j - x)) else if y≤j∧j < y+n then g (x+(j - y)) else g j
theorem swF_zero (x y:Nat) (g:Nat→F):swF x y 0 g=g:=by funext j;unfold swF;rw [if_neg (by omega),if_neg (by omega)]
theorem swF_old {x y C n:Nat} (hd:x=y ∨ x+C≤y ∨ y+C≤x) (hn:n < C) (g:Nat→F):swF x y n g (x+n)=g (x+n)∧swF x y n g (y+n)=g (y+n):=by
 unfold swF
 constructor <;> rw [if_neg (by omega),if_neg (by omega)]
theorem swF_succ {x y C n:Nat} (hd:x=y ∨ x+C≤y ∨ y+C≤x) (hn:n < C) (g:Nat→F) :
  (fun j=>if j=y+n then g (x+n) else if j=x+n then g (y+n) else swF x y n g j)=swF x y (n+1) g:=by
 funext j
 unfold swF
 by_cases e1:j=y+n
 ·subst e1
  rw [if_pos rfl]
  by_cases e:x=y
  ·subst e
   rw [if_pos (by omega)];congr 1;omega
  ·rw [if_neg (by omega),if_pos (by omega)];congr 1;omega
 ·rw [if_neg e1]
  by_cases e2:j=x+n
  ·subst e2
   rw [if_pos rfl,if_pos (by omega)];congr 1;omega
  ·rw [if_neg e2]
   by_cases h1:x≤j∧j < x+n
   ·rw [if_pos h1,if_pos (by omega)]
   ·have a1:¬ (x≤j∧j < x+(n+1)):=by omega
    by_cases h2:y≤j∧j < y+n
    ·have a2:y≤j∧j < y+(n+1):=by omega
     rw [if_neg h1,if_pos h2,if_neg a1,if_pos a2]
    ·have a2:¬ (y≤j∧j < y+(n+1)):=by omega
     rw [if_neg h1,if_neg h2,if_neg a1,if_neg a2]
theorem swF_flat {C:Nat} (hC:0 < C) (a b:Nat) (M:Nat→Nat→F) {R j:Nat} (hj:j < R * C):swF (a * C) (b * C) C (flat C M) j=flat C (swR a b M) j:=by
 obtain ⟨i,k,hi,hk,rfl⟩:=off_ex hC hj
 rw [flat_at hC _ _ _ hk]
 unfold swF swR
 by_cases e:i=a
 ·rw [if_pos ((off_in hk).2 e),if_pos e,show b * C+(i * C+k - a * C)=b * C+k by rw [e];omega,flat_at hC _ _ _ hk]
 ·rw [if_neg (fun h=>e ((off_in hk).1 h)),if_neg e]
  by_cases e2:i=b
  ·rw [if_pos ((off_in hk).2 e2),if_pos e2,show a * C+(i * C+k - b * C)=a * C+k by rw [e2];omega,flat_at hC _ _ _ hk]
  ·rw [if_neg (fun h=>e2 ((off_in hk).1 h)),if_neg e2,flat_at hC _ _ _ hk]
def scF (x n:Nat) (v:F) (g:Nat→F):Nat→F:=fun j=>if x≤j∧j < x+n then g j * v else g j
theorem scF_zero (x:Nat) (v:F) (g:Nat→F):scF x 0 v g=g:=by funext j;unfold scF;rw [if_neg (by omega)]
theorem scF_old (x n:Nat) (v:F) (g:Nat→F):scF x n v g (x+n)=g (x+n):=by unfold scF;rw [if_neg (by omega)]
theorem scF_succ (x n:Nat) (v:F) (g:Nat→F):(fun j=>if j=x+n then g (x+n) * v else scF x n v g j)=scF x (n+1) v g:=by
 funext j
 unfold scF
 by_cases e:j=x+n
 ·subst e;rw [if_pos rfl,if_pos (by omega)]
 ·rw [if_neg e]
  by_cases h:x≤j∧j < x+n
  ·rw [if_pos h,if_pos (by omega)]
  ·rw [if_neg h,if_neg (by omega)]
theorem scF_flat {C:Nat} (hC:0 < C) (a:Nat) (v:F) (M:Nat→Nat→F) {R j:Nat} (hj:j < R * C):scF (a * C) C v (flat C M) j=flat C (scR a v M) j:=by
 obtain ⟨i,k,hi,hk,rfl⟩:=off_ex hC hj
 rw [flat_at hC _ _ _ hk]
 unfold scF scR
 by_cases e:i=a
 ·rw [if_pos ((off_in hk).2 e),if_pos e,flat_at hC _ _ _ hk,e]
 ·rw [if_neg (fun h=>e ((off_in hk).1 h)),if_neg e,flat_at hC _ _ _ hk]
def elS (a:Nat) (T:Nat→F) (pre:List Nat) (M:Nat→Nat→F):Nat→Nat→F:=fun i k=>if i ≠ a∧i ∈ pre then M i k+M a k * T i else M i k
theorem elS_nil (a:Nat) (T:Nat→F) (M:Nat→Nat→F):elS a T [] M=M:=by funext i k;unfold elS;rw [if_neg (by simp)]
theorem elS_row (a:Nat) (T:Nat→F) (pre:List Nat) (M:Nat→Nat→F) (k:Nat):elS a T pre M a k=M a k:=by unfold elS;rw [if_neg (by simp)]
theorem elS_skip {a:Nat} {T:Nat→F} {pre:List Nat} {M:Nat→Nat→F}:elS a T (pre ++ [a]) M=elS a T pre M:=by
 funext i k
 unfold elS
 by_cases e:i=a
 ·rw [if_neg (by simp [e]),if_neg (by simp [e])]
 ·simp [e]
def tOf (T:Nat→F) (pre:List Nat) (i:Nat):F:=if i ∈ pre then 0 else T i
theorem elS_step {a:Nat} {T:Nat→F} {pre:List Nat} {M:Nat→Nat→F} {i:Nat} (hi:i ≠ a) :
  (fun r k=>if r=i then elS a T pre M i k+M a k * tOf T pre i else elS a T pre M r k)=elS a T (pre ++ [i]) M:=by
 funext r k
 unfold elS tOf
 by_cases e:r=i
 ·subst e
  rw [if_pos rfl]
  by_cases h:r ∈ pre
  ·rw [if_pos ⟨hi,h⟩,if_pos h,if_pos ⟨hi,by simp [h]⟩,mzero,addz]
  ·rw [if_neg (fun x=>h x.2),if_neg h,if_pos ⟨hi,by simp⟩]
 ·rw [if_neg e]
  by_cases h:r ≠ a∧r ∈ pre
  ·rw [if_pos h,if_pos ⟨h.1,by simp [h.2]⟩]
  ·rw [if_neg h,if_neg (fun x=>h ⟨x.1,by have:=x.2;simp [e] at this;exact this⟩)]
theorem elS_t {a c:Nat} {T:Nat→F} {pre:List Nat} {M:Nat→Nat→F} {i:Nat} (hi:i ≠ a) (h1:M a c=1) (hT:∀ i,T i=M i c):elS a T pre M i c=tOf T pre i:=by
 unfold elS tOf
 by_cases h:i ∈ pre
 ·rw [if_pos ⟨hi,h⟩,if_pos h,h1,onem,hT,adds]
 ·rw [if_neg (fun x=>h x.2),if_neg h,hT]
theorem elS_all {a:Nat} {T:Nat→F} {pre:List Nat} {M:Nat→Nat→F} {R:Nat} (h:∀ i,i < R→i ∈ pre) {i:Nat} (hi:i < R) (k:Nat):elS a T pre M i k=elR a T M i k:=by
 unfold elS elR
 by_cases e:i=a
 ·rw [if_neg (by simp [e]),if_pos e,e]
 ·rw [if_pos ⟨e,h i hi⟩,if_neg e]
end Fld
end Go.Proofs.YtnjbkfeihbcalaaGreat
