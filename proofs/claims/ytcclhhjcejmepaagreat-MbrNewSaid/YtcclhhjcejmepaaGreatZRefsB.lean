/-
  The reference's Mul, Roots and Through.
  The reference's Through.
  The reference's powers.
-/
import Derived.Test.YtcclhhjcejmepaaGreatZRefsA
/- The reference's Mul, Roots and Through. -/
namespace Go.Proofs.YtcclhhjcejmepaaGreat
open Go.RowKit Fld
set_option linter.unusedVariables false
set_option linter.unusedSimpArgs false

end Go.Proofs.YtcclhhjcejmepaaGreat
/- The reference's Through. -/
namespace Go.Proofs.YtcclhhjcejmepaaGreat
open Go.RowKit Fld
set_option linter.unusedVariables false
set_option linter.unusedSimpArgs false

def lack (xs:List GF) (I:Nat):List GF:=xs.take I ++ xs.drop (I+1)
theorem lack_len {xs:List GF} {I:Nat} (h:I < xs.length):(lack xs I).length+1=xs.length:=by simp [lack];omega
theorem lack_get {xs:List GF} {I:Nat} (h:I < xs.length) (t:Nat):(lack xs I).getD t 0=if t < I then xs.getD t 0 else xs.getD (t+1) 0:=by
 rw [lack,List.getD_eq_getElem?_getD]
 by_cases ht:t < I
 ·rw [if_pos ht,List.getElem?_append_left (by rw [List.length_take];omega),List.getElem?_take,if_pos ht,List.getD_eq_getElem?_getD]
 ·rw [if_neg ht,List.getElem?_append_right (by rw [List.length_take];omega),List.length_take,Nat.min_eq_left (by omega),List.getElem?_drop,List.getD_eq_getElem?_getD]
  congr 2
  omega
theorem lack_zero {xs:List GF} {I j:Nat} (hI:I < xs.length) (hj:j < xs.length) (hne:j ≠ I):prodN (fun i=>(lack xs I).getD i 0) (xs.getD j 0) (lack xs I).length=0:=by
 refine (prodN_eq0 _ _ _).2 ⟨if j < I then j else j - 1,?_,?_⟩
 ·have:=lack_len hI
  split <;> omega
 ·rw [lack_get hI]
  by_cases h:j < I
  ·rw [if_pos h,if_pos h]
  ·rw [if_neg h,if_neg (by omega),show j - 1+1=j by omega]
theorem lack_ne {xs:List GF} {I:Nat} (hn:xs.Nodup) (hI:I < xs.length):prodN (fun i=>(lack xs I).getD i 0) (xs.getD I 0) (lack xs I).length ≠ 0:=by
 intro h
 obtain ⟨t,ht,e⟩:=(prodN_eq0 _ _ _).1 h
 have hl:=lack_len hI
 rw [lack_get hI] at e
 by_cases h2:t < I
 ·rw [if_pos h2] at e
  have:=getD_inj hn (by omega) hI e
  omega
 ·rw [if_neg h2] at e
  have:=getD_inj hn (by omega) hI e
  omega
structure ThruI (w wr:World) (xs ys:List GF) (I:Nat) (V:Value) (p:List GF):Prop where
 own:OwnG wr w.heap.size V p
 trim:Trimd p
 len:p.length≤xs.length
 val:∀ j,j < xs.length→ev p (xs.getD j 0)=if j < I then ys.getD j 0 else 0
 below:Below w.heap.size w wr
theorem ThruI.step {w wr w9:World} {xs ys:List GF} {I:Nat} {V V9:Value} {p q r s:List GF} {c:GF} (h:ThruI w wr xs ys I V p) (hn:xs.Nodup) (hI:I < xs.length)
  (hq:∀ y,ev q y=prodN (fun i=>(lack xs I).getD i 0) y (lack xs I).length) (hql:q.length≤(lack xs I).length+1) (hc:c=ys.getD I 0 * Fld.inv (ev q (xs.getD I 0)))
  (hr:∀ y,ev r y=ev q y * ev [c] y) (hrl:r.length≤q.length - 1+1) (hs:∀ y,ev s y=ev p y+ev r y) (hsl:s.length≤max p.length r.length) (ht:Trimd s) (hrd:OwnG w9 w.heap.size V9 s) (hb:Below w.heap.size w w9):ThruI w w9 xs ys (I+1) V9 s:=by
 have hll:=lack_len hI
 have hpl:=h.len
 refine ⟨hrd,ht,by omega,fun j hj=>?_,hb⟩
 rw [hs,hr,ev_one1,h.val j hj]
 by_cases e:j=I
 ·subst e
  rw [if_neg (by omega),if_pos (by omega),zadd,hc,mulL,m_inv _ (by rw [hq];exact lack_ne hn hI),mone]
 ·rw [hq,lack_zero hI hj e,zmul,addz]
  by_cases h2:j < I
  ·rw [if_pos h2,if_pos (by omega)]
  ·rw [if_neg h2,if_neg (by omega)]
end Go.Proofs.YtcclhhjcejmepaaGreat
/- The reference's powers. -/
namespace Go.Proofs.YtcclhhjcejmepaaGreat
open Go.RowKit Fld
set_option linter.unusedVariables false
set_option linter.unusedSimpArgs false

end Go.Proofs.YtcclhhjcejmepaaGreat
