/-
  What a code amounts to: plain functions on numbers.
  What a code amounts to: within which bounds.
  What a code that may be amounts to, kind by kind, in natural numbers.
-/
import Derived.WalkKit
import Derived.Test.YtnjbkfeihbcalaaGreatZPlainM
/- What a code amounts to: plain functions on numbers. -/
namespace Go.Proofs.YtnjbkfeihbcalaaGreat
open Go.RowKit

structure Sh where
 al:Int
 b:Int
 te:Int
 as_:Int
 tol:Int
deriving DecidableEq

def Sh.zero:Sh:=⟨0,0,0,0,0⟩
def Sh.v (s:Sh):Value:=.agg #[.int .i64 s.al,.int .i64 s.b,.int .i64 s.te,.int .i64 s.as_,.int .i64 s.tol]

def okReed (n k d r:Int):Bool:=(decide (k≤n) && decide (d=0)) && decide (r=0)
def shReed (k t:Int):Sh:=⟨1,k,k,k+2 * t,1⟩
def okMsr (n k d r:Int):Bool:=((((decide (r=0) && decide (1 < k)) && decide (2 * k - 2≤d)) && decide (d < n)) && decide (d - k+1≤16)) && decide (n+d - 2 * k+2≤255 / (Int.gcd (d - k+1) 255:Int))
def shMsr (k d t:Int):Sh:=⟨d - k+1,k * (d - k+1),k,d+2 * t,1⟩
def okMbr (n k d r:Int):Bool:=(decide (r=0) && decide (k≤d)) && decide (d < n)
def shMbr (k d t:Int):Sh:=⟨d,k * d - k * (k - 1) / 2,k,d+2 * t,1⟩
def okTr (n k d r t:Int):Bool:=(((decide (d=0) && decide (r=0)) && decide (t=0)) && decide (k < n)) && decide (n≤23)
def shTr (n k:Int):Sh:=⟨n - 1,k * (n - 1) - k * (k - 1) / 2,k,n - 1,1⟩
def okLoc0 (n k d r:Int):Bool:=(((decide (d=0) && decide (1≤r)) && decide (255 % (r+1)=0)) && decide (n % (r+1)=0)) && decide (k % r=0)
def okLoc (n k d r:Int):Bool:=okLoc0 n k d r && decide (k+k / r - 1≤n)
def shLoc (k r t:Int):Sh:=⟨1,k,k+k / r - 1,if 0 < t then k+k / r - 1+2 * t else r,1⟩

def locSh (n k d r t:Int):Sh:=if okLoc0 n k d r then shLoc k r t else .zero

def shapeF (c n k d r t:Int):Sh :=
 if k < 1 then .zero
 else if c=1 then (if okReed n k d r then shReed k t else .zero)
 else if c=2 then (if okMsr n k d r then shMsr k d t else .zero)
 else if c=3 then (if okMbr n k d r then shMbr k d t else .zero)
 else if c=4 then (if okTr n k d r t then shTr n k else .zero)
 else if c=5 then (if okLoc n k d r then shLoc k r t else .zero)
 else .zero

def inRange (n k d r t:Int):Prop:=1≤n∧n≤255∧0≤k∧k≤255∧0≤d∧d≤255∧0≤r∧r≤255∧0≤t∧t≤127
instance (n k d r t:Int):Decidable (inRange n k d r t):=by unfold inRange;exact inferInstance

def fits (s:Sh) (n t w:Int):Prop:=s ≠ .zero∧s.te+2 * t≤w∧w≤n∧s.as_ < n∧s.te+2 * t < n
instance (s:Sh) (n t w:Int):Decidable (fits s n t w):=by unfold fits;exact inferInstance

def checkF (c n k d r t w:Int):Option Sh :=
 if inRange n k d r t∧fits (shapeF c n k d r t) n t w then some (shapeF c n k d r t) else none

def checkV:Option Sh→Value
 | some s=>.tuple #[s.v,.int .i64 0]
 | none=>.tuple #[Sh.zero.v,.int .i64 130]

theorem mul_bd {a b A B:Int} (ha:0≤a) (hA:a≤A) (hb:0≤b) (hB:b≤B):0≤a * b∧a * b≤A * B :=
 ⟨Int.mul_nonneg ha hb,Int.mul_le_mul hA hB hb (by omega)⟩

end Go.Proofs.YtnjbkfeihbcalaaGreat
/- What a code amounts to: within which bounds. -/
namespace Go.Proofs.YtnjbkfeihbcalaaGreat
open Go.RowKit

theorem shapeF_ok {c n k d r t:Int} (hn:1≤n∧n≤255) (hk:0≤k∧k≤255) (hd:0≤d∧d≤255) (hr:0≤r∧r≤255) (ht:0≤t∧t≤127) :
  shapeF c n k d r t=.zero ∨ (1≤(shapeF c n k d r t).al∧(shapeF c n k d r t).al≤255∧1≤(shapeF c n k d r t).te∧(shapeF c n k d r t).te≤510∧1≤(shapeF c n k d r t).as_∧(shapeF c n k d r t).as_≤1020∧(shapeF c n k d r t).tol=1):=by
 unfold shapeF
 split
 ·exact .inl rfl
 rename_i hk1
 split
 ·split
  ·rename_i h;simp only [okReed,Bool.and_eq_true,decide_eq_true_eq] at h
   right;refine ⟨?_,?_,?_,?_,?_,?_,?_⟩ <;> simp only [shReed] <;> omega
  ·exact .inl rfl
 split
 ·split
  ·rename_i h;simp only [okMsr,Bool.and_eq_true,decide_eq_true_eq] at h
   right;refine ⟨?_,?_,?_,?_,?_,?_,?_⟩ <;> simp only [shMsr] <;> omega
  ·exact .inl rfl
 split
 ·split
  ·rename_i h;simp only [okMbr,Bool.and_eq_true,decide_eq_true_eq] at h
   right;refine ⟨?_,?_,?_,?_,?_,?_,?_⟩ <;> simp only [shMbr] <;> omega
  ·exact .inl rfl
 split
 ·split
  ·rename_i h;simp only [okTr,Bool.and_eq_true,decide_eq_true_eq] at h
   right;refine ⟨?_,?_,?_,?_,?_,?_,?_⟩ <;> simp only [shTr] <;> omega
  ·exact .inl rfl
 split
 ·split
  ·rename_i h;simp only [okLoc,okLoc0,Bool.and_eq_true,decide_eq_true_eq] at h
   have h1:0≤k / r:=Int.ediv_nonneg (by omega) (by omega)
   have h2:k / r≤k:=Int.ediv_le_self _ (by omega)
   have h3:1≤k / r:=by
    have h4:=Int.emod_add_mul_ediv k r
    rw [h.1.2] at h4
    rcases Int.lt_or_le (k / r) 1 with h5 | h5
    ·have h6:k / r=0:=by omega
     rw [h6] at h4
     omega
    ·exact h5
   right;refine ⟨?_,?_,?_,?_,?_,?_,?_⟩ <;> simp only [shLoc] <;> first | omega | (split <;> omega)
  ·exact .inl rfl
 ·exact .inl rfl

end Go.Proofs.YtnjbkfeihbcalaaGreat
/- What a code that may be amounts to, kind by kind, in natural numbers. -/
namespace Go.Proofs.YtnjbkfeihbcalaaGreat
open Go.RowKit

theorem mk_kinds {c n k d r t q:Int} {s:Sh} (h:checkF c n k d r t q=some s) :
  inRange n k d r t∧1≤k∧((c=1∧okReed n k d r=true∧s=shReed k t) ∨ (c=2∧okMsr n k d r=true∧s=shMsr k d t) ∨ (c=3∧okMbr n k d r=true∧s=shMbr k d t) ∨ (c=4∧okTr n k d r t=true∧s=shTr n k) ∨ (c=5∧okLoc n k d r=true∧s=shLoc k r t)):=by
 unfold checkF at h
 split at h
 case isFalse=>cases h
 rename_i hh
 obtain ⟨h1,h2⟩:=hh
 simp only [Option.some.injEq] at h
 have hz:s ≠ .zero:=by rw [← h];exact h2.1
 clear h2
 refine ⟨h1,?_⟩
 unfold shapeF at h
 split at h
 ·exact absurd h.symm hz
 refine ⟨by omega,?_⟩
 split at h
 ·split at h
  ·exact .inl ⟨by assumption,by assumption,h.symm⟩
  ·exact absurd h.symm hz
 split at h
 ·split at h
  ·exact .inr (.inl ⟨by assumption,by assumption,h.symm⟩)
  ·exact absurd h.symm hz
 split at h
 ·split at h
  ·exact .inr (.inr (.inl ⟨by assumption,by assumption,h.symm⟩))
  ·exact absurd h.symm hz
 split at h
 ·split at h
  ·exact .inr (.inr (.inr (.inl ⟨by assumption,by assumption,h.symm⟩)))
  ·exact absurd h.symm hz
 split at h
 ·split at h
  ·exact .inr (.inr (.inr (.inr ⟨by assumption,by assumption,h.symm⟩)))
  ·exact absurd h.symm hz
 ·exact absurd h.symm hz
theorem mk_reed {n k d r t:Int} (h:inRange n k d r t) (h1:1≤k) (ho:okReed n k d r=true) :
  ∃ N K:Nat,n=(N:Int)∧k=(K:Int)∧1≤K∧K≤N∧N≤255:=by
 obtain ⟨a1,a2,a3,a4,a5,a6,a7,a8,a9,a10⟩:=h
 simp only [okReed,Bool.and_eq_true,decide_eq_true_eq] at ho
 exact ⟨n.toNat,k.toNat,by omega,by omega,by omega,by omega,by omega⟩
theorem mk_msr {n k d r t:Int} (h:inRange n k d r t) (h1:1≤k) (ho:okMsr n k d r=true) :
  ∃ N K D u a:Nat,n=(N:Int)∧k=(K:Int)∧d=(D:Int)∧MsOk N K D u a∧d - k+1=(a:Int):=by
 obtain ⟨a1,a2,a3,a4,a5,a6,a7,a8,a9,a10⟩:=h
 simp only [okMsr,Bool.and_eq_true,decide_eq_true_eq] at ho
 obtain ⟨⟨⟨⟨⟨o1,o2⟩,o3⟩,o4⟩,o5⟩,o6⟩:=ho
 obtain ⟨N,rfl⟩:∃ N:Nat,n=(N:Int):=⟨n.toNat,by omega⟩
 obtain ⟨K,rfl⟩:∃ K:Nat,k=(K:Int):=⟨k.toNat,by omega⟩
 obtain ⟨D,rfl⟩:∃ D:Nat,d=(D:Int):=⟨d.toNat,by omega⟩
 obtain ⟨u,hu⟩:∃ u,D+2=2 * K+u:=⟨D+2 - 2 * K,by omega⟩
 obtain ⟨a,ha⟩:∃ a,D+1=K+a:=⟨D+1 - K,by omega⟩
 have e1:(D:Int) - K+1=(a:Int):=by omega
 rw [e1] at o6
 have e2:Int.gcd (a:Int) 255=Nat.gcd a 255:=rfl
 rw [e2] at o6
 have e3:((255:Int) / (Nat.gcd a 255:Nat))=((255 / Nat.gcd a 255:Nat):Int):=by simp
 rw [e3] at o6
 refine ⟨N,K,D,u,a,rfl,rfl,rfl,⟨by omega,by omega,by omega,hu,ha,by omega,?_⟩,e1⟩
 generalize 255 / Nat.gcd a 255=g at o6 ⊢
 omega
theorem mk_tri (p q:Nat) (h:q≤p) (hq:1≤q):((q:Int) * p - (q:Int) * ((q:Int) - 1) / 2)=((q * p - q * (q - 1) / 2:Nat):Int):=by
 have e1:(q:Int) - 1=((q - 1:Nat):Int):=by omega
 have h1:q * (q - 1)≤q * p:=Nat.mul_le_mul_left _ (by omega)
 rw [e1]
 have e2:(q:Int) * ((q - 1:Nat):Int)=((q * (q - 1):Nat):Int):=by simp
 have e3:(q:Int) * (p:Int)=((q * p:Nat):Int):=by simp
 rw [e2,e3]
 generalize q * (q - 1)=x at h1 ⊢
 generalize q * p=y at h1 ⊢
 omega
theorem mk_mbr {n k d r t:Int} (h:inRange n k d r t) (h1:1≤k) (ho:okMbr n k d r=true) :
  ∃ N K D:Nat,n=(N:Int)∧k=(K:Int)∧d=(D:Int)∧(1≤K∧K≤D∧D < N∧N≤255)∧k * d - k * (k - 1) / 2=(mbB K D:Int):=by
 obtain ⟨a1,a2,a3,a4,a5,a6,a7,a8,a9,a10⟩:=h
 simp only [okMbr,Bool.and_eq_true,decide_eq_true_eq] at ho
 obtain ⟨⟨o1,o2⟩,o3⟩:=ho
 obtain ⟨N,rfl⟩:∃ N:Nat,n=(N:Int):=⟨n.toNat,by omega⟩
 obtain ⟨K,rfl⟩:∃ K:Nat,k=(K:Int):=⟨k.toNat,by omega⟩
 obtain ⟨D,rfl⟩:∃ D:Nat,d=(D:Int):=⟨d.toNat,by omega⟩
 refine ⟨N,K,D,rfl,rfl,rfl,⟨by omega,by omega,by omega,by omega⟩,?_⟩
 rw [mbB_eq (by omega),mk_tri D K (by omega) (by omega)]
theorem mk_tr {n k d r t:Int} (h:inRange n k d r t) (h1:1≤k) (ho:okTr n k d r t=true) :
  ∃ N K:Nat,n=(N:Int)∧k=(K:Int)∧(1≤K∧K < N∧N≤23)∧n - 1=((N - 1:Nat):Int)∧k * (n - 1) - k * (k - 1) / 2=(trB N K:Int):=by
 obtain ⟨a1,a2,a3,a4,a5,a6,a7,a8,a9,a10⟩:=h
 simp only [okTr,Bool.and_eq_true,decide_eq_true_eq] at ho
 obtain ⟨⟨⟨⟨o1,o2⟩,o3⟩,o4⟩,o5⟩:=ho
 obtain ⟨N,rfl⟩:∃ N:Nat,n=(N:Int):=⟨n.toNat,by omega⟩
 obtain ⟨K,rfl⟩:∃ K:Nat,k=(K:Int):=⟨k.toNat,by omega⟩
 have e1:(N:Int) - 1=((N - 1:Nat):Int):=by omega
 refine ⟨N,K,rfl,rfl,⟨by omega,by omega,by omega⟩,e1,?_⟩
 rw [trB_eq (by omega),e1,mk_tri (N - 1) K (by omega) (by omega)]
theorem mk_loc {n k d r t:Int} (h:inRange n k d r t) (h1:1≤k) (ho:okLoc n k d r=true) :
  ∃ N K R:Nat,n=(N:Int)∧k=(K:Int)∧r=(R:Int)∧LOkN N K R∧k+k / r - 1=((K+K / R - 1:Nat):Int):=by
 obtain ⟨a1,a2,a3,a4,a5,a6,a7,a8,a9,a10⟩:=h
 simp only [okLoc,okLoc0,Bool.and_eq_true,decide_eq_true_eq] at ho
 obtain ⟨⟨⟨⟨⟨o1,o2⟩,o3⟩,o4⟩,o5⟩,o6⟩:=ho
 obtain ⟨N,rfl⟩:∃ N:Nat,n=(N:Int):=⟨n.toNat,by omega⟩
 obtain ⟨K,rfl⟩:∃ K:Nat,k=(K:Int):=⟨k.toNat,by omega⟩
 obtain ⟨R,rfl⟩:∃ R:Nat,r=(R:Int):=⟨r.toNat,by omega⟩
 have e1:((K:Int) / (R:Int))=((K / R:Nat):Int):=by simp
 have e2:(K:Int)+((K / R:Nat):Int) - 1=((K+K / R - 1:Nat):Int):=by generalize K / R=z;omega
 have e3:(255:Int) % ((R:Int)+1)=((255 % (R+1):Nat):Int):=by simp
 have e4:(N:Int) % ((R:Int)+1)=((N % (R+1):Nat):Int):=by simp
 have e5:(K:Int) % (R:Int)=((K % R:Nat):Int):=by simp
 rw [e1,e2] at o6
 rw [e3] at o3
 rw [e4] at o4
 rw [e5] at o5
 refine ⟨N,K,R,rfl,rfl,rfl,⟨⟨by omega,?_⟩,by omega,by omega,by omega,by omega,by omega,by omega⟩,by rw [e1,e2]⟩
 rcases Nat.lt_or_ge 254 R with h5 | h5
 ·have:255 % (R+1)=255:=Nat.mod_eq_of_lt (by omega)
  omega
 ·exact h5
end Go.Proofs.YtnjbkfeihbcalaaGreat
