/-
  Symbols of a word that are told, one of them perhaps another one.
  Polynomials by definition: trimmed ones, and what tells that one passes through some values.
  Words of which some symbols are wrong: the plain laws.
  Rising rows of numbers, one behind the other: the plain laws.
  The places of wrong symbols, rising: the plain laws.
-/
import Derived.Test.YtnjbkfeihbcalaaGreatZDecA
import Derived.Test.YtnjbkfeihbcalaaGreatZKit
/- Symbols of a word that are told, one of them perhaps another one. -/
namespace Go.Proofs.YtnjbkfeihbcalaaGreat
open Go.RowKit Fld
set_option linter.unusedVariables false
set_option linter.unusedSimpArgs false

def rowF (f:Nat→GF) (J:Nat):List GF:=(List.range J).map f
theorem rowF_len (f:Nat→GF) (J:Nat):(rowF f J).length=J:=by simp [rowF]
theorem rowF_succ (f:Nat→GF) (J:Nat):rowF f (J+1)=rowF f J ++ [f J]:=by simp [rowF,List.range_succ]
theorem rowF_get (f:Nat→GF) {J i:Nat} (h:i < J):(rowF f J).getD i 0=f i:=by
 rw [List.getD_eq_getElem?_getD,rowF,List.getElem?_map,List.getElem?_range h]
 rfl
theorem View.rowF {w:World} {b N:Nat} {g:Nat→GF} (h:View w b N g) {cap:Nat} (hc:N≤cap):GRd w (.slice (some ⟨b,0,none⟩) N cap) (rowF g N):=by
 have:=h.rd (o:=0) (m:=N) (by omega) hc
 unfold Go.Proofs.YtnjbkfeihbcalaaGreat.rowF
 simpa using this
theorem View.list {w:World} {b N:Nat} {l:List GF} (h:View w b N (fun i=>l.getD i 0)) (hl:l.length=N) {cap:Nat} (hc:N≤cap):GRd w (.slice (some ⟨b,0,none⟩) N cap) l:=by
 have:=h.rowF hc
 have e:Go.Proofs.YtnjbkfeihbcalaaGreat.rowF (fun i=>l.getD i 0) N=l:=by
  subst hl
  refine List.ext_getElem (by simp [Go.Proofs.YtnjbkfeihbcalaaGreat.rowF]) fun i h1 h2=>?_
  simp [Go.Proofs.YtnjbkfeihbcalaaGreat.rowF,List.getElem?_eq_getElem h2]
 rwa [e] at this
theorem app_row {W:World} {B:Nat} {V:Value} {f:Nat→GF} {J:Nat} (h:OwnG W B V (rowF f J)) (hJ:J≤1000000) (hb:B≤W.heap.size) {n:Nat} (hn:(f J).n=n) {ad:Nat} (had:ad=W.heap.size) :
  ∃ v1 w3,(Builtin.append_ #[50,50] 50 #[V,.slice (some ⟨ad,0,none⟩) 1 1]).run Tryz.prog (W.alloc (.cells #[.int .u8 (n:Int)] 5))=.ok v1 w3 ∧
   OwnG w3 B v1 (rowF f (J+1))∧Kp V.ownBlock.toList W w3∧Below B W w3∧(v1.ownBlock=V.ownBlock ∨ v1.ownBlock=some (W.heap.size+1)):=by
 obtain ⟨v1,w3,h1,h2,h3⟩:=app_byte (f J) h (by rw [rowF_len];exact hJ) hb hn had
 exact ⟨v1,w3,h1,by rw [rowF_succ];exact h2,h3⟩
end Go.Proofs.YtnjbkfeihbcalaaGreat
/- Polynomials by definition: trimmed ones, and what tells that one passes through some values. -/
namespace Go.Proofs.YtnjbkfeihbcalaaGreat
open Go.RowKit Fld
set_option linter.unusedVariables false
set_option linter.unusedSimpArgs false

def Trimd (l:List GF):Prop:=l=[] ∨ l.getD (l.length - 1) 0 ≠ 0
def TrimOf (l p:List GF):Prop:=∃ n,n≤l.length∧p=l.take n∧Trimd p∧∀ j,n≤j→l.getD j 0=0
theorem TrimOf.ev {l p:List GF} (h:TrimOf l p) (x:GF):ev p x=ev l x:=by
 obtain ⟨n,hn,rfl,_,h2⟩:=h
 conv=>rhs;rw [← List.take_append_drop n l,ev_append]
 rw [ev_zeros (p:=l.drop n),mzero,addz]
 intro c hc
 obtain ⟨i,hi,rfl⟩:=List.mem_iff_getElem.1 hc
 have:=h2 (n+i) (by omega)
 rw [List.getElem_drop]
 rw [List.length_drop] at hi
 rwa [List.getD_eq_getElem?_getD,List.getElem?_eq_getElem (by omega),Option.getD_some] at this
theorem TrimOf.len {l p:List GF} (h:TrimOf l p):p.length≤l.length:=by
 obtain ⟨n,hn,rfl,_⟩:=h
 rw [List.length_take]
 omega
theorem TrimOf.trimd {l p:List GF} (h:TrimOf l p):Trimd p:=by
 obtain ⟨n,hn,rfl,h1,_⟩:=h
 exact h1
theorem trimd_take {l:List GF} {n:Nat} (hn:n≤l.length) (h:n=0 ∨ l.getD (n - 1) 0 ≠ 0):Trimd (l.take n):=by
 rcases h with rfl | h
 ·exact .inl (by simp)
 ·by_cases h0:n=0
  ·subst h0
   exact .inl (by simp)
  ·refine .inr ?_
   rw [List.length_take,Nat.min_eq_left hn,List.getD_eq_getElem?_getD,List.getElem?_take,if_pos (by omega),← List.getD_eq_getElem?_getD]
   exact h
theorem rowF_ev (f:Nat→GF) (n:Nat) (x:GF):ev (rowF f n) x=sm n (fun i=>f i * pw x i):=by
 rw [ev_sm,rowF_len]
 exact sm_congr fun i hi=>by rw [rowF_get f hi]
theorem ev_wide (l:List GF) {n:Nat} (hn:l.length≤n) (x:GF):ev l x=sm n (fun i=>l.getD i 0 * pw x i):=by
 obtain ⟨k,rfl⟩:∃ k,n=l.length+k:=⟨n - l.length,by omega⟩
 rw [ev_sm,sm_split,sm_0 (n:=k),addz]
 intro i _
 rw [List.getD_eq_getElem?_getD,List.getElem?_eq_none (by omega)]
 exact zmul _
noncomputable def sumF (l m:List GF):Nat→GF:=fun i=>l.getD i 0+m.getD i 0
theorem sumF_ev (l m:List GF) {n:Nat} (h1:l.length≤n) (h2:m.length≤n) (x:GF):ev (rowF (sumF l m) n) x=ev l x+ev m x:=by
 rw [rowF_ev,ev_wide l h1,ev_wide m h2,← sm_add]
 exact sm_congr fun i _=>dam _ _ _
theorem take_ev (l:List GF) {I:Nat} (h:I < l.length) (x:GF):ev (l.take (I+1)) x=ev (l.take I) x+pw x I * l.getD I 0:=by
 rw [List.take_succ_eq_append_getElem h,ev_append,List.length_take,Nat.min_eq_left (by omega),ev_cons,ev_nil,mzero,addz,List.getD_eq_getElem?_getD,List.getElem?_eq_getElem h]
 rfl
end Go.Proofs.YtnjbkfeihbcalaaGreat
/- Words of which some symbols are wrong: the plain laws. -/
namespace Go.Proofs.YtnjbkfeihbcalaaGreat
open Go.RowKit Fld
set_option linter.unusedVariables false
set_option linter.unusedSimpArgs false

theorem two_parts {α:Type} (p:α→Bool):∀ l:List α,l.length=(l.filter p).length+(l.filter fun a=>!p a).length
 | []=>by simp
 | a :: l=>by
  have:=two_parts p l
  simp only [List.filter_cons,List.length_cons]
  cases p a <;> simp <;> omega
section
variable {X ys m:List GF} {k v:Nat}
end
end Go.Proofs.YtnjbkfeihbcalaaGreat
/- Rising rows of numbers, one behind the other: the plain laws. -/
namespace Go.Proofs.YtnjbkfeihbcalaaGreat
open Go.RowKit Fld
set_option linter.unusedVariables false
set_option linter.unusedSimpArgs false

def rowN (k:Nat) (l:Nat→Nat):List Int:=(List.range k).map fun j=>((l j:Nat):Int)
theorem rowN_len (k:Nat) (l:Nat→Nat):(rowN k l).length=k:=by simp [rowN]
theorem rowN_get {k:Nat} {l:Nat→Nat} {j:Nat} (h:j < k):(rowN k l)[j]? = some ((l j:Nat):Int):=by
 rw [rowN,List.getElem?_map,List.getElem?_range h]
 rfl
end Go.Proofs.YtnjbkfeihbcalaaGreat
/- The places of wrong symbols, rising: the plain laws. -/
namespace Go.Proofs.YtnjbkfeihbcalaaGreat
open Go.RowKit Fld
set_option linter.unusedVariables false
set_option linter.unusedSimpArgs false

def riseI (l:List Int):List Int:=l.mergeSort fun x y=>decide (x≤y)
theorem riseI_perm (l:List Int):(riseI l).Perm l:=List.mergeSort_perm _ _
theorem riseI_len (l:List Int):(riseI l).length=l.length:=(riseI_perm l).length_eq
end Go.Proofs.YtnjbkfeihbcalaaGreat
