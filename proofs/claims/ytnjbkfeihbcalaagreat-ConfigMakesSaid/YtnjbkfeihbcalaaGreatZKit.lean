/-
  Whether two rows of bytes are the same.
  Rows of bytes and of numbers written out; whether rows are the same.
  The powers of two are unlike.
  starfishkit.Some: the numbers whose bits are set.
  Bytes copied from row to row.
  starfishkit.Full: a row cut, or with noughts behind.
  One byte, one number appended to a row of one's own.
-/
import Derived.Test.YtnjbkfeihbcalaaGreatZBase
import Derived.Test.YtnjbkfeihbcalaaGreatZMat
import Derived.Test.YtnjbkfeihbcalaaGreatZNews
import Derived.Sort.Walk7a
import Derived.Laws.IdiomCopy
import Derived.Test.YtnjbkfeihbcalaaGreatZSol
import Derived.Test.YtnjbkfeihbcalaaGreatZReg
import Derived.Laws.AppendOwn
import Derived.Maps.AppendAt
/- Whether two rows of bytes are the same. -/
namespace Go.Proofs.YtnjbkfeihbcalaaGreat
open Go.RowKit
set_option linter.unusedVariables false
end Go.Proofs.YtnjbkfeihbcalaaGreat
/- Rows of bytes and of numbers written out; whether rows are the same. -/
namespace Go.Proofs.YtnjbkfeihbcalaaGreat
open Go.RowKit Fld
set_option linter.unusedVariables false
set_option linter.unusedSimpArgs false

def gl (l:List Nat):List GF:=l.map fun x=>⟨x % 256,Nat.mod_lt _ (by omega)⟩
theorem GRd.lit {W:World} {b:Nat} {t:TypeId} (l:List GF) (h:W.heap[b]? = some (.cells (gv l).toArray t (0,0))) {n:Nat} (hn:l.length=n):GRd W (.slice (some ⟨b,0,none⟩) n n) l:=by
 subst hn
 refine ⟨fun x hx=>?_,some ⟨b,0,none⟩,l.length,by simp,by simp,fun hne=>⟨b,0,rfl,lt_of_heap h,fun i hi=>?_⟩⟩
 ·obtain ⟨y,_,rfl⟩:=List.mem_map.1 hx
  exact y.lt
 ·simp at hi
  rw [cell_of_row _ _ _ _ _ (0,0) h]
  simp [gv,hi]
theorem IRd.lit {W:World} {b:Nat} {t:TypeId} (l:List Int) (h:W.heap[b]? = some (.cells (l.map (Value.int .i64)).toArray t (0,0))) {n:Nat} (hn:l.length=n):IRd W (.slice (some ⟨b,0,none⟩) n n) l:=by
 subst hn
 refine IRd.mk (Nat.le_refl _) (lt_of_heap h) fun i x hx=>?_
 rw [cell_of_row _ _ _ _ _ (0,0) h]
 simp [hx]
end Go.Proofs.YtnjbkfeihbcalaaGreat
/- The powers of two are unlike. -/
namespace Go.Proofs.YtnjbkfeihbcalaaGreat
open Go.RowKit Fld
set_option linter.unusedVariables false
def pows (n:Nat):List GF:=(List.range n).map (GF.pown GF.two)
theorem pows_len (n:Nat):(pows n).length=n:=by simp [pows]
theorem pows_succ (n:Nat):pows (n+1)=pows n ++ [GF.pown GF.two n]:=by simp [pows,List.range_succ]
theorem pows_nodup {n:Nat} (hn:n≤255):(pows n).Nodup:=by
 refine List.pairwise_map.2 (List.nodup_range.imp_of_mem fun {a b} ha hb hne e=>hne ?_)
 have:=List.mem_range.1 ha
 have:=List.mem_range.1 hb
 exact GF.log_inj (by omega) (by omega) e
theorem gv_snoc (l:List GF) (x:GF):gv (l ++ [x])=gv l ++ [.int .u8 (x.n:Nat)]:=by simp [gv]
theorem kp_grown {w w':World} {row:Option Nat} (h:w.grownBy w' row):Kp row.toList w w':=(Kp.refl _ w).grown h (fun b hb=>.inl (by rw [hb];simp))
theorem notin_own {V:Value} {S:List Nat} (h:Apart V S) {x:Nat} (hx:x ∈ S):x ∉ V.ownBlock.toList:=fun hm=>h x (by simpa using hm) hx
end Go.Proofs.YtnjbkfeihbcalaaGreat
/- starfishkit.Some: the numbers whose bits are set. -/
namespace Go.Proofs.YtnjbkfeihbcalaaGreat
open Go.RowKit Fld
set_option linter.unusedVariables false
set_option linter.unusedSimpArgs false

theorem i64_info:(Tryz.prog.info? 3).map (fun i=>(i.zero,i.size,i.bytes))=some (some (.int .i64 0),1,8):=by kernel_rfl
abbrev OwnZ (w:World) (B:Nat) (v:Value) (l:List Int):Prop:=w.ownsRow B 3 1 v l.length (l.map (Value.int .i64))
theorem OwnZ.rd {w:World} {B:Nat} {v:Value} {l:List Int} (h:OwnZ w B v l):IRd w v l:=IRd.of_owns h
theorem OwnZ.nil (w:World) (B:Nat):OwnZ w B (.slice none 0 0) []:=World.ownsRow_nil _ _ _ _
theorem OwnZ.kp {S:List Nat} {w w':World} {B:Nat} {v:Value} {l:List Int} (h:OwnZ w B v l) (hk:Kp S w w') (hn:Apart v S):OwnZ w' B v l:=by
 rcases h.2 with ⟨rfl,h2⟩ | ⟨g,cap,cur,rfl,h2,h3,h4⟩
 ·exact ⟨h.1,.inl ⟨rfl,h2⟩⟩
 ·exact ⟨h.1,.inr ⟨g,cap,cur,rfl,h2,hk.heap h3 (hn g rfl),h4⟩⟩
theorem OwnZ.below {w w':World} {B:Nat} {v:Value} {l:List Int} (h:OwnZ w B v l) (hb:Below w.heap.size w w'):OwnZ w' B v l:=h.kp (S:=[]) (Kp.of_below hb) (fun _ _=>by simp)
theorem OwnZ.mono {w:World} {B B':Nat} {v:Value} {l:List Int} (h:OwnZ w B v l) (hb:B'≤B):OwnZ w B' v l:=by
 rcases h.2 with ⟨rfl,h2⟩ | ⟨g,cap,cur,rfl,h2,h3⟩
 ·exact ⟨h.1,.inl ⟨rfl,h2⟩⟩
 ·exact ⟨h.1,.inr ⟨g,cap,cur,rfl,Nat.le_trans hb h2,h3⟩⟩
theorem u64_bit (m k:Nat) (hm:m < 18446744073709551616):(bits .and .u64 ((m:Int) / 2 ^ k) 1 == 1)=m.testBit k:=by
 have h:((m:Int) / 2 ^ k)=((m / 2 ^ k:Nat):Int):=by simp
 have h2:m / 2 ^ k < 18446744073709551616:=Nat.lt_of_le_of_lt (Nat.div_le_self _ _) hm
 have h3:=bits_and_u64_nat (m / 2 ^ k) 1 h2 (by omega)
 rw [h]
 rw [show ((1:Nat):Int)=1 from rfl] at h3
 rw [h3,Nat.and_one_is_mod,Nat.testBit_eq_decide_div_mod_eq]
 by_cases hh:m / 2 ^ k % 2=1
 ·simp [hh]
 ·simp only [hh,decide_false,beq_eq_false_iff_ne]
  omega
def RiseTo (n:Nat) (l:List Nat):Prop:=l.Pairwise (· < ·)∧∀ x ∈ l,x < n
theorem RiseTo.snoc {n:Nat} {l:List Nat} (h:RiseTo n l):RiseTo (n+1) (l ++ [n]):=by
 refine ⟨List.pairwise_append.2 ⟨h.1,by simp,fun a ha b hb=>?_⟩,fun x hx=>?_⟩
 ·have:=h.2 a ha
  simp at hb
  omega
 ·rcases List.mem_append.1 hx with hx | hx
  ·have:=h.2 x hx;omega
  ·simp at hx;omega
theorem RiseTo.mono {n m:Nat} {l:List Nat} (h:RiseTo n l) (hm:n≤m):RiseTo m l:=⟨h.1,fun x hx=>Nat.lt_of_lt_of_le (h.2 x hx) hm⟩
theorem RiseTo.nodup {n:Nat} {l:List Nat} (h:RiseTo n l):l.Nodup:=h.1.imp fun h e=>by omega
theorem RiseTo.len {n:Nat} {l:List Nat} (h:RiseTo n l):l.length≤n:=by
 have:=(List.nodup_range (n:=n)).length_le_of_subset (l₂:=l)
 exact Nat.le_of_not_lt fun hlt=>by
  have h2:=h.nodup.length_le_of_subset (l₂:=List.range n) (fun x hx=>List.mem_range.2 (h.2 x hx))
  rw [List.length_range] at h2
  omega
def intsOf (l:List Nat):List Int:=l.map fun (x:Nat)=>(x:Int)
theorem intsOf_len (l:List Nat):(intsOf l).length=l.length:=by simp [intsOf]
def KSomePost (n most:Nat) (w:World) (e:Ending) (w':World):Prop :=
 ∃ v l,e=.returned v∧OwnZ w' w.heap.size v (intsOf l)∧RiseTo n l∧l.length≤most∧Below w.heap.size w w'
end Go.Proofs.YtnjbkfeihbcalaaGreat
/- Bytes copied from row to row. -/
namespace Go.Proofs.YtnjbkfeihbcalaaGreat
open Go.RowKit Fld
set_option linter.unusedVariables false

def rowV (C:Nat) (r:Nat→GF):List Value:=(List.range C).map fun k=>.int .u8 (((r k).n:Nat):Int)
theorem rowV_length (C:Nat) (r:Nat→GF):(rowV C r).length=C:=by simp [rowV]
theorem rowV_at (C:Nat) (r:Nat→GF) {k:Nat} (hk:k < C):(rowV C r)[k]? = some (.int .u8 (((r k).n:Nat):Int)):=by simp [rowV,hk]
theorem rowV_one (C:Nat) (r:Nat→GF):∀ v ∈ rowV C r,v.oneCell'=true:=by
 intro v hv
 obtain ⟨k,_,rfl⟩:=List.mem_map.1 hv
 rfl
theorem kp_setCells {S:List Nat} (b:Nat) (hb:b ∈ S):∀ (vs:List Value) (o:Nat) (w:World),Kp S w (w.setCells b o vs)
 | [],_,w=>Kp.refl _ _
 | v :: r,o,w=>((Kp.refl S w).setCell (p:=⟨b,o,none⟩) (.inl hb) v).trans (kp_setCells b hb r (o+1) _)
theorem addr_add (b o j:Nat):(⟨b,o,none⟩:Addr).add j=⟨b,o+j,none⟩:=by unfold Addr.add;split <;> simp_all
end Go.Proofs.YtnjbkfeihbcalaaGreat
/- starfishkit.Full: a row cut, or with noughts behind. -/
namespace Go.Proofs.YtnjbkfeihbcalaaGreat
open Go.RowKit Fld
set_option linter.unusedVariables false
set_option linter.unusedSimpArgs false

noncomputable def fullG (b:List GF) (n:Nat):List GF:=(List.range n).map fun i=>b.getD i 0
theorem run_copy_front {P:Program} {W:World} {gb N:Nat} {g:Nat→GF} (h:View W gb N g) {C sb so sL c1 c2:Nat} (hC:C=Nat.min sL N) (r:Nat→GF) (hs:∀ k,k < C→W.cell? ⟨sb,so+k,none⟩=some (.int .u8 (((r k).n:Nat):Int)))
  (dT sT ty elem:TypeId) (hu:P.underlying dT=some (.slice elem)) (hz:(P.info? elem).map (·.size)=some 1) :
  (Builtin.copy_ #[dT,sT] ty #[.slice (some ⟨gb,0,none⟩) N c1,.slice (some ⟨sb,so,none⟩) sL c2]).run P W=.ok (.int .i64 (C:Nat)) (W.setCells gb 0 (rowV C r)) ∧
   View (W.setCells gb 0 (rowV C r)) gb N (fun j=>if j < C then r j else g j)∧Kp [gb] W (W.setCells gb 0 (rowV C r)):=by
 have hk:Kp [gb] W (W.setCells gb 0 (rowV C r)):=kp_setCells gb (by simp) _ _ _
 have hCN:C≤N:=by rw [hC];exact Nat.min_le_right _ _
 refine ⟨?_,⟨Nat.lt_of_lt_of_le h.1 hk.size,fun j hj=>⟨?_,?_⟩⟩,hk⟩
 ·have:=run_copy_cells (P:=P) W dT sT ty elem gb 0 N c1 ⟨sb,so,none⟩ sL c2 (rowV C r) hu hz (by rw [rowV_length];exact hC) (fun j v hj=>by
   have hjC:j < C:=by have:=(List.getElem?_eq_some_iff.1 hj).1;rwa [rowV_length] at this
   rw [rowV_at C r hjC] at hj
   cases hj
   rw [addr_add]
   exact hs j hjC) (fun j hj=>by
   rw [rowV_length] at hj
   rw [(h.2 (0+j) (by omega)).1]
   rfl) (fun j hj=>by
   rw [rowV_length] at hj
   exact (h.2 (0+j) (by omega)).2) (rowV_one C r)
  rw [this,rowV_length]
  rfl
 ·by_cases e:j < C
  ·dsimp only
   rw [if_pos e]
   have:=World.cell?_setCells_in gb (rowV C r) 0 W (fun i hi=>by
    rw [rowV_length] at hi
    rw [(h.2 (0+i) (by omega)).1]
    rfl) j (by rw [rowV_length];exact e)
   rw [Nat.zero_add] at this
   rw [this]
   have h2:=rowV_at C r e
   rw [List.getElem?_eq_getElem (by rw [rowV_length];exact e)] at h2
   exact h2
  ·dsimp only
   rw [if_neg e,World.cell?_setCells_out gb (rowV C r) 0 W ⟨gb,j,none⟩ (fun _ _=>by rw [rowV_length];show j < 0 ∨ 0+C≤j;omega)]
   exact (h.2 j hj).1
 ·rw [World.frozen?_setCells]
  exact (h.2 j hj).2
theorem View.full {w:World} {g n:Nat} {b:List GF} (h:View w g n (fun i=>b.getD i 0)):GRd w (.slice (some ⟨g,0,none⟩) n n) (fullG b n):=by
 have:=h.rd (o:=0) (m:=n) (by omega) (Nat.le_refl n)
 unfold fullG
 simpa using this
def KFullPost (b:List GF) (n:Nat) (w:World) (e:Ending) (w':World):Prop :=
 ∃ g,e=.returned (.slice (some ⟨g,0,none⟩) n n)∧w.heap.size≤g∧View w' g n (fun i=>b.getD i 0)∧GRd w' (.slice (some ⟨g,0,none⟩) n n) (fullG b n)∧Below w.heap.size w w'
end Go.Proofs.YtnjbkfeihbcalaaGreat
/- One byte, one number appended to a row of one's own. -/
namespace Go.Proofs.YtnjbkfeihbcalaaGreat
open Go.RowKit Fld
set_option linter.unusedVariables false
set_option linter.unusedSimpArgs false

section
variable {P:Program}
theorem wpSlimT_append {w0:World} {keep:Nat→Prop} {Q:Act→World→Prop} {c:Bool} {a:Act} {w:World} {o:SOp} {rest:STr} (s x:Operand) (t:TypeId)
  (ho:o.op=.call { callee:=.builtin .append,args:=#[s,x],argTypes:=#[t,t] }) (hg:o.guard=none) (hc:c=true) {V X v:Value} {w3:World} (hs:a.eval s=V) (hx:a.eval x=X)
  (hr:(Builtin.append_ #[t,t] o.type #[V,X]).run P w=.ok v w3) (hcls:∀ k,keep k→w3.heap[k]? = w0.heap[k]?) (h:wpSlimT P w0 keep Q rest (a.put o.dst v) w3):wpSlimT P w0 keep Q (.step c o rest) a w:=by
 refine wpSlimT_step (fun K hK=>?_)
 subst hc
 have hwt:o.wanted a=true:=by unfold SOp.wanted;rw [hg]
 rw [if_pos hwt,if_pos rfl]
 unfold Chains execOp
 simp only [SOp.oper,ho,resolve,invoke,builtin,Sem.run_bind,Sem.run_pure,Result.andThen_ok,List.map_toArray,List.map_cons,List.map_nil,hs,hx,hr]
 exact ⟨hcls,hK _ _ h⟩
theorem wpList_append {ops:Array Oper} {rest:List Oper} {o:Oper} {a:Act} {w:World} {Q:Exit→Act→World→Prop} (hgd:o.guard=none) (s x:Operand) (t:TypeId)
  (ho:o.op=.call { callee:=.builtin .append,args:=#[s,x],argTypes:=#[t,t] }) {V X v:Value} {w3:World} (hs:a.eval s=V) (hx:a.eval x=X)
  (hr:(Builtin.append_ #[t,t] o.type #[V,X]).run P w=.ok v w3) (h:wpList P ops Q rest (a.put o.dst v) w3):wpList P ops Q (o :: rest) a w:=by
 refine wpList_plain hgd fun _ hK=>?_
 unfold Oper.wp execOp
 simp only [ho,resolve,invoke,builtin,Sem.run_bind,Sem.run_pure,Result.andThen_ok,List.map_toArray,List.map_cons,List.map_nil,hs,hx,hr]
 exact hK _ _ h
end
theorem app_byte {W:World} {base:Nat} {V:Value} {l:List GF} (x:GF) (h:OwnG W base V l) (hl:l.length≤1000000) (hb:base≤W.heap.size) {n:Nat} (hn:x.n=n) {ad:Nat} (had:ad=W.heap.size) :
  ∃ v1 w3,(Builtin.append_ #[50,50] 50 #[V,.slice (some ⟨ad,0,none⟩) 1 1]).run Tryz.prog (W.alloc (.cells #[.int .u8 (n:Int)] 5))=.ok v1 w3 ∧
   OwnG w3 base v1 (l ++ [x])∧Kp V.ownBlock.toList W w3∧Below base W w3∧(v1.ownBlock=V.ownBlock ∨ v1.ownBlock=some (W.heap.size+1)):=by
 subst hn
 subst had
 obtain ⟨i0,hi,hz0,hz1,hz2⟩:=info_parts u8_info
 obtain ⟨v1,w3,hap,hown1,hgrow1,-,hat1⟩:=run_append_own_at (P:=Tryz.prog) (w:=W.alloc (.cells #[.int .u8 (x.n:Int)] 5)) base 50 50 5 i0 (.int .u8 0) 1 1 Tryz.underlying50 hi hz0 hz1 hz2 rfl (by decide) V l.length _ (World.ownsRow.alloc h _) ⟨W.heap.size,0,none⟩ 1 1 [.int .u8 (x.n:Int)] rfl (cell_one_new _ _ _) (by simp [Value.oneCell']) (by unfold maxLen;omega) (by omega) (by simp;omega)
 refine ⟨v1,w3,hap,?_,?_,?_,by simpa using hat1⟩
 ·unfold OwnG
  rw [gv_snoc,List.length_append]
  exact hown1
 ·exact ((Kp.refl _ W).alloc _).grown hgrow1 (fun b hb=>.inl (by rw [hb];simp))
 ·exact ((Below.refl base W).alloc hb _).grown hgrow1 (by simp;omega) (fun b hb=>(h.lt b hb).1)
theorem app_int {W:World} {base:Nat} {V:Value} {l:List Int} (x:Int) (h:OwnZ W base V l) (hl:l.length≤1000000) (hb:base≤W.heap.size) {ad:Nat} (had:ad=W.heap.size) :
  ∃ v1 w3,(Builtin.append_ #[49,49] 49 #[V,.slice (some ⟨ad,0,none⟩) 1 1]).run Tryz.prog (W.alloc (.cells #[.int .i64 x] 3))=.ok v1 w3 ∧
   OwnZ w3 base v1 (l ++ [x])∧Kp V.ownBlock.toList W w3∧Below base W w3∧(v1.ownBlock=V.ownBlock ∨ v1.ownBlock=some (W.heap.size+1)):=by
 subst had
 obtain ⟨i0,hi,hz0,hz1,hz2⟩:=info_parts i64_info
 obtain ⟨v1,w3,hap,hown1,hgrow1,-,hat1⟩:=run_append_own_at (P:=Tryz.prog) (w:=W.alloc (.cells #[.int .i64 x] 3)) base 49 49 3 i0 (.int .i64 0) 1 8 Tryz.underlying49 hi hz0 hz1 hz2 rfl (by decide) V l.length _ (World.ownsRow.alloc h _) ⟨W.heap.size,0,none⟩ 1 1 [.int .i64 x] rfl (cell_one_new _ _ _) (by simp [Value.oneCell']) (by unfold maxLen;omega) (by omega) (by simp;omega)
 refine ⟨v1,w3,hap,?_,?_,?_,by simpa using hat1⟩
 ·unfold OwnZ
  rw [List.map_append,List.length_append]
  exact hown1
 ·exact ((Kp.refl _ W).alloc _).grown hgrow1 (fun b hb=>.inl (by rw [hb];simp))
 ·exact ((Below.refl base W).alloc hb _).grown hgrow1 (by simp;omega) (fun b hb=>(h.lt b hb).1)
end Go.Proofs.YtnjbkfeihbcalaaGreat
