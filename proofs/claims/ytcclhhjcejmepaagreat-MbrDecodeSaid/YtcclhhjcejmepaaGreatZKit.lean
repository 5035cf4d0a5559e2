/-
  Whether two rows of bytes are the same.
  Rows of bytes and of numbers written out; whether rows are the same.
  The powers of two are unlike.
  starfishkit.Some: the numbers whose bits are set.
  Bytes copied from row to row.
  starfishkit.Full: a row cut, or with noughts behind.
  One byte, one number appended to a row of one's own.
-/
import Derived.Test.YtcclhhjcejmepaaGreatZBase
import Derived.Test.YtcclhhjcejmepaaGreatZMat
import Derived.Test.YtcclhhjcejmepaaGreatZNews
import Derived.Sort.Walk7a
import Derived.Laws.IdiomCopy
import Derived.Test.YtcclhhjcejmepaaGreatZSol
import Derived.Test.YtcclhhjcejmepaaGreatZReg
import Derived.Laws.AppendOwn
import Derived.Maps.AppendAt
/- Whether two rows of bytes are the same. -/
set_option maxRecDepth 100000
set_option maxHeartbeats 2000000
namespace Go.Proofs.YtcclhhjcejmepaaGreat
open Go.RowKit
set_option linter.unusedVariables false
theorem same_bytes (u v:Value) (l m:List Nat) (w:World) (hu:BytesRd w u l) (hv:BytesRd w v m) :
  Calls Tryz.prog 20 #[u,v] w fun e w'=>e=.returned (.bool (decide (l=m)))∧w=w':=by
 have cu:=hu.conv
 have cv:=hv.conv
 have hd:decide (l=m)=decide (strOf l=strOf m):=by rw [decide_eq_decide];exact (strOf_inj hu.1 hv.1).symm
 rw [hd]
 clear hd hu hv
 go_enter Tryz.func20,Tryz.ntmps20
 go_wp2
 go_ret
 refine ⟨?_,rfl⟩
 rw [ByteArray.toList_eq,ByteArray.toList_eq]
 by_cases h:strOf l=strOf m
 ·rw [decide_eq_true h,h];simp
 ·rw [decide_eq_false h]
  have:(strOf l).data.toList ≠ (strOf m).data.toList:=fun e=>h (by
   have e2:(strOf l).data=(strOf m).data:=Array.toList_inj.1 e
   cases h1:strOf l;cases h2:strOf m;rw [h1,h2] at e2;simp only at e2;rw [e2])
  rw [beq_false_of_ne this]
  rfl
end Go.Proofs.YtcclhhjcejmepaaGreat
/- Rows of bytes and of numbers written out; whether rows are the same. -/
namespace Go.Proofs.YtcclhhjcejmepaaGreat
open Go.RowKit Fld
set_option linter.unusedVariables false
set_option linter.unusedSimpArgs false

def gl (l:List Nat):List GF:=l.map fun x=>⟨x % 256,Nat.mod_lt _ (by omega)⟩
theorem GRd.lit {W:World} {b:Nat} {t:TypeId} (l:List GF) (h:W.heap[b]? = some (.cells (gv l).toArray t (0,0))) {n:Nat} (hn:l.length=n):GRd W (.slice (some ⟨b,0,none⟩) n n) l:=by
 subst hn
 refine ⟨fun x hx=>?_,some ⟨b,0,none⟩,l.length,by simp,by simp,fun hne=>⟨b,0,rfl,lOH h,fun i hi=>?_⟩⟩
 ·obtain ⟨y,_,rfl⟩:=List.mem_map.1 hx
  exact y.lt
 ·simp at hi
  rw [cell_of_row _ _ _ _ _ (0,0) h]
  simp [gv,hi]
theorem IRd.lit {W:World} {b:Nat} {t:TypeId} (l:List Int) (h:W.heap[b]? = some (.cells (l.map (Value.int .i64)).toArray t (0,0))) {n:Nat} (hn:l.length=n):IRd W (.slice (some ⟨b,0,none⟩) n n) l:=by
 subst hn
 refine IRd.mk (Nat.le_refl _) (lOH h) fun i x hx=>?_
 rw [cell_of_row _ _ _ _ _ (0,0) h]
 simp [hx]
theorem same_g (u v:Value) (l m:List GF) (w:World) (hu:GRd w u l) (hv:GRd w v m) :
  Calls Tryz.prog 20 #[u,v] w fun e w'=>e=.returned (.bool (decide (l=m)))∧w=w':=by
 have:=same_bytes u v _ _ w hu hv
 rwa [decide_eq_decide.2 (⟨mapn_inj,fun h=>by rw [h]⟩:l.map GF.n=m.map GF.n↔l=m)] at this
end Go.Proofs.YtcclhhjcejmepaaGreat
/- The powers of two are unlike. -/
namespace Go.Proofs.YtcclhhjcejmepaaGreat
open Go.RowKit Fld
set_option linter.unusedVariables false
def pows (n:Nat):List GF:=(List.range n).map (GF.pown GF.two)
theorem pows_len (n:Nat):(pows n).length=n:=by simp [pows]
theorem pows_nodup {n:Nat} (hn:n≤255):(pows n).Nodup:=by
 refine List.pairwise_map.2 (List.nodup_range.imp_of_mem fun {a b} ha hb hne e=>hne ?_)
 have:=List.mem_range.1 ha
 have:=List.mem_range.1 hb
 exact GF.log_inj (by omega) (by omega) e
theorem gv_snoc (l:List GF) (x:GF):gv (l ++ [x])=gv l ++ [.int .u8 (x.n:Nat)]:=by simp [gv]
theorem kp_grown {w w':World} {row:Option Nat} (h:w.grownBy w' row):Kp row.toList w w':=(Kp.refl _ w).grown h (fun b hb=>.inl (by rw [hb];simp))
end Go.Proofs.YtcclhhjcejmepaaGreat
/- starfishkit.Some: the numbers whose bits are set. -/
namespace Go.Proofs.YtcclhhjcejmepaaGreat
open Go.RowKit Fld
set_option linter.unusedVariables false
set_option linter.unusedSimpArgs false

theorem i64_info:(Tryz.prog.info? 3).map (fun i=>(i.zero,i.size,i.bytes))=some (some (.int .i64 0),1,8):=by kernel_rfl
abbrev OwnZ (w:World) (B:Nat) (v:Value) (l:List Int):Prop:=w.ownsRow B 3 1 v l.length (l.map (Value.int .i64))
theorem OwnZ.rd {w:World} {B:Nat} {v:Value} {l:List Int} (h:OwnZ w B v l):IRd w v l:=IRd.of_owns h
theorem OwnZ.nil (w:World) (B:Nat):OwnZ w B (.slice none 0 0) []:=World.ownsRow_nil _ _ _ _
theorem OwnZ.kp {S:List Nat} {w w':World} {B:Nat} {v:Value} {l:List Int} (h:OwnZ w B v l) (hk:Kp S w w') (hn:Apart v S):OwnZ w' B v l:=by
 rcases h.2 with ⟨rfl,h2⟩ | ⟨g,cap,cur,rfl,h2,h3,h4⟩
 ·exact ⟨h.1,.inl ⟨rfl,h2⟩⟩
 ·exact ⟨h.1,.inr ⟨g,cap,cur,rfl,h2,hk.heap h3 (hn g rfl),h4⟩⟩
theorem OwnZ.below {w w':World} {B:Nat} {v:Value} {l:List Int} (h:OwnZ w B v l) (hb:Below w.heap.size w w'):OwnZ w' B v l:=h.kp (S:=[]) (Kp.of_below hb) (fun _ _=>by simp)
theorem OwnZ.mono {w:World} {B B':Nat} {v:Value} {l:List Int} (h:OwnZ w B v l) (hb:B'≤B):OwnZ w B' v l:=by
 rcases h.2 with ⟨rfl,h2⟩ | ⟨g,cap,cur,rfl,h2,h3⟩
 ·exact ⟨h.1,.inl ⟨rfl,h2⟩⟩
 ·exact ⟨h.1,.inr ⟨g,cap,cur,rfl,Nat.le_trans hb h2,h3⟩⟩
def RiseTo (n:Nat) (l:List Nat):Prop:=l.Pairwise (· < ·)∧∀ x ∈ l,x < n
theorem RiseTo.mono {n m:Nat} {l:List Nat} (h:RiseTo n l) (hm:n≤m):RiseTo m l:=⟨h.1,fun x hx=>Nat.lt_of_lt_of_le (h.2 x hx) hm⟩
theorem RiseTo.nodup {n:Nat} {l:List Nat} (h:RiseTo n l):l.Nodup:=h.1.imp fun h e=>by omega
theorem RiseTo.len {n:Nat} {l:List Nat} (h:RiseTo n l):l.length≤n:=by
 have:=(List.nodup_range (n:=n)).length_le_of_subset (l₂:=l)
 exact Nat.le_of_not_lt fun hlt=>by
  have h2:=h.nodup.length_le_of_subset (l₂:=List.range n) (fun x hx=>List.mem_range.2 (h.2 x hx))
  rw [List.length_range] at h2
  omega
end Go.Proofs.YtcclhhjcejmepaaGreat
/- Bytes copied from row to row. -/
namespace Go.Proofs.YtcclhhjcejmepaaGreat
open Go.RowKit Fld
set_option linter.unusedVariables false

def rowV (C:Nat) (r:Nat→GF):List Value:=(List.range C).map fun k=>.int .u8 (((r k).n:Nat):Int)
theorem rowV_length (C:Nat) (r:Nat→GF):(rowV C r).length=C:=by simp [rowV]
theorem rowV_at (C:Nat) (r:Nat→GF) {k:Nat} (hk:k < C):(rowV C r)[k]? = some (.int .u8 (((r k).n:Nat):Int)):=by simp [rowV,hk]
theorem rowV_one (C:Nat) (r:Nat→GF):∀ v ∈ rowV C r,v.oneCell'=true:=by
 intro v hv
 obtain ⟨k,_,rfl⟩:=List.mem_map.1 hv
 rfl
theorem kp_setCells {S:List Nat} (b:Nat) (hb:b ∈ S):∀ (vs:List Value) (o:Nat) (w:World),Kp S w (w.setCells b o vs)
 | [],_,w=>Kp.refl _ _
 | v :: r,o,w=>((Kp.refl S w).setCell (p:=⟨b,o,none⟩) (.inl hb) v).trans (kp_setCells b hb r (o+1) _)
theorem addr_add (b o j:Nat):(⟨b,o,none⟩:Addr).add j=⟨b,o+j,none⟩:=by unfold Addr.add;split <;> simp_all
theorem run_copy_view {P:Program} {W:World} {gb N:Nat} {g:Nat→GF} (h:View W gb N g) {o C:Nat} (ho:o+C≤N) {sb so c1 c2:Nat} (r:Nat→GF) (hs:∀ k,k < C→W.cell? ⟨sb,so+k,none⟩=some (.int .u8 (((r k).n:Nat):Int)))
  (dT sT ty elem:TypeId) (hu:P.underlying dT=some (.slice elem)) (hz:(P.info? elem).map (·.size)=some 1) :
  (Builtin.copy_ #[dT,sT] ty #[.slice (some ⟨gb,o,none⟩) C c1,.slice (some ⟨sb,so,none⟩) C c2]).run P W=.ok (.int .i64 (C:Nat)) (W.setCells gb o (rowV C r)) ∧
   View (W.setCells gb o (rowV C r)) gb N (fun j=>if o≤j∧j < o+C then r (j - o) else g j)∧Kp [gb] W (W.setCells gb o (rowV C r)):=by
 have hk:Kp [gb] W (W.setCells gb o (rowV C r)):=kp_setCells gb (by simp) _ _ _
 refine ⟨?_,⟨Nat.lt_of_lt_of_le h.1 hk.size,fun j hj=>⟨?_,?_⟩⟩,hk⟩
 ·have:=run_copy_cells (P:=P) W dT sT ty elem gb o C c1 ⟨sb,so,none⟩ C c2 (rowV C r) hu hz (by rw [rowV_length];simp) (fun j v hj=>by
   have hjC:j < C:=by have:=(List.getElem?_eq_some_iff.1 hj).1;rwa [rowV_length] at this
   rw [rowV_at C r hjC] at hj
   cases hj
   rw [addr_add]
   exact hs j hjC) (fun j hj=>by
   rw [rowV_length] at hj
   rw [(h.2 (o+j) (by omega)).1]
   rfl) (fun j hj=>by
   rw [rowV_length] at hj
   exact (h.2 (o+j) (by omega)).2) (rowV_one C r)
  rw [this,rowV_length]
  rfl
 ·by_cases e:o≤j∧j < o+C
  ·dsimp only
   rw [if_pos e]
   obtain ⟨k,rfl⟩:∃ k,j=o+k:=⟨j - o,by omega⟩
   have hkC:k < C:=by omega
   have:=World.cell?_setCells_in gb (rowV C r) o W (fun i hi=>by
    rw [rowV_length] at hi
    rw [(h.2 (o+i) (by omega)).1]
    rfl) k (by rw [rowV_length];exact hkC)
   rw [this,show o+k - o=k from by omega]
   have h2:=rowV_at C r hkC
   rw [List.getElem?_eq_getElem (by rw [rowV_length];exact hkC)] at h2
   exact h2
  ·dsimp only
   rw [if_neg e,World.cell?_setCells_out gb (rowV C r) o W ⟨gb,j,none⟩ (fun _ _=>by rw [rowV_length];show j < o ∨ o+C≤j;omega)]
   exact (h.2 j hj).1
 ·rw [World.frozen?_setCells]
  exact (h.2 j hj).2
end Go.Proofs.YtcclhhjcejmepaaGreat
/- starfishkit.Full: a row cut, or with noughts behind. -/
namespace Go.Proofs.YtcclhhjcejmepaaGreat
open Go.RowKit Fld
set_option linter.unusedVariables false
set_option linter.unusedSimpArgs false

noncomputable def fullG (b:List GF) (n:Nat):List GF:=(List.range n).map fun i=>b.getD i 0
theorem View.full {w:World} {g n:Nat} {b:List GF} (h:View w g n (fun i=>b.getD i 0)):GRd w (.slice (some ⟨g,0,none⟩) n n) (fullG b n):=by
 have:=h.rd (o:=0) (m:=n) (by omega) (Nat.le_refl n)
 unfold fullG
 simpa using this
end Go.Proofs.YtcclhhjcejmepaaGreat
/- One byte, one number appended to a row of one's own. -/
namespace Go.Proofs.YtcclhhjcejmepaaGreat
open Go.RowKit Fld
set_option linter.unusedVariables false
set_option linter.unusedSimpArgs false

section
variable {P:Program}
theorem wpSlimT_append {w0:World} {keep:Nat→Prop} {Q:Act→World→Prop} {c:Bool} {a:Act} {w:World} {o:SOp} {rest:STr} (s x:Operand) (t:TypeId)
  (ho:o.op=.call { callee:=.builtin .append,args:=#[s,x],argTypes:=#[t,t] }) (hg:o.guard=none) (hc:c=true) {V X v:Value} {w3:World} (hs:a.eval s=V) (hx:a.eval x=X)
  (hr:(Builtin.append_ #[t,t] o.type #[V,X]).run P w=.ok v w3) (hcls:∀ k,keep k→w3.heap[k]? = w0.heap[k]?) (h:wpSlimT P w0 keep Q rest (a.put o.dst v) w3):wpSlimT P w0 keep Q (.step c o rest) a w:=by
 refine w_S (fun K hK=>?_)
 subst hc
 have hwt:o.wanted a=true:=by unfold SOp.wanted;rw [hg]
 rw [if_pos hwt,if_pos rfl]
 unfold Chains execOp
 simp only [SOp.oper,ho,resolve,invoke,builtin,Sem.run_bind,Sem.run_pure,Result.andThen_ok,List.map_toArray,List.map_cons,List.map_nil,hs,hx,hr]
 exact ⟨hcls,hK _ _ h⟩
theorem wpList_append {ops:Array Oper} {rest:List Oper} {o:Oper} {a:Act} {w:World} {Q:Exit→Act→World→Prop} (hgd:o.guard=none) (s x:Operand) (t:TypeId)
  (ho:o.op=.call { callee:=.builtin .append,args:=#[s,x],argTypes:=#[t,t] }) {V X v:Value} {w3:World} (hs:a.eval s=V) (hx:a.eval x=X)
  (hr:(Builtin.append_ #[t,t] o.type #[V,X]).run P w=.ok v w3) (h:wpList P ops Q rest (a.put o.dst v) w3):wpList P ops Q (o :: rest) a w:=by
 refine wpList_plain hgd fun _ hK=>?_
 unfold Oper.wp execOp
 simp only [ho,resolve,invoke,builtin,Sem.run_bind,Sem.run_pure,Result.andThen_ok,List.map_toArray,List.map_cons,List.map_nil,hs,hx,hr]
 exact hK _ _ h
end
theorem app_byte {W:World} {base:Nat} {V:Value} {l:List GF} (x:GF) (h:OwnG W base V l) (hl:l.length≤1000000) (hb:base≤W.heap.size) {n:Nat} (hn:x.n=n) {ad:Nat} (had:ad=W.heap.size) :
  ∃ v1 w3,(Builtin.append_ #[22,22] 22 #[V,.slice (some ⟨ad,0,none⟩) 1 1]).run Tryz.prog (W.alloc (.cells #[.int .u8 (n:Int)] 5))=.ok v1 w3 ∧
   OwnG w3 base v1 (l ++ [x])∧Kp V.ownBlock.toList W w3∧Below base W w3∧(v1.ownBlock=V.ownBlock ∨ v1.ownBlock=some (W.heap.size+1)):=by
 subst hn
 subst had
 obtain ⟨i0,hi,hz0,hz1,hz2⟩:=info_parts u8_info
 obtain ⟨v1,w3,hap,hown1,hgrow1,-,hat1⟩:=run_append_own_at (P:=Tryz.prog) (w:=W.alloc (.cells #[.int .u8 (x.n:Int)] 5)) base 22 22 5 i0 (.int .u8 0) 1 1 Tryz.underlying22 hi hz0 hz1 hz2 rfl (by decide) V l.length _ (World.ownsRow.alloc h _) ⟨W.heap.size,0,none⟩ 1 1 [.int .u8 (x.n:Int)] rfl (cell_one_new _ _ _) (by simp [Value.oneCell']) (by unfold maxLen;omega) (by omega) (by simp;omega)
 refine ⟨v1,w3,hap,?_,?_,?_,by simpa using hat1⟩
 ·unfold OwnG
  rw [gv_snoc,List.length_append]
  exact hown1
 ·exact ((Kp.refl _ W).alloc _).grown hgrow1 (fun b hb=>.inl (by rw [hb];simp))
 ·exact ((Below.refl base W).alloc hb _).grown hgrow1 (by simp;omega) (fun b hb=>(h.lt b hb).1)
theorem app_int {W:World} {base:Nat} {V:Value} {l:List Int} (x:Int) (h:OwnZ W base V l) (hl:l.length≤1000000) (hb:base≤W.heap.size) {ad:Nat} (had:ad=W.heap.size) :
  ∃ v1 w3,(Builtin.append_ #[44,44] 44 #[V,.slice (some ⟨ad,0,none⟩) 1 1]).run Tryz.prog (W.alloc (.cells #[.int .i64 x] 3))=.ok v1 w3 ∧
   OwnZ w3 base v1 (l ++ [x])∧Kp V.ownBlock.toList W w3∧Below base W w3∧(v1.ownBlock=V.ownBlock ∨ v1.ownBlock=some (W.heap.size+1)):=by
 subst had
 obtain ⟨i0,hi,hz0,hz1,hz2⟩:=info_parts i64_info
 obtain ⟨v1,w3,hap,hown1,hgrow1,-,hat1⟩:=run_append_own_at (P:=Tryz.prog) (w:=W.alloc (.cells #[.int .i64 x] 3)) base 44 44 3 i0 (.int .i64 0) 1 8 Tryz.underlying44 hi hz0 hz1 hz2 rfl (by decide) V l.length _ (World.ownsRow.alloc h _) ⟨W.heap.size,0,none⟩ 1 1 [.int .i64 x] rfl (cell_one_new _ _ _) (by simp [Value.oneCell']) (by unfold maxLen;omega) (by omega) (by simp;omega)
 refine ⟨v1,w3,hap,?_,?_,?_,by simpa using hat1⟩
 ·unfold OwnZ
  rw [List.map_append,List.length_append]
  exact hown1
 ·exact ((Kp.refl _ W).alloc _).grown hgrow1 (fun b hb=>.inl (by rw [hb];simp))
 ·exact ((Below.refl base W).alloc hb _).grown hgrow1 (by simp;omega) (fun b hb=>(h.lt b hb).1)
end Go.Proofs.YtcclhhjcejmepaaGreat
