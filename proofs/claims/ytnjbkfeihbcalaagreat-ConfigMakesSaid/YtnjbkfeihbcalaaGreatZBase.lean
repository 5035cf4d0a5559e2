/-
  Rows of bytes that are read; whether two are the same.
  One block of a world that is else a variable, written out: stores into it, loads from it.
  More of blocks written out: two of them; what is known of a block, behind calls and new blocks.
  Rows of structs that are read, of any number of cells each.
  Rows of ints that are read.
  make of a row of one-cell elements, of any length.
  The field of 256 elements: multiplication as the document defines it, on numbers.
  Fields in which every element added to itself is nought; polynomials over them as rows of coefficients; sums.
  The 256 bytes are a field of characteristic two under the document's product.
  Worlds that are alike but for some blocks, and for new ones.
-/
import Derived.Test.YtnjbkfeihbcalaaGreatRows
import Derived.WalkKit
import Derived.WalkSpells
import Derived.Laws.BytesArg
import Derived.Laws.Strings
import Derived.Laws.AppendOwn
import Derived.Lib.Hide
import Derived.Handy
import Derived.ProofKit
import Derived.Deep.Draws
import Derived.Deep.Slices
import Derived.Deep.Fields
import Derived.ChangeArms
import Derived.Below
import Derived.IntWalk
import Derived.Laws.MakeOwn
import Derived.Laws.OwnMore
import Derived.Laws.BitsAllLaws
import Derived.Laws.BitsLemmas
/- Rows of bytes that are read; whether two are the same. -/
namespace Go.Proofs.YtnjbkfeihbcalaaGreat
open Go.RowKit Go.ChangeShapes Go.WideShapes Go.ChangeAt
set_option linter.unusedVariables false

def BytesRd (w:World) (v:Value) (l:List Nat):Prop :=
 (∀ x ∈ l,x < 256)∧∃ a cap,v=.slice a l.length cap∧l.length≤cap ∧
  (l ≠ []→∃ b o,a=some ⟨b,o,none⟩∧b < w.heap.size∧∀ i,i < l.length→w.cell? ⟨b,o+i,none⟩=some (.int .u8 ((l.getD i 0:Nat):Int)))

theorem BytesRd.below {w w':World} {v:Value} {l:List Nat} (h:BytesRd w v l) (hb:Below w.heap.size w w'):BytesRd w' v l:=by
 obtain ⟨h0,a,cap,h1,h2,h3⟩:=h
 refine ⟨h0,a,cap,h1,h2,fun hne=>?_⟩
 obtain ⟨b,o,h4,h5,h6⟩:=h3 hne
 exact ⟨b,o,h4,Nat.lt_of_lt_of_le h5 hb.size,fun i hi=>(hb.cell (p:=⟨b,o+i,none⟩) h5).trans (h6 i hi)⟩

theorem BytesRd.alloc {w:World} {v:Value} {l:List Nat} (h:BytesRd w v l) (o:Obj):BytesRd (w.alloc o) v l:=h.below ((Below.refl _ w).alloc (Nat.le_refl _) o)
theorem BytesRd.nil (w:World):BytesRd w (.slice none 0 0) []:=⟨by simp,none,0,rfl,Nat.le_refl _,fun h=>absurd rfl h⟩

theorem BytesRd.of_owns {w:World} {base t:Nat} {v:Value} {n:Nat} {l:List Nat} (h:w.ownsRow base t 1 v n (l.map fun x=>.int .u8 ((x:Nat):Int))) (hl:∀ x ∈ l,x < 256):BytesRd w v l:=by
 have hn:l.length=n:=by have:=h.1;simpa using this
 have hlt:=h.lt
 refine ⟨hl,?_⟩
 rcases h.2 with ⟨rfl,h2⟩ | ⟨g,cap,cur,rfl,h2,h3,h4,h5,h6,h7⟩
 ·obtain rfl:=List.eq_nil_of_length_eq_zero (hn.trans h2)
  exact ⟨none,0,rfl,Nat.le_refl _,fun h=>absurd rfl h⟩
 ·refine ⟨_,cap,by rw [hn],by omega,fun _=>⟨g,0,rfl,(hlt g rfl).2,fun i hi=>?_⟩⟩
  have:=h.cells (g:=g) rfl i (.int .u8 ((l.getD i 0:Nat):Int)) (by simp [List.getElem?_eq_getElem hi,List.getD])
  have e:(⟨g,0,none⟩:Addr).add i=⟨g,0+i,none⟩:=by unfold Addr.add;split <;> simp_all
  rwa [e] at this

theorem byte_wf {x:Int} (h:(Lit.int .u8 x).wf=true):0≤x∧x < 256:=by
 have h1:IntKind.u8.min=0:=rfl
 have h2:IntKind.u8.max=255:=rfl
 simp only [Lit.wf,Bool.and_eq_true,decide_eq_true_eq] at h
 omega
theorem BytesRd.of_trod {H:Type} {enc:TypeId × Value→H} {t e:TypeId} (ht:Tryz.prog.underlying t=some (.slice e)) (he:Tryz.prog.underlying e=some (.int .u8)) (hc:Tryz.prog.cellsOf e=1) {W:World} {a0:Option Addr} {len cap:Nat} {d0:DataW H} {p:List MemPlace}
  (h0:DataW.Trod enc Tryz.prog W 0 (fun _=>true) true t (.slice a0 len cap) d0 p):∃ l,BytesRd W (.slice a0 len cap) l∧l.length=len:=by
 obtain ⟨fuel,hf⟩:=h0
 rcases open_ints ht he hc hf with ⟨hcs,hx⟩ | ⟨a,len',cap',zs,hcs,_,hl,hm,hz,hx,hcell,hwz⟩
 ·simp [Value.cells] at hcs
  obtain ⟨rfl,rfl,rfl⟩:=hcs
  exact ⟨[],BytesRd.nil W,rfl⟩
 ·simp [Value.cells] at hcs
  obtain ⟨rfl,rfl,rfl⟩:=hcs
  simp only [if_true] at hz
  have hb:∀ x ∈ zs,0≤x∧x < 256:=fun x hx=>byte_wf (hwz x hx)
  have hlen:((zs.take len).map Int.toNat).length=len:=by simp;omega
  refine ⟨(zs.take len).map Int.toNat,⟨fun x hx=>?_,some a,cap,by rw [hlen],by rw [hlen];exact hl,fun hne=>?_⟩,hlen⟩
  ·obtain ⟨y,hy,rfl⟩:=List.mem_map.1 hx
   have:=hb y (List.mem_of_mem_take hy)
   omega
  ·have hpos:0 < len:=by
    rcases Nat.eq_zero_or_pos len with h | h
    ·subst h;simp at hne
    ·exact h
   obtain ⟨b,o,sp⟩:=a
   have h0:=hcell 0 (by omega)
   have hsp:sp=none:=by
    cases sp with
    | none=>rfl
    | some s=>simp [World.cell?,Addr.add] at h0;split at h0 <;> simp_all
   subst hsp
   refine ⟨b,o,rfl,?_,fun i hi=>?_⟩
   ·have:=World.block_lt_of_cell? _ _ h0
    simpa [block_add] using this
   ·rw [hlen] at hi
    have h1:=hcell i (by omega)
    have e:(⟨b,o,none⟩:Addr).add i=⟨b,o+i,none⟩:=by unfold Addr.add;split <;> simp_all
    rw [e] at h1
    rw [h1]
    have hi2:i < zs.length:=by omega
    have:=(hb (zs.getD i 0) (by simp [List.getD,List.getElem?_eq_getElem hi2])).1
    simp [List.getD,List.getElem?_eq_getElem hi2,hi] at this ⊢
    omega

def strOf (l:List Nat):ByteArray:=strOfNums (l.map fun x:Nat=>(x:Int))

theorem BytesRd.conv {w:World} {v:Value} {l:List Nat} (h:BytesRd w v l) :
  (convert 50 9 v).run Tryz.prog w=.ok (.string (strOf l)) w:=by
 obtain ⟨h0,a,cap,rfl,h2,h3⟩:=h
 by_cases hne:l=[]
 ·subst hne
  cases a with
  | none=>exact run_convert_bytes_nil (P:=Tryz.prog) w 50 5 Tryz.underlying50 Tryz.underlying5 _ _ _ Tryz.underlying9
  | some a =>
   rw [run_convert_bytes_string w _ _ _ _ _ cap Tryz.underlying50 Tryz.underlying5 Tryz.underlying9]
   rw [run_bytesToString w a _ cap [] (by
    have:=run_loadCells_list (P:=Tryz.prog) w a [] (fun j v hj=>by simp at hj)
    simpa using this)]
   rfl
 ·obtain ⟨b,o,rfl,h4,h5⟩:=h3 hne
  refine run_convert_bytes_arg (P:=Tryz.prog) w 50 5 Tryz.underlying50 Tryz.underlying5 b o _ cap (l.map fun x:Nat=>(x:Int)) (by simp) (fun i hi=>?_) _ Tryz.underlying9
  rw [h5 i hi]
  simp [List.getD,List.getElem?_eq_getElem hi]

end Go.Proofs.YtnjbkfeihbcalaaGreat
/- One block of a world that is else a variable, written out: stores into it, loads from it. -/
namespace Go.Proofs.YtnjbkfeihbcalaaGreat
open Go.RowKit

def putBlk (w:World) (g:Nat) (o:Obj):World:={ w with heap:=w.heap.setIfInBounds g o }

theorem putBlk_self {w:World} {g:Nat} {o:Obj} (h:w.heap[g]? = some o):putBlk w g o=w:=by
 unfold putBlk
 have:w.heap.setIfInBounds g o=w.heap:=by
  apply Array.ext_getElem?
  intro i
  rw [Array.getElem?_setIfInBounds]
  by_cases hi:g=i
  ·subst hi
   rw [if_pos rfl]
   have hl:=(Array.getElem?_eq_some_iff.1 h).1
   rw [if_pos hl,h]
  ·rw [if_neg hi]
 rw [this]

theorem size_putBlk (w:World) (g:Nat) (o:Obj):(putBlk w g o).heap.size=w.heap.size:=by simp [putBlk]
theorem heap_putBlk {w:World} {g:Nat} (o:Obj) (h:g < w.heap.size):(putBlk w g o).heap[g]? = some o:=by simp [putBlk,h]
theorem heap_putBlk_ne {w:World} {g k:Nat} (o:Obj) (h:k ≠ g):(putBlk w g o).heap[k]? = w.heap[k]?:=by
 simp only [putBlk]
 rw [Array.getElem?_setIfInBounds,if_neg (fun e=>h e.symm)]

theorem cell_putBlk {w:World} {g:Nat} (cs:Array Value) (t:TypeId) (fr:Nat × Nat) (i:Nat) (h:g < w.heap.size):(putBlk w g (.cells cs t fr)).cell? ⟨g,i,none⟩=cs[i]?:=by
 unfold World.cell?
 simp only [heap_putBlk _ h]
 rfl
theorem cell_putBlk_ne {w:World} {g k:Nat} (o:Obj) (i:Nat) (s:Option Nat) (h:k ≠ g):(putBlk w g o).cell? ⟨k,i,s⟩=w.cell? ⟨k,i,s⟩:=by
 unfold World.cell?
 simp only [heap_putBlk_ne o h]
theorem frozen_putBlk {w:World} {g:Nat} (cs:Array Value) (t:TypeId) (i:Nat) (h:g < w.heap.size):(putBlk w g (.cells cs t (0,0))).frozen? ⟨g,i,none⟩=false:=by
 unfold World.frozen?
 simp [heap_putBlk _ h]
theorem frozen_putBlk_ne {w:World} {g k:Nat} (o:Obj) (i:Nat) (s:Option Nat) (h:k ≠ g):(putBlk w g o).frozen? ⟨k,i,s⟩=w.frozen? ⟨k,i,s⟩:=by
 unfold World.frozen?
 simp only [heap_putBlk_ne o h]

theorem setCell_putBlk (w:World) (g:Nat) (cs:Array Value) (t:TypeId) (fr:Nat × Nat) (i:Nat) (v:Value) :
  (putBlk w g (.cells cs t fr)).setCell ⟨g,i,none⟩ v=putBlk w g (.cells (cs.setIfInBounds i v) t fr):=by
 unfold putBlk World.setCell
 congr 1
 apply Array.ext_getElem?
 intro k
 simp only [Array.getElem?_modify,Array.getElem?_setIfInBounds]
 by_cases hk:g=k
 ·subst hk
  simp only [if_true]
  by_cases hl:g < w.heap.size <;> simp [hl]
 ·simp [hk]

theorem bel_putBlk {B:Nat} {a w:World} (h:Below B a w) {g:Nat} (hg:B≤g) (o:Obj):Below B a (putBlk w g o) :=
 ⟨h.os,h.tape,h.output,by rw [size_putBlk];exact h.size,fun k hk=>(heap_putBlk_ne o (by omega)).trans (h.block k hk)⟩

theorem put_of {w:World} {g:Nat} {o:Obj} (h:w.heap[g]? = some o):∃ w2,w=putBlk w2 g o∧g < w2.heap.size∧∀ p:World→Prop,p w→p w2:=⟨w,(putBlk_self h).symm,(Array.getElem?_eq_some_iff.1 h).1,fun _ h=>h⟩

attribute [go_sem] size_putBlk cell_putBlk cell_putBlk_ne frozen_putBlk frozen_putBlk_ne setCell_putBlk
end Go.Proofs.YtnjbkfeihbcalaaGreat
/- More of blocks written out: two of them; what is known of a block, behind calls and new blocks. -/
namespace Go.Proofs.YtnjbkfeihbcalaaGreat
open Go.RowKit

theorem setCell_putBlk_ne (w:World) (g k:Nat) (o:Obj) (i:Nat) (s:Option Nat) (v:Value) (h:k ≠ g):(putBlk w g o).setCell ⟨k,i,s⟩ v=putBlk (w.setCell ⟨k,i,s⟩ v) g o:=by
 unfold putBlk World.setCell
 congr 1
 apply Array.ext_getElem?
 intro j
 simp only [Array.getElem?_modify,Array.getElem?_setIfInBounds,Array.size_modify]
 by_cases hk:k=j
 ·subst hk
  simp only [if_true]
  rw [if_neg (fun e=>h e.symm),if_neg (fun e=>h e.symm)]
 ·simp only [if_neg hk]

theorem keepB {W w':World} (hb:Below W.heap.size W w') {g:Nat} {o:Obj} (h:W.heap[g]? = some o):w'.heap[g]? = some o :=
 (hb.block g (Array.getElem?_eq_some_iff.1 h).1).trans h
theorem lt_of_heap {W:World} {g:Nat} {o:Obj} (h:W.heap[g]? = some o):g < W.heap.size:=(Array.getElem?_eq_some_iff.1 h).1
theorem keepA {W:World} {g:Nat} {o:Obj} (h:W.heap[g]? = some o) (x:Obj):(W.alloc x).heap[g]? = some o:=by
 show (W.heap.push x)[g]? = _
 rw [Array.getElem?_push,if_neg (by have:=lt_of_heap h;omega)]
 exact h

theorem heap_newA (w:World) (o:Obj):(w.alloc o).heap[w.heap.size]? = some o:=by
 show (w.heap.push o)[w.heap.size]? = _
 rw [Array.getElem?_push,if_pos rfl]
theorem heap_set_same {W:World} {g:Nat} {cs:Array Value} {ty:TypeId} {fr:Nat × Nat} (h:W.heap[g]? = some (.cells cs ty fr)) (i:Nat) (v:Value) :
  (W.setCell ⟨g,i,none⟩ v).heap[g]? = some (.cells (cs.setIfInBounds i v) ty fr):=by
 unfold World.setCell
 simp [Array.getElem?_modify,h]

attribute [go_sem] setCell_putBlk_ne
end Go.Proofs.YtnjbkfeihbcalaaGreat
/- Rows of structs that are read, of any number of cells each. -/
namespace Go.Proofs.YtnjbkfeihbcalaaGreat
open Go.RowKit Go.ChangeShapes Go.WideShapes Go.ChangeAt Go.Deep
set_option linter.unusedVariables false

def SRd {α:Type} (n:Nat) (cells:α→List Value) (w:World) (v:Value) (l:List α):Prop :=
 ∃ a cap,v=.slice a l.length cap∧l.length≤cap∧(l ≠ []→∃ b o,a=some ⟨b,o,none⟩∧b < w.heap.size∧∀ (i:Nat) (c:α),l[i]? = some c→∀ (j:Nat) (u:Value),(cells c)[j]? = some u→w.cell? ⟨b,o+i * n+j,none⟩=some u)

section
variable {α:Type} {n:Nat} {cells:α→List Value}
theorem SRd.below {w w':World} {v:Value} {l:List α} (h:SRd n cells w v l) (hb:Below w.heap.size w w'):SRd n cells w' v l:=by
 obtain ⟨a,cap,h1,h2,h3⟩:=h
 refine ⟨a,cap,h1,h2,fun hne=>?_⟩
 obtain ⟨b,o,h4,h5,h6⟩:=h3 hne
 exact ⟨b,o,h4,Nat.lt_of_lt_of_le h5 hb.size,fun i c hi j u hj=>(hb.cell (p:=⟨b,o+i * n+j,none⟩) h5).trans (h6 i c hi j u hj)⟩
theorem SRd.nil (w:World):SRd n cells w (.slice none 0 0) []:=⟨none,0,rfl,Nat.le_refl _,fun h=>absurd rfl h⟩
theorem SRd.form {w:World} {v:Value} {l:List α} (h:SRd n cells w v l):∃ a cap,v=.slice a l.length cap:=by
 obtain ⟨a,cap,h1,_⟩:=h
 exact ⟨a,cap,h1⟩
theorem SRd.at {w:World} {a:Option Addr} {m cap:Nat} {l:List α} (h:SRd n cells w (.slice a m cap) l) {i:Nat} {c:α} (hi:l[i]? = some c):m=l.length∧l.length≤cap∧∃ b o,a=some ⟨b,o,none⟩∧b < w.heap.size ∧
  ∀ (j:Nat) (u:Value),(cells c)[j]? = some u→w.cell? ⟨b,o+i * n+j,none⟩=some u:=by
 obtain ⟨a',cap',h1,h2,h3⟩:=h
 cases h1
 obtain ⟨b,o,h4,h5,h6⟩:=h3 (fun e=>by rw [e] at hi;simp at hi)
 exact ⟨rfl,h2,b,o,h4,h5,h6 i c hi⟩

def flatS (cells:α→List Value) (l:List α):List Value:=l.flatMap cells
theorem flatS_append (l m:List α):flatS cells (l ++ m)=flatS cells l ++ flatS cells m:=by simp [flatS]
theorem flatS_length (hn:∀ c,(cells c).length=n) (l:List α):(flatS cells l).length=l.length * n:=by
 induction l with
 | nil=>simp [flatS]
 | cons c l ih =>
  unfold flatS at *
  rw [List.flatMap_cons,List.length_append,hn,ih,List.length_cons,Nat.add_mul,Nat.one_mul,Nat.add_comm]
theorem flatS_at (hn:∀ c,(cells c).length=n):∀ (l:List α) (i:Nat) (c:α) (j:Nat) (u:Value),l[i]? = some c→(cells c)[j]? = some u→(flatS cells l)[i * n+j]? = some u
 | [],i,c,j,u,h,_=>by simp at h
 | d :: l,0,c,j,u,h,hj=>by
  simp only [List.getElem?_cons_zero,Option.some.injEq] at h
  subst h
  have hl:=(List.getElem?_eq_some_iff.1 hj).1
  unfold flatS
  rw [List.flatMap_cons,Nat.zero_mul,Nat.zero_add,List.getElem?_append_left hl]
  exact hj
 | d :: l,i+1,c,j,u,h,hj=>by
  have ih:=flatS_at hn l i c j u (by simpa using h) hj
  unfold flatS at *
  have h1:(i+1) * n+j=n+(i * n+j):=by rw [Nat.add_mul,Nat.one_mul];omega
  rw [List.flatMap_cons,List.getElem?_append_right (by rw [hn];omega),hn,h1,Nat.add_sub_cancel_left]
  exact ih

theorem SRd.of_owns {w:World} {base t:Nat} {v:Value} {m:Nat} {l:List α} (hn:∀ c,(cells c).length=n) (hn0:0 < n) (h:w.ownsRow base t n v m (flatS cells l)):SRd n cells w v l:=by
 have hm:l.length=m:=by
  have:=h.1
  rw [flatS_length hn] at this
  exact Nat.eq_of_mul_eq_mul_right hn0 this
 have hlt:=h.lt
 rcases h.2 with ⟨rfl,h2⟩ | ⟨g,cap,cur,rfl,h2,h3,h4,h5,h6,h7⟩
 ·obtain rfl:=List.eq_nil_of_length_eq_zero (hm.trans h2)
  exact SRd.nil w
 ·refine ⟨_,cap,by rw [hm],by omega,fun _=>⟨g,0,rfl,(hlt g rfl).2,fun i c hi j u hj=>?_⟩⟩
  have:=h.cells (g:=g) rfl (i * n+j) u (flatS_at hn l i c j u hi hj)
  have e:(⟨g,0,none⟩:Addr).add (i * n+j)=⟨g,0+i * n+j,none⟩:=by
   unfold Addr.add
   split
   ·simp_all
   ·simp only [Addr.mk.injEq,true_and,and_true];omega
  rwa [e] at this

theorem one_cellS {cs:List Value} {j:Nat} (h:j < cs.length):(cs.drop j).take 1=[cs[j]]:=by
 rw [List.drop_eq_getElem_cons h]
 rfl

theorem SRd.of_trod [Inhabited α] {H:Type} {enc:TypeId × Value→H} {W:World} {t e:TypeId} (P:α→Prop) (ht:Tryz.prog.underlying t=some (.slice e)) (hC:Tryz.prog.cellsOf e=n) (hn:∀ c,(cells c).length=n)
  (elem:∀ (k:Nat) (cs:List Value) (y:DataW H × List MemPlace),DataW.trod enc Tryz.prog W 0 (fun _=>true) true k e cs=some y→∃ c:α,cs=cells c∧P c)
  {a0:Option Addr} {len cap:Nat} {d:DataW H} {p:List MemPlace} (hn0:0 < n) (h:DataW.Trod enc Tryz.prog W 0 (fun _=>true) true t (.slice a0 len cap) d p) :
  ∃ l:List α,SRd n cells W (.slice a0 len cap) l∧∀ c ∈ l,P c:=by
 obtain ⟨fuel,hf⟩:=h
 rcases open_slice ht hf with ⟨hcs,_⟩ | ⟨a,len',cap',m,n',D,Pl,hcs,_,hl,hm,hmm,_,hi⟩
 ·simp [Value.cells] at hcs
  obtain ⟨rfl,rfl,rfl⟩:=hcs
  exact ⟨[],SRd.nil W,fun m hm=>by simp at hm⟩
 ·simp [Value.cells] at hcs
  obtain ⟨rfl,rfl,rfl⟩:=hcs
  rw [hC] at hi
  have he:∀ i,i < len→∃ c:α,(∀ (j:Nat) (u:Value),(cells c)[j]? = some u→W.cell? ((a.add (i * n)).add j)=some u)∧P c:=by
   intro i hil
   obtain ⟨cs',hc,ht⟩:=hi i (by rw [hmm];simp;omega)
   obtain ⟨_,hcl,hat⟩:=World.cells?_some hc
   obtain ⟨c,rfl,h2⟩:=elem _ _ _ ht
   exact ⟨c,fun j u hj=>by
    have hj8:=(List.getElem?_eq_some_iff.1 hj).1
    rw [hn] at hj8
    rw [hat j hj8];exact hj,h2⟩
  obtain ⟨f,hfs⟩:∃ f:Nat→α,∀ i,i < len→(∀ (j:Nat) (u:Value),(cells (f i))[j]? = some u→W.cell? ((a.add (i * n)).add j)=some u)∧P (f i) :=
   ⟨fun i=>if h:i < len then Classical.choose (he i h) else default,fun i hi=>by
    simp only [hi,dite_true]
    exact Classical.choose_spec (he i hi)⟩
  have hlen:((List.range len).map f).length=len:=by simp
  refine ⟨(List.range len).map f,?_,fun m hm=>?_⟩
  ·refine ⟨some a,cap,by rw [hlen],by rw [hlen];exact hl,fun hne=>?_⟩
   have hpos:0 < len:=by
    rcases Nat.eq_zero_or_pos len with h | h
    ·subst h;simp at hne
    ·exact h
   obtain ⟨b,o,sp⟩:=a
   obtain ⟨u0,hu0⟩:∃ u,(cells (f 0))[0]? = some u:=⟨_,List.getElem?_eq_getElem (by rw [hn];exact hn0)⟩
   have h0:=(hfs 0 hpos).1 0 _ hu0
   have hsp:sp=none:=by
    cases sp with
    | none=>rfl
    | some s=>simp [World.cell?,Addr.add] at h0;split at h0 <;> simp_all
   subst hsp
   refine ⟨b,o,rfl,?_,fun i c hi j u hj=>?_⟩
   ·have:=World.block_lt_of_cell? _ _ h0
    simpa [block_add] using this
   ·have hil:i < len:=by
     have:=(List.getElem?_eq_some_iff.1 hi).1
     rw [hlen] at this
     exact this
    have hc:c=f i:=by
     have e:((List.range len).map f)[i]? = some (f i):=by simp [hil]
     rw [e] at hi
     exact (Option.some.inj hi).symm
    subst hc
    have h1:=(hfs i hil).1 j u hj
    have e:((⟨b,o,none⟩:Addr).add (i * n)).add j=⟨b,o+i * n+j,none⟩:=by
     unfold Addr.add
     split <;> split <;> simp_all
    rwa [e] at h1
  ·obtain ⟨i,hi,rfl⟩:=List.mem_map.1 hm
   exact (hfs i (by simpa using hi)).2
end
end Go.Proofs.YtnjbkfeihbcalaaGreat
/- Rows of ints that are read. -/
namespace Go.Proofs.YtnjbkfeihbcalaaGreat
open Go.RowKit
set_option linter.unusedVariables false

def intC (x:Int):List Value:=[.int .i64 x]
theorem intC_length (x:Int):(intC x).length=1:=rfl
abbrev IRd (w:World) (v:Value) (l:List Int):Prop:=SRd 1 intC w v l
theorem flat_ints (l:List Int):flatS intC l=l.map (Value.int .i64):=by
 induction l with
 | nil=>rfl
 | cons a l ih=>unfold flatS at *;rw [List.flatMap_cons,ih];rfl
theorem IRd.cell {w:World} {a:Option Addr} {m cap:Nat} {l:List Int} (h:IRd w (.slice a m cap) l) {i:Nat} {x:Int} (hi:l[i]? = some x):m=l.length∧l.length≤cap∧∃ b o,a=some ⟨b,o,none⟩∧b < w.heap.size∧w.cell? ⟨b,o+i,none⟩=some (.int .i64 x):=by
 obtain ⟨h1,h2,b,o,h3,h4,h5⟩:=h.at hi
 refine ⟨h1,h2,b,o,h3,h4,?_⟩
 have:=h5 0 _ rfl
 simpa using this
theorem IRd.cells {w:World} {b o m cap:Nat} {l:List Int} (h:IRd w (.slice (some ⟨b,o,none⟩) m cap) l):∀ i x,l[i]? = some x→w.cell? ⟨b,o+i,none⟩=some (.int .i64 x):=by
 intro i x hi
 obtain ⟨_,_,b',o',h3,_,h5⟩:=h.cell hi
 cases h3
 exact h5
theorem IRd.mk {w:World} {b o cap:Nat} {l:List Int} (hc:l.length≤cap) (hb:b < w.heap.size) (h:∀ i x,l[i]? = some x→w.cell? ⟨b,o+i,none⟩=some (.int .i64 x)):IRd w (.slice (some ⟨b,o,none⟩) l.length cap) l:=by
 refine ⟨_,cap,rfl,hc,fun _=>⟨b,o,rfl,hb,fun i c hi j u hj=>?_⟩⟩
 have hj0:j=0:=by
  have:=(List.getElem?_eq_some_iff.1 hj).1
  simp [intC] at this
  exact this
 subst hj0
 simp [intC] at hj
 subst hj
 have:=h i c hi
 simpa using this
theorem IRd.of_owns {w:World} {base t:Nat} {v:Value} {m:Nat} {l:List Int} (h:w.ownsRow base t 1 v m (l.map (Value.int .i64))):IRd w v l :=
 SRd.of_owns intC_length (by omega) (by rw [flat_ints];exact h)
end Go.Proofs.YtnjbkfeihbcalaaGreat
/- make of a row of one-cell elements, of any length. -/
namespace Go.Proofs.YtnjbkfeihbcalaaGreat
open Go.RowKit
set_option linter.unusedVariables false

theorem made_one (z:Value) (hz:z.cells=#[z]) (n:Nat):madeCells z.cells n=Array.replicate n z:=by
 apply Array.ext
 ·simp [size_madeCells]
 ·intro i h1 h2
  simp [madeCells,hz,Nat.mod_one]
theorem run_row (w:World) (t e:TypeId) (i:TypeInfo) (z:Value) (ht:Tryz.prog.underlying t=some (.slice e)) (hi:Tryz.prog.info? e=some i) (hz:i.zero=some z) (hs:i.size=1) (hc:z.cells=#[z]) (n:Nat) (hb:i.bytes * n≤281474976710656) (h63:n≤maxLen) :
  (Instr.makeSlice t (.int .i64 n) (.int .i64 n)).run Tryz.prog w=.ok (.slice (some ⟨w.heap.size,0,none⟩) n n) (w.alloc (.cells (Array.replicate n z) e)):=by
 have h63':(n:Int)≤9223372036854775807:=by
  have h:=h63
  simp [maxLen] at h
  omega
 have hb':(i.bytes:Int) * (n:Int)≤281474976710656:=by
  have h:((i.bytes * n:Nat):Int)≤281474976710656:=by omega
  rwa [Int.natCast_mul] at h
 have hr:=run_make (P:=Tryz.prog) w t e i z ht hi hz .i64 .i64 n n (by omega) (Int.le_refl _) hb' h63'
 rw [hs,Nat.mul_one,made_one z hc] at hr
 simpa using hr
end Go.Proofs.YtnjbkfeihbcalaaGreat
/- The field of 256 elements: multiplication as the document defines it, on numbers. -/
namespace Go.Proofs.YtnjbkfeihbcalaaGreat
open Go.RowKit

def mulA (a b:Nat):Nat→Nat
 | 0=>0
 | k+1=>if b.testBit k then mulA a b k ^^^ (a * 2 ^ k) else mulA a b k

def redA (m:Nat):Nat→Nat
 | 0=>m
 | j+1=>if (redA m j).testBit (14 - j) then redA m j ^^^ (285 * 2 ^ (6 - j)) else redA m j

def gmul (a b:Nat):Nat:=redA (mulA a b 8) 7 % 256

theorem mulA_lt {a b:Nat} (ha:a < 256):∀ k,mulA a b k < 2 ^ (8+k)
 | 0=>by simp [mulA]
 | k+1=>by
  have h:=mulA_lt (b:=b) ha k
  have h1:(2:Nat) ^ (8+k) < 2 ^ (8+(k+1)):=Nat.pow_lt_pow_right (by omega) (by omega)
  have h2:a * 2 ^ k < 2 ^ (8+(k+1)):=by
   have:a * 2 ^ k < 256 * 2 ^ k:=Nat.mul_lt_mul_of_pos_right ha (Nat.two_pow_pos k)
   have h3:(2:Nat) ^ (8+k)=256 * 2 ^ k:=by rw [Nat.pow_add]
   omega
  simp only [mulA]
  split
  ·exact Nat.xor_lt_two_pow (by omega) h2
  ·omega

theorem redA_lt {m:Nat} (hm:m < 65536):∀ j,j≤7→redA m j < 65536
 | 0,_=>hm
 | j+1,h=>by
  have h1:=redA_lt hm j (by omega)
  simp only [redA]
  split
  ·refine Nat.xor_lt_two_pow (n:=16) (by omega) ?_
   have:(2:Nat) ^ (6 - j)≤2 ^ 6:=Nat.pow_le_pow_right (by omega) (by omega)
   omega
  ·exact h1

theorem gmul_lt (a b:Nat):gmul a b < 256:=Nat.mod_lt _ (by omega)

theorem ofInt_i64 (a:Nat) (ha:a < 9223372036854775808):(BitVec.ofInt 64 (a:Int)).toNat=a:=by
 rw [BitVec.ofInt_natCast,BitVec.toNat_ofNat];exact Nat.mod_eq_of_lt (by omega)
theorem i64_and_nat (a b:Nat) (ha:a < 9223372036854775808) (hb:b < 9223372036854775808):bits .and .i64 (a:Int) (b:Int)=((a &&& b:Nat):Int):=by
 have hx:a &&& b < 2 ^ 63:=Nat.and_lt_two_pow _ (by omega)
 show IntKind.i64.wrap ((BitVec.ofInt 64 (a:Int) &&& BitVec.ofInt 64 (b:Int)).toNat:Int)=_
 rw [BitVec.toNat_and,ofInt_i64 a ha,ofInt_i64 b hb,IntKind.wrap_i64]
 omega
theorem i64_xor_nat (a b:Nat) (ha:a < 9223372036854775808) (hb:b < 9223372036854775808):bits .xor .i64 (a:Int) (b:Int)=((a ^^^ b:Nat):Int):=by
 have hx:a ^^^ b < 2 ^ 63:=Nat.xor_lt_two_pow (by omega) (by omega)
 show IntKind.i64.wrap ((BitVec.ofInt 64 (a:Int) ^^^ BitVec.ofInt 64 (b:Int)).toNat:Int)=_
 rw [BitVec.toNat_xor,ofInt_i64 a ha,ofInt_i64 b hb,IntKind.wrap_i64]
 omega

theorem u8_and_one:∀ n:Fin 256,(bits .and .u8 (n.val:Int) 1 == 1)=decide (n.val % 2=1):=by decide +kernel
theorem u8_bit (b k:Nat) (hb:b < 256):(bits .and .u8 ((b:Int) / 2 ^ k) 1 == 1)=b.testBit k:=by
 have h:((b:Int) / 2 ^ k)=((b / 2 ^ k:Nat):Int):=by simp
 have h2:b / 2 ^ k < 256:=Nat.lt_of_le_of_lt (Nat.div_le_self _ _) hb
 rw [h,u8_and_one ⟨b / 2 ^ k,h2⟩,Nat.testBit_eq_decide_div_mod_eq]
theorem i64_bit (m k:Nat) (hm:m < 65536):(bits .and .i64 ((m:Int) / 2 ^ k) 1 == 1)=m.testBit k:=by
 have h:((m:Int) / 2 ^ k)=((m / 2 ^ k:Nat):Int):=by simp
 have h2:m / 2 ^ k < 65536:=Nat.lt_of_le_of_lt (Nat.div_le_self _ _) hm
 have h3:=i64_and_nat (m / 2 ^ k) 1 (by omega) (by omega)
 rw [h]
 rw [show ((1:Nat):Int)=1 from rfl] at h3
 rw [h3,Nat.and_one_is_mod,Nat.testBit_eq_decide_div_mod_eq]
 by_cases hh:m / 2 ^ k % 2=1
 ·simp [hh]
 ·have:m / 2 ^ k % 2=0:=by omega
  simp [this]
end Go.Proofs.YtnjbkfeihbcalaaGreat
/- Fields in which every element added to itself is nought; polynomials over them as rows of coefficients; sums. -/
namespace Go.Proofs.YtnjbkfeihbcalaaGreat
set_option linter.unusedVariables false
set_option linter.unusedSimpArgs false

class Fld (F:Type) where
 add:F→F→F
 mul:F→F→F
 zero:F
 one:F
 inv:F→F
 add_assoc:∀ a b c,add (add a b) c=add a (add b c)
 add_comm:∀ a b,add a b=add b a
 zero_add:∀ a,add zero a=a
 add_self:∀ a,add a a=zero
 mul_assoc:∀ a b c,mul (mul a b) c=mul a (mul b c)
 mul_comm:∀ a b,mul a b=mul b a
 one_mul:∀ a,mul one a=a
 mul_add:∀ a b c,mul a (add b c)=add (mul a b) (mul a c)
 inv_mul:∀ a,a ≠ zero→mul (inv a) a=one
 one_ne:one ≠ zero
 dec:DecidableEq F

namespace Fld
variable {F:Type} [Fld F]
instance:Add F:=⟨add⟩
instance:Mul F:=⟨mul⟩
instance:Zero F:=⟨zero⟩
instance:One F:=⟨one⟩
instance:DecidableEq F:=dec
instance:Inhabited F:=⟨0⟩

theorem addA (a b c:F):a+b+c=a+(b+c):=add_assoc a b c
theorem addC (a b:F):a+b=b+a:=add_comm a b
theorem addL (a b c:F):a+(b+c)=b+(a+c):=by rw [← addA,addC a b,addA]
theorem zadd (a:F):0+a=a:=zero_add a
theorem addz (a:F):a+0=a:=by rw [addC,zadd]
theorem adds (a:F):a+a=0:=add_self a
theorem adds2 (a b:F):a+(a+b)=b:=by rw [← addA,adds,zadd]
theorem mulA (a b c:F):a * b * c=a * (b * c):=mul_assoc a b c
theorem mulC (a b:F):a * b=b * a:=mul_comm a b
theorem mulL (a b c:F):a * (b * c)=b * (a * c):=by rw [← mulA,mulC a b,mulA]
theorem onem (a:F):1 * a=a:=one_mul a
theorem mone (a:F):a * 1=a:=by rw [mulC,onem]
theorem mad (a b c:F):a * (b+c)=a * b+a * c:=mul_add a b c
theorem dam (a b c:F):(a+b) * c=a * c+b * c:=by rw [mulC,mad,mulC c a,mulC c b]
theorem mzero (a:F):a * 0=0:=by
 have h:a * 0=a * 0+a * 0:=by rw [← mad,adds]
 rw [h,adds]
theorem zmul (a:F):0 * a=0:=by rw [mulC,mzero]
theorem one_ne0:(1:F) ≠ 0:=one_ne
theorem inv_m (a:F) (h:a ≠ 0):inv a * a=1:=inv_mul a h
theorem m_inv (a:F) (h:a ≠ 0):a * inv a=1:=by rw [mulC,inv_m a h]
theorem mul_eq0 {a b:F} (h:a * b=0):a=0 ∨ b=0:=by
 by_cases ha:a=0
 ·exact .inl ha
 ·right
  have:inv a * (a * b)=0:=by rw [h,mzero]
  rwa [← mulA,inv_m a ha,onem] at this
theorem inv_ne0 {a:F} (h:a ≠ 0):inv a ≠ 0:=fun e=>one_ne0 (by rw [← inv_m a h,e,zmul])
theorem add_eq0 {a b:F} (h:a+b=0):a=b:=by
 have:=congrArg (·+b) h
 simpa [addA,adds,addz,zadd] using this
theorem add_eq0' {a b:F}:a+b=0↔a=b:=⟨add_eq0,fun h=>by rw [h,adds]⟩
theorem add_cancel {a b c:F} (h:a+b=a+c):b=c:=by rw [← adds2 a b,h,adds2]
theorem mul_cancel {a b c:F} (ha:a ≠ 0) (h:a * b=a * c):b=c:=by
 have:=congrArg (inv a * ·) h
 simpa [← mulA,inv_m a ha,onem] using this

def pw (x:F):Nat→F
 | 0=>1
 | n+1=>pw x n * x
theorem pw_add (x:F) (a b:Nat):pw x (a+b)=pw x a * pw x b:=by
 induction b with
 | zero=>simp [pw,mone]
 | succ b ih=>rw [← Nat.add_assoc,pw,ih,pw,mulA]
theorem pw_pw (x:F) (a b:Nat):pw (pw x a) b=pw x (a * b):=by
 induction b with
 | zero=>rfl
 | succ b ih=>rw [pw,ih,Nat.mul_succ,pw_add]

def sm:Nat→(Nat→F)→F
 | 0,_=>0
 | n+1,f=>sm n f+f n
theorem sm_zero (f:Nat→F):sm 0 f=0:=rfl
theorem sm_succ (n:Nat) (f:Nat→F):sm (n+1) f=sm n f+f n:=rfl
theorem sm_congr {n:Nat} {f g:Nat→F} (h:∀ i,i < n→f i=g i):sm n f=sm n g:=by
 induction n with
 | zero=>rfl
 | succ n ih=>rw [sm_succ,sm_succ,ih (fun i hi=>h i (by omega)),h n (by omega)]
theorem sm_0 {n:Nat} {f:Nat→F} (h:∀ i,i < n→f i=0):sm n f=0:=by
 induction n with
 | zero=>rfl
 | succ n ih=>rw [sm_succ,ih (fun i hi=>h i (by omega)),h n (by omega),addz]
theorem sm_add (n:Nat) (f g:Nat→F):sm n (fun i=>f i+g i)=sm n f+sm n g:=by
 induction n with
 | zero=>simp [sm_zero,addz]
 | succ n ih=>rw [sm_succ,sm_succ,sm_succ,ih];simp only [addA,addC,addL]
theorem sm_mul (n:Nat) (a:F) (f:Nat→F):sm n (fun i=>a * f i)=a * sm n f:=by
 induction n with
 | zero=>simp [sm_zero,mzero]
 | succ n ih=>rw [sm_succ,sm_succ,ih,mad]
theorem sm_mulr (n:Nat) (a:F) (f:Nat→F):sm n (fun i=>f i * a)=sm n f * a:=by
 rw [mulC,← sm_mul];exact sm_congr fun i _=>mulC _ _
theorem sm_one {n:Nat} {f:Nat→F} (j:Nat) (hj:j < n) (h:∀ i,i < n→i ≠ j→f i=0):sm n f=f j:=by
 induction n with
 | zero=>omega
 | succ n ih =>
  rw [sm_succ]
  by_cases e:j=n
  ·subst e
   rw [sm_0 fun i hi=>h i (by omega) (by omega),zadd]
  ·rw [ih (by omega) fun i hi hne=>h i (by omega) hne,h n (by omega) (by omega),addz]
theorem sm_swap (m n:Nat) (f:Nat→Nat→F):sm m (fun i=>sm n (f i))=sm n (fun j=>sm m (fun i=>f i j)):=by
 induction m with
 | zero=>simp only [sm_zero];exact (sm_0 fun i _=>rfl).symm
 | succ m ih =>
  rw [sm_succ,ih,← sm_add]
  rfl
theorem sm_split (m n:Nat) (f:Nat→F):sm (m+n) f=sm m f+sm n (fun i=>f (m+i)):=by
 induction n with
 | zero=>simp [sm_zero,addz]
 | succ n ih=>rw [← Nat.add_assoc,sm_succ,ih,sm_succ,addA]
theorem sm_head (n:Nat) (f:Nat→F):sm (n+1) f=f 0+sm n (fun i=>f (i+1)):=by
 rw [Nat.add_comm,sm_split]
 simp only [sm_succ,sm_zero,zadd]
 congr 1
 exact sm_congr fun i _=>by rw [Nat.add_comm]

def ev:List F→F→F
 | [],_=>0
 | c :: p,x=>c+x * ev p x
theorem ev_nil (x:F):ev [] x=0:=rfl
theorem ev_cons (c:F) (p:List F) (x:F):ev (c :: p) x=c+x * ev p x:=rfl
theorem ev_append (p q:List F) (x:F):ev (p ++ q) x=ev p x+pw x p.length * ev q x:=by
 induction p with
 | nil=>simp [ev,pw,zadd,onem]
 | cons c p ih=>rw [List.cons_append,ev_cons,ih,ev_cons,List.length_cons,pw,mad,addA,mulC (pw x p.length) x,mulA]
theorem ev_zeros {p:List F} (h:∀ c ∈ p,c=0) (x:F):ev p x=0:=by
 induction p with
 | nil=>rfl
 | cons c p ih=>rw [ev_cons,h c (by simp),ih (fun d hd=>h d (by simp [hd])),mzero,addz]
theorem ev_sm (p:List F) (x:F):ev p x=sm p.length (fun i=>p.getD i 0 * pw x i):=by
 induction p with
 | nil=>rfl
 | cons c p ih =>
  rw [ev_cons,List.length_cons,sm_head,ih,← sm_mul]
  simp only [List.getD_cons_zero,List.getD_cons_succ,pw,mone]
  congr 1
  exact sm_congr fun i _=>by simp only [mulL,mulC,mulA]
def padd:List F→List F→List F
 | [],q=>q
 | p,[]=>p
 | a :: p,b :: q=>(a+b) :: padd p q
theorem ev_padd (p q:List F) (x:F):ev (padd p q) x=ev p x+ev q x:=by
 induction p generalizing q with
 | nil=>simp [padd,ev_nil,zadd]
 | cons a p ih =>
  cases q with
  | nil=>simp [padd,ev_nil,addz]
  | cons b q =>
   rw [padd,ev_cons,ev_cons,ev_cons,ih,mad]
   simp only [addA,addL]
theorem length_padd (p q:List F):(padd p q).length=max p.length q.length:=by
 induction p generalizing q with
 | nil=>simp [padd]
 | cons a p ih =>
  cases q with
  | nil=>simp [padd]
  | cons b q=>simp only [padd,ih,List.length_cons];omega
theorem getD_padd (p q:List F) (i:Nat):(padd p q).getD i 0=p.getD i 0+q.getD i 0:=by
 induction p generalizing q i with
 | nil=>simp [padd,zadd]
 | cons a p ih =>
  cases q with
  | nil=>simp [padd,addz]
  | cons b q =>
   cases i with
   | zero=>rfl
   | succ i=>simpa [padd] using ih q i
def sdv (a:F):List F→List F
 | []=>[]
 | [_]=>[]
 | _ :: d :: p=>ev (d :: p) a :: sdv a (d :: p)
theorem length_sdv (a:F) (p:List F):(sdv a p).length=p.length - 1:=by
 match p with
 | []=>rfl
 | [_]=>rfl
 | _ :: d :: p =>
  rw [sdv,List.length_cons,length_sdv a (d :: p)]
  simp
theorem ev_sdv (a x:F) (p:List F):ev p x=ev p a+(x+a) * ev (sdv a p) x:=by
 match p with
 | []=>simp [ev,sdv,mzero,addz]
 | [c]=>simp [ev,sdv,mzero,addz]
 | c :: d :: p =>
  have ih:=ev_sdv a x (d :: p)
  rw [sdv,ev_cons c,ev_cons c,ev_cons (ev (d :: p) a)]
  obtain ⟨u,hu⟩:∃ u,u=ev (d :: p) a:=⟨_,rfl⟩
  obtain ⟨v,hv⟩:∃ v,v=ev (sdv a (d :: p)) x:=⟨_,rfl⟩
  rw [← hu,← hv] at ih ⊢
  rw [ih]
  simp only [mad,dam,addA]
  congr 1
  rw [addL (a * u) (x * u),adds2]
  congr 1
  simp only [mulL,mulC,mulA]
theorem sdv_zero {a:F} {p:List F} (h:∀ c ∈ sdv a p,c=0) (h0:ev p a=0):∀ c ∈ p,c=0:=by
 match p with
 | []=>intro c hc;cases hc
 | [c] =>
  intro c' hc
  simp only [List.mem_singleton] at hc
  rw [hc]
  simpa [ev,mzero,addz] using h0
 | c :: d :: p =>
  rw [sdv] at h
  have h1:ev (d :: p) a=0:=h _ (by simp)
  have h2:=sdv_zero (p:=d :: p) (fun e he=>h e (by simp [he])) h1
  intro e he
  rw [ev_cons,h1,mzero,addz] at h0
  rcases List.mem_cons.1 he with rfl | he
  ·exact h0
  ·exact h2 e he
theorem roots_all {xs:List F} (hn:xs.Nodup):∀ {p:List F},p.length≤xs.length→(∀ x ∈ xs,ev p x=0)→∀ c ∈ p,c=0:=by
 induction xs with
 | nil =>
  intro p hl _ c hc
  have:p=[]:=List.eq_nil_of_length_eq_zero (by simpa using hl)
  rw [this] at hc;cases hc
 | cons a xs ih =>
  intro p hl h
  have h0:=h a (by simp)
  have hnn:=List.nodup_cons.1 hn
  refine sdv_zero (ih hnn.2 (by rw [length_sdv];simp at hl;omega) fun x hx=>?_) h0
  have e:=ev_sdv a x p
  rw [h x (by simp [hx]),h0,zadd] at e
  rcases mul_eq0 e.symm with h1 | h1
  ·exact absurd (add_eq0 h1) (fun e=>hnn.1 (e ▸ hx))
  ·exact h1
theorem ev_inj {xs:List F} (hn:xs.Nodup) {p q:List F} (hpq:p.length=q.length) (hl:p.length≤xs.length) (h:∀ x ∈ xs,ev p x=ev q x):p=q:=by
 have hz:=roots_all hn (p:=padd p q) (by rw [length_padd];omega) fun x hx=>by rw [ev_padd,h x hx,adds]
 refine List.ext_getElem hpq fun i h1 h2=>?_
 have e:=getD_padd p q i
 have hi:i < (padd p q).length:=by rw [length_padd];omega
 rw [List.getD_eq_getElem?_getD,List.getElem?_eq_getElem hi,Option.getD_some,hz _ (List.getElem_mem hi)] at e
 rw [List.getD_eq_getElem?_getD,List.getElem?_eq_getElem h1,List.getD_eq_getElem?_getD,List.getElem?_eq_getElem h2] at e
 exact add_eq0 e.symm

end Fld
end Go.Proofs.YtnjbkfeihbcalaaGreat
/- The 256 bytes are a field of characteristic two under the document's product. -/
namespace Go.Proofs.YtnjbkfeihbcalaaGreat
open Go.RowKit
set_option linter.unusedVariables false
set_option linter.unusedSimpArgs false

theorem shl_xor (a b k:Nat):(a ^^^ b) * 2 ^ k=a * 2 ^ k ^^^ b * 2 ^ k:=by
 have h:∀ x:Nat,x * 2 ^ k=x <<< k:=fun x=>(Nat.shiftLeft_eq x k).symm
 rw [h,h,h,Nat.shiftLeft_xor_distrib]
theorem xor4 (a b c d:Nat):(a ^^^ b) ^^^ (c ^^^ d)=(a ^^^ c) ^^^ (b ^^^ d):=by
 rw [Nat.xor_assoc,Nat.xor_assoc,← Nat.xor_assoc b c d,Nat.xor_comm b c,Nat.xor_assoc c b d]
theorem mulA_xorl (a a' b:Nat):∀ k,mulA (a ^^^ a') b k=mulA a b k ^^^ mulA a' b k
 | 0=>by simp [mulA]
 | k+1=>by
  simp only [mulA]
  split
  ·rw [mulA_xorl a a' b k,shl_xor,xor4]
  ·exact mulA_xorl a a' b k
theorem mulA_xorr (a b b':Nat):∀ k,mulA a (b ^^^ b') k=mulA a b k ^^^ mulA a b' k
 | 0=>by simp [mulA]
 | k+1=>by
  simp only [mulA,Nat.testBit_xor,mulA_xorr a b b' k]
  cases b.testBit k <;> cases b'.testBit k <;> simp only [Bool.xor_false,Bool.xor_true,Bool.not_false,Bool.not_true,if_true,if_false,Bool.false_eq_true]
  ·rw [Nat.xor_assoc]
  ·rw [Nat.xor_assoc,Nat.xor_comm (mulA a b' k),← Nat.xor_assoc]
  ·rw [xor4,Nat.xor_self,Nat.xor_zero]
theorem redA_xor (m n:Nat):∀ j,redA (m ^^^ n) j=redA m j ^^^ redA n j
 | 0=>rfl
 | j+1=>by
  simp only [redA,redA_xor m n j,Nat.testBit_xor]
  cases (redA m j).testBit (14 - j) <;> cases (redA n j).testBit (14 - j) <;> simp only [Bool.xor_false,Bool.xor_true,Bool.not_false,Bool.not_true,if_true,if_false,Bool.false_eq_true]
  ·rw [Nat.xor_assoc]
  ·rw [Nat.xor_assoc,Nat.xor_comm (redA n j),← Nat.xor_assoc]
  ·rw [xor4,Nat.xor_self,Nat.xor_zero]
theorem mod_xor (a b:Nat):(a ^^^ b) % 256=a % 256 ^^^ b % 256:=by
 have:=@Nat.xor_mod_two_pow a b 8
 simpa using this
theorem gmul_xorl (a a' b:Nat):gmul (a ^^^ a') b=gmul a b ^^^ gmul a' b:=by
 rw [gmul,gmul,gmul,mulA_xorl,redA_xor,mod_xor]
theorem gmul_xorr (a b b':Nat):gmul a (b ^^^ b')=gmul a b ^^^ gmul a b':=by
 rw [gmul,gmul,gmul,mulA_xorr,redA_xor,mod_xor]
theorem add_ext {F G:Nat→Nat} (hF:∀ x y,F (x ^^^ y)=F x ^^^ F y) (hG:∀ x y,G (x ^^^ y)=G x ^^^ G y) :
  ∀ n,(∀ i,i < n→F (2 ^ i)=G (2 ^ i))→∀ x,x < 2 ^ n→F x=G x
 | 0,_,x,hx=>by
  have:x=0:=by simpa using hx
  subst this
  have h1:∀ H:Nat→Nat,(∀ x y,H (x ^^^ y)=H x ^^^ H y)→H 0=0:=fun H hH=>by
   have:=hH 0 0
   simpa using this
  rw [h1 F hF,h1 G hG]
 | n+1,h,x,hx=>by
  have hm:x % 2 ^ n < 2 ^ n:=Nat.mod_lt _ (Nat.two_pow_pos n)
  have ih:=add_ext hF hG n (fun i hi=>h i (by omega)) (x % 2 ^ n) hm
  by_cases hb:x.testBit n=true
  ·have e:x=2 ^ n ^^^ x % 2 ^ n:=by
    apply Nat.eq_of_testBit_eq
    intro i
    rw [Nat.testBit_xor,Nat.testBit_two_pow,Nat.testBit_mod_two_pow]
    rcases Nat.lt_trichotomy i n with h1 | h1 | h1
    ·have:decide (n=i)=false:=by simp;omega
     simp [h1,this]
    ·subst h1;simp [hb]
    ·have:x.testBit i=false:=Nat.testBit_lt_two_pow (Nat.lt_of_lt_of_le hx (Nat.pow_le_pow_right (by omega) (by omega)))
     have h3:decide (n=i)=false:=by simp;omega
     simp [this,h3]
   rw [e,hF,hG,ih,h n (by omega)]
  ·have e:x=x % 2 ^ n:=by
    apply Nat.eq_of_testBit_eq
    intro i
    rw [Nat.testBit_mod_two_pow]
    rcases Nat.lt_trichotomy i n with h1 | h1 | h1
    ·simp [h1]
    ·subst h1;simpa using hb
    ·have:x.testBit i=false:=Nat.testBit_lt_two_pow (Nat.lt_of_lt_of_le hx (Nat.pow_le_pow_right (by omega) (by omega)))
     rw [this];simp
   rw [e];exact ih
theorem lt8 {x:Nat} (h:x < 256):x < 2 ^ 8:=h
theorem gmul_comm {a b:Nat} (ha:a < 256) (hb:b < 256):gmul a b=gmul b a:=by
 refine add_ext (F:=fun x=>gmul x b) (G:=fun x=>gmul b x) (fun x y=>gmul_xorl x y b) (fun x y=>gmul_xorr b x y) 8 (fun i hi=>?_) a (lt8 ha)
 refine add_ext (F:=fun x=>gmul (2 ^ i) x) (G:=fun x=>gmul x (2 ^ i)) (fun x y=>gmul_xorr _ x y) (fun x y=>gmul_xorl x y _) 8 (fun j hj=>?_) b (lt8 hb)
 exact (by decide +kernel:∀ i:Fin 8,∀ j:Fin 8,gmul (2 ^ i.val) (2 ^ j.val)=gmul (2 ^ j.val) (2 ^ i.val)) ⟨i,hi⟩ ⟨j,hj⟩
theorem gmul_assoc {a b c:Nat} (ha:a < 256) (hb:b < 256) (hc:c < 256):gmul (gmul a b) c=gmul a (gmul b c):=by
 refine add_ext (F:=fun x=>gmul (gmul x b) c) (G:=fun x=>gmul x (gmul b c)) (fun x y=>by simp only [gmul_xorl]) (fun x y=>gmul_xorl x y _) 8 (fun i hi=>?_) a (lt8 ha)
 refine add_ext (F:=fun x=>gmul (gmul (2 ^ i) x) c) (G:=fun x=>gmul (2 ^ i) (gmul x c)) (fun x y=>by simp only [gmul_xorl,gmul_xorr]) (fun x y=>by simp only [gmul_xorl,gmul_xorr]) 8 (fun j hj=>?_) b (lt8 hb)
 refine add_ext (F:=fun x=>gmul (gmul (2 ^ i) (2 ^ j)) x) (G:=fun x=>gmul (2 ^ i) (gmul (2 ^ j) x)) (fun x y=>gmul_xorr _ x y) (fun x y=>by simp only [gmul_xorr]) 8 (fun k hk=>?_) c (lt8 hc)
 exact (by decide +kernel:∀ i:Fin 8,∀ j:Fin 8,∀ k:Fin 8,gmul (gmul (2 ^ i.val) (2 ^ j.val)) (2 ^ k.val)=gmul (2 ^ i.val) (gmul (2 ^ j.val) (2 ^ k.val))) ⟨i,hi⟩ ⟨j,hj⟩ ⟨k,hk⟩
theorem gmul_one {a:Nat} (ha:a < 256):gmul 1 a=a :=
 add_ext (F:=fun x=>gmul 1 x) (G:=fun x=>x) (fun x y=>gmul_xorr _ x y) (fun x y=>rfl) 8 (fun i hi=>(by decide +kernel:∀ i:Fin 8,gmul 1 (2 ^ i.val)=2 ^ i.val) ⟨i,hi⟩) a (lt8 ha)

def tabL:List Nat:=[1,2,4,8,16,32,64,128,29,58,116,232,205,135,19,38,76,152,45,90,180,117,234,201,143,3,6,12,24,48,96,192,157,39,78,156,37,74,148,53,106,212,181,119,238,193,159,35,70,140,5,10,20,40,80,160,93,186,105,210,185,111,222,161,95,190,97,194,153,47,94,188,101,202,137,15,30,60,120,240,253,231,211,187,107,214,177,127,254,225,223,163,91,182,113,226,217,175,67,134,17,34,68,136,13,26,52,104,208,189,103,206,129,31,62,124,248,237,199,147,59,118,236,197,151,51,102,204,133,23,46,92,184,109,218,169,79,158,33,66,132,21,42,84,168,77,154,41,82,164,85,170,73,146,57,114,228,213,183,115,230,209,191,99,198,145,63,126,252,229,215,179,123,246,241,255,227,219,171,75,150,49,98,196,149,55,110,220,165,87,174,65,130,25,50,100,200,141,7,14,28,56,112,224,221,167,83,166,81,162,89,178,121,242,249,239,195,155,43,86,172,69,138,9,18,36,72,144,61,122,244,245,247,243,251,235,203,139,11,22,44,88,176,125,250,233,207,131,27,54,108,216,173,71,142]
theorem tab_all:((List.range 256).all fun a=>a == 0 || tabL.contains a)=true:=by decide +kernel
theorem tab_len:tabL.length=255:=by decide +kernel
theorem tab_step:((List.range 255).all fun i=>tabL[(i+1) % 255]? == (tabL[i]?).map fun x=>gmul x 2)=true:=by decide +kernel
def nodupB:List Nat→Bool
 | []=>true
 | x :: l=>!l.contains x && nodupB l
theorem nodup_of:∀ {l:List Nat},nodupB l=true→l.Nodup
 | [],_=>List.nodup_nil
 | x :: l,h=>by
  simp only [nodupB,Bool.and_eq_true,Bool.not_eq_true'] at h
  exact List.nodup_cons.2 ⟨by simpa using h.1,nodup_of h.2⟩
theorem tab_nodup:tabL.Nodup:=nodup_of (by decide +kernel)
theorem tab_double:∀ x:Fin 256,(if x.val * 2 > 255 then (x.val * 2) ^^^ 285 else x.val * 2)=gmul x.val 2:=by decide +kernel

structure GF where
 n:Nat
 lt:n < 256
deriving DecidableEq
namespace GF
theorem ext' {a b:GF} (h:a.n=b.n):a=b:=by cases a;cases b;simp_all
def add (a b:GF):GF:=⟨a.n ^^^ b.n,Nat.xor_lt_two_pow (n:=8) a.lt b.lt⟩
def mul (a b:GF):GF:=⟨gmul a.n b.n,gmul_lt _ _⟩
def pown (a:GF):Nat→GF
 | 0=>⟨1,by omega⟩
 | n+1=>mul (pown a n) a
def two:GF:=⟨2,by omega⟩
def one':GF:=⟨1,by omega⟩
theorem mulA' (a b c:GF):mul (mul a b) c=mul a (mul b c):=ext' (gmul_assoc a.lt b.lt c.lt)
theorem mulC' (a b:GF):mul a b=mul b a:=ext' (gmul_comm a.lt b.lt)
theorem one_mul' (a:GF):mul one' a=a:=ext' (gmul_one a.lt)
theorem pown_add (a:GF) (i j:Nat):pown a (i+j)=mul (pown a i) (pown a j):=by
 induction j with
 | zero=>rw [pown,Nat.add_zero,mulC'];exact (one_mul' _).symm
 | succ j ih=>rw [← Nat.add_assoc,pown,ih,pown,mulA']
theorem tab_get:∀ i,tabL[i % 255]? = some (pown two i).n
 | 0=>by decide +kernel
 | i+1=>by
  have ih:=tab_get i
  have h:=List.all_eq_true.1 tab_step (i % 255) (by simp;omega)
  rw [ih,Option.map_some,beq_iff_eq] at h
  rw [show (i+1) % 255=(i % 255+1) % 255 by omega,h]
  rfl
theorem pow255:pown two 255=one':=ext' (by
 have:=tab_get 255
 exact (Option.some.inj ((by decide +kernel:tabL[255 % 255]? = some 1).symm.trans this)).symm)
theorem pow_per (i:Nat):pown two (i+255)=pown two i:=by rw [pown_add,pow255,mulC',one_mul']
theorem pow_mod (i:Nat):pown two (i % 255)=pown two i:=by
 have h:∀ q r,pown two (255 * q+r)=pown two r:=fun q r=>by
  induction q with
  | zero=>simp
  | succ q ih=>rw [show 255 * (q+1)+r=(255 * q+r)+255 by omega,pow_per,ih]
 conv=>rhs;rw [← Nat.div_add_mod i 255]
 rw [h]
theorem log_ex (a:GF) (h:a.n ≠ 0):∃ i,i < 255∧pown two i=a:=by
 have h1:=List.all_eq_true.1 tab_all a.n (by simp [a.lt])
 simp only [Bool.or_eq_true,beq_iff_eq,h,false_or] at h1
 have h2:a.n ∈ tabL:=by simpa using h1
 obtain ⟨i,hi⟩:=List.mem_iff_getElem?.1 h2
 have hl:i < 255:=by
  have:=(List.getElem?_eq_some_iff.1 hi).1
  rwa [tab_len] at this
 have:=tab_get i
 rw [Nat.mod_eq_of_lt hl,hi] at this
 exact ⟨i,hl,ext' (Option.some.inj this).symm⟩
theorem log_inj {i j:Nat} (hi:i < 255) (hj:j < 255) (h:pown two i=pown two j):i=j:=by
 have e1:=tab_get i
 have e2:=tab_get j
 rw [Nat.mod_eq_of_lt hi] at e1
 rw [Nat.mod_eq_of_lt hj] at e2
 rw [h] at e1
 have hl:i < tabL.length:=(List.getElem?_eq_some_iff.1 e1).1
 exact (List.getElem?_inj hl tab_nodup).1 (e1.trans e2.symm)
noncomputable def log (a:GF):Nat:=if h:a.n ≠ 0 then (log_ex a h).choose else 0
theorem log_lt (a:GF) (h:a.n ≠ 0):a.log < 255:=by rw [log,dif_pos h];exact (log_ex a h).choose_spec.1
theorem log_pow (a:GF) (h:a.n ≠ 0):pown two a.log=a:=by rw [log,dif_pos h];exact (log_ex a h).choose_spec.2
noncomputable def inv' (a:GF):GF:=if a.n ≠ 0 then pown two (255 - a.log) else ⟨0,by omega⟩
noncomputable instance fld:Fld GF where
 add:=add
 mul:=mul
 zero:=⟨0,by omega⟩
 one:=one'
 inv:=inv'
 add_assoc a b c:=ext' (Nat.xor_assoc _ _ _)
 add_comm a b:=ext' (Nat.xor_comm _ _)
 zero_add a:=ext' (Nat.zero_xor _)
 add_self a:=ext' (Nat.xor_self _)
 mul_assoc:=mulA'
 mul_comm:=mulC'
 one_mul:=one_mul'
 mul_add a b c:=ext' (gmul_xorr _ _ _)
 inv_mul a h:=by
  have h0:a.n ≠ 0:=fun e=>h (ext' e)
  have hl:=log_lt a h0
  obtain ⟨k,hk⟩:∃ k,k=a.log:=⟨_,rfl⟩
  rw [inv',if_pos h0,← hk]
  rw [← hk] at hl
  rw [show a=pown two k by rw [hk];exact (log_pow a h0).symm,← pown_add,show 255 - k+k=255 by omega,pow255]
 one_ne h:=absurd (congrArg GF.n h) (by decide)
 dec:=inferInstance
open Fld
theorem n_add (a b:GF):(a+b).n=a.n ^^^ b.n:=rfl
theorem n_zero:(0:GF).n=0:=rfl
theorem n_one:(1:GF).n=1:=rfl
theorem ne0 {a:GF}:a ≠ 0↔a.n ≠ 0:=⟨fun h e=>h (ext' e),fun h e=>h (by rw [e];rfl)⟩
theorem eq0 {a:GF}:a=0↔a.n=0:=⟨fun h=>by rw [h];rfl,fun h=>ext' h⟩
theorem pown_pw (a:GF) (n:Nat):pown a n=pw a n:=by
 induction n with
 | zero=>rfl
 | succ n ih=>rw [pown,pw,ih];rfl
theorem mul_exp {a b:GF} (ha:a ≠ 0) (hb:b ≠ 0):a * b=pown two (a.log+b.log):=by
 rw [pown_add,log_pow a (ne0.1 ha),log_pow b (ne0.1 hb)];rfl
theorem div_exp {a b:GF} (ha:a ≠ 0) (hb:b ≠ 0):a * Fld.inv b=pown two (a.log+255 - b.log):=by
 have hl:=log_lt b (ne0.1 hb)
 have h1:a * Fld.inv b=mul a (inv' b):=rfl
 obtain ⟨k,hk⟩:∃ k,k=b.log:=⟨_,rfl⟩
 obtain ⟨j,hj⟩:∃ j,j=a.log:=⟨_,rfl⟩
 rw [h1,inv',if_pos (ne0.1 hb),← hk,← hj]
 rw [← hk] at hl
 rw [show a=pown two j by rw [hj];exact (log_pow a (ne0.1 ha)).symm,← pown_add]
 congr 1;omega
theorem pw_exp {a:GF} (ha:a ≠ 0) (n:Nat):pw a n=pown two (a.log * n):=by
 obtain ⟨j,hj⟩:∃ j,j=a.log:=⟨_,rfl⟩
 rw [← hj,show a=pown two j by rw [hj];exact (log_pow a (ne0.1 ha)).symm,pown_pw,pw_pw,pown_pw]
theorem u8_xor (a b:GF):bits .xor .u8 (a.n:Int) (b.n:Int)=(((a+b).n:Nat):Int):=by
 have hx:=(a+b).lt
 show IntKind.u8.wrap ((BitVec.ofInt 8 (a.n:Int) ^^^ BitVec.ofInt 8 (b.n:Int)).toNat:Int)=_
 have h:∀ c:GF,(BitVec.ofInt 8 (c.n:Int)).toNat=c.n:=fun c=>by
  rw [BitVec.ofInt_natCast,BitVec.toNat_ofNat];exact Nat.mod_eq_of_lt c.lt
 rw [BitVec.toNat_xor,h,h,← n_add,IntKind.wrap_u8]
 omega
theorem pw_mod {a:GF} (ha:a ≠ 0) (n:Nat):pw a (n % 255)=pw a n:=by
 rw [pw_exp ha,pw_exp ha,← pow_mod,← pow_mod (a.log * n),Nat.mul_mod_mod]
end GF
end Go.Proofs.YtnjbkfeihbcalaaGreat
/- Worlds that are alike but for some blocks, and for new ones. -/
namespace Go.Proofs.YtnjbkfeihbcalaaGreat
open Go.RowKit
set_option linter.unusedVariables false

structure Kp (S:List Nat) (w w':World):Prop where
 os:w'.os=w.os
 tape:w'.tape=w.tape
 output:w'.output=w.output
 size:w.heap.size≤w'.heap.size
 block:∀ k,k < w.heap.size→k ∉ S→w'.heap[k]? = w.heap[k]?
namespace Kp
theorem refl (S:List Nat) (w:World):Kp S w w:=⟨rfl,rfl,rfl,Nat.le_refl _,fun _ _ _=>rfl⟩
theorem step {S T:List Nat} {a b c:World} (h:Kp S a b) (k:Kp T b c) (hT:∀ x ∈ T,x ∈ S ∨ a.heap.size≤x):Kp S a c :=
 ⟨k.os.trans h.os,k.tape.trans h.tape,k.output.trans h.output,Nat.le_trans h.size k.size,fun i hi hn =>
  (k.block i (Nat.lt_of_lt_of_le hi h.size) (fun hm=>(hT i hm).elim hn (fun h2=>by omega))).trans (h.block i hi hn)⟩
theorem trans {S:List Nat} {a b c:World} (h:Kp S a b) (k:Kp S b c):Kp S a c:=h.step k fun x hx=>.inl hx
theorem mono {S T:List Nat} {a b:World} (h:Kp S a b) (hT:∀ x ∈ S,x ∈ T):Kp T a b:=⟨h.os,h.tape,h.output,h.size,fun i hi hn=>h.block i hi fun hm=>hn (hT i hm)⟩
theorem below_step {S:List Nat} {a b c:World} (h:Kp S a b) (k:Below b.heap.size b c):Kp S a c :=
 h.step (T:=[]) ⟨k.os,k.tape,k.output,k.size,fun i hi _=>k.block i hi⟩ fun x hx=>by cases hx
theorem of_below {S:List Nat} {a b:World} (k:Below a.heap.size a b):Kp S a b:=(refl S a).below_step k
theorem alloc {S:List Nat} {a b:World} (h:Kp S a b) (o:Obj):Kp S a (b.alloc o):=h.below_step ((Below.refl _ b).alloc (Nat.le_refl _) o)
theorem drew {S:List Nat} {a b:World} (h:Kp S a b):Kp S a b.drew:=⟨h.os,h.tape,h.output,h.size,h.block⟩
theorem drewN {S:List Nat} {a b:World} (h:Kp S a b) (n:Nat):Kp S a (b.drewN n):=⟨h.os,h.tape,h.output,h.size,h.block⟩
theorem setCell {S:List Nat} {a b:World} (h:Kp S a b) {p:Addr} (hp:p.block ∈ S ∨ a.heap.size≤p.block) (v:Value):Kp S a (b.setCell p v) :=
 h.step (T:=[p.block]) ⟨rfl,rfl,rfl,by simp [World.setCell],fun k hk hn=>Below.heap_setCell _ _ _ _ (by simpa using hn)⟩ fun x hx=>by
  rw [List.mem_singleton] at hx
  rw [hx];exact hp
theorem grown {S:List Nat} {a b c:World} {row:Option Nat} (h:Kp S a b) (hg:b.grownBy c row) (hr:∀ k,row=some k→k ∈ S ∨ a.heap.size≤k):Kp S a c :=
 h.step (T:=row.toList) ⟨hg.os,hg.tape,hg.output,hg.size,fun k hk hn=>hg.block k hk fun e=>hn (by rw [← e];simp)⟩ fun x hx=>hr x (by simpa using hx)
theorem below {S:List Nat} {a b:World} (h:Kp S a b) {B:Nat} (hB:B≤a.heap.size) (hS:∀ x ∈ S,B≤x):Below B a b :=
 ⟨h.os,h.tape,h.output,h.size,fun k hk=>h.block k (by omega) fun hm=>by have:=hS k hm;omega⟩
theorem cell {S:List Nat} {a b:World} (h:Kp S a b) {p:Addr} (hp:p.block < a.heap.size) (hn:p.block ∉ S):b.cell? p=a.cell? p:=World.cell?_of_block (w:=a) (h.block p.block hp hn)
theorem frozen {S:List Nat} {a b:World} (h:Kp S a b) {p:Addr} (hp:p.block < a.heap.size) (hn:p.block ∉ S):b.frozen? p=a.frozen? p:=World.frozen?_of_block (w:=a) (h.block p.block hp hn)
theorem heap {S:List Nat} {a b:World} (h:Kp S a b) {g:Nat} {o:Obj} (hg:a.heap[g]? = some o) (hn:g ∉ S):b.heap[g]? = some o:=(h.block g (lt_of_heap hg) hn).trans hg
end Kp
def Apart (v:Value) (S:List Nat):Prop:=∀ k,v.ownBlock=some k→k ∉ S
theorem Apart.nil (S:List Nat) (n m:Nat):Apart (.slice none n m) S:=fun k hk=>by simp [Value.ownBlock] at hk
theorem BytesRd.kp {S:List Nat} {w w':World} {v:Value} {l:List Nat} (h:BytesRd w v l) (hk:Kp S w w') (hn:Apart v S):BytesRd w' v l:=by
 obtain ⟨h0,a,cap,h1,h2,h3⟩:=h
 refine ⟨h0,a,cap,h1,h2,fun hne=>?_⟩
 obtain ⟨b,o,h4,h5,h6⟩:=h3 hne
 refine ⟨b,o,h4,Nat.lt_of_lt_of_le h5 hk.size,fun i hi=>?_⟩
 exact (hk.cell (p:=⟨b,o+i,none⟩) h5 (hn b (by rw [h1,h4];rfl))).trans (h6 i hi)
theorem BytesRd.form {w:World} {v:Value} {l:List Nat} (h:BytesRd w v l):∃ a cap,v=.slice a l.length cap∧l.length≤cap:=by
 obtain ⟨_,a,cap,h1,h2,_⟩:=h;exact ⟨a,cap,h1,h2⟩
theorem BytesRd.at {w:World} {a:Option Addr} {n cap:Nat} {l:List Nat} (h:BytesRd w (.slice a n cap) l) {i:Nat} {x:Nat} (hi:l[i]? = some x) :
  ∃ b o,a=some ⟨b,o,none⟩∧b < w.heap.size∧w.cell? ⟨b,o+i,none⟩=some (.int .u8 (x:Int)):=by
 obtain ⟨_,a',cap',h1,h2,h3⟩:=h
 obtain ⟨rfl,rfl,rfl⟩:=(Value.slice.injEq ..).mp h1
 obtain ⟨b,o,h4,h5,h6⟩:=h3 (fun e=>by rw [e] at hi;cases hi)
 refine ⟨b,o,h4,h5,?_⟩
 have hl:=(List.getElem?_eq_some_iff.1 hi).1
 have e:=h6 i hl
 rw [List.getD_eq_getElem?_getD,hi,Option.getD_some] at e
 exact e
def GRd (w:World) (v:Value) (l:List GF):Prop:=BytesRd w v (l.map GF.n)
theorem GRd.kp {S:List Nat} {w w':World} {v:Value} {l:List GF} (h:GRd w v l) (hk:Kp S w w') (hn:Apart v S):GRd w' v l:=BytesRd.kp h hk hn
theorem GRd.below {w w':World} {v:Value} {l:List GF} (h:GRd w v l) (hb:Below w.heap.size w w'):GRd w' v l:=BytesRd.below h hb
theorem GRd.form {w:World} {v:Value} {l:List GF} (h:GRd w v l):∃ a cap,v=.slice a l.length cap∧l.length≤cap:=by
 have:=BytesRd.form h;rwa [List.length_map] at this
theorem GRd.at {w:World} {a:Option Addr} {n cap:Nat} {l:List GF} (h:GRd w (.slice a n cap) l) {i:Nat} {x:GF} (hi:l[i]? = some x) :
  ∃ b o,a=some ⟨b,o,none⟩∧b < w.heap.size∧w.cell? ⟨b,o+i,none⟩=some (.int .u8 (x.n:Int)):=BytesRd.at h (by simp [hi])
theorem toG_ex {l:List Nat} (h:∀ x ∈ l,x < 256):∃ m:List GF,l=m.map GF.n:=by
 induction l with
 | nil=>exact ⟨[],rfl⟩
 | cons a l ih =>
  obtain ⟨m,hm⟩:=ih fun x hx=>h x (by simp [hx])
  exact ⟨⟨a,h a (by simp)⟩ :: m,by rw [List.map_cons,← hm]⟩
theorem BytesRd.toG {w:World} {v:Value} {l:List Nat} (h:BytesRd w v l):∃ m:List GF,l=m.map GF.n∧GRd w v m:=by
 obtain ⟨m,rfl⟩:=toG_ex h.1
 exact ⟨m,rfl,h⟩
end Go.Proofs.YtnjbkfeihbcalaaGreat
