/-
  Rows of nodes' bytes: as they lie, as they read; which are of nodes, none there twice.
  The reference's check of rows, and its first row of numbers.
  Marks of what was seen.
-/
import Derived.Test.YtcclhhjcejmepaaGreatZKit
import Derived.Test.YtcclhhjcejmepaaGreatZDecA
import Derived.Deep.Slices
import Derived.Deep.Fields
import Derived.ChangeArms
import Derived.Test.YtcclhhjcejmepaaGreatZWeRefs
/- Rows of nodes' bytes: as they lie, as they read; which are of nodes, none there twice. -/
set_option maxRecDepth 100000
set_option maxHeartbeats 4000000
namespace Go.Proofs.YtcclhhjcejmepaaGreat
open Go.RowKit Go.ChangeShapes Go.WideShapes Go.ChangeAt Go.Deep
set_option linter.unusedVariables false
set_option linter.unusedSimpArgs false

structure Sy where
 node:Int
 a:Option Addr
 cp:Nat
 d:List GF
instance:Inhabited Sy:=⟨⟨0,none,0,[]⟩⟩
def Sy.cells (s:Sy):List Value:=[.int .i64 s.node,.slice s.a s.d.length s.cp]
theorem Sy.cells_length (s:Sy):s.cells.length=2:=rfl
def Sy.rd (w:World) (s:Sy):Prop:=GRd w (.slice s.a s.d.length s.cp) s.d
abbrev SyRd (w:World) (v:Value) (l:List Sy):Prop:=SRd 2 Sy.cells w v l
structure SyAll (w:World) (v:Value) (l:List Sy):Prop where
 rd:SyRd w v l
 each:∀ s ∈ l,s.rd w
theorem Sy.rd.below {w w':World} {s:Sy} (h:s.rd w) (hb:Below w.heap.size w w'):s.rd w':=GRd.below h hb
theorem SyAll.below {w w':World} {v:Value} {l:List Sy} (h:SyAll w v l) (hb:Below w.heap.size w w'):SyAll w' v l:=⟨h.rd.below hb,fun s hs=>(h.each s hs).below hb⟩
def SyApart (v:Value) (l:List Sy) (S:List Nat):Prop:=(l ≠ []→Apart v S)∧∀ s ∈ l,s.d ≠ []→Apart (.slice s.a s.d.length s.cp) S
theorem SRd.kp {α:Type} {n:Nat} {cells:α→List Value} {S:List Nat} {w w':World} {v:Value} {l:List α} (h:SRd n cells w v l) (hk:Kp S w w') (hn:l ≠ []→Apart v S):SRd n cells w' v l:=by
 obtain ⟨a,cap,h1,h2,h3⟩:=h
 refine ⟨a,cap,h1,h2,fun hne=>?_⟩
 obtain ⟨b,o,h4,h5,h6⟩:=h3 hne
 exact ⟨b,o,h4,Nat.lt_of_lt_of_le h5 hk.size,fun i c hi j u hj=>(hk.cell (p:=⟨b,o+i * n+j,none⟩) h5 (hn hne b (by rw [h1,h4];rfl))).trans (h6 i c hi j u hj)⟩
theorem GRd.kp2 {S:List Nat} {w w':World} {v:Value} {l:List GF} (h:GRd w v l) (hk:Kp S w w') (hn:l ≠ []→Apart v S):GRd w' v l:=by
 by_cases e:l=[]
 ·subst e
  obtain ⟨h0,a,cap,h1,h2,h3⟩:=h
  exact ⟨h0,a,cap,h1,h2,fun h=>absurd rfl h⟩
 ·exact h.kp hk (hn e)
theorem SyAll.kp {S:List Nat} {w w':World} {v:Value} {l:List Sy} (h:SyAll w v l) (hk:Kp S w w') (hn:SyApart v l S):SyAll w' v l :=
 ⟨SRd.kp h.rd hk hn.1,fun s hs=>GRd.kp2 (h.each s hs) hk (hn.2 s hs)⟩

theorem i64_wf {a:Int} (h:(Lit.int .i64 a).wf=true):-9223372036854775808≤a∧a≤9223372036854775807:=by
 have h1:IntKind.i64.min=-9223372036854775808:=rfl
 have h2:IntKind.i64.max=9223372036854775807:=rfl
 simp only [Lit.wf,Bool.and_eq_true,decide_eq_true_eq] at h
 omega
section
variable {H:Type} {enc:TypeId × Value→H} {W:World}
theorem bytes_field {cs:List Value} {n:Nat} {y:DataW H × List MemPlace} (h:DataW.trod enc Tryz.prog W 0 (fun _=>true) true n 22 cs=some y):∃ a len cap l,cs=[.slice a len cap]∧BytesRd W (.slice a len cap) l:=by
 rcases open_slice Tryz.underlying22 h with ⟨rfl,_⟩ | ⟨a,len,cap,m,n',D,Pl,rfl,_⟩
 ·exact ⟨none,0,0,[],rfl,BytesRd.nil W⟩
 ·have h2:DataW.Trod enc Tryz.prog W 0 (fun _=>true) true 22 (.slice (some a) len cap) y.1 y.2:=⟨n,by simpa [Value.cells] using h⟩
  obtain ⟨l,hl,_⟩:=BytesRd.of_trod Tryz.underlying22 Tryz.underlying5 (by kernel_rfl) h2
  exact ⟨some a,len,cap,l,rfl,hl⟩
theorem sy_field {cs:List Value} {n:Nat} {y:DataW H × List MemPlace} (h:DataW.trod enc Tryz.prog W 0 (fun _=>true) true n 59 cs=some y) :
  ∃ s:Sy,cs=s.cells∧(s.rd W∧(-9223372036854775808≤s.node∧s.node≤9223372036854775807)):=by
 have hu:=Tryz.underlying59
 obtain ⟨xs,n',_,_,hlen,hxs,hf⟩:=DataW.trod_struct hu h
 have hl8:cs.length=2:=by rw [hlen];kernel_rfl
 have hx8:xs.length=2:=by simpa using hxs
 have h0:DataW.trod enc Tryz.prog W 0 (fun _=>true) true n' 3 [cs[0]'(by omega)]=some (xs[0]'(by omega)):=by
  have e:DataW.trod enc Tryz.prog W 0 (fun _=>true) true n' 3 ((cs.drop 0).take (Tryz.prog.cellsOf 3))=xs[0]?:=hf 0 _ rfl
  rw [show Tryz.prog.cellsOf 3=1 by kernel_rfl] at e
  rw [← List.getElem?_eq_getElem (by omega),← e]
  exact congrArg _ (one_cellS (by omega)).symm
 have h1:DataW.trod enc Tryz.prog W 0 (fun _=>true) true n' 22 [cs[1]'(by omega)]=some (xs[1]'(by omega)):=by
  have e:DataW.trod enc Tryz.prog W 0 (fun _=>true) true n' 22 ((cs.drop 1).take (Tryz.prog.cellsOf 22))=xs[1]?:=hf 1 _ rfl
  rw [show Tryz.prog.cellsOf 22=1 by kernel_rfl] at e
  rw [← List.getElem?_eq_getElem (by omega),← e]
  exact congrArg _ (one_cellS (by omega)).symm
 obtain ⟨v0,e0,_,w0⟩:=DataW.trod_int Tryz.underlying3 h0
 obtain ⟨a1,n1,c1,l1,e1,r1⟩:=bytes_field h1
 obtain ⟨m1,rfl,hg⟩:=r1.toG
 obtain ⟨_,_,e2,_⟩:=hg.form
 cases e2
 refine ⟨⟨v0,a1,c1,m1⟩,?_,hg,i64_wf w0⟩
 simp only [List.cons.injEq,and_true] at e0 e1
 apply List.ext_getElem
 ·rw [hl8];rfl
 ·intro i hi hi'
  rw [hl8] at hi
  match i,hi with
  | 0,_=>exact e0
  | 1,_=>exact e1
theorem sys_of_trod {a0:Option Addr} {len cap:Nat} {d:DataW H} {p:List MemPlace} (h:DataW.Trod enc Tryz.prog W 0 (fun _=>true) true 41 (.slice a0 len cap) d p) :
  ∃ l:List Sy,SyAll W (.slice a0 len cap) l∧∀ s ∈ l,-9223372036854775808≤s.node∧s.node≤9223372036854775807:=by
 obtain ⟨l,h1,h2⟩:=SRd.of_trod (cells:=Sy.cells) (fun c=>c.rd W∧(-9223372036854775808≤c.node∧c.node≤9223372036854775807)) Tryz.underlying41 (by kernel_rfl) Sy.cells_length (fun k cs y hk=>sy_field hk) (by omega) h
 exact ⟨l,⟨h1,fun s hs=>(h2 s hs).1⟩,fun s hs=>(h2 s hs).2⟩
end

def Sy.nodes (l:List Sy):List Int:=l.map Sy.node
def SyGood (N:Nat) (not:Int) (sz:Nat) (l:List Sy):Prop:=GoodP N (Sy.nodes l)∧∀ s ∈ l,s.node ≠ not∧s.d.length=sz
theorem SyGood.nil (N:Nat) (not:Int) (sz:Nat):SyGood N not sz []:=⟨⟨by simp [Sy.nodes],by simp [Sy.nodes]⟩,by simp⟩
theorem SyGood.succ {N:Nat} {not:Int} {sz:Nat} {l:List Sy} {I:Nat} {s:Sy} (h:SyGood N not sz (l.take I)) (hs:l[I]? = some s) (h0:0≤s.node∧s.node < (N:Int)) (h1:s.node ≠ not) (h2:s.d.length=sz) (h3:∀ (j:Nat) (t:Sy),j < I→l[j]? = some t→t.node ≠ s.node):SyGood N not sz (l.take (I+1)):=by
 have e:l.take (I+1)=l.take I ++ [s]:=by rw [List.take_add_one,hs];rfl
 rw [e]
 refine ⟨⟨fun x hx=>?_,?_⟩,fun t ht=>?_⟩
 ·simp only [Sy.nodes,List.map_append,List.mem_append,List.map_cons,List.map_nil,List.mem_singleton] at hx
  rcases hx with hx | rfl
  ·exact h.1.1 x hx
  ·exact h0
 ·unfold Sy.nodes
  rw [List.map_append,List.nodup_append]
  refine ⟨h.1.2,by simp,fun x hx y hy e=>?_⟩
  simp only [List.map_cons,List.map_nil,List.mem_singleton] at hy
  subst hy
  obtain ⟨t,ht,rfl⟩:=List.mem_map.1 hx
  obtain ⟨j,hj,rfl⟩:=List.mem_take_iff_getElem.1 ht
  exact h3 j _ (by omega) (List.getElem?_eq_getElem (by omega)) e
 ·rcases List.mem_append.1 ht with ht | ht
  ·exact h.2 t ht
  ·rw [List.mem_singleton.1 ht];exact ⟨h1,h2⟩
theorem SyGood.at {N:Nat} {not:Int} {sz:Nat} {l:List Sy} {I:Nat} {s:Sy} (h:SyGood N not sz l) (hs:l[I]? = some s):(0≤s.node∧s.node < (N:Int))∧s.node ≠ not∧s.d.length=sz :=
 ⟨h.1.1 _ (List.mem_map.2 ⟨s,List.mem_of_getElem? hs,rfl⟩),h.2 s (List.mem_of_getElem? hs)⟩
theorem SyGood.twice {N:Nat} {not:Int} {sz:Nat} {l:List Sy} {i j:Nat} {s t:Sy} (h:SyGood N not sz l) (hs:l[i]? = some s) (ht:l[j]? = some t) (hne:j < i):t.node ≠ s.node:=fun e=>by
 obtain ⟨hi,e1⟩:=List.getElem?_eq_some_iff.1 hs
 obtain ⟨hj,e2⟩:=List.getElem?_eq_some_iff.1 ht
 have:=List.pairwise_iff_getElem.1 h.1.2 j i (by simpa [Sy.nodes] using hj) (by simpa [Sy.nodes] using hi) hne
 simp only [Sy.nodes,List.getElem_map,e1,e2] at this
 exact this e
end Go.Proofs.YtcclhhjcejmepaaGreat
/- The reference's check of rows, and its first row of numbers. -/
namespace Go.Proofs.YtcclhhjcejmepaaGreat
open Go.RowKit Fld
set_option linter.unusedVariables false
set_option linter.unusedSimpArgs false

def BelowPost (p:Prop) (w:World) (e:Ending) (w':World):Prop:=∃ b,e=.returned (.bool b)∧Below w.heap.size w w'∧(b=true↔p)
theorem rrows_any (N:Nat) (v:Value) (l:List Sy) (not:Int) (sz:Nat) (w:World) (h:SyAll w v l) (hl:l.length≤1000000) :
  Calls Tryz.prog 54 #[.int .i64 N,v,.int .i64 not,.int .i64 sz] w (BelowPost (SyGood N not sz l) w):=by
 obtain ⟨a,cap,rfl⟩:=h.rd.form
 obtain ⟨L,hL⟩:∃ L,l.length=L:=⟨_,rfl⟩
 have H:=Hd h
 have HL:=Hd hL
 rw [hL] at H hl ⊢
 clear h hL
 go_enter Tryz.func54,Tryz.ntmps54
 go_wp2
 go_loopg [9] L (fun gk i wr=>∃ I:Nat,I≤L∧gk=L - I∧i=.int .i64 I∧Hid (Below w.heap.size w wr)∧Hid (SyGood N not sz (l.take I)))
 case atStart=>exact ⟨0,by omega,rfl,rfl,Hd (Below.refl _ _),Hd (by rw [List.take_zero];exact SyGood.nil _ _ _)⟩
 case round =>
  obtain ⟨I,hI,rfl,rfl,HB,HG⟩:=hrel
  have hs:=HB.out.size
  have HW:=Hd (H.out.below HB.out)
  by_cases hlt:I < L
  ·obtain ⟨s,hs⟩:∃ s,l[I]? = some s:=⟨_,List.getElem?_eq_getElem (by rw [HL.out];exact hlt)⟩
   obtain ⟨-,hcap,b,o,rfl,hb,hat⟩:=SRd.at HW.out.rd hs
   have c0:wr.cell? ⟨b,o+I * 2,none⟩=some (.int .i64 s.node):=hat 0 _ rfl
   have c1:wr.cell? ⟨b,o+I * 2+1,none⟩=some (.slice s.a s.d.length s.cp):=hat 1 _ rfl
   have HS:=Hd hs
   have i1:(0:Int)≤(I:Int)∧(I:Int) < (L:Int):=by omega
   obtain ⟨x,hx⟩:∃ x,s.node=x:=⟨_,rfl⟩
   obtain ⟨m,hm⟩:∃ m,s.d.length=m:=⟨_,rfl⟩
   have HX:=Hd hx
   have HM:=Hd hm
   rw [hx] at c0
   rw [hm] at c1
   clear hat hs hx hm
   by_cases h0:x < 0
   ·go_wp2
    go_ret
    exact ⟨false,rfl,HB.out,by simp,fun hg=>by have:=(hg.at HS.out).1.1;rw [HX.out] at this;omega⟩
   by_cases h1:(N:Int)≤x
   ·have h1':x ≥ (N:Int):=h1
    go_wp2
    go_ret
    exact ⟨false,rfl,HB.out,by simp,fun hg=>by have:=(hg.at HS.out).1.2;rw [HX.out] at this;omega⟩
   have h1':¬ x ≥ (N:Int):=h1
   by_cases h2:x=not
   ·have HN:=Hd h2
    have h2':(x == not)=true:=by simpa using h2
    clear h2
    go_wp2
    go_ret
    exact ⟨false,rfl,HB.out,by simp,fun hg=>by have:=(hg.at HS.out).2.1;rw [HX.out] at this;exact absurd HN.out this⟩
   have h2':(x == not)=false:=by simpa using h2
   have HN:=Hd h2
   clear h2
   by_cases h3:m=sz
   case neg =>
    have h3':¬ (m:Int)=(sz:Int):=by omega
    go_wp2
    go_ret
    exact ⟨false,rfl,HB.out,by simp,fun hg=>by have:=(hg.at HS.out).2.2;rw [HM.out] at this;exact absurd this h3⟩
   subst h3
   go_wp2
   go_loopg [10] I (fun gk i wr=>∃ K:Nat,K≤I∧gk=I - K∧i=.int .i64 K∧Hid (Below w.heap.size w wr)∧Hid (∀ (j:Nat) (t:Sy),j < K→l[j]? = some t→t.node ≠ s.node))
   case atStart=>exact ⟨0,by omega,rfl,rfl,HB,Hd (fun j t h=>by omega)⟩
   case round =>
    clear HB HW hs c0 c1 hb
    obtain ⟨K,hK,rfl,rfl,HB,HD⟩:=hrel
    have hs:=HB.out.size
    have HW:=Hd (H.out.below HB.out)
    by_cases hk:K < I
    ·obtain ⟨t,ht⟩:∃ t,l[K]? = some t:=⟨_,List.getElem?_eq_getElem (by rw [HL.out];omega)⟩
     obtain ⟨-,-,b',o',e,hb,hat⟩:=SRd.at HW.out.rd ht
     cases e
     obtain ⟨-,-,b',o',e,-,hat1⟩:=SRd.at HW.out.rd HS.out
     cases e
     have c0:wr.cell? ⟨b,o+I * 2,none⟩=some (.int .i64 s.node):=hat1 0 _ rfl
     rw [HX.out] at c0
     have d0:wr.cell? ⟨b,o+K * 2,none⟩=some (.int .i64 t.node):=hat 0 _ rfl
     have HT:=Hd ht
     have i2:(0:Int)≤(K:Int)∧(K:Int) < (L:Int):=by omega
     obtain ⟨y,hy⟩:∃ y,t.node=y:=⟨_,rfl⟩
     have HY:=Hd hy
     rw [hy] at d0
     clear hat hat1 ht hy
     by_cases he:x=y
     ·have HE:=Hd he
      have he':(x == y)=true:=by simpa using he
      clear he
      go_upto_region 9 with fail
      have hgr:=fun (w0 W:World) (p:Addr) (hp:(fun k=>k < wr.heap.size) p.block)=>g_C (w0:=w0) (keep:=(fun k=>k < wr.heap.size)) W hp
      refine w_T (fun k=>k < wr.heap.size) [] (.sq [0,1,2,3,4,5,6,7,8,9,10] .done) (by kernel_rfl) (by kernel_rfl) ?_
      simp only [Tr.sq,List.foldr_cons,List.foldr_nil,slimTr,slimStep,Oper.slim,List.contains_cons,List.contains_nil,Option.map_none,Option.map_some,List.getElem?_toArray,List.getElem?_cons_zero,List.getElem?_cons_succ,Option.bind_some,beq_self_eq_true,Bool.or_false,Nat.reduceBEq,Nat.reduceAdd,Nat.zero_add]
      repeat' first | ((with_reducible refine w_I ?_);first | (with_reducible refine w_D ?_) | ((with_reducible refine w_S (fun K hK=>?_));go_simp;(refine hK _ _ ?_;clear hK K))) | fail
      clear hgr
      go_wp2
      go_ret
      exact ⟨false,rfl,HB.out.drew,by simp,fun hg=>by
       have:=hg.twice HS.out HT.out (by omega)
       rw [HX.out,HY.out] at this
       exact absurd HE.out.symm this⟩
     ·have he':(x == y)=false:=by simpa using he
      have HD2:Hid (∀ (j:Nat) (t:Sy),j < K+1→l[j]? = some t→t.node ≠ s.node):=Hd fun j t2 hj ht2=>by
       by_cases e:j=K
       ·subst e
        rw [HT.out] at ht2
        cases ht2
        rw [HX.out,HY.out]
        exact fun e=>he e.symm
       ·exact HD.out j t2 (by omega) ht2
      have HB2:=Hd HB.out.drew
      clear he
      go_upto_region 9 with fail
      have hgr:=fun (w0 W:World) (p:Addr) (hp:(fun k=>k < wr.heap.size) p.block)=>g_C (w0:=w0) (keep:=(fun k=>k < wr.heap.size)) W hp
      refine w_T (fun k=>k < wr.heap.size) [] (.sq [0,1,2,3,4,5,6,7,8,9,10] .done) (by kernel_rfl) (by kernel_rfl) ?_
      simp only [Tr.sq,List.foldr_cons,List.foldr_nil,slimTr,slimStep,Oper.slim,List.contains_cons,List.contains_nil,Option.map_none,Option.map_some,List.getElem?_toArray,List.getElem?_cons_zero,List.getElem?_cons_succ,Option.bind_some,beq_self_eq_true,Bool.or_false,Nat.reduceBEq,Nat.reduceAdd,Nat.zero_add]
      repeat' first | ((with_reducible refine w_I ?_);first | (with_reducible refine w_D ?_) | ((with_reducible refine w_S (fun K hK=>?_));go_simp;(refine hK _ _ ?_;clear hK K))) | fail
      clear hgr
      go_wp2
      go_roundg (I - (K+1))
      case measure=>omega
      case rel=>exact ⟨K+1,by omega,rfl,by go_num,HB2,HD2⟩
    ·obtain rfl:K=I:=by omega
     have HG2:Hid (SyGood N not m (l.take (K+1))):=Hd (HG.out.succ HS.out (by rw [HX.out];omega) (by rw [HX.out];exact HN.out) HM.out HD.out)
     go_wp2
     go_roundg (L - (K+1))
     case measure=>omega
     case rel=>exact ⟨K+1,by omega,rfl,by go_num,HB,HG2⟩
  ·obtain rfl:I=L:=by omega
   go_wp2
   go_ret
   have:=HG.out
   rw [← HL.out,List.take_length] at this
   exact ⟨true,rfl,HB.out,fun _=>this,fun _=>rfl⟩
end Go.Proofs.YtcclhhjcejmepaaGreat
/- Marks of what was seen. -/
namespace Go.Proofs.YtcclhhjcejmepaaGreat
open Go.RowKit Fld
set_option linter.unusedVariables false
set_option linter.unusedSimpArgs false

structure BMarks (w:World) (sb N:Nat) (S:Nat→Bool):Prop where
 lt:sb < w.heap.size
 cells:∀ j,j < N→w.cell? ⟨sb,j,none⟩=some (.bool (S j))∧w.frozen? ⟨sb,j,none⟩=false
theorem BMarks.set {w:World} {sb N:Nat} {S:Nat→Bool} (h:BMarks w sb N S) {i:Nat} (hi:i < N):BMarks (w.setCell ⟨sb,i,none⟩ (.bool true)) sb N (fun j=>if j=i then true else S j):=by
 refine ⟨by simpa [World.setCell] using h.lt,fun j hj=>?_⟩
 by_cases e:j=i
 ·subst e
  rw [if_pos rfl]
  exact ⟨World.cell?_setCell_same _ _ _ (h.cells j hj).1,by rw [World.frozen?_setCell];exact (h.cells j hj).2⟩
 ·rw [if_neg e]
  exact ⟨(World.cell?_setCell_other _ ⟨sb,i,none⟩ ⟨sb,j,none⟩ _ (by simp <;> omega)).trans (h.cells j hj).1,by rw [World.frozen?_setCell];exact (h.cells j hj).2⟩
theorem BMarks.below {w w':World} {sb N:Nat} {S:Nat→Bool} (h:BMarks w sb N S) (hb:Below w.heap.size w w'):BMarks w' sb N S :=
 ⟨Nat.lt_of_lt_of_le h.lt hb.size,fun j hj=>⟨(hb.cell (p:=⟨sb,j,none⟩) h.lt).trans (h.cells j hj).1,((Kp.of_below (S:=[]) hb).frozen (p:=⟨sb,j,none⟩) h.lt (by simp)).trans (h.cells j hj).2⟩⟩
theorem BMarks.congr {w:World} {sb N:Nat} {S T:Nat→Bool} (h:BMarks w sb N S) (e:∀ j,j < N→S j=T j):BMarks w sb N T:=⟨h.lt,fun j hj=>by rw [← e j hj];exact h.cells j hj⟩
theorem BMarks.new (w:World) (N:Nat):BMarks (w.alloc (.cells (Array.replicate N (.bool false)) 4)) w.heap.size N (fun _=>false):=by
 have hh:(w.alloc (.cells (Array.replicate N (.bool false)) 4)).heap[w.heap.size]? = some (.cells (Array.replicate N (.bool false)) 4 (0,0)):=nwA _ _
 exact ⟨lOH hh,fun j hj=>⟨by rw [cell_of_row _ _ _ _ _ (0,0) hh];simp [hj],fOH hh j⟩⟩
def seenS (not:Int) (l:List Sy) (j:Nat):Bool:=decide (not=(j:Int)) || l.any (fun s=>decide (s.node=(j:Int)))
theorem seenS_succ {not:Int} {l:List Sy} {I:Nat} {s:Sy} (hs:l[I]? = some s) {x:Nat} (hx:s.node=(x:Int)) (j:Nat):(if j=x then true else seenS not (l.take I) j)=seenS not (l.take (I+1)) j:=by
 rw [List.take_add_one,hs]
 unfold seenS
 simp only [Option.toList_some,List.any_append,List.any_cons,List.any_nil,Bool.or_false,hx]
 by_cases e:j=x
 ·subst e;simp
 ·have:¬ (x:Int)=(j:Int):=by omega
  simp [e,this]
theorem seenS_true {not:Int} {l:List Sy} {I:Nat} {x:Nat}:seenS not (l.take I) x=true↔not=(x:Int) ∨ ∃ (j:Nat) (t:Sy),j < I∧l[j]? = some t∧t.node=(x:Int):=by
 unfold seenS
 rw [Bool.or_eq_true,decide_eq_true_eq,List.any_eq_true]
 refine or_congr Iff.rfl ⟨fun ⟨t,ht,e⟩=>?_,fun ⟨j,t,hj,ht,e⟩=>⟨t,?_,by simpa using e⟩⟩
 ·obtain ⟨j,hj,rfl⟩:=List.mem_take_iff_getElem.1 ht
  exact ⟨j,_,by omega,List.getElem?_eq_getElem (by omega),by simpa using e⟩
 ·obtain ⟨h1,h2⟩:=List.getElem?_eq_some_iff.1 ht
  exact List.mem_take_iff_getElem.2 ⟨j,by omega,h2⟩
end Go.Proofs.YtcclhhjcejmepaaGreat
