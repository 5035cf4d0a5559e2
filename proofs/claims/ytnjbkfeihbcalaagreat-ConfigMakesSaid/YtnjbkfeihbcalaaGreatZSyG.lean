/-
  Rows of nodes' bytes: as they lie, as they read; which are of nodes, none there twice.
  The reference's check of rows, and its first row of numbers.
  Marks of what was seen.
  Appends of one member that lies ready wherever.
  Rows of nodes' bytes that are one's own: appended to, one by one.
-/
import Derived.Test.YtnjbkfeihbcalaaGreatZKit
import Derived.Test.YtnjbkfeihbcalaaGreatZDecA
import Derived.Deep.Slices
import Derived.Deep.Fields
import Derived.ChangeArms
import Derived.Test.YtnjbkfeihbcalaaGreatZWeRefs
/- Rows of nodes' bytes: as they lie, as they read; which are of nodes, none there twice. -/
namespace Go.Proofs.YtnjbkfeihbcalaaGreat
open Go.RowKit Go.ChangeShapes Go.WideShapes Go.ChangeAt Go.Deep
set_option linter.unusedVariables false
set_option linter.unusedSimpArgs false

structure Sy where
 node:Int
 a:Option Addr
 cp:Nat
 d:List GF
instance:Inhabited Sy:=⟨⟨0,none,0,[]⟩⟩
def Sy.cells (s:Sy):List Value:=[.int .i64 s.node,.slice s.a s.d.length s.cp]
theorem Sy.cells_length (s:Sy):s.cells.length=2:=rfl
def Sy.rd (w:World) (s:Sy):Prop:=GRd w (.slice s.a s.d.length s.cp) s.d
abbrev SyRd (w:World) (v:Value) (l:List Sy):Prop:=SRd 2 Sy.cells w v l
structure SyAll (w:World) (v:Value) (l:List Sy):Prop where
 rd:SyRd w v l
 each:∀ s ∈ l,s.rd w
theorem Sy.rd.below {w w':World} {s:Sy} (h:s.rd w) (hb:Below w.heap.size w w'):s.rd w':=GRd.below h hb
theorem SyAll.below {w w':World} {v:Value} {l:List Sy} (h:SyAll w v l) (hb:Below w.heap.size w w'):SyAll w' v l:=⟨h.rd.below hb,fun s hs=>(h.each s hs).below hb⟩
def SyApart (v:Value) (l:List Sy) (S:List Nat):Prop:=(l ≠ []→Apart v S)∧∀ s ∈ l,s.d ≠ []→Apart (.slice s.a s.d.length s.cp) S
theorem SRd.kp {α:Type} {n:Nat} {cells:α→List Value} {S:List Nat} {w w':World} {v:Value} {l:List α} (h:SRd n cells w v l) (hk:Kp S w w') (hn:l ≠ []→Apart v S):SRd n cells w' v l:=by
 obtain ⟨a,cap,h1,h2,h3⟩:=h
 refine ⟨a,cap,h1,h2,fun hne=>?_⟩
 obtain ⟨b,o,h4,h5,h6⟩:=h3 hne
 exact ⟨b,o,h4,Nat.lt_of_lt_of_le h5 hk.size,fun i c hi j u hj=>(hk.cell (p:=⟨b,o+i * n+j,none⟩) h5 (hn hne b (by rw [h1,h4];rfl))).trans (h6 i c hi j u hj)⟩
theorem GRd.kp2 {S:List Nat} {w w':World} {v:Value} {l:List GF} (h:GRd w v l) (hk:Kp S w w') (hn:l ≠ []→Apart v S):GRd w' v l:=by
 by_cases e:l=[]
 ·subst e
  obtain ⟨h0,a,cap,h1,h2,h3⟩:=h
  exact ⟨h0,a,cap,h1,h2,fun h=>absurd rfl h⟩
 ·exact h.kp hk (hn e)
theorem SyAll.kp {S:List Nat} {w w':World} {v:Value} {l:List Sy} (h:SyAll w v l) (hk:Kp S w w') (hn:SyApart v l S):SyAll w' v l :=
 ⟨SRd.kp h.rd hk hn.1,fun s hs=>GRd.kp2 (h.each s hs) hk (hn.2 s hs)⟩

theorem i64_wf {a:Int} (h:(Lit.int .i64 a).wf=true):-9223372036854775808≤a∧a≤9223372036854775807:=by
 have h1:IntKind.i64.min=-9223372036854775808:=rfl
 have h2:IntKind.i64.max=9223372036854775807:=rfl
 simp only [Lit.wf,Bool.and_eq_true,decide_eq_true_eq] at h
 omega
section
variable {H:Type} {enc:TypeId × Value→H} {W:World}
theorem bytes_field {cs:List Value} {n:Nat} {y:DataW H × List MemPlace} (h:DataW.trod enc Tryz.prog W 0 (fun _=>true) true n 50 cs=some y):∃ a len cap l,cs=[.slice a len cap]∧BytesRd W (.slice a len cap) l:=by
 rcases open_slice Tryz.underlying50 h with ⟨rfl,_⟩ | ⟨a,len,cap,m,n',D,Pl,rfl,_⟩
 ·exact ⟨none,0,0,[],rfl,BytesRd.nil W⟩
 ·have h2:DataW.Trod enc Tryz.prog W 0 (fun _=>true) true 50 (.slice (some a) len cap) y.1 y.2:=⟨n,by simpa [Value.cells] using h⟩
  obtain ⟨l,hl,_⟩:=BytesRd.of_trod Tryz.underlying50 Tryz.underlying5 (by kernel_rfl) h2
  exact ⟨some a,len,cap,l,rfl,hl⟩
end

def Sy.nodes (l:List Sy):List Int:=l.map Sy.node
def SyGood (N:Nat) (not:Int) (sz:Nat) (l:List Sy):Prop:=GoodP N (Sy.nodes l)∧∀ s ∈ l,s.node ≠ not∧s.d.length=sz
theorem SyGood.nil (N:Nat) (not:Int) (sz:Nat):SyGood N not sz []:=⟨⟨by simp [Sy.nodes],by simp [Sy.nodes]⟩,by simp⟩
theorem SyGood.succ {N:Nat} {not:Int} {sz:Nat} {l:List Sy} {I:Nat} {s:Sy} (h:SyGood N not sz (l.take I)) (hs:l[I]? = some s) (h0:0≤s.node∧s.node < (N:Int)) (h1:s.node ≠ not) (h2:s.d.length=sz) (h3:∀ (j:Nat) (t:Sy),j < I→l[j]? = some t→t.node ≠ s.node):SyGood N not sz (l.take (I+1)):=by
 have e:l.take (I+1)=l.take I ++ [s]:=by rw [List.take_add_one,hs];rfl
 rw [e]
 refine ⟨⟨fun x hx=>?_,?_⟩,fun t ht=>?_⟩
 ·simp only [Sy.nodes,List.map_append,List.mem_append,List.map_cons,List.map_nil,List.mem_singleton] at hx
  rcases hx with hx | rfl
  ·exact h.1.1 x hx
  ·exact h0
 ·unfold Sy.nodes
  rw [List.map_append,List.nodup_append]
  refine ⟨h.1.2,by simp,fun x hx y hy e=>?_⟩
  simp only [List.map_cons,List.map_nil,List.mem_singleton] at hy
  subst hy
  obtain ⟨t,ht,rfl⟩:=List.mem_map.1 hx
  obtain ⟨j,hj,rfl⟩:=List.mem_take_iff_getElem.1 ht
  exact h3 j _ (by omega) (List.getElem?_eq_getElem (by omega)) e
 ·rcases List.mem_append.1 ht with ht | ht
  ·exact h.2 t ht
  ·rw [List.mem_singleton.1 ht];exact ⟨h1,h2⟩
theorem SyGood.at {N:Nat} {not:Int} {sz:Nat} {l:List Sy} {I:Nat} {s:Sy} (h:SyGood N not sz l) (hs:l[I]? = some s):(0≤s.node∧s.node < (N:Int))∧s.node ≠ not∧s.d.length=sz :=
 ⟨h.1.1 _ (List.mem_map.2 ⟨s,List.mem_of_getElem? hs,rfl⟩),h.2 s (List.mem_of_getElem? hs)⟩
theorem SyGood.twice {N:Nat} {not:Int} {sz:Nat} {l:List Sy} {i j:Nat} {s t:Sy} (h:SyGood N not sz l) (hs:l[i]? = some s) (ht:l[j]? = some t) (hne:j < i):t.node ≠ s.node:=fun e=>by
 obtain ⟨hi,e1⟩:=List.getElem?_eq_some_iff.1 hs
 obtain ⟨hj,e2⟩:=List.getElem?_eq_some_iff.1 ht
 have:=List.pairwise_iff_getElem.1 h.1.2 j i (by simpa [Sy.nodes] using hj) (by simpa [Sy.nodes] using hi) hne
 simp only [Sy.nodes,List.getElem_map,e1,e2] at this
 exact this e
end Go.Proofs.YtnjbkfeihbcalaaGreat
/- The reference's check of rows, and its first row of numbers. -/
namespace Go.Proofs.YtnjbkfeihbcalaaGreat
open Go.RowKit Fld
set_option linter.unusedVariables false
set_option linter.unusedSimpArgs false

def BelowPost (p:Prop) (w:World) (e:Ending) (w':World):Prop:=∃ b,e=.returned (.bool b)∧Below w.heap.size w w'∧(b=true↔p)
end Go.Proofs.YtnjbkfeihbcalaaGreat
/- Marks of what was seen. -/
namespace Go.Proofs.YtnjbkfeihbcalaaGreat
open Go.RowKit Fld
set_option linter.unusedVariables false
set_option linter.unusedSimpArgs false

structure BMarks (w:World) (sb N:Nat) (S:Nat→Bool):Prop where
 lt:sb < w.heap.size
 cells:∀ j,j < N→w.cell? ⟨sb,j,none⟩=some (.bool (S j))∧w.frozen? ⟨sb,j,none⟩=false
theorem BMarks.set {w:World} {sb N:Nat} {S:Nat→Bool} (h:BMarks w sb N S) {i:Nat} (hi:i < N):BMarks (w.setCell ⟨sb,i,none⟩ (.bool true)) sb N (fun j=>if j=i then true else S j):=by
 refine ⟨by simpa [World.setCell] using h.lt,fun j hj=>?_⟩
 by_cases e:j=i
 ·subst e
  rw [if_pos rfl]
  exact ⟨World.cell?_setCell_same _ _ _ (h.cells j hj).1,by rw [World.frozen?_setCell];exact (h.cells j hj).2⟩
 ·rw [if_neg e]
  exact ⟨(World.cell?_setCell_other _ ⟨sb,i,none⟩ ⟨sb,j,none⟩ _ (by simp <;> omega)).trans (h.cells j hj).1,by rw [World.frozen?_setCell];exact (h.cells j hj).2⟩
theorem BMarks.below {w w':World} {sb N:Nat} {S:Nat→Bool} (h:BMarks w sb N S) (hb:Below w.heap.size w w'):BMarks w' sb N S :=
 ⟨Nat.lt_of_lt_of_le h.lt hb.size,fun j hj=>⟨(hb.cell (p:=⟨sb,j,none⟩) h.lt).trans (h.cells j hj).1,((Kp.of_below (S:=[]) hb).frozen (p:=⟨sb,j,none⟩) h.lt (by simp)).trans (h.cells j hj).2⟩⟩
theorem BMarks.congr {w:World} {sb N:Nat} {S T:Nat→Bool} (h:BMarks w sb N S) (e:∀ j,j < N→S j=T j):BMarks w sb N T:=⟨h.lt,fun j hj=>by rw [← e j hj];exact h.cells j hj⟩
theorem BMarks.new (w:World) (N:Nat):BMarks (w.alloc (.cells (Array.replicate N (.bool false)) 4)) w.heap.size N (fun _=>false):=by
 have hh:(w.alloc (.cells (Array.replicate N (.bool false)) 4)).heap[w.heap.size]? = some (.cells (Array.replicate N (.bool false)) 4 (0,0)):=heap_newA _ _
 exact ⟨lt_of_heap hh,fun j hj=>⟨by rw [cell_of_row _ _ _ _ _ (0,0) hh];simp [hj],free_of_heap hh j⟩⟩
def seenS (not:Int) (l:List Sy) (j:Nat):Bool:=decide (not=(j:Int)) || l.any (fun s=>decide (s.node=(j:Int)))
theorem seenS_succ {not:Int} {l:List Sy} {I:Nat} {s:Sy} (hs:l[I]? = some s) {x:Nat} (hx:s.node=(x:Int)) (j:Nat):(if j=x then true else seenS not (l.take I) j)=seenS not (l.take (I+1)) j:=by
 rw [List.take_add_one,hs]
 unfold seenS
 simp only [Option.toList_some,List.any_append,List.any_cons,List.any_nil,Bool.or_false,hx]
 by_cases e:j=x
 ·subst e;simp
 ·have:¬ (x:Int)=(j:Int):=by omega
  simp [e,this]
theorem seenS_true {not:Int} {l:List Sy} {I:Nat} {x:Nat}:seenS not (l.take I) x=true↔not=(x:Int) ∨ ∃ (j:Nat) (t:Sy),j < I∧l[j]? = some t∧t.node=(x:Int):=by
 unfold seenS
 rw [Bool.or_eq_true,decide_eq_true_eq,List.any_eq_true]
 refine or_congr Iff.rfl ⟨fun ⟨t,ht,e⟩=>?_,fun ⟨j,t,hj,ht,e⟩=>⟨t,?_,by simpa using e⟩⟩
 ·obtain ⟨j,hj,rfl⟩:=List.mem_take_iff_getElem.1 ht
  exact ⟨j,_,by omega,List.getElem?_eq_getElem (by omega),by simpa using e⟩
 ·obtain ⟨h1,h2⟩:=List.getElem?_eq_some_iff.1 ht
  exact List.mem_take_iff_getElem.2 ⟨j,by omega,h2⟩
end Go.Proofs.YtnjbkfeihbcalaaGreat
/- Appends of one member that lies ready wherever. -/
namespace Go.Proofs.YtnjbkfeihbcalaaGreat
open Go.RowKit Fld
set_option linter.unusedVariables false
set_option linter.unusedSimpArgs false

end Go.Proofs.YtnjbkfeihbcalaaGreat
/- Rows of nodes' bytes that are one's own: appended to, one by one. -/
namespace Go.Proofs.YtnjbkfeihbcalaaGreat
open Go.RowKit Fld
set_option linter.unusedVariables false
set_option linter.unusedSimpArgs false

end Go.Proofs.YtnjbkfeihbcalaaGreat
