import Derived.Test.YtcclhhjcejmepaaGreatZWeRefs
set_option linter.all false
set_option maxRecDepth 100000
set_option maxHeartbeats 4000000
namespace Go.Proofs.YtcclhhjcejmepaaGreat
open Go.RowKit Go.ChangeShapes Go.WideShapes Go.ChangeAt Go.Deep
structure Sy where
 node:Int
 a:Option Addr
 cp:Nat
 d:List GF
instance:Inhabited Sy:=⟨⟨0,none,0,[]⟩⟩
def Sy.cells (s:Sy):List Value:=[.int .i64 s.node,.slice s.a s.d.length s.cp]
theorem Sy.cells_length (s:Sy):s.cells.length=2:=rfl
def Sy.rd (w:World) (s:Sy):Prop:=GRd w (.slice s.a s.d.length s.cp) s.d
abbrev yey (w:World) (v:Value) (l:List Sy):Prop:=SRd 2 Sy.cells w v l
structure zby (w:World) (v:Value) (l:List Sy):Prop where
 rd:yey w v l
 each:∀s∈l,s.rd w
theorem Sy.rd.below {w w':World} {s:Sy} (h:s.rd w) (hb:Below w.heap.size w w'):s.rd w':=GRd.below h hb
theorem zby.below {w w':World} {v:Value} {l:List Sy} (h:zby w v l) (hb:Below w.heap.size w w'):zby w' v l:=⟨h.rd.below hb,fun s hs=>(h.each s hs).below hb⟩
def zjq (v:Value) (l:List Sy) (S:List Nat):Prop:=(l≠[]→za0 v S)∧∀s∈l,s.d≠[]→za0 (.slice s.a s.d.length s.cp) S
theorem SRd.kp {α:Type} {n:Nat} {cells:α→List Value} {S:List Nat} {w w':World} {v:Value} {l:List α} (h:SRd n cells w v l) (hk:Kp S w w') (hn:l≠[]→za0 v S):SRd n cells w' v l:=by obtain⟨a,cap,h1,h2,h3⟩:=h;refine⟨a,cap,h1,h2,fun hne=>?_⟩;obtain⟨b,o,h4,h5,h6⟩:=h3 hne;exact⟨b,o,h4,Zaf h5 hk.size,fun i c hi j u hj=>(hk.cell (p:=⟨b,o+i*n+j,none⟩) h5 (hn hne b (by rw[h1,h4];rfl))).trans (h6 i c hi j u hj)⟩
theorem GRd.kp2 {S:List Nat} {w w':World} {v:Value} {l:List GF} (h:GRd w v l) (hk:Kp S w w') (hn:l≠[]→za0 v S):GRd w' v l:=by
 by_cases e:l=[]
 ·subst e;obtain⟨h0,a,cap,h1,h2,h3⟩:=h;exact⟨h0,a,cap,h1,h2,fun h=>absurd rfl h⟩
 ·exact h.kp hk (hn e)
theorem zby.kp {S:List Nat} {w w':World} {v:Value} {l:List Sy} (h:zby w v l) (hk:Kp S w w') (hn:zjq v l S):zby w' v l :=
 ⟨SRd.kp h.rd hk hn.1,fun s hs=>GRd.kp2 (h.each s hs) hk (hn.2 s hs)⟩
section
variable {H:Type} {enc:TypeId×Value→H} {W:World}
end
def Sy.nodes (l:List Sy):List Int:=l.map Sy.node
def zar (N:Nat) (not:Int) (sz:Nat) (l:List Sy):Prop:=zbc N (Sy.nodes l)∧∀s∈l,s.node≠not∧s.d.length=sz
theorem zar.nil (N:Nat) (not:Int) (sz:Nat):zar N not sz []:=⟨⟨by simp[Sy.nodes],by simp[Sy.nodes]⟩,by simp⟩
theorem zar.succ {N:Nat} {not:Int} {sz:Nat} {l:List Sy} {I:Nat} {s:Sy} (h:zar N not sz (l.take I)) (hs:l[I]? = some s) (h0:0≤s.node∧s.node<(N:Int)) (h1:s.node≠not) (h2:s.d.length=sz) (h3:∀(j:Nat) (t:Sy),j<I→l[j]? = some t→t.node≠s.node):zar N not sz (l.take (I+1)):=by
 have e:l.take (I+1)=l.take I++[s]:=by rw[Zaz,hs];rfl
 rw[e];refine⟨⟨fun x hx=>?_,?_⟩,fun t ht=>?_⟩
 ·simp only[Sy.nodes,Zaw,Zba,List.map_cons,List.map_nil,Zaq] at hx;rcases hx with hx|rfl
  ·exact h.1.1 x hx
  ·exact h0
 ·unfold Sy.nodes;rw[Zaw,List.nodup_append];refine⟨h.1.2,by simp,fun x hx y hy e=>?_⟩;simp only[List.map_cons,List.map_nil,Zaq] at hy;subst hy;obtain⟨t,ht,rfl⟩:=Zau.1 hx;obtain⟨j,hj,rfl⟩:=List.mem_take_iff_getElem.1 ht;exact h3 j _ (by omega) (zE1 (by omega)) e
 ·rcases Zba.1 ht with ht|ht
  ·exact h.2 t ht
  ·rw[Zaq.1 ht];exact⟨h1,h2⟩
theorem zar.at {N:Nat} {not:Int} {sz:Nat} {l:List Sy} {I:Nat} {s:Sy} (h:zar N not sz l) (hs:l[I]? = some s):(0≤s.node∧s.node<(N:Int))∧s.node≠not∧s.d.length=sz :=
 ⟨h.1.1 _ (Zau.2 ⟨s,Zad hs,rfl⟩),h.2 s (Zad hs)⟩
theorem zar.twice {N:Nat} {not:Int} {sz:Nat} {l:List Sy} {i j:Nat} {s t:Sy} (h:zar N not sz l) (hs:l[i]? = some s) (ht:l[j]? = some t) (hne:j<i):t.node≠s.node:=fun e=>by obtain⟨hi,e1⟩:=Zah.1 hs;obtain⟨hj,e2⟩:=Zah.1 ht;have:=Zbq.1 h.1.2 j i (by simpa[Sy.nodes] using hj) (by simpa[Sy.nodes] using hi) hne;simp only[Sy.nodes,List.getElem_map,e1,e2] at this;exact this e
end Go.Proofs.YtcclhhjcejmepaaGreat
namespace Go.Proofs.YtcclhhjcejmepaaGreat
open Go.RowKit Fld
def zcz (p:Prop) (w:World) (e:Ending) (w':World):Prop:=∃b,e=.returned (.bool b)∧Below w.heap.size w w'∧(b=true↔p)
theorem zne (N:Nat) (v:Value) (l:List Sy) (not:Int) (sz:Nat) (w:World) (h:zby w v l) (hl:l.length≤1000000) :
  Calls Tryz.prog 54 #[.int .i64 N,v,.int .i64 not,.int .i64 sz] w (zcz (zar N not sz l) w):=by
 obtain⟨a,cap,rfl⟩:=h.rd.form;obtain⟨L,hL⟩:=zE4 l.length;have H:=Hd h;have HL:=Hd hL;rw[hL] at H hl ⊢;clear h hL;go_enter Tryz.func54,Tryz.ntmps54;go_wp2;go_loopg [9] L (fun gk i wr=>∃I:Nat,I≤L∧gk=L-I∧i=.int .i64 I∧Hid (Below w.heap.size w wr)∧Hid (zar N not sz (l.take I)))
 case atStart=>exact⟨0,by omega,rfl,rfl,Hd (Zaa _ _),Hd (by rw[List.take_zero];exact zar.nil _ _ _)⟩
 case round =>
  obtain⟨I,hI,rfl,rfl,HB,HG⟩:=hrel;have hs:=HB.out.size;have HW:=Hd (H.out.below HB.out);by_cases hlt:I<L
  ·obtain⟨s,hs⟩:∃s,l[I]? = some s:=⟨_,zE1 (by rw[HL.out];exact hlt)⟩;obtain⟨-,hcap,b,o,rfl,hb,hat⟩:=SRd.at HW.out.rd hs;have c0:wr.cell? ⟨b,o+I*2,none⟩=some (.int .i64 s.node):=hat 0 _ rfl;have c1:wr.cell? ⟨b,o+I*2+1,none⟩=some (.slice s.a s.d.length s.cp):=hat 1 _ rfl;have HS:=Hd hs;have i1:(0:Int)≤(I:Int)∧(I:Int)<(L:Int):=by omega
   obtain⟨x,hx⟩:=zE4 s.node;obtain⟨m,hm⟩:=zE4 s.d.length;have HX:=Hd hx;have HM:=Hd hm;rw[hx] at c0;rw[hm] at c1;clear hat hs hx hm;by_cases h0:x<0
   ·go_wp2;go_ret;exact⟨false,rfl,HB.out,by simp,fun hg=>by have:=(hg.at HS.out).1.1;rw[HX.out] at this;omega⟩
   by_cases h1:(N:Int)≤x
   ·have h1':x≥(N:Int):=h1;go_wp2;go_ret;exact⟨false,rfl,HB.out,by simp,fun hg=>by have:=(hg.at HS.out).1.2;rw[HX.out] at this;omega⟩
   have h1':¬x≥(N:Int):=h1;by_cases h2:x=not
   ·have HN:=Hd h2;have h2':(x == not)=true:=by simpa using h2
    clear h2;go_wp2;go_ret;exact⟨false,rfl,HB.out,by simp,fun hg=>by have:=(hg.at HS.out).2.1;rw[HX.out] at this;exact absurd HN.out this⟩
   have h2':(x == not)=false:=by simpa using h2
   have HN:=Hd h2;clear h2;by_cases h3:m=sz
   case neg =>
    have h3':¬(m:Int)=(sz:Int):=by omega
    go_wp2;go_ret;exact⟨false,rfl,HB.out,by simp,fun hg=>by have:=(hg.at HS.out).2.2;rw[HM.out] at this;exact absurd this h3⟩
   subst h3;go_wp2;go_loopg [10] I (fun gk i wr=>∃K:Nat,K≤I∧gk=I-K∧i=.int .i64 K∧Hid (Below w.heap.size w wr)∧Hid (∀(j:Nat) (t:Sy),j<K→l[j]? = some t→t.node≠s.node))
   case atStart=>exact⟨0,by omega,rfl,rfl,HB,Hd (fun j t h=>by omega)⟩
   case round =>
    clear HB HW hs c0 c1 hb;obtain⟨K,hK,rfl,rfl,HB,HD⟩:=hrel;have hs:=HB.out.size;have HW:=Hd (H.out.below HB.out);by_cases hk:K<I
    ·obtain⟨t,ht⟩:∃t,l[K]? = some t:=⟨_,zE1 (by rw[HL.out];omega)⟩;obtain⟨-,-,b',o',e,hb,hat⟩:=SRd.at HW.out.rd ht;cases e;obtain⟨-,-,b',o',e,-,hat1⟩:=SRd.at HW.out.rd HS.out;cases e;have c0:wr.cell? ⟨b,o+I*2,none⟩=some (.int .i64 s.node):=hat1 0 _ rfl;rw[HX.out] at c0;have d0:wr.cell? ⟨b,o+K*2,none⟩=some (.int .i64 t.node):=hat 0 _ rfl;have HT:=Hd ht;have i2:(0:Int)≤(K:Int)∧(K:Int)<(L:Int):=by omega
     obtain⟨y,hy⟩:=zE4 t.node;have HY:=Hd hy;rw[hy] at d0;clear hat hat1 ht hy;by_cases he:x=y
     ·have HE:=Hd he;have he':(x == y)=true:=by simpa using he
      clear he;go_upto_region 9 with fail
      have hgr:=hgK (fun k=>k<wr.heap.size);refine w_T (fun k=>k<wr.heap.size) [] (.sq [0,1,2,3,4,5,6,7,8,9,10] .done) (by kernel_rfl) (by kernel_rfl) ?_;simp only[TQ,Oper.slim,Nat.reduceBEq,Nat.reduceAdd]
      repeat' first|((with_reducible refine w_I ?_);first|(with_reducible refine w_D ?_)|((with_reducible refine w_S (fun K hK=>?_));go_simp;(refine hK _ _ ?_;clear hK K)))|fail
      clear hgr;go_wp2;go_ret;exact⟨false,rfl,HB.out.drew,by simp,fun hg=>by
       have:=hg.twice HS.out HT.out (by omega)
       rw[HX.out,HY.out] at this;exact absurd HE.out.symm this⟩
     ·have he':(x == y)=false:=by simpa using he
      have HD2:Hid (∀(j:Nat) (t:Sy),j<K+1→l[j]? = some t→t.node≠s.node):=Hd fun j t2 hj ht2=>by
       by_cases e:j=K
       ·subst e;rw[HT.out] at ht2;cases ht2;rw[HX.out,HY.out];exact fun e=>he e.symm
       ·exact HD.out j t2 (by omega) ht2
      have HB2:=Hd HB.out.drew;clear he;go_upto_region 9 with fail
      have hgr:=hgK (fun k=>k<wr.heap.size);refine w_T (fun k=>k<wr.heap.size) [] (.sq [0,1,2,3,4,5,6,7,8,9,10] .done) (by kernel_rfl) (by kernel_rfl) ?_;simp only[TQ,Oper.slim,Nat.reduceBEq,Nat.reduceAdd]
      repeat' first|((with_reducible refine w_I ?_);first|(with_reducible refine w_D ?_)|((with_reducible refine w_S (fun K hK=>?_));go_simp;(refine hK _ _ ?_;clear hK K)))|fail
      clear hgr;go_wp2;go_roundg (I-(K+1))
      case measure=>omega
      case rel=>exact⟨K+1,by omega,rfl,by go_num,HB2,HD2⟩
    ·obtain rfl:K=I:=by omega
     have HG2:Hid (zar N not m (l.take (K+1))):=Hd (HG.out.succ HS.out (by rw[HX.out];omega) (by rw[HX.out];exact HN.out) HM.out HD.out);go_wp2;go_roundg (L-(K+1))
     case measure=>omega
     case rel=>exact⟨K+1,by omega,rfl,by go_num,HB,HG2⟩
  ·obtain rfl:I=L:=by omega
   go_wp2;go_ret;have:=HG.out;rw[←HL.out,Zbs] at this;exact⟨true,rfl,HB.out,fun _=>this,fun _=>rfl⟩
structure zc0 (w:World) (sb N:Nat) (S:Nat→Bool):Prop where
 lt:sb<w.heap.size
 cells:∀j,j<N→w.cell? ⟨sb,j,none⟩=some (.bool (S j))∧w.frozen? ⟨sb,j,none⟩=false
theorem zc0.set {w:World} {sb N:Nat} {S:Nat→Bool} (h:zc0 w sb N S) {i:Nat} (hi:i<N):zc0 (w.setCell ⟨sb,i,none⟩ (.bool true)) sb N (fun j=>if j=i then true else S j):=by
 refine⟨by simpa[World.setCell] using h.lt,fun j hj=>?_⟩;by_cases e:j=i
 ·subst e;rw[if_pos rfl];exact⟨World.cell?_setCell_same _ _ _ (h.cells j hj).1,by rw[Zcg];exact (h.cells j hj).2⟩
 ·rw[if_neg e];exact⟨(Zcn _ ⟨sb,i,none⟩ ⟨sb,j,none⟩ _ (by simp<;>omega)).trans (h.cells j hj).1,by rw[Zcg];exact (h.cells j hj).2⟩
theorem zc0.below {w w':World} {sb N:Nat} {S:Nat→Bool} (h:zc0 w sb N S) (hb:Below w.heap.size w w'):zc0 w' sb N S :=
 ⟨Zaf h.lt hb.size,fun j hj=>⟨(hb.cell (p:=⟨sb,j,none⟩) h.lt).trans (h.cells j hj).1,((Kp.of_below (S:=[]) hb).frozen (p:=⟨sb,j,none⟩) h.lt (by simp)).trans (h.cells j hj).2⟩⟩
theorem zc0.congr {w:World} {sb N:Nat} {S T:Nat→Bool} (h:zc0 w sb N S) (e:∀j,j<N→S j=T j):zc0 w sb N T:=⟨h.lt,fun j hj=>by rw[←e j hj];exact h.cells j hj⟩
theorem zc0.new (w:World) (N:Nat):zc0 (w.alloc (.cells (Array.replicate N (.bool false)) 4)) w.heap.size N (fun _=>false):=by have hh:(w.alloc (.cells (Array.replicate N (.bool false)) 4)).heap[w.heap.size]? = some (.cells (Array.replicate N (.bool false)) 4 (0,0)):=nwA _ _;exact⟨lOH hh,fun j hj=>⟨by rw[cell_of_row _ _ _ _ _ (0,0) hh];simp[hj],fOH hh j⟩⟩
def zj6 (not:Int) (l:List Sy) (j:Nat):Bool:=decide (not=(j:Int)) || l.any (fun s=>decide (s.node=(j:Int)))
theorem zr3 {not:Int} {l:List Sy} {I:Nat} {s:Sy} (hs:l[I]? = some s) {x:Nat} (hx:s.node=(x:Int)) (j:Nat):(if j=x then true else zj6 not (l.take I) j)=zj6 not (l.take (I+1)) j:=by
 rw[Zaz,hs];unfold zj6;simp only[Option.toList_some,List.any_append,List.any_cons,List.any_nil,Bool.or_false,hx];by_cases e:j=x
 ·subst e;simp
 ·have:¬(x:Int)=(j:Int):=by omega
  simp[e,this]
theorem zkk {not:Int} {l:List Sy} {I:Nat} {x:Nat}:zj6 not (l.take I) x=true↔not=(x:Int)∨∃(j:Nat) (t:Sy),j<I∧l[j]? = some t∧t.node=(x:Int):=by
 unfold zj6;rw[Bool.or_eq_true,decide_eq_true_eq,List.any_eq_true];refine or_congr Iff.rfl ⟨fun ⟨t,ht,e⟩=>?_,fun ⟨j,t,hj,ht,e⟩=>⟨t,?_,by simpa using e⟩⟩
 ·obtain⟨j,hj,rfl⟩:=List.mem_take_iff_getElem.1 ht;exact⟨j,_,by omega,zE1 (by omega),by simpa using e⟩
 ·obtain⟨h1,h2⟩:=Zah.1 ht;exact List.mem_take_iff_getElem.2 ⟨j,by omega,h2⟩
end Go.Proofs.YtcclhhjcejmepaaGreat
