/-
  The table of edges: a map whose keys are pairs of nodes; what is told: a map of bytes.
  A code of edges: it is made; its sizes.
-/
import Derived.Test.YtnjbkfeihbcalaaGreatZPlainM
import Derived.Maps.OwnOps
import Derived.Maps.OwnSet
import Derived.Maps.Views
import Derived.DeepKeys5
import Derived.Test.YtnjbkfeihbcalaaGreatZKit
/- The table of edges: a map whose keys are pairs of nodes; what is told: a map of bytes. -/
namespace Go.Proofs.YtnjbkfeihbcalaaGreat
open Go.RowKit
set_option linter.unusedSimpArgs false
set_option linter.unusedVariables false

abbrev edgeV (x y:Int):Value:=.agg #[.int .i64 x,.int .i64 y]
theorem edge_laidOut:laidOutB Tryz.prog=true:=by kernel_rfl
theorem edge_keyType:Tryz.prog.keyType 91=true:=by kernel_rfl
theorem edge_cells:Tryz.prog.cellsOf 91=2:=by kernel_rfl
theorem edge_keyed:Maps.Keyed Tryz.prog 91 :=
 Maps.Keyed.of_law (deep_law_gate edge_laidOut (of_decide_eq_true (by kernel_rfl)) (of_decide_eq_true (by kernel_rfl)) edge_keyType (by rw [Tryz.underlying91]))
theorem edge_key (x y:Int) (hx:(Lit.int .i64 x).wf=true) (hy:(Lit.int .i64 y).wf=true):∃ kl,keyOf Tryz.prog 91 (edgeV x y)=some kl:=by
 unfold keyOf
 obtain ⟨m,hm⟩:∃ m,Tryz.prog.types.size=m+1:=⟨Tryz.prog.types.size - 1,by have:0 < Tryz.prog.types.size:=of_decide_eq_true (by kernel_rfl);omega⟩
 rw [hm]
 have c2:Tryz.prog.cellsOf 3=1:=by kernel_rfl
 simp [Tryz.underlying91,edge_keyType,Value.formed,edge_cells,Program.keyLits,Tryz.underlying3,c2,hx,hy,Value.cells,List.range_succ]
theorem nat_wf9 (k:Nat) (hk:k≤1000000):(Lit.int .i64 (k:Int)).wf=true:=by
 have h1:IntKind.i64.min=-9223372036854775808:=rfl
 have h2:IntKind.i64.max=9223372036854775807:=rfl
 simp only [Lit.wf,Bool.and_eq_true,decide_eq_true_eq]
 omega
def EdgeIs (w:World) (bm n:Nat) (S:Nat→Nat→Nat):Prop :=
 ∃ D:DataW Unit,w.ownsMap Tryz.prog 91 (plainElem Tryz.prog 3) bm n D∧Maps.IsMap D ∧
  ∀ (x y:Nat) kl,x≤1000→y≤1000→keyOf Tryz.prog 91 (edgeV x y)=some kl→D.atKey kl (.lit (.int .i64 0))=.lit (.int .i64 (S x y:Nat))
theorem EdgeIs.made (w:World):EdgeIs (w.alloc (.map #[] 0)) w.heap.size 0 (fun _ _=>0) :=
 ⟨_,World.ownsMap_made _ _ _ _,⟨[],rfl⟩,fun x y kl _ _ _=>rfl⟩
theorem EdgeIs.kept {w w':World} {bm n:Nat} {S:Nat→Nat→Nat} {row:Option Nat} (h:EdgeIs w bm n S) (hg:w.grownBy w' row) (hne:some bm ≠ row):EdgeIs w' bm n S:=by
 obtain ⟨D,h1,h2,h3⟩:=h
 exact ⟨D,h1.kept hg hne,h2,h3⟩
theorem EdgeIs.lt {w:World} {bm n:Nat} {S:Nat→Nat→Nat} (h:EdgeIs w bm n S):bm < w.heap.size:=by
 obtain ⟨D,h1,_,_⟩:=h
 exact h1.lt
theorem EdgeIs.block {w w':World} {bm n:Nat} {S:Nat→Nat→Nat} (h:EdgeIs w bm n S) (hb:w'.heap[bm]? = w.heap[bm]?):EdgeIs w' bm n S:=by
 obtain ⟨D,⟨es,clock,h1,h2⟩,h3⟩:=h
 exact ⟨D,⟨es,clock,hb.trans h1,h2⟩,h3⟩
theorem EdgeIs.kp {T:List Nat} {w w':World} {bm n:Nat} {S:Nat→Nat→Nat} (h:EdgeIs w bm n S) (hk:Kp T w w') (hn:bm ∉ T):EdgeIs w' bm n S:=h.block (hk.block bm h.lt hn)
theorem zeroInt9 (w:World):(zeroValue 3).run Tryz.prog w=.ok (.int .i64 0) w:=by kernel_rfl
theorem zeroByte9 (w:World):(zeroValue 5).run Tryz.prog w=.ok (.int .u8 0) w:=by kernel_rfl
theorem EdgeIs.look {w:World} {bm n:Nat} {S:Nat→Nat→Nat} (h:EdgeIs w bm n S) (x y:Nat) (hx:x≤1000) (hy:y≤1000) :
  (Instr.lookup 87 (.map (some bm)) (edgeV x y) false).run Tryz.prog w=.ok (.int .i64 (S x y:Nat)) w:=by
 obtain ⟨D,h1,h2,h3⟩:=h
 obtain ⟨kl,hk⟩:=edge_key x y (nat_wf9 x (by omega)) (nat_wf9 y (by omega))
 obtain ⟨c,hrun,hat,_⟩:=h1.lookup_int edge_keyed Tryz.underlying87 Tryz.underlying3 (zeroInt9 w) hk
 rw [h3 x y kl hx hy hk] at hat
 simp only [DataW.lit.injEq,Lit.int.injEq,true_and] at hat
 rw [hat]
 exact hrun
theorem EdgeIs.put {w:World} {bm n:Nat} {S:Nat→Nat→Nat} (h:EdgeIs w bm n S) (hn:n≤1000000) (x y v:Nat) (hx:x≤1000) (hy:y≤1000) (hv:v≤1000000) :
  ∃ w',(Instr.mapUpdate 87 (.map (some bm)) (edgeV x y) (.int .i64 v)).run Tryz.prog w=.ok () w'∧EdgeIs w' bm (n+1) (fun x' y'=>if x'=x∧y'=y then v else S x' y')∧w.grownBy w' (some bm):=by
 obtain ⟨D,h1,h2,h3⟩:=h
 obtain ⟨kl,hk⟩:=edge_key x y (nat_wf9 x (by omega)) (nat_wf9 y (by omega))
 obtain ⟨w',hrun,h4,h5⟩:=h1.update edge_keyed Tryz.underlying87 (by unfold maxLen;omega) hk (plainElem_int Tryz.underlying3 (nat_wf9 v hv))
 refine ⟨w',hrun,⟨_,h4,h2.put _ _,fun x' y' kl' hx' hy' hk'=>?_⟩,h5⟩
 show _=DataW.lit (.int .i64 ((if x'=x∧y'=y then v else S x' y':Nat):Int))
 by_cases e:x'=x∧y'=y
 ·rw [if_pos e]
  obtain ⟨rfl,rfl⟩:=e
  rw [hk] at hk'
  cases hk'
  exact Maps.atKey_put_same h2 (edge_keyed.key hk) _ _
 ·rw [if_neg e]
  have hne:kl' ≠ kl:=fun e2=>e (by
   subst e2
   have:=edge_keyed.inj hk hk'
   simp only [Value.agg.injEq,Array.mk.injEq,List.cons.injEq,Value.int.injEq,true_and,and_true] at this
   exact ⟨by omega,by omega⟩)
  rw [Maps.atKey_put_other hne]
  exact h3 x' y' kl' hx' hy' hk'
theorem int_keyed9:Maps.Keyed Tryz.prog 3:=Maps.int_keyed Tryz.underlying3
theorem int_key9 (k:Nat) (hk:k≤1000000):keyOf Tryz.prog 3 (.int .i64 (k:Int))=some (.int .i64 k):=Maps.keyOf_int_mk Tryz.underlying3 (nat_wf9 k hk)
theorem byte_wf9 (b:GF):(Lit.int .u8 (b.n:Int)).wf=true:=by
 have h:=b.lt
 have h1:IntKind.u8.min=0:=rfl
 have h2:IntKind.u8.max=255:=rfl
 simp only [Lit.wf,Bool.and_eq_true,decide_eq_true_eq]
 omega
def ToldM (w:World) (bm:Nat) (T:List (Nat × GF)):Prop :=
 ∃ D:DataW Unit,w.ownsMap Tryz.prog 3 (plainElem Tryz.prog 5) bm T.length D∧Maps.IsMap D ∧
  ∀ k:Nat,k≤1000000→Maps.has D (.int .i64 (k:Int))=(T.lookup k).isSome∧D.atKey (.int .i64 (k:Int)) (.lit (.int .u8 0))=.lit (.int .u8 (((T.lookup k).getD 0).n:Nat))
theorem ToldM.made (w:World):ToldM (w.alloc (.map #[] 0)) w.heap.size [] :=
 ⟨_,World.ownsMap_made _ _ _ _,⟨[],rfl⟩,fun k _=>⟨rfl,rfl⟩⟩
theorem ToldM.lt {w:World} {bm:Nat} {T:List (Nat × GF)} (h:ToldM w bm T):bm < w.heap.size:=by
 obtain ⟨D,h1,_,_⟩:=h
 exact h1.lt
theorem ToldM.block {w w':World} {bm:Nat} {T:List (Nat × GF)} (h:ToldM w bm T) (hb:w'.heap[bm]? = w.heap[bm]?):ToldM w' bm T:=by
 obtain ⟨D,⟨es,clock,h1,h2⟩,h3⟩:=h
 exact ⟨D,⟨es,clock,hb.trans h1,h2⟩,h3⟩
theorem ToldM.kp {S:List Nat} {w w':World} {bm:Nat} {T:List (Nat × GF)} (h:ToldM w bm T) (hk:Kp S w w') (hn:bm ∉ S):ToldM w' bm T:=h.block (hk.block bm h.lt hn)
theorem lookup_append_none {T:List (Nat × GF)} {k:Nat} (h:T.lookup k=none) (b:GF) (j:Nat):(T ++ [(k,b)]).lookup j=if j=k then some b else T.lookup j:=by
 induction T with
 | nil =>
  by_cases e:j=k
  ·simp [List.lookup,e]
  ·have h2:(j == k)=false:=by simpa using e
   simp [List.lookup,e,h2]
 | cons a T ih =>
  obtain ⟨x,y⟩:=a
  rw [List.lookup_cons] at h
  split at h
  ·cases h
  ·rename_i h1
   simp at h1
   rw [List.cons_append,List.lookup_cons,List.lookup_cons,ih h]
   by_cases e:j=x
   ·subst e
    have:¬ j=k:=fun e2=>h1 e2.symm
    simp [this]
   ·have:(j == x)=false:=by simpa using e
    rw [this]
end Go.Proofs.YtnjbkfeihbcalaaGreat
/- A code of edges: it is made; its sizes. -/
namespace Go.Proofs.YtnjbkfeihbcalaaGreat
open Go.RowKit Fld
set_option linter.unusedVariables false
set_option linter.unusedSimpArgs false

def EdgeTab (w:World) (mb n c:Nat):Prop:=∃ m S,m≤c∧EdgeIs w mb m S∧∀ a b,a < b→b < n→eE n a b < c→S a b=eE n a b
theorem EdgeTab.kp {T:List Nat} {w w':World} {mb n c:Nat} (h:EdgeTab w mb n c) (hk:Kp T w w') (hn:mb ∉ T):EdgeTab w' mb n c:=by
 obtain ⟨m,S,h1,h2,h3⟩:=h
 exact ⟨m,S,h1,h2.kp hk hn,h3⟩
theorem EdgeTab.lt {w:World} {mb n c:Nat} (h:EdgeTab w mb n c):mb < w.heap.size:=by
 obtain ⟨m,S,h1,h2,h3⟩:=h
 exact h2.lt
theorem EdgeTab.put {w:World} {mb n c a b:Nat} (h:EdgeTab w mb n c) (hab:a < b) (hb:b < n) (hn:n≤23) (hc:c=eE n a b) :
  ∃ w',(Instr.mapUpdate 87 (.map (some mb)) (edgeV a b) (.int .i64 c)).run Tryz.prog w=.ok () w'∧EdgeTab w' mb n (c+1)∧w.grownBy w' (some mb):=by
 obtain ⟨m,S,h1,h2,h3⟩:=h
 have hlt:=eE_lt (n:=n) (i:=a) (j:=b) (by omega) (by omega) hb
 have hle:=eN_le hn
 obtain ⟨w',hr,h4,h5⟩:=h2.put (by omega) a b c (by omega) (by omega) (by omega)
 refine ⟨w',hr,⟨_,_,by omega,h4,fun x y hxy hy he=>?_⟩,h5⟩
 by_cases e:x=a∧y=b
 ·simp only [if_pos e]
  rw [e.1,e.2,hc]
 ·simp only [if_neg e]
  refine h3 x y hxy hy ?_
  rcases Nat.lt_or_ge (eE n x y) c with h6 | h6
  ·exact h6
  ·exact absurd (eE_inj1 hxy hy hab hb (by omega)) e
theorem EdgeTab.look {w:World} {mb n c:Nat} (h:EdgeTab w mb n c) (hn:n≤23) (hc:eN n≤c) (a b:Nat) (hab:a < b) (hb:b < n) :
  (Instr.lookup 87 (.map (some mb)) (edgeV a b) false).run Tryz.prog w=.ok (.int .i64 (eE n a b:Nat)) w:=by
 obtain ⟨m,S,h1,h2,h3⟩:=h
 have hlt:=eE_lt (n:=n) (i:=a) (j:=b) (by omega) (by omega) hb
 rw [← h3 a b hab hb (by omega)]
 exact h2.look a b (by omega) (by omega)
structure TrC (w:World) (lb cb fb mb n k:Nat) (cv:Value):Prop where
 box:w.heap[lb]? = some (.cells #[.int .i64 n,.int .i64 k,.map (some mb),.pointer (some ⟨cb,0,none⟩)] 89 (0,0))
 code:CodeAt w cb fb (trB n k) cv (pows (eN n))
 tab:EdgeTab w mb n (eN n)
 ne:lb ≠ fb∧mb ≠ fb
theorem TrC.step {w w':World} {lb cb fb mb n k:Nat} {cv:Value} (h:TrC w lb cb fb mb n k cv) (hk:Kp [fb] w w') (hf:FOk w' fb):TrC w' lb cb fb mb n k cv :=
 ⟨hk.heap h.box (by simpa using h.ne.1),h.code.step hk hf,h.tab.kp hk (by simpa using h.ne.2),h.ne⟩
theorem TrC.below {w w':World} {lb cb fb mb n k:Nat} {cv:Value} (h:TrC w lb cb fb mb n k cv) (hb:Below w.heap.size w w'):TrC w' lb cb fb mb n k cv :=
 h.step (Kp.of_below hb) (h.code.ok.below hb)
structure TrI (fb n k:Nat) (w:World) (V:Value) (c:Nat) (W:World):Prop where
 ok:FOk W fb
 kp:Kp [fb] w W
 box:W.heap[w.heap.size+1]? = some (.cells #[.int .i64 n,.int .i64 k,.map (some w.heap.size),.pointer none] 89 (0,0))
 own:OwnG W (w.heap.size+2) V (pows c)
 tab:EdgeTab W w.heap.size n c
theorem TrI.push {fb n k:Nat} {w:World} {V:Value} {c:Nat} {W w1 w2:World} (h:TrI fb n k w V c W) (hfb:fb < w.heap.size) (hg:W.grownBy w1 (some w.heap.size)) (ht:EdgeTab w1 w.heap.size n (c+1)) (hk:Kp [fb] w1 w2) (hf:FOk w2 fb) (hc:c≤1000) {y:Nat} (hy:(GF.pown GF.two c).n=y) :
  ∃ v1 w3,(Builtin.append_ #[50,50] 50 #[V,.slice (some ⟨w2.heap.size,0,none⟩) 1 1]).run Tryz.prog (w2.alloc (.cells #[.int .u8 (y:Int)] 5))=.ok v1 w3∧TrI fb n k w v1 (c+1) w3:=by
 have hs:=lt_of_heap h.box
 have k1:=kp_grown hg
 have hs1:=k1.size
 have hs2:=hk.size
 have hV:∀ b,V.ownBlock=some b→w.heap.size+2≤b∧b < W.heap.size:=fun b hb=>h.own.lt b hb
 have o2:OwnG w2 (w.heap.size+2) V (pows c):=(h.own.kp k1 fun b hb hm=>by have:=hV b hb;simp at hm;omega).kp hk fun b hb hm=>by have:=hV b hb;simp at hm;omega
 obtain ⟨v1,w3,hap,ho,hk3,hb3,hat⟩:=app_byte (W:=w2) (GF.pown GF.two c) o2 (by rw [pows_len];omega) (by omega) hy rfl
 rw [← pows_succ] at ho
 have hn3:∀ x,x ∈ V.ownBlock.toList→w.heap.size+2≤x:=fun x hx=>(hV x (by simpa using hx)).1
 refine ⟨v1,w3,hap,hf.kp hk3 (fun hm=>by have:=hn3 _ hm;omega),?_,?_,ho,?_⟩
 ·exact ((h.kp.step k1 fun x hx=>.inr (by simp at hx;omega)).step hk fun x hx=>.inl hx).step hk3 fun x hx=>.inr (by have:=hn3 x hx;omega)
 ·exact hk3.heap (hk.heap (k1.heap h.box (by simp)) (by simp;omega)) fun hm=>by have:=hn3 _ hm;omega
 ·exact (ht.kp hk (by simp;omega)).kp hk3 fun hm=>by have:=hn3 _ hm;omega
def TrNewPost (fb:Nat) (n k:Int) (w:World) (e:Ending) (w':World):Prop :=
 Kp [fb] w w'∧FOk w' fb∧((∃ N K:Nat,n=(N:Int)∧k=(K:Int)∧(1≤K∧K < N∧N≤23)∧∃ lb cb mb cv,e=.returned (.tuple #[.pointer (some ⟨lb,0,none⟩),.int .i64 0])∧w.heap.size≤lb∧TrC w' lb cb fb mb N K cv) ∨
  ¬ (1≤k∧k < n∧n≤23)∧e=.returned (.tuple #[.pointer none,.int .i64 2]))
theorem tra_any (w:World) (lb n:Nat) (h0:w.cell? ⟨lb,0,none⟩=some (.int .i64 n)) (hn:1≤n∧n≤23) :
  Calls Tryz.prog 16 #[.pointer (some ⟨lb,0,none⟩)] w fun e w'=>e=.returned (.int .i64 (n - 1:Nat))∧w=w':=by
 have x1:(n:Int) - 1=((n - 1:Nat):Int):=by omega
 have x2:IntKind.i64.wrap ((n - 1:Nat):Int)=((n - 1:Nat):Int):=IntWalk.i64_in _ (by omega)
 generalize hq:n - 1=q at *
 clear hq
 go_enter Tryz.func16,Tryz.ntmps16
 go_wp2
 go_ret
 exact ⟨rfl,rfl⟩
theorem trb_any (w:World) (lb n k:Nat) (h0:w.cell? ⟨lb,0,none⟩=some (.int .i64 n)) (h1:w.cell? ⟨lb,1,none⟩=some (.int .i64 k)) (hlb:lb < w.heap.size) (hk:1≤k∧k < n) (hn:n≤23) :
  Calls Tryz.prog 17 #[.pointer (some ⟨lb,0,none⟩)] w fun e w'=>e=.returned (.int .i64 (trB n k:Nat))∧Below w.heap.size w w':=by
 obtain ⟨n1,hn1⟩:∃ n1,n - 1=n1:=⟨_,rfl⟩
 obtain ⟨k1,hk1⟩:∃ k1,k - 1=k1:=⟨_,rfl⟩
 obtain ⟨p,hp⟩:∃ p,k * n1=p:=⟨_,rfl⟩
 obtain ⟨q,hq⟩:∃ q,k * k1=q:=⟨_,rfl⟩
 obtain ⟨h,hh⟩:∃ h,q / 2=h:=⟨_,rfl⟩
 obtain ⟨B,hB⟩:∃ B,trB n k=B:=⟨_,rfl⟩
 have hBe:p - h=B:=by rw [← hB,trB_eq hk.2,hn1,hk1,hp,hq,hh]
 have hpl:p≤23 * 23:=by rw [← hp];exact Nat.mul_le_mul (by omega) (by omega)
 have hql:q≤p:=by rw [← hp,← hq];exact Nat.mul_le_mul_left _ (by omega)
 rw [hB]
 have x1:(n:Int) - 1=(n1:Int):=by omega
 have x2:IntKind.i64.wrap (n1:Int)=(n1:Int):=IntWalk.i64_in _ (by omega)
 have x3:(k:Int) - 1=(k1:Int):=by omega
 have x4:IntKind.i64.wrap (k1:Int)=(k1:Int):=IntWalk.i64_in _ (by omega)
 have x5:(k:Int) * (n1:Int)=(p:Int):=by rw [← hp];simp
 have x6:IntKind.i64.wrap (p:Int)=(p:Int):=IntWalk.i64_in _ (by omega)
 have x7:(k:Int) * (k1:Int)=(q:Int):=by rw [← hq];simp
 have x8:IntKind.i64.wrap (q:Int)=(q:Int):=IntWalk.i64_in _ (by omega)
 have x9:(q:Int).tdiv 2=(h:Int):=by rw [← hh];exact (Int.ofNat_tdiv q 2).symm
 have x10:IntKind.i64.wrap (h:Int)=(h:Int):=IntWalk.i64_in _ (by omega)
 have x11:(p:Int) - (h:Int)=(B:Int):=by omega
 have x12:IntKind.i64.wrap (B:Int)=(B:Int):=IntWalk.i64_in _ (by omega)
 clear hn1 hk1 hp hq hh hB hBe
 go_enter Tryz.func17,Tryz.ntmps17
 go_wp2_with fail
 have hgr:=fun (w0 W:World) (p:Addr) (hp:(fun kk=>kk < w.heap.size) p.block)=>graft_cell (w0:=w0) (keep:=(fun kk=>kk < w.heap.size)) W hp
 refine wp_region_tree (fun kk=>kk < w.heap.size) [] (.sq [0,1,2,3,4,5,6,7,8,9,10,11,12,13,14,15,16,17,18,19,20,21,22] .done) (by kernel_rfl) (by kernel_rfl) ?_
 simp only [Tr.sq,List.foldr_cons,List.foldr_nil,slimTr,slimStep,Oper.slim,List.contains_cons,List.contains_nil,Option.map_none,Option.map_some,List.getElem?_toArray,List.getElem?_cons_zero,List.getElem?_cons_succ,Option.bind_some,beq_self_eq_true,Bool.or_false,Nat.reduceBEq,Nat.reduceAdd,Nat.zero_add]
 repeat' first | ((with_reducible refine wpSlimT_id ?_);first | (with_reducible refine wpSlimT_done ?_) | ((with_reducible refine wpSlimT_step (fun K hK=>?_));go_simp;(refine hK _ _ ?_;clear hK K))) | fail
 clear hgr
 go_wp2
 go_ret
 exact ⟨rfl,by (repeat' (first | (with_reducible exact RowKit.Below.refl _ _) | (with_reducible assumption) | (with_reducible refine RowKit.Below.drew ?_) | (with_reducible refine RowKit.Below.alloc ?_ ?_ _) | omega | (simp;done) | (simp;omega)))⟩
set_option maxRecDepth 100000 in
set_option maxHeartbeats 4000000 in
theorem trnew_any (fb:Nat) (n k:Int) (w:World) (hF:FOk w fb) (hn:-9223372036854775808≤n∧n≤9223372036854775807) (hk:-9223372036854775808≤k∧k≤9223372036854775807) :
  Calls Tryz.prog 15 #[.pointer (some ⟨fb,0,none⟩),.int .i64 n,.int .i64 k] w (TrNewPost fb n k w):=by
 have hfl:=hF.lt
 have HF:=Lib.hid hF
 clear hF
 by_cases c1:k < 1
 ·have HFF:Hid (¬ (1≤k∧k < n∧n≤23)):=Lib.hid (by omega)
  go_enter Tryz.func15,Tryz.ntmps15
  go_wp2
  go_ret2
  exact ⟨Kp.refl _ _,HF.out,.inr ⟨HFF.out,rfl⟩⟩
 by_cases c2:n≤k
 ·have HFF:Hid (¬ (1≤k∧k < n∧n≤23)):=Lib.hid (by omega)
  go_enter Tryz.func15,Tryz.ntmps15
  go_wp2
  go_ret2
  exact ⟨Kp.refl _ _,HF.out,.inr ⟨HFF.out,rfl⟩⟩
 by_cases c3:n > 23
 ·have HFF:Hid (¬ (1≤k∧k < n∧n≤23)):=Lib.hid (by omega)
  go_enter Tryz.func15,Tryz.ntmps15
  go_wp2
  go_ret2
  exact ⟨Kp.refl _ _,HF.out,.inr ⟨HFF.out,rfl⟩⟩
 obtain ⟨N,rfl⟩:∃ N:Nat,n=(N:Int):=⟨n.toNat,by omega⟩
 obtain ⟨K,rfl⟩:∃ K:Nat,k=(K:Int):=⟨k.toNat,by omega⟩
 have hNK:K < N:=by omega
 have hN:N≤23:=by omega
 have hK:1≤K:=by omega
 have hmm:=@run_makeMap Tryz.prog
 obtain ⟨w0,hw0⟩:∃ w0,w0=(w.alloc (.map #[] 0)).alloc (.cells #[.int .i64 N,.int .i64 K,.map (some w.heap.size),.pointer none] 89):=⟨_,rfl⟩
 have HI0:Hid (TrI fb N K w (.slice none 0 0) (tri (N - 1) 0) w0):=Lib.hid (by
  have hb0:Below w.heap.size w w0:=by rw [hw0];exact ((Below.refl _ _).alloc (Nat.le_refl _) _).alloc (by simp) _
  refine ⟨HF.out.below hb0,Kp.of_below hb0,by rw [hw0];exact heap_newE _ _ _ (by simp),OwnG.nil _ _,⟨0,fun _ _=>0,Nat.le_refl _,?_,fun a b _ _ h=>absurd h (Nat.not_lt_zero _)⟩⟩
  have h1:=EdgeIs.made w
  rw [hw0]
  exact h1.kp (Kp.of_below ((Below.refl _ _).alloc (Nat.le_refl _) _)) (List.not_mem_nil))
 go_enter Tryz.func15,Tryz.ntmps15
 go_wp2
 rw [← hw0]
 clear hw0 hmm
 go_loopg [9,30] N (fun gk p i wr=>∃ (V:Value) (I:Nat),V=p∧I≤N∧gk=N - I∧i=.int .i64 I∧Hid (TrI fb N K w V (tri (N - 1) I) wr))
 case atStart=>exact ⟨_,0,rfl,by omega,rfl,rfl,HI0⟩
 case round =>
  obtain ⟨V,I,rfl,hI,rfl,rfl,HI⟩:=hrel
  by_cases hlt:I < N
  ·have HI1:Hid (TrI fb N K w V (tri (N - 1) I+(I+1 - I - 1)) wr):=Lib.hid (by simpa using HI.out)
   clear HI0 HI
   have x1:(I:Int)+1=((I+1:Nat):Int):=by omega
   have x2:IntKind.i64.wrap ((I+1:Nat):Int)=((I+1:Nat):Int):=IntWalk.i64_in _ (by omega)
   generalize hI1:I+1=I1 at *
   go_wp2
   go_loopg [9,11] (N - I1) (fun gk p i wx=>∃ (V:Value) (J:Nat),V=p∧(I < J∧J≤N)∧gk=N - J∧i=.int .i64 J∧Hid (TrI fb N K w V (tri (N - 1) I+(J - I - 1)) wx))
   case atStart=>exact ⟨_,I1,rfl,by omega,rfl,rfl,HI1⟩
   case round =>
    obtain ⟨V2,J,rfl,hJ,rfl,rfl,HI⟩:=hrel
    by_cases hlt2:J < N
    ·obtain ⟨wx,rfl⟩:∃ wx:World,wx=wr:=⟨_,rfl⟩
     obtain ⟨c,hc⟩:∃ c,tri (N - 1) I+(J - I - 1)=c:=⟨_,rfl⟩
     have hce:c=eE N I J:=by rw [eE_le hJ.1,hc]
     have hcl:c < 253:=Nat.lt_of_lt_of_le (by rw [hce];exact eE_lt (by omega) (by omega) hlt2) (eN_le hN)
     rw [hc] at HI
     obtain ⟨w1,hput,ht1,hg1⟩:=HI.out.tab.put hJ.1 hlt2 hN hce
     obtain ⟨a0,c0,rfl,hc0⟩:=HI.out.own.form
     have hbx:=HI.out.box
     rw [pows_len] at HI hc0 ⊢
     have y0:=cell_of_heap hbx (j:=2) rfl
     have hk1:=kp_grown hg1
     have HEX:=Lib.hid (fexp_any c fb w1 (HI.out.ok.kp hk1 (by simp;omega)) (by omega))
     have HT1:=Lib.hid ht1
     have HG1:=Lib.hid hg1
     have HCE:Hid (tri (N - 1) I+(J+1 - I - 1)=c+1):=Lib.hid (by omega)
     have hsw:=lt_of_heap hbx
     clear hc hce ht1 hg1 hk1 hbx
     go_wp2_with fail
     refine HEX.out.mono ?_
     rintro e w2 ⟨rfl,hk2,hf2⟩
     obtain ⟨y,hy⟩:∃ y,(GF.pown GF.two c).n=y:=⟨_,rfl⟩
     obtain ⟨v3,w3,hap,hi3⟩:=HI.out.push (by omega) HG1.out HT1.out hk2 hf2 (by omega) hy
     rw [hy]
     have HI3:=Lib.hid hi3
     clear hk2 hf2 hi3 hy HEX HT1 HG1
     go_wp2_with (at_builtin;refine wpList_append rfl _ _ _ rfl rfl rfl hap ?_)
     go_roundg (N - (J+1))
     case measure=>omega
     case rel=>exact ⟨v3,J+1,rfl,by omega,rfl,by go_num,by rw [HCE.out];exact HI3⟩
    ·obtain rfl:J=N:=by omega
     have HI5:Hid (TrI fb J K w V2 (tri (J - 1) (I+1)) wr):=Lib.hid (by
      rw [tri_succ,show J - 1 - I=J - I - 1 by omega]
      exact HI.out)
     clear HI
     rw [hI1] at HI5
     go_wp2
     go_roundg (J - I1)
     case measure=>omega
     case rel=>exact ⟨V2,I1,rfl,by omega,rfl,by go_num,HI5⟩
  ·obtain rfl:I=N:=by omega
   have hEN:tri (I - 1) I=eN I:=by
    unfold eN
    obtain ⟨m,rfl⟩:∃ m,I=m+1:=⟨I - 1,by omega⟩
    rw [Nat.add_sub_cancel,tri_succ,Nat.sub_self,Nat.add_zero]
   rw [hEN] at HI
   have hEl:=eN_le hN
   have hBl:=trB_le hNK
   have hB1:=trB_pos hK hNK
   have hbx:=HI.out.box
   have hsw:=lt_of_heap hbx
   have HB:=Lib.hid (trb_any wr (w.heap.size+1) I K (cell_of_heap hbx (j:=0) rfl) (cell_of_heap hbx (j:=1) rfl) hsw ⟨hK,hNK⟩ hN)
   clear HI0 hEN hbx
   go_wp2_with fail
   refine HB.out.mono ?_
   rintro e w1 ⟨rfl,hb1⟩
   obtain ⟨B,hB⟩:∃ B,trB I K=B:=⟨_,rfl⟩
   have HNW:=Lib.hid (new_any fb V (pows (eN I)) (B:Int) w1 (HI.out.ok.below hb1) (HI.out.own.below hb1).rd (by rw [pows_len];simp only [sortMax];omega) (by omega))
   have HB1:=Lib.hid hb1
   have HBB:=Lib.hid hB
   rw [hB] at hBl hB1 ⊢
   have hs1:=hb1.size
   clear hb1 hB HB
   go_wp2_with fail
   refine HNW.out.mono ?_
   rintro e w2 ⟨hb2,⟨-,cb,v2,rfl,hcb,hcode,hov⟩ | ⟨hno,rfl⟩⟩
   case inr=>exact absurd ⟨pows_nodup (by omega),by omega,by rw [pows_len];omega⟩ hno
   have hs2:=hb2.size
   have hbx2:=keepB hb2 (keepB HB1.out HI.out.box)
   have z3:=cell_of_heap hbx2 (j:=3) rfl
   have f3:=free_of_heap hbx2 3
   have hl2:=lt_of_heap hbx2
   have hk3:Kp [w.heap.size+1] w2 (w2.setCell ⟨w.heap.size+1,3,none⟩ (.pointer (some ⟨cb,0,none⟩))):=(Kp.refl _ _).setCell (.inl (by simp)) _
   have HP:Hid (TrNewPost fb (I:Int) (K:Int) w (.returned (.tuple #[.pointer (some ⟨w.heap.size+1,0,none⟩),.int .i64 0])) (w2.setCell ⟨w.heap.size+1,3,none⟩ (.pointer (some ⟨cb,0,none⟩)))):=Lib.hid (by
    have hf3:FOk (w2.setCell ⟨w.heap.size+1,3,none⟩ (.pointer (some ⟨cb,0,none⟩))) fb:=((HI.out.ok.below HB1.out).below hb2).kp hk3 (by simp;omega)
    refine ⟨((HI.out.kp.below_step HB1.out).below_step hb2).step hk3 (fun x hx=>.inr (by simp at hx;omega)),hf3,.inl ⟨I,K,rfl,rfl,⟨hK,hNK,hN⟩,w.heap.size+1,cb,w.heap.size,v2,rfl,by omega,?_,?_,?_,by omega⟩⟩
    ·simpa using heap_set_same hbx2 3 (.pointer (some ⟨cb,0,none⟩))
    ·rw [HBB.out]
     rw [Int.toNat_natCast] at hcode
     have hlb:=HI.out.kp.size
     exact ⟨hk3.heap hcode.box (by simp;omega),hf3,hcode.rd.kp hk3 (fun b hb hm=>by have:=(hov.lt b hb).1;simp at hm;omega),hcode.apart,hcode.ne⟩
    ·exact ((HI.out.tab.kp (Kp.of_below (S:=[]) HB1.out) (List.not_mem_nil)).kp (Kp.of_below (S:=[]) hb2) (List.not_mem_nil)).kp hk3 (by simp))
   clear hb2 hcb hcode hov hbx2 hk3 HNW
   go_wp2
   go_ret2
   exact HP.out
end Go.Proofs.YtnjbkfeihbcalaaGreat
