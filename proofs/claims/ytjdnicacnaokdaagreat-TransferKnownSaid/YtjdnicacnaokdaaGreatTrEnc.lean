/-
  The shares of a message: the program's Encode.
-/
import Derived.Test.YtjdnicacnaokdaaGreatTrEach
import Derived.Test.YtjdnicacnaokdaaGreatOwnSyG
import Derived.Test.YtjdnicacnaokdaaGreatToldG
namespace Go.Proofs.YtjdnicacnaokdaaGreat
open Go.RowKit Fld
set_option linter.unusedVariables false
set_option linter.unusedSimpArgs false

structure RowB (wj:World) (ob n j:Nat) (l:List GF) (W:World):Prop where
 kp:Kp [ob] wj W
 oth:∀ i,i < n→i ≠ j→W.cell? ⟨ob,i,none⟩=wj.cell? ⟨ob,i,none⟩
 fr:∀ i,i < n→W.frozen? ⟨ob,i,none⟩=false
 row:∃ V,W.cell? ⟨ob,j,none⟩=some V∧OwnG W wj.heap.size V l
structure EncE (wj:World) (xb jb zb ob g n j N:Nat) (f:Nat→GF):Prop where
 x0:wj.cell? ⟨xb,0,none⟩=some (.slice (some ⟨ob,0,none⟩) n n)
 j0:wj.cell? ⟨jb,0,none⟩=some (.int .i64 j)
 z0:wj.cell? ⟨zb,0,none⟩=some (.slice (some ⟨g,0,none⟩) N N)
 v:View wj g N f
 lt:xb < wj.heap.size∧jb < wj.heap.size∧zb < wj.heap.size∧ob < wj.heap.size
 ne:xb ≠ ob∧jb ≠ ob∧zb ≠ ob∧g ≠ ob
set_option maxRecDepth 100000 in
set_option maxHeartbeats 4000000 in
theorem enc1_any (wj W:World) (xb jb zb ob g n j N:Nat) (f:Nat→GF) (l:List GF) (o p e:Nat) (h:EncE wj xb jb zb ob g n j N f) (hr:RowB wj ob n j l W) (he:e < N) (hj:j < n) (hl:l.length≤1000) :
  Calls Tryz.prog 36 #[.int .i64 o,.int .i64 p,.int .i64 e,.pointer (some ⟨xb,0,none⟩),.pointer (some ⟨jb,0,none⟩),.pointer (some ⟨zb,0,none⟩)] W fun e' W'=>e'=.returned (.tuple #[])∧RowB wj ob n j (l ++ [f e]) W':=by
 obtain ⟨V,hV,hO⟩:=hr.row
 obtain ⟨l1,l2,l3,l4⟩:=h.lt
 obtain ⟨n1,n2,n3,n4⟩:=h.ne
 have x0:=(hr.kp.cell (p:=⟨xb,0,none⟩) l1 (by simpa using n1)).trans h.x0
 have j0:=(hr.kp.cell (p:=⟨jb,0,none⟩) l2 (by simpa using n2)).trans h.j0
 have z0:=(hr.kp.cell (p:=⟨zb,0,none⟩) l3 (by simpa using n3)).trans h.z0
 have g0:=((h.v.kp hr.kp (by simpa using n4)).2 e he).1
 have hs:=hr.kp.size
 have hf0:=hr.fr j hj
 have i1:(0:Int)≤(j:Int)∧(j:Int) < (n:Int):=by omega
 have i2:(0:Int)≤(e:Int)∧(e:Int) < (N:Int):=by omega
 obtain ⟨y,hy⟩:∃ y,(f e).n=y:=⟨_,rfl⟩
 rw [hy] at g0
 obtain ⟨v1,w3,hap,ho1,hk3,hb3,hat⟩:=app_byte (W:=W.drew) (f e) (hO.below ((Below.refl _ W).drew)) (by omega) hs hy rfl
 obtain ⟨a1,cc1,rfl,-⟩:=ho1.form
 obtain ⟨L1,hL1⟩:∃ L1,(l ++ [f e]).length=L1:=⟨_,rfl⟩
 rw [hL1] at hap ho1 hat
 have hVo:∀ b,V.ownBlock=some b→wj.heap.size≤b:=fun b hb=>(hO.lt b hb).1
 have hmo:∀ x,x ∈ V.ownBlock.toList→wj.heap.size≤x:=fun x hx=>hVo x (by simpa using hx)
 have hk3':Kp V.ownBlock.toList W w3:=((Kp.refl _ W).drew).trans hk3
 have hob:ob < W.heap.size:=by omega
 have hc3:∀ i,i < n→w3.cell? ⟨ob,i,none⟩=W.cell? ⟨ob,i,none⟩∧w3.frozen? ⟨ob,i,none⟩=W.frozen? ⟨ob,i,none⟩:=fun i hi =>
  ⟨hk3'.cell (p:=⟨ob,i,none⟩) hob (fun hm=>by have:=hmo _ hm;simp at this;omega),hk3'.frozen (p:=⟨ob,i,none⟩) hob (fun hm=>by have:=hmo _ hm;simp at this;omega)⟩
 have f3:w3.frozen? ⟨ob,j,none⟩=false:=(hc3 j hj).2.trans hf0
 have c3:w3.cell? ⟨ob,j,none⟩=some V:=(hc3 j hj).1.trans hV
 have s3:ob < w3.heap.size:=Nat.lt_of_lt_of_le hob hk3'.size
 have hk4:Kp [ob] w3 (w3.setCell ⟨ob,j,none⟩ (.slice a1 L1 cc1)):=(Kp.refl _ _).setCell (.inl (by simp)) _
 have HP:Hid (RowB wj ob n j (l ++ [f e]) (w3.setCell ⟨ob,j,none⟩ (.slice a1 L1 cc1))):=Lib.hid (by
  refine ⟨(hr.kp.step hk3' fun x hx=>.inr (hmo x hx)).step hk4 fun x hx=>.inl hx,fun i hi hne=>?_,fun i hi=>?_,.slice a1 L1 cc1,?_,?_⟩
  ·rw [World.cell?_setCell_other _ ⟨ob,j,none⟩ ⟨ob,i,none⟩ _ (by simp <;> omega),(hc3 i hi).1]
   exact hr.oth i hi hne
  ·rw [World.frozen?_setCell,(hc3 i hi).2]
   exact hr.fr i hi
  ·exact World.cell?_setCell_same _ _ _ c3
  ·exact ho1.kp hk4 fun b hb hm=>by
    have:=(ho1.lt b hb).1
    simp at hm
    omega)
 obtain ⟨kp,hkp⟩:∃ kp:Nat→Bool,∀ k,kp k=true↔k < W.heap.size∧k ≠ ob∧k ∉ V.ownBlock.toList:=⟨fun k=>decide (k < W.heap.size∧k ≠ ob∧k ∉ V.ownBlock.toList),by simp⟩
 have k1:kp xb=true:=(hkp _).2 ⟨by omega,n1,fun hm=>by have:=hmo _ hm;omega⟩
 have k2:kp jb=true:=(hkp _).2 ⟨by omega,n2,fun hm=>by have:=hmo _ hm;omega⟩
 have k3:kp zb=true:=(hkp _).2 ⟨by omega,n3,fun hm=>by have:=hmo _ hm;omega⟩
 have hgl:=h.v.1
 have k4:kp g=true:=(hkp _).2 ⟨by omega,n4,fun hm=>by have:=hmo _ hm;omega⟩
 have HKP:=Lib.hid hkp
 have HKE:Hid (∀ kk,kk < W.heap.size∧kk ≠ ob∧kk ∉ V.ownBlock.toList→w3.heap[kk]? = W.heap[kk]?):=Lib.hid fun kk hkk=>hk3'.block kk hkk.1 hkk.2.2
 clear h hr hO hk3 hk3' hb3 hat ho1 hVo hmo hc3 hk4 hkp hy hgl hL1
 go_enter Tryz.func36,Tryz.ntmps36
 go_wp2_with fail
 have hgr:=fun (w0 W:World) (p:Addr) (hp:(fun k=>kp k=true) p.block)=>graft_cell (w0:=w0) (keep:=(fun k=>kp k=true)) W hp
 refine wp_region_tree (fun k=>kp k=true) [5,10,11,13] (.sq [0,1,2,3,4,6,7,8,9] (.fork 5 (.sq [10,11,12,13] .done) 10 (.sq [5,11,12,13] .done))) (by kernel_rfl) (by kernel_rfl) ?_
 simp only [Tr.sq,List.foldr_cons,List.foldr_nil,slimTr,slimStep,Oper.slim,List.contains_cons,List.contains_nil,Option.map_none,Option.map_some,List.getElem?_toArray,List.getElem?_cons_zero,List.getElem?_cons_succ,Option.bind_some,beq_self_eq_true,Bool.or_false,Nat.reduceBEq,Nat.reduceAdd,Nat.zero_add]
 repeat' first | ((with_reducible refine wpSlimT_id ?_);first | (with_reducible refine wpSlimT_done ?_) | (with_reducible refine wpSlimT_fork ?_ ?_) | ((refine wpSlimT_append _ _ _ rfl rfl rfl rfl rfl hap (fun kk hkk=>HKE.out kk ((HKP.out kk).1 hkk)) ?_)) | ((with_reducible refine wpSlimT_step (fun K hK=>?_));go_simp;first | (refine hK _ _ ?_;clear hK K) | (refine ⟨by (intro kk hkk;first | (simp (disch:=(simp;omega)) only [hp_drew,hp_drewN,hp_alloc,hp_set];done) | (simp [hp_drew,hp_drewN,hp_alloc_if,hkk];done) | (have hkk2:=(HKP.out kk).1 hkk;first | exact hp_alloc _ _ _ (by simp;omega) | exact (hp_set _ _ _ _ (by simp;exact hkk2.2.1)).trans (HKE.out kk hkk2))),hK _ _ ?_⟩;clear hK K))) | fail
 all_goals clear hgr
 all_goals
  go_wp2
  go_end0
  exact ⟨rfl,HP.out⟩
structure ShAll (w:World) (B:Nat) (v:Value) (D:List (List GF)) (S:List Ro):Prop where
 all:RoAll w v S
 eq:S.map Ro.d=D
 new:∀ s ∈ S,∀ A,s.a=some A→B≤A.block
 own:∀ b,v.ownBlock=some b→B≤b
def ShPost (fb:Nat) (D:List (List GF)) (w:World) (e:Ending) (w':World):Prop:=Kp [fb] w w'∧FOk w' fb∧∃ v S,e=.returned (.tuple #[v,.int .i64 0])∧ShAll w' w.heap.size v D S
structure EncI (fb xb zb ob g n N:Nat) (f:Nat→GF) (F:Nat→List GF) (w:World) (j:Nat) (W:World):Prop where
 ok:FOk W fb
 kp:Kp [fb] w W
 x0:W.heap[xb]? = some (.cells #[.slice (some ⟨ob,0,none⟩) n n] 35 (0,0))
 z0:W.heap[zb]? = some (.cells #[.slice (some ⟨g,0,none⟩) N N] 34 (0,0))
 v:View W g N f
 lt:w.heap.size≤g∧w.heap.size≤xb∧w.heap.size≤zb∧w.heap.size≤ob∧ob < W.heap.size
 ne:xb ≠ ob∧zb ≠ ob∧g ≠ ob
 fr:∀ i,i < n→W.frozen? ⟨ob,i,none⟩=false
 nil:∀ i,j≤i→i < n→W.cell? ⟨ob,i,none⟩=some (.slice none 0 0)
 row:∀ i,i < j→∃ a cp,W.cell? ⟨ob,i,none⟩=some (.slice a (F i).length cp)∧GRd W (.slice a (F i).length cp) (F i)∧∀ A,a=some A→w.heap.size≤A.block∧A.block < W.heap.size∧A.block ≠ ob
theorem EncI.next {fb xb zb ob g n N:Nat} {f:Nat→GF} {F:Nat→List GF} {w W W':World} {j:Nat} (h:EncI fb xb zb ob g n N f F w j W) (hj:j < n) (hfb:fb < w.heap.size) (o:Obj) (hr:RowB (W.alloc o) ob n j (F j) W'):EncI fb xb zb ob g n N f F w (j+1) W':=by
 have hb:Below W.heap.size W (W.alloc o):=(Below.refl _ _).alloc (Nat.le_refl _) _
 have hsz:(W.alloc o).heap.size=W.heap.size+1:=by simp
 have k1:Kp [] W (W.alloc o):=Kp.of_below hb
 have hk:Kp [ob] W W':=(k1.mono (by simp)).trans hr.kp
 have hlx:=lt_of_heap h.x0
 have hlz:=lt_of_heap h.z0
 obtain ⟨q1,q2,q3,q4,q5⟩:=h.lt
 obtain ⟨n1,n2,n3⟩:=h.ne
 have hoc:∀ i,i < n→i ≠ j→W'.cell? ⟨ob,i,none⟩=W.cell? ⟨ob,i,none⟩:=fun i hi hne=>(hr.oth i hi hne).trans (k1.cell (p:=⟨ob,i,none⟩) q5 (List.not_mem_nil))
 refine ⟨h.ok.kp hk (by simp;omega),h.kp.step hk (fun x hx=>.inr (by simp at hx;omega)),hk.heap h.x0 (by simpa using n1),hk.heap h.z0 (by simpa using n2),h.v.kp hk (by simpa using n3),⟨q1,q2,q3,q4,Nat.lt_of_lt_of_le q5 hk.size⟩,h.ne,hr.fr,fun i h1 h2=>?_,fun i hi=>?_⟩
 ·rw [hoc i h2 (by omega)]
  exact h.nil i (by omega) h2
 ·by_cases e:i=j
  ·subst e
   obtain ⟨V,hV,hO⟩:=hr.row
   obtain ⟨a,cp,rfl,hc⟩:=hO.form
   refine ⟨a,cp,hV,hO.rd,fun A hA=>?_⟩
   subst hA
   have:=hO.lt A.block rfl
   rw [hsz] at this
   omega
  ·obtain ⟨a,cp,h1,h2,h3⟩:=h.row i (by omega)
   refine ⟨a,cp,(hoc i (by omega) e).trans h1,h2.kp hk fun b hb hm=>?_,fun A hA=>?_⟩
   ·obtain rfl:=List.mem_singleton.1 hm
    cases a with
    | none=>simp [Value.ownBlock] at hb
    | some A =>
     simp [Value.ownBlock] at hb
     exact (h3 A rfl).2.2 hb
   ·have:=h3 A hA
    exact ⟨this.1,Nat.lt_of_lt_of_le this.2.1 hk.size,this.2.2⟩
theorem EncI.done {fb xb zb ob g n N:Nat} {f:Nat→GF} {F:Nat→List GF} {w W:World} (h:EncI fb xb zb ob g n N f F w n W):∃ S,ShAll W w.heap.size (.slice (some ⟨ob,0,none⟩) n n) ((List.range n).map F) S:=by
 have hex:∀ i,∃ s:Ro,i < n→W.cell? ⟨ob,i,none⟩=some s.v∧GRd W s.v s.d∧s.d=F i∧∀ A,s.a=some A→w.heap.size≤A.block:=fun i=>by
  by_cases hi:i < n
  ·obtain ⟨a,cp,h1,h2,h3⟩:=h.row i hi
   exact ⟨⟨a,cp,F i⟩,fun _=>⟨h1,h2,rfl,fun A hA=>(h3 A hA).1⟩⟩
  ·exact ⟨⟨none,0,[]⟩,fun hi'=>absurd hi' hi⟩
 obtain ⟨S,hS⟩:=Classical.axiomOfChoice hex
 refine ⟨(List.range n).map S,⟨⟨some ⟨ob,0,none⟩,n,by simp,by simp,fun _=>⟨ob,0,rfl,h.lt.2.2.2.2,fun i c hc j u hu=>?_⟩⟩,fun s hs=>?_⟩,?_,(fun s hs A hA=>?_),fun b hb=>?_⟩
 ·rw [List.getElem?_map] at hc
  have hi:i < n:=by
   rcases Nat.lt_or_ge i n with h1 | h1
   ·exact h1
   ·rw [List.getElem?_eq_none (by simpa using h1)] at hc;cases hc
  rw [List.getElem?_range hi] at hc
  cases hc
  cases j with
  | zero =>
   simp [Ro.cells] at hu
   subst hu
   simpa using (hS i hi).1
  | succ j=>simp [Ro.cells] at hu
 ·obtain ⟨i,hi,rfl⟩:=List.mem_map.1 hs
  exact (hS i (List.mem_range.1 hi)).2.1
 ·rw [List.map_map]
  exact List.map_congr_left fun i hi=>(hS i (List.mem_range.1 hi)).2.2.1
 ·obtain ⟨i,hi,rfl⟩:=List.mem_map.1 hs
  exact (hS i (List.mem_range.1 hi)).2.2.2 A hA
 ·simp [Value.ownBlock] at hb
  have:=h.lt.2.2.2.1
  omega
set_option maxRecDepth 100000 in
set_option maxHeartbeats 4000000 in
theorem trenc_any (w:World) (lb cb fb mb n k:Nat) (cv mv:Value) (ms:List GF) (h:TrC w lb cb fb mb n k cv) (hk1:1≤k) (hkn:k < n) (hn:n≤23) (hm:GRd w mv ms) (ha:ms=[] ∨ Apart mv [fb]) :
  Calls Tryz.prog 17 #[.pointer (some ⟨lb,0,none⟩),mv] w fun e w'=>(ms.length ≠ trB n k∧e=.returned (.tuple #[.slice none 0 0,.int .i64 2])∧Below w.heap.size w w') ∨ (ms.length=trB n k∧ShPost fb ((List.range n).map (trSh n (pows (eN n)) ms)) w e w'):=by
 have hBl:=trB_le hkn
 have hB1:=trB_pos hk1 hkn
 have hEl:=eN_le hn
 have hbx:=h.box
 have hlb:=lt_of_heap hbx
 have hmb:=h.tab.lt
 have hfb:=h.code.ok.lt
 have y3:=cell_of_heap hbx (j:=3) rfl
 have y0:=cell_of_heap hbx (j:=0) rfl
 obtain ⟨am,cm,rfl,hcm⟩:=hm.form
 obtain ⟨M,hM⟩:∃ M,ms.length=M:=⟨_,rfl⟩
 obtain ⟨N,hN⟩:∃ N,eN n=N:=⟨_,rfl⟩
 by_cases hne:ms.length=trB n k
 case neg =>
  have HEN:=Lib.hid (encode_bad w cb fb (trB n k) cv _ (pows (eN n)) ms h.code hm hne)
  rw [hM] at HEN hne ⊢
  have HNE:=Lib.hid hne
  clear h hm hne hbx hM hBl hB1 hcm ha hN hEl y0
  go_enter Tryz.func17,Tryz.ntmps17
  go_wp2_with fail
  refine HEN.out.mono ?_
  rintro e w1 ⟨rfl,rfl⟩
  clear HEN
  go_wp2
  go_ret2
  exact .inl ⟨HNE.out,rfl,by (repeat' (first | (with_reducible exact RowKit.Below.refl _ _) | (with_reducible assumption) | (with_reducible refine RowKit.Below.drew ?_) | (with_reducible refine RowKit.Below.alloc ?_ ?_ _) | omega | (simp;done) | (simp;omega)))⟩
 have hn1:1≤n:=by omega
 have hN0:0 < N:=by omega
 have hcode:=h.code
 rw [← hne] at hcode
 have hEN:=encode_any w cb fb cv _ (pows (eN n)) ms hcode hm (ha.resolve_left (fun e=>by rw [e] at hne;simp at hne;omega)) (by rw [pows_len];omega) (by rw [pows_len];omega) (by omega)
 unfold EncPost at hEN
 rw [pows_len] at hEN
 obtain ⟨f,hf⟩:∃ f:Nat→GF,f=fun i=>ev ms ((pows (eN n)).getD i 0):=⟨_,rfl⟩
 obtain ⟨F,hF⟩:∃ F:Nat→List GF,F=trSh n (pows (eN n)) ms:=⟨_,rfl⟩
 have hFf:∀ j o,o ≠ j→rowF (fun p=>f (eE n j (othN j p))) (cntO j (o+1))=rowF (fun p=>f (eE n j (othN j p))) (cntO j o) ++ [f (eE n j o)]:=fun j o ho=>by
  rw [cntO_succ ho,rowF_succ,cntO_plc ho,oth_plc ho]
 have hFa:∀ j,j < n→F j=rowF (fun p=>f (eE n j (othN j p))) (cntO j n):=fun j hj=>by rw [hF,cntO_all hj,hf];rfl
 rw [← hf,hN,hM] at hEN
 rw [← hF]
 rw [hM] at hne ⊢
 have H:=Lib.hid h
 have HEN:=Lib.hid hEN
 have HFF:=Lib.hid (And.intro hFf hFa)
 have HMB:=Lib.hid hne
 have HNN:=Lib.hid hN
 obtain ⟨i0,hi,hz0,hz1,hz2⟩:=info_parts row_info
 have hmk:∀ W,(Instr.makeSlice 35 (.int .i64 n) (.int .i64 n)).run Tryz.prog W=.ok (.slice (some ⟨W.heap.size,0,none⟩) n n) (W.alloc (.cells (Array.replicate n (.slice none 0 0)) 34)):=fun W =>
  run_row W 35 34 i0 (.slice none 0 0) Tryz.underlying35 hi hz0 hz1 rfl n (by rw [hz2];omega) (by unfold maxLen;omega)
 clear h hm ha hcode hEN hFf hFa hf hF hbx hne hN hM hi hz0 hz1 hz2 hBl hB1 hcm
 go_enter Tryz.func17,Tryz.ntmps17
 go_wp2_with fail
 refine HEN.out.mono ?_
 rintro e w1 ⟨g,rfl,hg,hv,hk1',hf1⟩
 have hs1:=hk1'.size
 have z0:=(hk1'.heap H.out.box (by simpa using H.out.ne.1))
 have y0':=cell_of_heap z0 (j:=0) rfl
 have hlb1:=lt_of_heap z0
 obtain ⟨w2,hw2⟩:∃ w2,w2=((w1.alloc (.cells #[.slice (some ⟨g,0,none⟩) N N] 34)).alloc (.cells (Array.replicate n (.slice none 0 0)) 34)).alloc (.cells #[.slice (some ⟨w1.heap.size+1,0,none⟩) n n] 35):=⟨_,rfl⟩
 have HI0:Hid (EncI fb (w1.heap.size+1+1) w1.heap.size (w1.heap.size+1) g n N f F w 0 w2):=Lib.hid (by
  have hb2:Below w1.heap.size w1 w2:=by rw [hw2];exact (((Below.refl _ _).alloc (Nat.le_refl _) _).alloc (by simp) _).alloc (by simp;omega) _
  have hob:w2.heap[w1.heap.size+1]? = some (.cells (Array.replicate n (.slice none 0 0)) 34 (0,0)):=by rw [hw2];exact keepA (heap_newE _ _ _ (by simp)) _
  have hgl:=hv.1
  refine ⟨hf1.below hb2,hk1'.below_step hb2,by rw [hw2];exact heap_newE _ _ _ (by simp),by rw [hw2];exact keepA (keepA (heap_newE _ _ _ rfl) _) _,hv.below hb2,⟨hg,by omega,by omega,by omega,lt_of_heap hob⟩,⟨by omega,by omega,by omega⟩,fun i _=>free_of_heap hob i,fun i _ hin=>cell_of_heap hob (by simp [hin]),fun i hi=>absurd hi (Nat.not_lt_zero _)⟩)
 have HK1:=Lib.hid hk1'
 have HF1:=Lib.hid hf1
 have HG:=Lib.hid hg
 clear hg hv hk1' hf1 HEN y3 y0 z0
 go_wp2
 rw [← hw2]
 have hs2:w2.heap.size=w1.heap.size+1+1+1:=by rw [hw2];simp
 clear hw2 hmk y0'
 go_loopg [31] n (fun gk i wr=>∃ J:Nat,J≤n∧gk=n - J∧i=.int .i64 J∧Hid (EncI fb (w1.heap.size+1+1) w1.heap.size (w1.heap.size+1) g n N f F w J wr))
 case atStart=>exact ⟨0,by omega,rfl,rfl,HI0⟩
 case round =>
  clear HI0
  obtain ⟨J,hJ,rfl,rfl,HI⟩:=hrel
  have hx0:=HI.out.x0
  have x0:=cell_of_heap hx0 (j:=0) rfl
  have hlx:=lt_of_heap hx0
  have hlz:=lt_of_heap HI.out.z0
  have hlo:=HI.out.lt.2.2.2.2
  by_cases hlt:J < n
  ·have HCALL:=Lib.hid (eachE_any (wr.alloc (.cells #[.int .i64 J] 3)) lb n mb J (w1.heap.size+1+1) wr.heap.size w1.heap.size (fun o W=>RowB (wr.alloc (.cells #[.int .i64 J] 3)) (w1.heap.size+1) n J (rowF (fun p=>f (eE n J (othN J p))) (cntO J o)) W) hn hlt
    (fun o W hr=>(((H.out.step HI.out.kp HI.out.ok).below ((Below.refl _ _).alloc (Nat.le_refl _) _)).b).kp hr.kp (by simp;omega) (by simp;omega))
    (fun W hr=>by rw [cntO_skip];exact hr)
    (fun o W ho hne hr=>by
     rw [HFF.out.1 J o hne]
     have hlj:(wr.alloc (.cells #[.int .i64 J] 3)).heap[wr.heap.size]? = some (.cells #[.int .i64 J] 3 (0,0)):=heap_newE _ _ _ rfl
     refine enc1_any (wr.alloc (.cells #[.int .i64 J] 3)) W (w1.heap.size+1+1) wr.heap.size w1.heap.size (w1.heap.size+1) g n J N f _ o _ _ ⟨cell_of_heap (keepA hx0 _) (j:=0) rfl,cell_of_heap hlj (j:=0) rfl,cell_of_heap (keepA HI.out.z0 _) (j:=0) rfl,HI.out.v.below ((Below.refl _ _).alloc (Nat.le_refl _) _),⟨by simp;omega,by simp,by simp;omega,by simp;omega⟩,⟨HI.out.ne.1,by omega,HI.out.ne.2.1,HI.out.ne.2.2⟩⟩ hr ?_ hlt ?_
     ·rw [← HNN.out]
      exact eE_lt (Ne.symm hne) hlt ho
     ·rw [rowF_len]
      unfold cntO
      split <;> omega)
    (by
     have hob:=HI.out.lt.2.2.2.2
     refine ⟨Kp.refl _ _,fun i _ _=>rfl,fun i hi=>?_,.slice none 0 0,?_,?_⟩
     ·rw [(Kp.of_below (S:=[]) ((Below.refl wr.heap.size wr).alloc (Nat.le_refl _) _)).frozen (p:=⟨w1.heap.size+1,i,none⟩) hob (List.not_mem_nil)]
      exact HI.out.fr i hi
     ·rw [(Kp.of_below (S:=[]) ((Below.refl wr.heap.size wr).alloc (Nat.le_refl _) _)).cell (p:=⟨w1.heap.size+1,J,none⟩) hob (List.not_mem_nil)]
      exact HI.out.nil J (Nat.le_refl _) hlt
     ·exact OwnG.nil _ _))
   clear hx0
   go_wp2_with fail
   refine HCALL.out.mono ?_
   rintro e wc ⟨rfl,hr⟩
   have HI2:Hid (EncI fb (w1.heap.size+1+1) w1.heap.size (w1.heap.size+1) g n N f F w (J+1) wc):=Lib.hid (HI.out.next hlt hfb _ (by rw [HFF.out.2 J hlt];exact hr))
   clear hr HCALL x0 hlx hlz hlo
   go_wp2
   go_roundg (n - (J+1))
   case measure=>omega
   case rel=>exact ⟨J+1,by omega,rfl,by go_num,HI2⟩
  ·obtain rfl:J=n:=by omega
   obtain ⟨S,hS⟩:=HI.out.done
   have HP:Hid (ShPost fb ((List.range J).map F) w (.returned (.tuple #[.slice (some ⟨w1.heap.size+1,0,none⟩) J J,.int .i64 0])) wr):=Lib.hid ⟨HI.out.kp,HI.out.ok,_,S,rfl,hS⟩
   clear hS
   go_wp2
   go_ret2
   exact .inr ⟨HMB.out,HP.out⟩
end Go.Proofs.YtjdnicacnaokdaaGreat
