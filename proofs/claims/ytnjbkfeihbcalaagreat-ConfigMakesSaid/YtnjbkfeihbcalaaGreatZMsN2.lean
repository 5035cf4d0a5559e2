/-
  A code whose nodes store as little as may be: New, where the code may be: up to the powers of the places.
-/
import Derived.Test.YtnjbkfeihbcalaaGreatZMsB
/- A code whose nodes store as little as may be: New, where the code may be: up to the powers of the places. -/
namespace Go.Proofs.YtnjbkfeihbcalaaGreat
open Go.RowKit Fld
set_option linter.unusedVariables false
set_option linter.unusedSimpArgs false

structure MsN (lb fb N K D u a L xb xc pb B:Nat) (w0:World) (V:Value) (l:List GF) (wr:World):Prop where
 d:wr.heap[lb]? = some (.cells #[.pointer (some ⟨fb,0,none⟩),.int .i64 N,.int .i64 K,.int .i64 D,.int .i64 u,.int .i64 a,.slice (some ⟨xb,0,none⟩) L xc,.int .i64 L,.int .i64 a,.slice (some ⟨pb,0,none⟩) (L * a) (L * a),V,.int .i64 0,.int .i64 0,.slice none 0 0] 78 (0,0))
 lam:OwnG wr B V l
 xs:GRd wr (.slice (some ⟨xb,0,none⟩) L xc) (pows L)
 phi:View wr pb (L * a) (flat a fun i c=>pw ((pows L).getD i 0) c)
 ok:FOk wr fb
 kp:Kp [fb] w0 wr
 sz:B≤wr.heap.size
 st:fb < w0.heap.size∧w0.heap.size≤lb∧lb < B∧w0.heap.size≤xb∧xb < B∧w0.heap.size≤pb∧pb < B∧xb ≠ lb∧pb ≠ lb
theorem MsN.kpS {lb fb N K D u a L xb xc pb B:Nat} {w0:World} {V:Value} {l:List GF} {wr w':World} (h:MsN lb fb N K D u a L xb xc pb B w0 V l wr) {S:List Nat} (hk:Kp S wr w') (hS:∀ x ∈ S,x=fb ∨ (B≤x∧V.ownBlock ≠ some x)) (hf:FOk w' fb):MsN lb fb N K D u a L xb xc pb B w0 V l w':=by
 obtain ⟨h1,h2,h3,h4,h5,h6,h7,h8,h9⟩:=h.st
 have hn:∀ k,k ≠ fb→k < B→k ∉ S:=fun k g1 g2 hm=>by rcases hS k hm with e | e <;> omega
 exact ⟨hk.heap h.d (hn _ (by omega) h3),h.lam.kp hk (fun b hb hm=>by
   rcases hS b hm with e | e
   ·have:=(h.lam.lt b hb).1
    omega
   ·exact e.2 hb),h.xs.kp hk (fun b hb hm=>by
   simp [Value.ownBlock] at hb
   subst hb
   exact hn _ (by omega) h5 hm),h.phi.kp hk (hn _ (by omega) h7),hf,h.kp.step hk (fun x hx=>by
   rcases hS x hx with e | e
   ·exact .inl (by simp [e])
   ·exact .inr (by omega)),by have:=hk.size;have:=h.sz;omega,h.st⟩
theorem MsN.step {lb fb N K D u a L xb xc pb B:Nat} {w0:World} {V:Value} {l:List GF} {wr w':World} (h:MsN lb fb N K D u a L xb xc pb B w0 V l wr) (hk:Kp [fb] wr w') (hf:FOk w' fb):MsN lb fb N K D u a L xb xc pb B w0 V l w' :=
 h.kpS hk (fun x hx=>.inl (by simpa using hx)) hf
theorem MsN.base {lb fb N K D u a L xb xc pb B:Nat} {w0:World} {V:Value} {wr:World} (h:MsN lb fb N K D u a L xb xc pb B w0 V ((pows L).map fun x=>pw x a) wr) (hn:0 < a∧a≤16∧L≤300):MsB wr lb fb pb a L V:=by
 obtain ⟨h1,h2,h3,h4,h5,h6,h7,h8,h9⟩:=h.st
 exact ⟨cell_of_heap h.d rfl,cell_of_heap h.d rfl,cell_of_heap h.d rfl,cell_of_heap h.d rfl,h.phi,h.lam.rd,fun b hb hm=>by
  have:=(h.lam.lt b hb).1
  simp at hm
  omega,h.ok,⟨lt_of_heap h.d,by omega,by omega⟩,hn⟩
theorem MsN.grow {lb fb N K D u a L xb xc pb B:Nat} {w0:World} {V v1:Value} {l l1:List GF} {wr w5 w6:World} (h:MsN lb fb N K D u a L xb xc pb B w0 V l wr) (hk5:Kp [fb] wr w5) (hf5:FOk w5 fb) (hk6:Kp V.ownBlock.toList w5 w6) (ho6:OwnG w6 B v1 l1) :
  MsN lb fb N K D u a L xb xc pb B w0 v1 l1 (w6.setCell ⟨lb,10,none⟩ v1)∧w6.heap[lb]? = wr.heap[lb]?:=by
 have h0:=h.step hk5 hf5
 obtain ⟨h1,h2,h3,h4,h5,h6,h7,h8,h9⟩:=h.st
 have hV:∀ x ∈ V.ownBlock.toList,B≤x∧x < w5.heap.size:=fun x hx=>h0.lam.lt x (by simpa using hx)
 have hn:∀ k,k < B→k ∉ V.ownBlock.toList:=fun k g hm=>by have:=(hV k hm).1;omega
 have hd6:=hk6.heap h0.d (hn _ h3)
 have hk7:Kp [lb] w6 (w6.setCell ⟨lb,10,none⟩ v1):=(Kp.refl _ _).setCell (.inl (by simp)) _
 have hf6:FOk w6 fb:=hf5.kp hk6 (hn _ (by omega))
 refine ⟨⟨?_,ho6.kp hk7 (fun b hb hm=>by have:=(ho6.lt b hb).1;simp at hm;omega),(h0.xs.kp hk6 (fun b hb hm=>by simp [Value.ownBlock] at hb;subst hb;exact hn _ h5 hm)).kp hk7 (fun b hb hm=>by simp [Value.ownBlock] at hb hm;omega),(h0.phi.kp hk6 (hn _ h7)).kp hk7 (by simpa using h9),hf6.kp hk7 (by simp;omega),((h0.kp.step hk6 (fun x hx=>.inr (by have:=(hV x hx).1;omega))).step hk7 (fun x hx=>.inr (by simp at hx;omega))),by have:=h0.sz;have:=hk6.size;have:=hk7.size;omega,h.st⟩,?_⟩
 ·have:=heap_set_same hd6 10 v1
  simpa using this
 ·rw [hd6,h.d]
structure MsR (lb fb N K D u a L xb xc pb B W rb B2:Nat) (w0:World) (V:Value) (P nr cz:Nat) (Vr:Value) (wr:World):Prop where
 n:MsN lb fb N K D u a L xb xc pb B w0 V ((pows L).map fun x=>pw x a) wr
 r:wr.heap[rb]? = some (.cells #[.int .i64 nr,.int .i64 cz,Vr] 76 (0,0))
 o:OwnG wr B2 Vr (rowF (flat W (msA a)) (P * a * W))
 st:B≤rb∧rb < B2∧V.ownBlock ≠ some rb∧(∀ b,V.ownBlock=some b→b < B2)∧B2≤wr.heap.size
theorem MsR.stepN {lb fb N K D u a L xb xc pb B W rb B2:Nat} {w0:World} {V:Value} {P nr cz:Nat} {Vr:Value} {wr w':World} (h:MsR lb fb N K D u a L xb xc pb B W rb B2 w0 V P nr cz Vr wr) (hk:Kp [fb] wr w') (hf:FOk w' fb):MsR lb fb N K D u a L xb xc pb B W rb B2 w0 V P nr cz Vr w':=by
 obtain ⟨h1,h2,h3,h4,h5,h6,h7,h8,h9⟩:=h.n.st
 obtain ⟨g1,g2,g3,g4,g5⟩:=h.st
 exact ⟨h.n.step hk hf,hk.heap h.r (by simp;omega),h.o.kp hk (fun b hb hm=>by have:=(h.o.lt b hb).1;simp at hm;omega),g1,g2,g3,g4,by have:=hk.size;omega⟩
theorem MsR.grow {lb fb N K D u a L xb xc pb B W rb B2:Nat} {w0:World} {V:Value} {P nr cz nr2:Nat} {Vr v1:Value} {w3 w6:World} {m:List GF} (h:MsR lb fb N K D u a L xb xc pb B W rb B2 w0 V P nr cz Vr w3) (hk6:Kp Vr.ownBlock.toList w3 w6) (ho6:OwnG w6 B2 v1 (rowF (flat W (msA a)) (P * a * W) ++ m)) (hm:rowF (flat W (msA a)) (P * a * W) ++ m=rowF (flat W (msA a)) ((P+1) * a * W)) :
  MsR lb fb N K D u a L xb xc pb B W rb B2 w0 V (P+1) nr2 W v1 (((w6.setCell ⟨rb,0,none⟩ (.int .i64 nr2)).setCell ⟨rb,1,none⟩ (.int .i64 W)).setCell ⟨rb,2,none⟩ v1)∧w6.heap[rb]? = some (.cells #[.int .i64 nr,.int .i64 cz,Vr] 76 (0,0)):=by
 obtain ⟨h1,h2,h3,h4,h5,h6,h7,h8,h9⟩:=h.n.st
 obtain ⟨g1,g2,g3,g4,g5⟩:=h.st
 have hV:∀ x ∈ Vr.ownBlock.toList,B2≤x:=fun x hx=>(h.o.lt x (by simpa using hx)).1
 have hn:∀ k,k < B2→k ∉ Vr.ownBlock.toList:=fun k g hm=>by have:=hV k hm;omega
 have hr6:=hk6.heap h.r (hn _ g2)
 have hk7:=kp_set3 w6 rb (.int .i64 nr2) (.int .i64 W) v1
 have hn6:=h.n.kpS hk6 (fun x hx=>.inr ⟨by have:=hV x hx;omega,fun e=>by have:=g4 x e;have:=hV x hx;omega⟩) (h.n.ok.kp hk6 (hn _ (by omega)))
 have hs6:=hk6.size
 have hs7:=hk7.size
 rw [hm] at ho6
 exact ⟨⟨hn6.kpS hk7 (fun x hx=>by simp at hx;subst hx;exact .inr ⟨g1,g3⟩) (hn6.ok.kp hk7 (by simp;omega)),set3 hr6,ho6.kp hk7 (fun b hb hm=>by have:=(ho6.lt b hb).1;simp at hm;omega),g1,g2,g3,g4,by omega⟩,hr6⟩
theorem rows_more {a W P:Nat} (hW:2 * hf a=W) (hW0:0 < W):rowF (flat W (msA a)) (P * a * W) ++ ((List.range (a * W)).map fun j=>flat W (stM a (fun i=>pw (GF.pown GF.two P) i) (pw (GF.pown GF.two P) a)) (0+j))=rowF (flat W (msA a)) ((P+1) * a * W):=by
 rw [show (P+1) * a * W=P * a * W+a * W by rw [Nat.add_mul,Nat.add_mul,Nat.one_mul],rowF_add]
 congr 1
 unfold rowF
 refine List.map_congr_left fun j hj=>?_
 have hj:=List.mem_range.1 hj
 obtain ⟨c,q,hc,hq,rfl⟩:=off_ex (R:=a) (C:=W) hW0 hj
 rw [Nat.zero_add,flat_at hW0 _ _ _ hq,show P * a * W+(c * W+q)=(P * a+c) * W+q by rw [Nat.add_mul,Nat.add_assoc],flat_at hW0 _ _ _ hq,msA_at hc]
set_option maxRecDepth 100000 in
set_option maxHeartbeats 8000000 in
theorem msnew_ok (fb N K D u a:Nat) (w:World) (hF:FOk w fb) (hok:MsOk N K D u a) :
  Calls Tryz.prog 9 #[.pointer (some ⟨fb,0,none⟩),.int .i64 N,.int .i64 K,.int .i64 D] w (MsNewPost fb N K D w):=by
 have HOK:=Lib.hid hok
 obtain ⟨hk,hn,hd,hu,ha,h16,hg⟩:=hok
 have hpos:=HOK.out.pos
 have ha1:1≤a:=by omega
 have hu16:u≤255:=by omega
 obtain ⟨L,hL⟩:∃ L,N+u=L:=⟨_,rfl⟩
 obtain ⟨K2,hK2⟩:∃ K2,2 * K=K2:=⟨_,rfl⟩
 obtain ⟨K3,hK3⟩:∃ K3,K2 - 2=K3:=⟨_,rfl⟩
 obtain ⟨E,hE⟩:∃ E,D - K=E:=⟨_,rfl⟩
 have g1:¬ (K:Int) < 2:=by omega
 have g2:¬ (N:Int) > 255:=by omega
 have g3:¬ (D:Int) ≥ (N:Int):=by omega
 have n1:2 * (K:Int)=(K2:Int):=by omega
 have n2:IntKind.i64.wrap (K2:Int)=(K2:Int):=IntWalk.i64_in _ (by omega)
 have n3:(K2:Int) - 2=(K3:Int):=by omega
 have n4:IntKind.i64.wrap (K3:Int)=(K3:Int):=IntWalk.i64_in _ (by omega)
 have g4:¬ (D:Int) < (K3:Int):=by omega
 have n5:(D:Int) - (K:Int)=(E:Int):=by omega
 have n6:IntKind.i64.wrap (E:Int)=(E:Int):=IntWalk.i64_in _ (by omega)
 have n7:(E:Int)+1=(a:Int):=by omega
 have n8:IntKind.i64.wrap (a:Int)=(a:Int):=IntWalk.i64_in _ (by omega)
 have g5:¬ (a:Int) > 16:=by omega
 obtain ⟨z,hz⟩:∃ z,(D:Int) - (K2:Int)=z:=⟨_,rfl⟩
 have n9:IntKind.i64.wrap z=z:=IntWalk.i64_in _ (by omega)
 have n10:z+2=(u:Int):=by omega
 have n11:IntKind.i64.wrap (u:Int)=(u:Int):=IntWalk.i64_in _ (by omega)
 have n12:(N:Int)+(u:Int)=(L:Int):=by omega
 have n13:IntKind.i64.wrap (L:Int)=(L:Int):=IntWalk.i64_in _ (by omega)
 clear hK3
 have HF:=Lib.hid hF
 have hfl:=hF.lt
 have HL:=Lib.hid hL
 obtain ⟨w1,hw1⟩:∃ w1,w1=w.alloc (.cells #[.pointer (some ⟨fb,0,none⟩),.int .i64 N,.int .i64 K,.int .i64 D,.int .i64 u,.int .i64 a,.slice none 0 0,.int .i64 0,.int .i64 0,.slice none 0 0,.slice none 0 0,.int .i64 0,.int .i64 0,.slice none 0 0] 78):=⟨_,rfl⟩
 have hb1:Below w.heap.size w w1:=by rw [hw1];exact (Below.refl _ _).alloc (Nat.le_refl _) _
 have d1:w1.heap[w.heap.size]? = some (.cells #[.pointer (some ⟨fb,0,none⟩),.int .i64 N,.int .i64 K,.int .i64 D,.int .i64 u,.int .i64 a,.slice none 0 0,.int .i64 0,.int .i64 0,.slice none 0 0,.slice none 0 0,.int .i64 0,.int .i64 0,.slice none 0 0] 78 (0,0)):=by rw [hw1];exact heap_newA _ _
 have c4:=cell_of_heap d1 (j:=4) rfl
 have c5:=cell_of_heap d1 (j:=5) rfl
 have hl1:=lt_of_heap d1
 obtain ⟨lb,hlb⟩:∃ lb,w.heap.size=lb:=⟨_,rfl⟩
 rw [hlb] at d1 c4 c5 hl1
 have HSP:Hid (∀ W,FOk W fb→Calls Tryz.prog 28 #[.pointer (some ⟨fb,0,none⟩),.int .i64 L,.int .i64 a] W fun e w'=>∃ xb xc,e=.returned (.tuple #[.slice (some ⟨xb,0,none⟩) L xc,.int .i64 0])∧OwnG w' W.heap.size (.slice (some ⟨xb,0,none⟩) L xc) (pows L)∧Kp [fb] W w'∧FOk w' fb):=Lib.hid fun W hW =>
  (spread_any fb L a W hW (by omega) (by omega)).mono fun e w' ⟨h1,h2,h3⟩=>by
   rcases h3 with ⟨-,v,h4,h5⟩ | ⟨h4,-⟩
   ·obtain ⟨g,cap,rfl,-,-,-⟩:=h5.view (fun e=>by have:=congrArg List.length e;rw [pows_len] at this;simp at this;omega)
    rw [pows_len] at h4 h5
    exact ⟨g,cap,h4,h5,h1,h2⟩
   ·exact absurd (by rw [← hL];exact hg) h4
 have HB1:=Lib.hid hb1
 have D1:=Lib.hid d1
 obtain ⟨kp,hkp⟩:∃ kp:Nat→Bool,∀ k,kp k=true↔k < w1.heap.size∧k ≠ fb:=⟨fun k=>decide (k < w1.heap.size∧k ≠ fb),by simp⟩
 have k1:kp lb=true:=(hkp _).2 ⟨hl1,by omega⟩
 have HKP:=Lib.hid hkp
 clear hb1 d1 hF hk hn hd hu ha hg hL hK2 hE hkp
 go_enter Tryz.func9,Tryz.ntmps9
 go_upto_region 4 with fail
 rw [← hw1]
 have hlw:w.heap.size≤lb:=by omega
 clear hw1 hlb
 have hgr:=fun (w0 W:World) (p:Addr) (hp:(fun k=>kp k=true) p.block)=>graft_cell (w0:=w0) (keep:=(fun k=>kp k=true)) W hp
 refine wp_region_tree (fun k=>kp k=true) [11] (.sq [0,1,2,3,4,5,6,7,8,9,10,11,12,13,14,15,16] .done) (by kernel_rfl) (by kernel_rfl) ?_
 simp only [Tr.sq,List.foldr_cons,List.foldr_nil,slimTr,slimStep,Oper.slim,List.contains_cons,List.contains_nil,Option.map_none,Option.map_some,List.getElem?_toArray,List.getElem?_cons_zero,List.getElem?_cons_succ,Option.bind_some,beq_self_eq_true,Bool.or_false,Nat.reduceBEq,Nat.reduceAdd,Nat.zero_add]
 repeat' first | ((with_reducible refine wpSlimT_id ?_);first | (with_reducible refine wpSlimT_done ?_) | ((refine wpSlimT_append _ _ _ rfl rfl rfl rfl rfl hap (fun kk hkk=>HKA.out kk hkk) ?_)) | ((with_reducible refine wpSlimT_step (fun K hK=>?_));go_simp;first | (refine hK _ _ ?_;clear hK K) | (refine ⟨by (intro kk hkk;first | (simp (disch:=(simp;omega)) only [hp_drew,hp_drewN,hp_alloc,hp_set];done) | (simp [hp_drew,hp_drewN,hp_alloc_if,hkk];done) | (have hkk2:=(HKP.out kk).1 hkk;exact (hp_alloc _ _ _ (by have:=HK5.out.size;omega)).trans (HK5.out.block kk hkk2.1 (by simpa using hkk2.2.1)))),hK _ _ ?_⟩;clear hK K) | (go_at_call 28;(with_reducible refine (HSP.out _ (HF.out.below HB1.out.drew)).mono ?_);rintro e w2 ⟨xb,xc,rfl,ho2,hk2,hf2⟩;have HO2:=Lib.hid ho2;have HK2:=Lib.hid hk2;have HF2:=Lib.hid hf2;clear ho2 hk2 hf2;refine ⟨_,rfl,(fun kk hkk=>HK2.out.block kk ((HKP.out kk).1 hkk).1 (by simpa using ((HKP.out kk).1 hkk).2)),hK _ _ ?_⟩;clear hK K))) | fail
 clear hgr
 have d2:w2.heap[lb]? = some (.cells #[.pointer (some ⟨fb,0,none⟩),.int .i64 N,.int .i64 K,.int .i64 D,.int .i64 u,.int .i64 a,.slice none 0 0,.int .i64 0,.int .i64 0,.slice none 0 0,.slice none 0 0,.int .i64 0,.int .i64 0,.slice none 0 0] 78 (0,0)):=HK2.out.heap (keepB ((Below.refl _ w1).drew) D1.out) (by simp;omega)
 have x6:=cell_of_heap d2 (j:=6) rfl
 have f6:=free_of_heap d2 6
 have l2:=lt_of_heap d2
 obtain ⟨w3,hw3⟩:∃ w3,w3=w2.setCell ⟨lb,6,none⟩ (.slice (some ⟨xb,0,none⟩) L xc):=⟨_,rfl⟩
 have hk3:Kp [lb] w2 w3:=by rw [hw3];exact (Kp.refl _ _).setCell (.inl (by simp)) _
 have d3:w3.heap[lb]? = some (.cells #[.pointer (some ⟨fb,0,none⟩),.int .i64 N,.int .i64 K,.int .i64 D,.int .i64 u,.int .i64 a,.slice (some ⟨xb,0,none⟩) L xc,.int .i64 0,.int .i64 0,.slice none 0 0,.slice none 0 0,.int .i64 0,.int .i64 0,.slice none 0 0] 78 (0,0)):=by
  rw [hw3]
  have:=heap_set_same d2 6 (.slice (some ⟨xb,0,none⟩) L xc)
  simpa using this
 have hxb:=HO2.out.lt xb rfl
 have hxb1:w1.heap.size≤xb:=by have:=hxb.1;simpa using this
 have HK3:Hid (Kp [fb] w w3):=Lib.hid ((((Kp.of_below HB1.out).drew).trans HK2.out).step hk3 (fun x hx=>.inr (by simp at hx;omega)))
 have HF3:=Lib.hid (HF2.out.kp hk3 (by simp;omega))
 have HO3:=Lib.hid (HO2.out.kp hk3 (fun b hb hm=>by have:=(HO2.out.lt b hb).1;simp at this hm;omega))
 have D3:=Lib.hid d3
 have c5:=cell_of_heap d3 (j:=5) rfl
 have l3:=lt_of_heap d3
 have HPW:=Lib.hid (powers_any fb a _ (pows L) w3 HF3.out HO3.out.rd (fun b hb hm=>by have:=(HO3.out.lt b hb).1;simp at this hm;omega) (by rw [pows_len];omega) (by rw [pows_len];omega) (by omega) (by omega))
 unfold PowPost at HPW
 rw [pows_len] at HPW
 have hs3:=hk3.size
 clear d2 d3 hk3 HKP k1 HK2 HF2 HO2 D1
 go_upto_region 8 with fail
 rw [← hw3]
 clear hw3 x6 f6
 go_wp2_with fail
 refine HPW.out.mono ?_
 rintro e w4 ⟨pb,rfl,hpb,hvp,hk4,hf4⟩
 have d4:=hk4.heap D3.out (by simp;omega)
 have y7:=cell_of_heap d4 (j:=7) rfl
 have y8:=cell_of_heap d4 (j:=8) rfl
 have y9:=cell_of_heap d4 (j:=9) rfl
 have f7:=free_of_heap d4 7
 have f8:=free_of_heap d4 8
 have f9:=free_of_heap d4 9
 have l4:=lt_of_heap d4
 obtain ⟨w5,hw5⟩:∃ w5,w5=((w4.setCell ⟨lb,7,none⟩ (.int .i64 L)).setCell ⟨lb,8,none⟩ (.int .i64 a)).setCell ⟨lb,9,none⟩ (.slice (some ⟨pb,0,none⟩) (L * a) (L * a)):=⟨_,rfl⟩
 have hk5:Kp [lb] w4 w5:=by rw [hw5];exact (((Kp.refl _ _).setCell (.inl (by simp)) _).setCell (.inl (by simp)) _).setCell (.inl (by simp)) _
 have d5:w5.heap[lb]? = some (.cells #[.pointer (some ⟨fb,0,none⟩),.int .i64 N,.int .i64 K,.int .i64 D,.int .i64 u,.int .i64 a,.slice (some ⟨xb,0,none⟩) L xc,.int .i64 L,.int .i64 a,.slice (some ⟨pb,0,none⟩) (L * a) (L * a),.slice none 0 0,.int .i64 0,.int .i64 0,.slice none 0 0] 78 (0,0)):=by
  rw [hw5]
  have:=heap_set_same (heap_set_same (heap_set_same d4 7 (.int .i64 L)) 8 (.int .i64 a)) 9 (.slice (some ⟨pb,0,none⟩) (L * a) (L * a))
  simpa using this
 have hs4:=hk4.size
 have hs5:=hk5.size
 have hvl:=hvp.1
 have hxl:=(HO3.out.lt xb rfl).2
 have hx5:=((HO3.out.rd.kp hk4 (fun b hb hm=>by simp [Value.ownBlock] at hb hm;omega)).kp hk5 (fun b hb hm=>by simp [Value.ownBlock] at hb hm;omega))
 have HN5:Hid (MsN lb fb N K D u a L xb xc pb w5.heap.size w (.slice none 0 0) ((pows 0).map fun x=>pw x a) w5):=Lib.hid
  ⟨d5,OwnG.nil _ _,hx5,hvp.kp hk5 (by simp;omega),hf4.kp hk5 (by simp;omega),(HK3.out.trans hk4).step hk5 (fun x hx=>.inr (by simp at hx;omega)),Nat.le_refl _,⟨hfl,by omega,by omega,by omega,by omega,by omega,by omega,by omega,by omega⟩⟩
 obtain ⟨B,hB⟩:∃ B,w5.heap.size=B:=⟨_,rfl⟩
 rw [hB] at HN5
 have hst:=HN5.out.st
 clear d4 d5 hk4 hf4 hk5 hvp hx5 HPW HK3 HF3 HO3 D3 HF HB1 HSP c4 c5
 go_wp2
 rw [← hw5]
 clear hw5 hB y7 y8 y9 f7 f8 f9
 go_loopg [92] L (fun gk i wr=>∃ (I:Nat) (V:Value),I≤L∧gk=L - I∧i=.int .i64 I∧Hid (MsN lb fb N K D u a L xb xc pb B w V ((pows I).map fun x=>pw x a) wr))
 case atStart=>exact ⟨0,_,by omega,rfl,rfl,HN5⟩
 case round =>
  clear HN5
  obtain ⟨I,V,hI,rfl,rfl,HS⟩:=hrel
  by_cases hlt:I < L
  ·obtain ⟨bx,ox,ex,hbx,cx⟩:=HS.out.xs.at (pows_at hlt)
   cases ex
   obtain ⟨x,hx⟩:∃ x,GF.pown GF.two I=x:=⟨_,rfl⟩
   rw [hx,Nat.zero_add] at cx
   obtain ⟨lr,hlr⟩:∃ lr,(pows I).map (fun x=>pw x a)=lr:=⟨_,rfl⟩
   have hsn:(pows (I+1)).map (fun x=>pw x a)=lr ++ [pw x a]:=by
    rw [← hlr,← hx]
    unfold pows
    rw [List.range_succ,List.map_append,List.map_append]
    rfl
   have HSN:=Lib.hid hsn
   have HLL:Hid (lr.length≤1000000):=Lib.hid (by rw [← hlr,List.length_map,pows_len];omega)
   rw [hlr] at HS
   have HPOW:Hid (∀ W,FOk W fb→Calls Tryz.prog 30 #[.pointer (some ⟨fb,0,none⟩),.int .u8 (x.n:Nat),.int .i64 (a:Nat)] W (FPost fb (pw x a) W)):=Lib.hid fun W h=>fpow_any x a fb W h (by omega)
   unfold FPost at HPOW
   obtain ⟨xn,hxn⟩:∃ xn,x.n=xn:=⟨_,rfl⟩
   obtain ⟨pn,hpn⟩:∃ pn,(pw x a).n=pn:=⟨_,rfl⟩
   rw [hxn] at cx
   rw [hxn,hpn] at HPOW
   have HPN:=Lib.hid hpn
   have HLA:Hid (∀ W,Kp [fb] wr W→OwnG W B V lr):=Lib.hid fun W h=>HS.out.lam.kp h (fun b hb hm=>by have:=(HS.out.lam.lt b hb).1;simp at hm;omega)
   have HSZ:=Lib.hid HS.out.sz
   have hsz:=HS.out.sz
   have hVl:∀ b ∈ V.ownBlock.toList,B≤b∧b < wr.heap.size:=fun b hb=>HS.out.lam.lt b (by simpa using hb)
   have y10:=cell_of_heap HS.out.d (j:=10) rfl
   have y5:=cell_of_heap HS.out.d (j:=5) rfl
   have i0:(0:Int)≤(I:Int)∧(I:Int) < (L:Int):=by omega
   obtain ⟨kp,hkp⟩:∃ kp:Nat→Bool,∀ k,kp k=true↔k < wr.heap.size∧k ≠ fb∧k ∉ V.ownBlock.toList:=⟨fun k=>decide (k < wr.heap.size∧k ≠ fb∧k ∉ V.ownBlock.toList),by simp⟩
   have k1:kp lb=true:=(hkp _).2 ⟨by omega,by omega,fun hm=>by have:=(hVl _ hm).1;omega⟩
   have HKP:=Lib.hid hkp
   have HVL:=Lib.hid hVl
   clear hx hlr hsn hxn hpn hkp hVl
   go_upto_region 12 with fail
   have hgr:=fun (w0 W:World) (p:Addr) (hp:(fun k=>kp k=true) p.block)=>graft_cell (w0:=w0) (keep:=(fun k=>kp k=true)) W hp
   refine wp_region_tree2 (fun k=>kp k=true) [11,12,13,16] (.sq [0,1,2,3,4,5,6,7,8,9,10,11,12,13,14,15] .done) (.sq [16] .done) (by kernel_rfl) (by kernel_rfl) ?_
   simp only [Tr.sq,List.foldr_cons,List.foldr_nil,slimTr,slimStep,Oper.slim,List.contains_cons,List.contains_nil,Option.map_none,Option.map_some,List.getElem?_toArray,List.getElem?_cons_zero,List.getElem?_cons_succ,Option.bind_some,beq_self_eq_true,Bool.or_false,Nat.reduceBEq,Nat.reduceAdd,Nat.zero_add]
   repeat' first | ((with_reducible refine wpSlimT_id ?_);first | (with_reducible refine wpSlimT_done ?_) | ((refine wpSlimT_append _ _ _ rfl rfl rfl rfl rfl hap (fun kk hkk=>HKA.out kk hkk) ?_)) | ((with_reducible refine wpSlimT_step (fun K hK=>?_));go_simp;first | (refine hK _ _ ?_;clear hK K) | (refine ⟨by (intro kk hkk;first | (simp (disch:=(simp;omega)) only [hp_drew,hp_drewN,hp_alloc,hp_set];done) | (simp [hp_drew,hp_drewN,hp_alloc_if,hkk];done) | (have hkk2:=(HKP.out kk).1 hkk;exact (hp_alloc _ _ _ (by have:=HK5.out.size;omega)).trans (HK5.out.block kk hkk2.1 (by simpa using hkk2.2.1)))),hK _ _ ?_⟩;clear hK K) | (go_at_call 30;(with_reducible refine (HPOW.out _ (HS.out.ok.below ((Below.refl _ _).drew))).mono ?_);rintro e w5 ⟨rfl,hk5,hf5⟩;have HK5:Hid (Kp [fb] wr w5):=Lib.hid (((Kp.refl [fb] wr).drew).trans hk5);have HF5:=Lib.hid hf5;obtain ⟨v1,w6,hap,ho6,hk6,-,-⟩:=app_byte (W:=w5) (pw x a) (HLA.out w5 HK5.out) HLL.out (Nat.le_trans HSZ.out HK5.out.size) HPN.out (ad:=w5.heap.size) rfl;obtain ⟨a1,c1,rfl,-⟩:=ho6.form;have HKA:Hid (∀ kk,kp kk=true→w6.heap[kk]? = wr.heap[kk]?):=Lib.hid (fun kk h=>by have h2:=(HKP.out kk).1 h;exact (hk6.block kk (by have:=HK5.out.size;omega) h2.2.2).trans (HK5.out.block kk h2.1 (by simpa using h2.2.1)));have HG:=Lib.hid (HS.out.grow HK5.out hf5 hk6 ho6);obtain ⟨N1,hN1⟩:∃ N1,(lr ++ [pw x a]).length=N1:=⟨_,rfl⟩;rw [hN1] at hap HG;have d6:=HG.out.2.trans HS.out.d;have z10:=cell_of_heap d6 (j:=10) rfl;have zf:=free_of_heap d6 10;have zl:=lt_of_heap d6;clear hk5 hf5 ho6 hk6 hN1 d6;refine ⟨_,rfl,(fun kk hkk=>HK5.out.block kk ((HKP.out kk).1 hkk).1 (by have:=((HKP.out kk).1 hkk).2.1;simpa using this)),hK _ _ ?_⟩;clear hK K))) | fail
   all_goals (try clear hgr)
   all_goals
    repeat ((with_reducible refine wpSlimT_step (fun K hK=>?_));go_simp;(refine ⟨(fun kk hkk=>hkk.elim),hK _ _ ?_⟩;clear hK K))
    refine wpSlimT_done ?_
    have HS2:Hid (MsN lb fb N K D u a L xb xc pb B w (.slice a1 N1 c1) ((pows (I+1)).map fun x=>pw x a) (w6.setCell ⟨lb,10,none⟩ (.slice a1 N1 c1))):=Lib.hid (by rw [HSN.out];exact HG.out.1)
    clear HG HS HKA hap HK5 HF5 HPOW HLA HKP
    go_wp2
    go_roundg (L - (I+1))
    case measure=>omega
    case rel=>exact ⟨I+1,_,by omega,rfl,by go_num,HS2⟩
  ·obtain rfl:L=I:=by omega
   obtain ⟨w7,rfl⟩:∃ w7:World,w7=wr:=⟨_,rfl⟩
   obtain ⟨W,hW⟩:∃ W,2 * hf a=W:=⟨_,rfl⟩
   have hWa:a * (a+1)=W:=by rw [← hW,hf_two]
   have hW0:0 < W:=by rw [← hWa];exact Nat.mul_pos (by omega) (by omega)
   have hWb:W≤272:=by rw [← hWa];exact Nat.mul_le_mul h16 (show a+1≤17 by omega)
   obtain ⟨M,hM⟩:∃ M,a * W=M:=⟨_,rfl⟩
   have hMb:M≤4352:=by rw [← hM];exact Nat.mul_le_mul h16 hWb
   have HW:=Lib.hid hW
   have HWA:=Lib.hid hWa
   have HMM:=Lib.hid hM
   have hnum:0 < a∧a≤16∧L≤300:=by omega
   have HNUM:=Lib.hid hnum
   have hVB:∀ b,V.ownBlock=some b→b < w7.heap.size:=fun b hb=>(HS.out.lam.lt b hb).2
   have hsz:=HS.out.sz
   obtain ⟨w8,hw8⟩:∃ w8,w8=w7.alloc (.cells #[.int .i64 0,.int .i64 0,.slice none 0 0] 76):=⟨_,rfl⟩
   have hb8:Below w7.heap.size w7 w8:=by rw [hw8];exact (Below.refl _ _).alloc (Nat.le_refl _) _
   have d8:w8.heap[w7.heap.size]? = some (.cells #[.int .i64 0,.int .i64 0,.slice none 0 0] 76 (0,0)):=by rw [hw8];exact heap_newA _ _
   have hl8:=lt_of_heap d8
   have hn8:=HS.out.kpS (Kp.of_below (S:=[]) hb8) (fun x hx=>by cases hx) (HS.out.ok.below hb8)
   have y5:=cell_of_heap hn8.d (j:=5) rfl
   have l8:=lt_of_heap hn8.d
   have HR8:Hid (MsR lb fb N K D u a L xb xc pb B W w7.heap.size w8.heap.size w V 0 0 0 (.slice none 0 0) w8):=Lib.hid ⟨hn8,d8,by rw [Nat.zero_mul,Nat.zero_mul];exact OwnG.nil _ _,hsz,hl8,fun e=>by have:=hVB _ e;omega,fun b hb=>by have:=hVB b hb;omega,Nat.le_refl _⟩
   obtain ⟨rb,hrb⟩:∃ rb,w7.heap.size=rb:=⟨_,rfl⟩
   obtain ⟨B2,hB2⟩:∃ B2,w8.heap.size=B2:=⟨_,rfl⟩
   rw [hrb,hB2] at HR8
   have hst2:=HR8.out.st
   obtain ⟨a1,ha1'⟩:∃ a1,a+1=a1:=⟨_,rfl⟩
   have q1:(a:Int)+1=(a1:Int):=by omega
   have q2:IntKind.i64.wrap (a1:Int)=(a1:Int):=IntWalk.i64_in _ (by omega)
   clear hb8 d8 hn8 HS hVB hW hWa hM hnum hB2
   go_upto_region 15 with fail
   rw [← hw8]
   clear hw8 hrb
   go_wp2
   go_loopg [118] a1 (fun gk p wr=>∃ (P nr cz:Nat) (Vr:Value),P≤a1∧gk=a1 - P∧p=.int .i64 P∧Hid (P * a=nr)∧(P=0 ∨ cz=W)∧Hid (MsR lb fb N K D u a L xb xc pb B W rb B2 w V P nr cz Vr wr))
   case atStart=>exact ⟨0,0,0,_,by omega,rfl,rfl,Lib.hid (Nat.zero_mul _),.inl rfl,HR8⟩
   case round =>
    clear HR8 y5 l8
    obtain ⟨P,nr,cz,Vr,hP,rfl,rfl,HNR,hcz,HR⟩:=hrel
    by_cases hlt:P < a1
    ·have HSTO:=Lib.hid (mssto_any lb fb pb a L P V wr (HR.out.n.base HNUM.out) (by omega))
     unfold StoPost at HSTO
     rw [HW.out,HMM.out] at HSTO
     go_wp2_with fail
     refine HSTO.out.mono ?_
     rintro e w2 ⟨gb,rfl,hgb,hv2,hk2,hf2⟩
     obtain ⟨w3,hw3⟩:∃ w3,w3=w2.alloc (.cells #[.int .i64 a,.int .i64 W,.slice (some ⟨gb,0,none⟩) M M] 76):=⟨_,rfl⟩
     have hb3:Below w2.heap.size w2 w3:=by rw [hw3];exact (Below.refl _ _).alloc (Nat.le_refl _) _
     have d3:w3.heap[w2.heap.size]? = some (.cells #[.int .i64 a,.int .i64 W,.slice (some ⟨gb,0,none⟩) M M] 76 (0,0)):=by rw [hw3];exact heap_newA _ _
     have hr3:=HR.out.stepN (hk2.trans (Kp.of_below hb3)) (hf2.below hb3)
     have hg3:=(hv2.below hb3).rd (o:=0) (m:=M) (by omega) (Nat.le_refl M)
     have HM3:=Lib.hid (rows_more (P:=P) HW.out hW0)
     rw [HMM.out] at HM3
     have hll:(rowF (flat W (msA a)) (P * a * W)).length≤1000000:=by
      rw [rowF_len]
      have:P * a≤17 * 16:=Nat.mul_le_mul (by omega) h16
      have:=Nat.mul_le_mul this hWb
      omega
     obtain ⟨v1,w6,hap,ho6,hk6,-,-⟩:=app_rowsK (W:=w3.drew) (hr3.o.below ((Below.refl _ _).drew)) (hg3.below ((Below.refl _ _).drew)) hll (by simp;omega) (by have:=hr3.st;simpa using this.2.2.2.2)
     have hk6':Kp Vr.ownBlock.toList w3 w6:=((Kp.refl _ _).drew).trans hk6
     have hg:=hr3.grow (nr2:=nr+a) hk6' ho6 HM3.out
     obtain ⟨av,cv,rfl,-⟩:=ho6.form
     obtain ⟨N1,hN1⟩:∃ N1,(rowF (flat W (msA a)) (P * a * W) ++ ((List.range M).map fun j=>flat W (stM a (fun i=>pw (GF.pown GF.two P) i) (pw (GF.pown GF.two P) a)) (0+j))).length=N1:=⟨_,rfl⟩
     rw [hN1] at hap hg
     have HG:=Lib.hid hg
     have z0:=cell_of_heap hg.2 (j:=0) rfl
     have z1:=cell_of_heap hg.2 (j:=1) rfl
     have z2:=cell_of_heap hg.2 (j:=2) rfl
     have zf0:=free_of_heap hg.2 0
     have zf1:=free_of_heap hg.2 1
     have zf2:=free_of_heap hg.2 2
     have zl:=lt_of_heap hg.2
     have r0:=cell_of_heap hr3.r (j:=0) rfl
     have r2:=cell_of_heap hr3.r (j:=2) rfl
     have rl:=lt_of_heap hr3.r
     obtain ⟨tb,htb⟩:∃ tb,w2.heap.size=tb:=⟨_,rfl⟩
     rw [htb] at d3
     have t0:=cell_of_heap d3 (j:=0) rfl
     have t1:=cell_of_heap d3 (j:=1) rfl
     have t2:=cell_of_heap d3 (j:=2) rfl
     have tl:=lt_of_heap d3
     have hVl:∀ b ∈ Vr.ownBlock.toList,B2≤b∧b < tb:=fun b hb=>by
      have h1:=(HR.out.o.lt b (by simpa using hb))
      have:=hk2.size
      omega
     obtain ⟨kp,hkp⟩:∃ kp:Nat→Bool,∀ k,kp k=true↔k < w3.heap.size∧k ∉ Vr.ownBlock.toList:=⟨fun k=>decide (k < w3.heap.size∧k ∉ Vr.ownBlock.toList),by simp⟩
     have k1:kp rb=true:=(hkp _).2 ⟨rl,fun hm=>by have:=(hVl _ hm).1;omega⟩
     have k2:kp tb=true:=(hkp _).2 ⟨tl,fun hm=>by have:=(hVl _ hm).2;omega⟩
     have HKA:Hid (∀ kk,kp kk=true→w6.heap[kk]? = w3.heap[kk]?):=Lib.hid (fun kk h=>hk6'.block kk ((hkp _).1 h).1 ((hkp _).1 h).2)
     obtain ⟨nr2,hnr2⟩:∃ nr2,nr+a=nr2:=⟨_,rfl⟩
     have hnrb:nr≤272:=by rw [← HNR.out];exact Nat.mul_le_mul (show P≤17 by omega) h16
     have e1:(nr:Int)+(a:Int)=(nr2:Int):=by omega
     have e2:IntKind.i64.wrap (nr2:Int)=(nr2:Int):=IntWalk.i64_in _ (by omega)
     have HNR2:Hid ((P+1) * a=nr2):=Lib.hid (by rw [Nat.add_mul,Nat.one_mul,HNR.out,hnr2])
     rw [hnr2] at HG
     clear hb3 d3 hr3 hg3 hll ho6 hk6 hk6' hg hVl hkp hN1 HM3 hv2 hk2 hf2 HSTO hnr2 hnrb
     go_upto_region 19 with fail
     rw [← hw3]
     clear hw3 htb
     have hgr:=fun (w0 W:World) (p:Addr) (hp:(fun k=>kp k=true) p.block)=>graft_cell (w0:=w0) (keep:=(fun k=>kp k=true)) W hp
     refine wp_region_tree2 (fun k=>kp k=true) [11,13] (.sq [0,1,2,3,4,5,6,7,8,9,10,11,12] .done) (.sq [13] .done) (by kernel_rfl) (by kernel_rfl) ?_
     simp only [Tr.sq,List.foldr_cons,List.foldr_nil,slimTr,slimStep,Oper.slim,List.contains_cons,List.contains_nil,Option.map_none,Option.map_some,List.getElem?_toArray,List.getElem?_cons_zero,List.getElem?_cons_succ,Option.bind_some,beq_self_eq_true,Bool.or_false,Nat.reduceBEq,Nat.reduceAdd,Nat.zero_add]
     repeat' first | ((with_reducible refine wpSlimT_id ?_);first | (with_reducible refine wpSlimT_done ?_) | ((refine wpSlimT_append _ _ _ rfl rfl rfl rfl rfl hap (fun kk hkk=>HKA.out kk hkk) ?_)) | ((with_reducible refine wpSlimT_step (fun K hK=>?_));go_simp;first | (refine hK _ _ ?_;clear hK K) | (refine ⟨by (intro kk hkk;first | (simp (disch:=(simp;omega)) only [hp_drew,hp_drewN,hp_alloc,hp_set];done) | (simp [hp_drew,hp_drewN,hp_alloc_if,hkk];done) | (have hkk2:=(HKP.out kk).1 hkk;exact (hp_alloc _ _ _ (by have:=HK5.out.size;omega)).trans (HK5.out.block kk hkk2.1 (by simpa using hkk2.2.1)))),hK _ _ ?_⟩;clear hK K))) | fail
     all_goals (try clear hgr)
     all_goals
      repeat ((with_reducible refine wpSlimT_step (fun K hK=>?_));go_simp;(refine ⟨(fun kk hkk=>hkk.elim),hK _ _ ?_⟩;clear hK K))
      refine wpSlimT_done ?_
      obtain ⟨w9,hw9⟩:∃ w9,w9=((w6.setCell ⟨rb,0,none⟩ (.int .i64 nr2)).setCell ⟨rb,1,none⟩ (.int .i64 W)).setCell ⟨rb,2,none⟩ (.slice av N1 cv):=⟨_,rfl⟩
      rw [← hw9] at HG ⊢
      have HR9:=Lib.hid HG.out.1
      clear HG hw9 HKA hap HR HNR z0 z1 z2 zf0 zf1 zf2 r0 r2 t0 t1 t2
      go_wp2
      go_roundg (a1 - (P+1))
      case measure=>omega
      case rel=>exact ⟨P+1,nr2,W,_,by omega,rfl,by go_num,HNR2,.inr rfl,HR9⟩
    ·obtain rfl:P=a1:=by omega
     have hnr:nr=W:=by rw [← HNR.out,← ha1',← HWA.out,Nat.mul_comm]
     subst hnr
     obtain rfl:cz=nr:=by omega
     obtain ⟨w7,rfl⟩:∃ w7:World,w7=wr:=⟨_,rfl⟩
     obtain ⟨M2,hM2⟩:∃ M2,cz * cz=M2:=⟨_,rfl⟩
     have hPaW:P * a * cz=M2:=by rw [HNR.out,hM2]
     obtain ⟨aa,capa,rfl,-⟩:=HR.out.o.form
     have HO:Hid (OwnG w7 B2 (.slice aa M2 capa) (rowF (flat cz (msA a)) M2)):=Lib.hid (by
      have:=HR.out.o
      rw [rowF_len,hPaW] at this
      exact this)
     have hr:=HR.out.r
     rw [rowF_len,hPaW] at hr
     have HRN:=Lib.hid HR.out.n
     have hst3:=HR.out.st
     have r0:=cell_of_heap hr (j:=0) rfl
     have r1:=cell_of_heap hr (j:=1) rfl
     have r2:=cell_of_heap hr (j:=2) rfl
     have rl:=lt_of_heap hr
     have HINV:=Lib.hid (inv_any fb cz M2 aa capa (rowF (flat cz (msA a)) M2) (msA a) w7 HRN.out.ok HO.out.rd (fun b hb hm=>by have:=(HO.out.lt b hb).1;simp at hm;omega) hM2 (fun j hj=>rowF_get _ hj) hW0 (by omega) (fun x hx=>by
      have:=msA_inj (a:=a) (L:=L) (by omega) (by rw [← HL.out];exact HOK.out.hg) (by rw [← HL.out];exact HOK.out.pos.2.1) x
      rw [HW.out] at this
      exact this hx))
     unfold InvPost at HINV
     rw [hM2] at HINV
     have HM2:=Lib.hid hM2
     clear hr HR hPaW hM2
     go_wp2_with fail
     refine HINV.out.mono ?_
     rintro e w8 ⟨hk8,hf8,gb,X,rfl,hgb,hv8,hx8⟩
     have hn8:=HRN.out.step hk8 hf8
     have d8:=hn8.d
     have y11:=cell_of_heap d8 (j:=11) rfl
     have y12:=cell_of_heap d8 (j:=12) rfl
     have y13:=cell_of_heap d8 (j:=13) rfl
     have f11:=free_of_heap d8 11
     have f12:=free_of_heap d8 12
     have f13:=free_of_heap d8 13
     have l8:=lt_of_heap d8
     obtain ⟨w9,hw9⟩:∃ w9,w9=((w8.setCell ⟨lb,11,none⟩ (.int .i64 cz)).setCell ⟨lb,12,none⟩ (.int .i64 cz)).setCell ⟨lb,13,none⟩ (.slice (some ⟨gb,0,none⟩) M2 M2):=⟨_,rfl⟩
     have hk9:Kp [lb] w8 w9:=by rw [hw9];exact (((Kp.refl _ _).setCell (.inl (by simp)) _).setCell (.inl (by simp)) _).setCell (.inl (by simp)) _
     have d9:w9.heap[lb]? = some (.cells #[.pointer (some ⟨fb,0,none⟩),.int .i64 N,.int .i64 K,.int .i64 D,.int .i64 u,.int .i64 a,.slice (some ⟨xb,0,none⟩) L xc,.int .i64 L,.int .i64 a,.slice (some ⟨pb,0,none⟩) (L * a) (L * a),V,.int .i64 cz,.int .i64 cz,.slice (some ⟨gb,0,none⟩) M2 M2] 78 (0,0)):=by
      rw [hw9]
      have:=heap_set_same (heap_set_same (heap_set_same d8 11 (.int .i64 cz)) 12 (.int .i64 cz)) 13 (.slice (some ⟨gb,0,none⟩) M2 M2)
      simpa using this
     have hsz:=HRN.out.sz
     have HN8:=Lib.hid hn8
     have HK9:=Lib.hid hk9
     have D9:=Lib.hid d9
     have HV9:=Lib.hid (hv8.kp hk9 (by simp;omega))
     have HX8:=Lib.hid hx8
     clear hk8 hf8 hv8 hx8 hn8 d8 hk9 d9 HINV
     go_wp2
     rw [← hw9]
     clear hw9
     go_ret2
     obtain ⟨h1,h2,h3,h4,h5,h6,h7,h8,h9⟩:=hst
     have hfin:w9.heap[lb]? = some _:=D9.out
     have hVB:∀ b,V.ownBlock=some b→B≤b:=fun b hb=>(HN8.out.lam.lt b hb).1
     refine ⟨HN8.out.kp.step HK9.out (fun x hx=>.inr (by simp at hx;omega)),HN8.out.ok.kp HK9.out (by simp;omega),.inl ⟨N,K,D,u,a,rfl,rfl,rfl,lb,pb,gb,.slice (some ⟨xb,0,none⟩) L xc,V,X,rfl,h2,?_⟩⟩
     have hL':=HL.out
     subst hL'
     have hW':=HW.out
     subst hW'
     have hM2':=HM2.out
     subst hM2'
     refine ⟨D9.out,?_,HN8.out.xs.kp HK9.out (fun b hb hm=>by simp [Value.ownBlock] at hb hm;omega),(fun b hb hm=>by simp [Value.ownBlock] at hb hm;omega),HV9.out,by omega,HOK.out,HX8.out⟩
     refine ⟨cell_of_heap D9.out rfl,cell_of_heap D9.out rfl,cell_of_heap D9.out rfl,cell_of_heap D9.out rfl,HN8.out.phi.kp HK9.out (by simp;omega),HN8.out.lam.rd.kp HK9.out (fun b hb hm=>by have:=hVB b hb;simp at hm;omega),(fun b hb hm=>by have:=hVB b hb;simp at hm;omega),HN8.out.ok.kp HK9.out (by simp;omega),⟨lt_of_heap D9.out,by omega,by omega⟩,HNUM.out⟩
theorem msnew_any (fb:Nat) (n k d:Int) (w:World) (hF:FOk w fb) (hn:-9223372036854775808≤n∧n≤9223372036854775807) (hk:-9223372036854775808≤k∧k≤9223372036854775807) (hd:-9223372036854775808≤d∧d≤9223372036854775807) :
  Calls Tryz.prog 9 #[.pointer (some ⟨fb,0,none⟩),.int .i64 n,.int .i64 k,.int .i64 d] w (MsNewPost fb n k d w):=by
 by_cases hg:2≤k∧n≤255∧d < n∧2 * k≤d+2∧d+1≤k+16
 ·obtain ⟨N,rfl⟩:∃ N:Nat,n=(N:Int):=⟨n.toNat,by omega⟩
  obtain ⟨K,rfl⟩:∃ K:Nat,k=(K:Int):=⟨k.toNat,by omega⟩
  obtain ⟨D,rfl⟩:∃ D:Nat,d=(D:Int):=⟨d.toNat,by omega⟩
  obtain ⟨u,hu⟩:∃ u,D+2=2 * K+u:=⟨D+2 - 2 * K,by omega⟩
  obtain ⟨a,ha⟩:∃ a,D+1=K+a:=⟨D+1 - K,by omega⟩
  by_cases hG:N+u≤255 / Nat.gcd a 255
  ·exact msnew_ok fb N K D u a w hF ⟨by omega,by omega,by omega,hu,ha,by omega,hG⟩
  ·refine (msnew_bad fb N K D u a w hF (by omega) (by omega) (by omega) hu ha (by omega) hG).mono fun e w' h=>⟨h.2.1,h.2.2,.inr ⟨?_,h.1⟩⟩
   rintro ⟨N',K',D',u',a',e1,e2,e3,hok⟩
   have h1:=hok.hu
   have h2:=hok.ha
   obtain rfl:N=N':=by omega
   obtain rfl:K=K':=by omega
   obtain rfl:D=D':=by omega
   obtain rfl:u=u':=by omega
   obtain rfl:a=a':=by omega
   exact hG hok.hg
 ·refine (msnew_low fb n k d w hF hn hk hd hg).mono fun e w' h=>⟨h.2.1,h.2.2,.inr ⟨?_,h.1⟩⟩
  rintro ⟨N,K,D,u,a,rfl,rfl,rfl,hok⟩
  have h1:=hok.hu
  have h2:=hok.ha
  have h3:=hok.hk
  have h4:=hok.hn
  have h5:=hok.hd
  have h6:=hok.h16
  exact hg (by omega)
end Go.Proofs.YtnjbkfeihbcalaaGreat
