/-
  What a place stores, as what each number is multiplied with: the program's matrix.
-/
import Derived.Test.YtnjbkfeihbcalaaGreatZPlainM
import Derived.Test.YtnjbkfeihbcalaaGreatZMsA
import Derived.Deep.LoopGhost
import Derived.Deep.DeepCutAuto
/- What a place stores, as what each number is multiplied with: the program's matrix. -/
namespace Go.Proofs.YtnjbkfeihbcalaaGreat
open Go.RowKit Fld
set_option linter.unusedVariables false
set_option linter.unusedSimpArgs false

def StoPost (fb a P:Nat) (w:World) (e:Ending) (w':World):Prop :=
 ∃ gb,e=.returned (.agg #[.int .i64 a,.int .i64 (2 * hf a:Nat),.slice (some ⟨gb,0,none⟩) (a * (2 * hf a)) (a * (2 * hf a))])∧w.heap.size≤gb∧View w' gb (a * (2 * hf a)) (flat (2 * hf a) (stM a (fun i=>pw (GF.pown GF.two P) i) (pw (GF.pown GF.two P) a)))∧Kp [fb] w w'∧FOk w' fb
def stoFr (x0 x1 x4 x5:Value) (sb:Nat) (u:Nat→Value):Array Value:=#[x0,x1,u 2,u 3,x4,x5,.pointer (some ⟨sb,0,none⟩),u 7,u 8,u 9,u 10,u 11,u 12,u 13,u 14,u 15,u 16,u 17,u 18,u 19,u 20,u 21,u 22,u 23,u 24,u 25,u 26,u 27,u 28,u 29,u 30,u 31,u 32,u 33,u 34,u 35,u 36,u 37,u 38,u 39,u 40,u 41,u 42,u 43,u 44,u 45,u 46,u 47,u 48,u 49,u 50,u 51,u 52,u 53,u 54,u 55,u 56,u 57,u 58,u 59,u 60,u 61,u 62,u 63,u 64,u 65,u 66,u 67,u 68,u 69,u 70,u 71,u 72,u 73,u 74,u 75,u 76,u 77,u 78,u 79,u 80,u 81,u 82,u 83,u 84,u 85,u 86,u 87,u 88,u 89,u 90,u 91,u 92,u 93,u 94,u 95,u 96,u 97,u 98,u 99,u 100,u 101,u 102,u 103,u 104,u 105,u 106,u 107,u 108,u 109,u 110,u 111,u 112,u 113,u 114,u 115,u 116,u 117,u 118,u 119,u 120,u 121,u 122,u 123,u 124,u 125,u 126,u 127,u 128,u 129,u 130,u 131,u 132,u 133,u 134,u 135]
def StoK (x0 x1 x4 x5:Value) (M a W:Nat) (w1:World) (act:Act) (Wd:World):Prop :=
 ∃ sb gb,act={ tmps:=stoFr x0 x1 x4 x5 sb (fun i=>act.tmps.getD i undef),defers:=[] }∧Below w1.heap.size w1 Wd∧w1.heap.size≤gb∧w1.heap.size≤sb∧sb ≠ gb∧View Wd gb M (fun _=>0) ∧
  Wd.heap[sb]? = some (.cells #[.int .i64 a,.int .i64 W,.slice (some ⟨gb,0,none⟩) M M] 76 (0,0))
structure MsSt (lb fb pb a N gb sb M W:Nat) (vl:Value) (w0:World) (G:Nat→GF) (wr:World):Prop where
 v:View wr gb M G
 s:wr.heap[sb]? = some (.cells #[.int .i64 a,.int .i64 W,.slice (some ⟨gb,0,none⟩) M M] 76 (0,0))
 b:MsB wr lb fb pb a N vl
 kp:Kp [fb] w0 wr
 r:wr.heap[w0.heap.size]? = some (.cells #[.int .i64 0,.int .i64 0,.slice none 0 0] 76 (0,0))
 lt:w0.heap.size < gb∧w0.heap.size < sb∧sb ≠ gb∧fb < w0.heap.size∧lb < w0.heap.size∧pb < w0.heap.size
 ap:Apart vl [gb]
theorem MsSt.step {lb fb pb a N gb sb M W:Nat} {vl:Value} {w0 wr w':World} {G:Nat→GF} (h:MsSt lb fb pb a N gb sb M W vl w0 G wr) (hk:Kp [fb] wr w') (hf:FOk w' fb):MsSt lb fb pb a N gb sb M W vl w0 G w':=by
 obtain ⟨h1,h2,h3,h4,h5,h6⟩:=h.lt
 exact ⟨h.v.kp hk (by simp;omega),hk.heap h.s (by simp;omega),h.b.step hk hf,h.kp.trans hk,hk.heap h.r (by simp;omega),h.lt,h.ap⟩
theorem MsSt.put {lb fb pb a N gb sb M W:Nat} {vl:Value} {w0 wr:World} {G:Nat→GF} (h:MsSt lb fb pb a N gb sb M W vl w0 G wr) {j:Nat} (hj:j < M) (x:GF):MsSt lb fb pb a N gb sb M W vl w0 (fun i=>if i=j then x else G i) (wr.setCell ⟨gb,j,none⟩ (.int .u8 (x.n:Nat))):=by
 obtain ⟨h1,h2,h3,h4,h5,h6⟩:=h.lt
 have hk:Kp [gb] wr (wr.setCell ⟨gb,j,none⟩ (.int .u8 (x.n:Nat))):=(Kp.refl _ _).setCell (.inl (by simp)) _
 exact ⟨h.v.set hj x,hk.heap h.s (by simp;omega),h.b.kp hk (by simp;omega) (by simp;omega) h.ap (h.b.ok.kp hk (by simp;omega)),h.kp.step hk (fun x hx=>by simp at hx;exact .inr (by omega)),hk.heap h.r (by simp;omega),h.lt,h.ap⟩
theorem MsSt.congr {lb fb pb a N gb sb M W:Nat} {vl:Value} {w0 wr:World} {G G':Nat→GF} (h:MsSt lb fb pb a N gb sb M W vl w0 G wr) (e:∀ j,j < M→G j=G' j):MsSt lb fb pb a N gb sb M W vl w0 G' wr :=
 ⟨h.v.congr e,h.s,h.b,h.kp,h.r,h.lt,h.ap⟩
theorem View.zeros {w:World} {b M:Nat} (h:w.heap[b]? = some (.cells (Array.replicate M (.int .u8 0)) 5 (0,0))):View w b M (fun _=>0) :=
 ⟨lt_of_heap h,fun j hj=>⟨cell_of_heap h (by simp [hj];rfl),free_of_heap h j⟩⟩
theorem lam_at {N P:Nat} (a:Nat) (h:P < N):((pows N).map fun x=>pw x a)[P]? = some (pw (GF.pown GF.two P) a):=by
 rw [List.getElem?_map,pows_at h]
 rfl
set_option maxRecDepth 100000 in
set_option maxHeartbeats 4000000 in
theorem mssto_any (lb fb pb a N P:Nat) (vl:Value) (w:World) (hB:MsB w lb fb pb a N vl) (hP:P < N) :
  Calls Tryz.prog 31 #[.pointer (some ⟨lb,0,none⟩),.int .i64 P] w (StoPost fb a P w):=by
 obtain ⟨al,cl,rfl,-⟩:=hB.lam.form
 obtain ⟨bl,ol,rfl,hbl,-⟩:=hB.lam.at (lam_at a hP)
 rw [List.length_map,pows_len] at hB
 have hblf:bl ≠ fb:=by have:=hB.apl bl rfl;simpa using this
 obtain ⟨ha0,ha1,hN⟩:=hB.nums
 obtain ⟨x,hx⟩:∃ x,GF.pown GF.two P=x:=⟨_,rfl⟩
 obtain ⟨h,hh⟩:∃ h,hf a=h:=⟨_,rfl⟩
 obtain ⟨W,hW⟩:∃ W,2 * h=W:=⟨_,rfl⟩
 obtain ⟨M,hM⟩:∃ M,a * W=M:=⟨_,rfl⟩
 obtain ⟨A1,hA1⟩:∃ A1,a * (a+1)=A1:=⟨_,rfl⟩
 have hAW:A1=W:=by rw [← hA1,← hW,← hh,hf_two]
 have hW0:0 < W:=by rw [← hAW,← hA1];exact Nat.mul_pos ha0 (by omega)
 have hWb:W≤272:=by rw [← hAW,← hA1];exact Nat.mul_le_mul ha1 (show a+1≤17 by omega)
 have hMb:M≤4352:=by rw [← hM];exact Nat.mul_le_mul ha1 hWb
 obtain ⟨A2,hA2⟩:∃ A2,a * 2=A2:=⟨_,rfl⟩
 obtain ⟨ap1,hap1⟩:∃ ap1,a+1=ap1:=⟨_,rfl⟩
 have x1:(a:Int)+1=(ap1:Int):=by omega
 have x2:IntKind.i64.wrap (ap1:Int)=(ap1:Int):=IntWalk.i64_in _ (by omega)
 have x3:(a:Int) * (ap1:Int)=(W:Int):=by rw [← hAW,← hA1,← hap1];simp
 have x4:IntKind.i64.wrap (W:Int)=(W:Int):=IntWalk.i64_in _ (by omega)
 have x5:(W:Int).tdiv 2=(h:Int):=by rw [← hW,Int.tdiv_eq_ediv_of_nonneg (by omega)];omega
 have x5':(W:Int) / 2=(h:Int):=by omega
 have x6:IntKind.i64.wrap (h:Int)=(h:Int):=IntWalk.i64_in _ (by omega)
 have x7:2 * (h:Int)=(W:Int):=by omega
 have x8:(a:Int) * 2=(A2:Int):=by omega
 have x9:IntKind.i64.wrap (A2:Int)=(A2:Int):=IntWalk.i64_in _ (by omega)
 have x10:(A2:Int) * (h:Int)=(M:Int):=by rw [← hA2,← hM,← hW];simp [Int.mul_assoc]
 have x11:IntKind.i64.wrap (M:Int)=(M:Int):=IntWalk.i64_in _ (by omega)
 obtain ⟨i0,hi,hz0,hz1,hz2⟩:=info_parts u8_info
 have hmk:∀ W,(Instr.makeSlice 50 (.int .i64 M) (.int .i64 M)).run Tryz.prog W=.ok (.slice (some ⟨W.heap.size,0,none⟩) M M) (W.alloc (.cells (Array.replicate M (.int .u8 0)) 5)):=fun W =>
  run_row W 50 5 i0 (.int .u8 0) Tryz.underlying50 hi hz0 hz1 rfl M (by rw [hz2];omega) (by unfold maxLen;omega)
 obtain ⟨Pa,hPa⟩:∃ Pa,P * a=Pa:=⟨_,rfl⟩
 have HPA:=Lib.hid hPa
 have HM:=Lib.hid hM
 have HHF:=Lib.hid hh
 have HWW:=Lib.hid hW
 have HB:=Lib.hid hB
 have HROW:=Lib.hid (fun W (h:MsB W lb fb pb a N (.slice (some ⟨bl,ol,none⟩) N cl))=>msrow_any lb fb pb a N P Pa _ W h hP hPa)
 have hlb:=hB.lt.1
 have hpb:=hB.phi.1
 obtain ⟨w1,hw1⟩:∃ w1,w1=w.alloc (.cells #[.int .i64 0,.int .i64 0,.slice none 0 0] 76):=⟨_,rfl⟩
 have hb1:Below w.heap.size w w1:=by rw [hw1];exact (Below.refl _ _).alloc (Nat.le_refl _) _
 have d1:w1.heap[w.heap.size]? = some (.cells #[.int .i64 0,.int .i64 0,.slice none 0 0] 76 (0,0)):=by rw [hw1];exact heap_newA _ _
 have HB1:=Lib.hid (hB.below hb1)
 have HBW:=Lib.hid hb1
 have D1:=Lib.hid d1
 have hl1:=lt_of_heap d1
 have c5:=HB1.out.c5
 have hlb1:=HB1.out.lt.1
 clear hB hb1 d1 hA1 hA2 hap1 hi hz0 hz1 hz2 hAW
 go_enter Tryz.func31,Tryz.ntmps31
 go_upto_region 1 with fail
 rw [← hw1]
 clear hw1
 have hgr:=fun (w0 W:World) (p:Addr) (hp:(fun k=>k < w1.heap.size) p.block)=>graft_cell (w0:=w0) (keep:=(fun k=>k < w1.heap.size)) W hp
 refine wp_region_tree (fun k=>k < w1.heap.size) [] (.sq [0,1,2,3,4,5,6,7,8,9,10,11] .done) (by kernel_rfl) (by kernel_rfl) ?_
 simp only [Tr.sq,List.foldr_cons,List.foldr_nil,slimTr,slimStep,Oper.slim,List.contains_cons,List.contains_nil,Option.map_none,Option.map_some,List.getElem?_toArray,List.getElem?_cons_zero,List.getElem?_cons_succ,Option.bind_some,beq_self_eq_true,Bool.or_false,Nat.reduceBEq,Nat.reduceAdd,Nat.zero_add]
 repeat' first | ((with_reducible refine wpSlimT_id ?_);first | (with_reducible refine wpSlimT_done ?_) | ((with_reducible refine wpSlimT_step (fun K hK=>?_));go_simp;(refine hK _ _ ?_;clear hK K))) | fail
 clear hgr
 go_upto_region 2 with fail
 rename_i Qx hKx
 refine wp_conseq (K1:=StoK (.pointer (some ⟨lb,0,none⟩)) (.int .i64 P) (.pointer (some ⟨w.heap.size,0,none⟩)) (.int .i64 h) M a W w1) ?reg ?rest
 case reg =>
  have hgr:=fun (w0 W:World) (p:Addr) (hp:(fun k=>k < w1.heap.size) p.block)=>graft_cell (w0:=w0) (keep:=(fun k=>k < w1.heap.size)) W hp
  refine wp_region_tree (fun k=>k < w1.heap.size) [13,15,16] (.sq [0,1,2,3,4,5,6,7,8,9,10,11,12] (.fork 13 (.sq [14,15,16] .done) 15 (.sq [13,14,16] .done))) (by kernel_rfl) (by kernel_rfl) ?_
  simp only [Tr.sq,List.foldr_cons,List.foldr_nil,slimTr,slimStep,Oper.slim,List.contains_cons,List.contains_nil,Option.map_none,Option.map_some,List.getElem?_toArray,List.getElem?_cons_zero,List.getElem?_cons_succ,Option.bind_some,beq_self_eq_true,Bool.or_false,Nat.reduceBEq,Nat.reduceAdd,Nat.zero_add]
  repeat' first | ((with_reducible refine wpSlimT_id ?_);first | (with_reducible refine wpSlimT_done ?_) | (with_reducible refine wpSlimT_fork ?_ ?_) | ((with_reducible refine wpSlimT_step (fun K hK=>?_));go_simp;first | (refine hK _ _ ?_;clear hK K) | (refine ⟨by (intro kk hkk;first | (simp (disch:=(simp;omega)) only [hp_drew,hp_drewN,hp_alloc,hp_set];done) | (simp [hp_drew,hp_drewN,hp_alloc_if,hkk];done) | (have hkk2:=(HKP.out kk).1 hkk;simp (disch:=(first | exact hkk2 | (simp;done) | (simp;omega) | (exact fun e=>hkk2.2.2 e))) only [hp_drew,hp_drewN,hp_alloc,hp_set];first | done | exact HK5.out.block kk hkk2.1 (by have:=hkk2.2.1;simpa using this))),hK _ _ ?_⟩;clear hK K))) | fail
  all_goals clear hgr
  ·have h0:((w1.alloc (.cells (Array.replicate M (.int .u8 0)) 5)).alloc (.cells #[.int .i64 a,.int .i64 W,.slice (some ⟨w1.heap.size,0,none⟩) M M] 76)).heap[w1.heap.size]? = some (.cells (Array.replicate M (.int .u8 0)) 5 (0,0)):=keepA (heap_newA _ _) _
   exact ⟨w1.heap.size+1,w1.heap.size,by kernel_rfl,((((Below.refl _ _).alloc (Nat.le_refl _) _).alloc (by simp) _).drew).drew,Nat.le_refl _,by omega,by omega,(View.zeros h0).drew.drew,heap_newE _ _ _ (by simp)⟩
  ·exact ⟨w1.heap.size,w1.heap.size+1,by kernel_rfl,((((Below.refl _ _).alloc (Nat.le_refl _) _).alloc (by simp) _).drew).drew,by omega,Nat.le_refl _,by omega,(View.zeros (heap_newE _ _ _ (by simp))).drew.drew,keepA (heap_newA _ _) _⟩
 case rest =>
  intro act w2 hk2
  obtain ⟨sb,gb,ha,hb2,hgb,hsb,hne,hv2,hs2⟩:=hk2
  refine hKx _ _ ?_
  obtain ⟨u,hu⟩:∃ u,act={ tmps:=stoFr (.pointer (some ⟨lb,0,none⟩)) (.int .i64 P) (.pointer (some ⟨w.heap.size,0,none⟩)) (.int .i64 h) sb u,defers:=[] }:=⟨_,ha⟩
  subst hu
  have hbw2:Below w.heap.size w w2:=HBW.out.trans (hb2.mono HBW.out.size)
  have HS2:Hid (MsSt lb fb pb a N gb sb M W (.slice (some ⟨bl,ol,none⟩) N cl) w (fun _=>0) w2):=Lib.hid ⟨hv2,hs2,HB.out.below hbw2,Kp.of_below hbw2,keepB hb2 D1.out,⟨by omega,by omega,hne,HB.out.ok.lt,hlb,hpb⟩,fun k hk hm=>by
   simp [Value.ownBlock] at hk hm
   omega⟩
  clear ha hKx hb2 hv2 hs2 hmk HB1 HBW D1 HB c5 hbw2
  unfold stoFr
  have hB2:=HS2.out.b
  have c8:=hB2.c10
  have hlb2:=hB2.lt.1
  obtain ⟨bl',ol',e,hbl2,cx⟩:=hB2.lam.at (lam_at a hP)
  cases e
  rw [hx] at cx
  obtain ⟨ln,hln⟩:∃ ln,(pw x a).n=ln:=⟨_,rfl⟩
  rw [hln] at cx
  have i0:(0:Int)≤(P:Int)∧(P:Int) < (N:Int):=by omega
  have HLN:=Lib.hid hln
  have HX:=Lib.hid hx
  clear hB2 hln hx
  go_upto_region 3 with fail
  have hgr:=fun (w0 W:World) (p:Addr) (hp:(fun k=>k < w2.heap.size) p.block)=>graft_cell (w0:=w0) (keep:=(fun k=>k < w2.heap.size)) W hp
  refine wp_region_tree (fun k=>k < w2.heap.size) [2] (.sq [0,1,3,4,5,6,7,8,9,2,10,11] .done) (by kernel_rfl) (by kernel_rfl) ?_
  simp only [Tr.sq,List.foldr_cons,List.foldr_nil,slimTr,slimStep,Oper.slim,List.contains_cons,List.contains_nil,Option.map_none,Option.map_some,List.getElem?_toArray,List.getElem?_cons_zero,List.getElem?_cons_succ,Option.bind_some,beq_self_eq_true,Bool.or_false,Nat.reduceBEq,Nat.reduceAdd,Nat.zero_add]
  repeat' first | ((with_reducible refine wpSlimT_id ?_);first | (with_reducible refine wpSlimT_done ?_) | ((with_reducible refine wpSlimT_step (fun K hK=>?_));go_simp;first | (refine hK _ _ ?_;clear hK K) | (refine ⟨by (intro kk hkk;first | (simp (disch:=(simp;omega)) only [hp_drew,hp_drewN,hp_alloc,hp_set];done) | (simp [hp_drew,hp_drewN,hp_alloc_if,hkk];done) | (have hkk2:=(HKP.out kk).1 hkk;simp (disch:=(first | exact hkk2 | (simp;done) | (simp;omega) | (exact fun e=>hkk2.2.2 e))) only [hp_drew,hp_drewN,hp_alloc,hp_set];first | done | exact HK5.out.block kk hkk2.1 (by have:=hkk2.2.1;simpa using this))),hK _ _ ?_⟩;clear hK K) | (go_at_call 55;(with_reducible refine (HROW.out _ (HS2.out.b.below ((Below.refl _ _).drew))).mono ?_);rintro e w3 ⟨rfl,hb3⟩;have HB3:Hid (Below w2.heap.size w2 w3):=Lib.hid (((Below.refl w2.heap.size w2).drew).trans hb3);clear hb3;refine ⟨_,rfl,(fun kk hkk=>HB3.out.block kk hkk),hK _ _ ?_⟩;clear hK K))) | fail
  clear hgr
  have HS3:Hid (MsSt lb fb pb a N gb sb M W (.slice (some ⟨bl,ol,none⟩) N cl) w (flat W (stW a (fun i=>pw x i) (pw x a) 0)) w3):=Lib.hid ((HS2.out.step (Kp.of_below HB3.out) (HS2.out.b.ok.below HB3.out)).congr fun j hj=>by
   obtain ⟨r,c,hr,hc,rfl⟩:=off_ex (R:=a) (C:=W) (by omega) (by rw [HM.out];exact hj)
   rw [flat_at (by omega) _ _ _ hc,stW_zero])
  clear HS2 HB3 c8 hlb2 hbl2 cx i0 HROW
  obtain ⟨cph,hcph⟩:∃ cph,N * a - Pa=cph:=⟨_,rfl⟩
  have HCP:=Lib.hid hcph
  rw [hcph]
  clear hcph
  have y5:=HS3.out.b.c5
  have y6:=HS3.out.b.lt.1
  go_wp2
  go_loopg [9,52] a (fun gk at_ i wr=>∃ I T:Nat,I≤a∧gk=a - I∧at_=.int .i64 T∧i=.int .i64 I∧Hid (tri a I=T)∧Hid (MsSt lb fb pb a N gb sb M W (.slice (some ⟨bl,ol,none⟩) N cl) w (flat W (stW a (fun i=>pw x i) (pw x a) T)) wr))
  case atStart=>exact ⟨0,0,by omega,rfl,rfl,rfl,Lib.hid rfl,HS3⟩
  case round =>
   clear HS3 y5 y6
   obtain ⟨I,T,hI,rfl,rfl,rfl,HT,HS⟩:=hrel
   by_cases hlt:I < a
   ·go_wp2
    go_loopg [9,11] (a - I) (fun gk at_ k wr=>∃ C T:Nat,I≤C∧C≤a∧gk=a - C∧at_=.int .i64 T∧k=.int .i64 C∧Hid (tri a I+(C - I)=T)∧Hid (MsSt lb fb pb a N gb sb M W (.slice (some ⟨bl,ol,none⟩) N cl) w (flat W (stW a (fun i=>pw x i) (pw x a) T)) wr))
    case atStart=>exact ⟨I,T,Nat.le_refl _,hI,rfl,rfl,rfl,Lib.hid (by rw [Nat.sub_self,Nat.add_zero];exact HT.out),HS⟩
    case round =>
     clear HS HT
     obtain ⟨C,T,hIC,hC,rfl,rfl,rfl,HT,HS⟩:=hrel
     have y5:=HS.out.b.c5
     have y6:=HS.out.b.lt.1
     by_cases hltc:C < a
     ·have hTs:sI a I C=T:=by rw [sI_le hIC,HT.out]
      have hTh:T < h:=by rw [← hTs,← HHF.out];exact sI_lthf hlt hltc
      have HTS:=Lib.hid hTs
      clear hTs
      have hS:=HS.out
      obtain ⟨g1,g2,g3,g4,g5,g6⟩:=hS.lt
      have ys1:=cell_of_heap hS.s (j:=1) rfl
      have ys2:=cell_of_heap hS.s (j:=2) rfl
      have yb0:=hS.b.c0
      have gs:=lt_of_heap hS.s
      have gg:=hS.v.1
      have gl:=hS.b.lt.1
      have gp:=(hS.b.row hP).1
      have cv:wr.cell? ⟨pb,Pa+I,none⟩=some (.int .u8 ((pw x I).n:Nat)):=by
       have:=(hS.b.row hP).2 I hlt
       rw [HPA.out] at this
       rw [← HX.out]
       exact this
      obtain ⟨RW,hRW⟩:∃ RW,C * W=RW:=⟨_,rfl⟩
      have hRWM:RW+W≤M:=by
       rw [← hRW,← HM.out]
       have:=Nat.mul_le_mul_right W (show C+1≤a by omega)
       rw [Nat.add_mul,Nat.one_mul] at this
       exact this
      obtain ⟨p1,hp1⟩:∃ p1,RW+T=p1:=⟨_,rfl⟩
      obtain ⟨RH,hRH⟩:∃ RH,RW+h=RH:=⟨_,rfl⟩
      obtain ⟨p2,hp2⟩:∃ p2,RH+T=p2:=⟨_,rfl⟩
      have HN1:Hid (C * W+T=p1∧C * W+h+T=p2):=Lib.hid ⟨by rw [hRW,hp1],by rw [hRW,hRH,hp2]⟩
      have e1:(C:Int) * (W:Int)=(RW:Int):=by rw [← hRW];simp
      have e2:IntKind.i64.wrap (RW:Int)=(RW:Int):=IntWalk.i64_in _ (by omega)
      have e3:(RW:Int)+(T:Int)=(p1:Int):=by omega
      have e4:IntKind.i64.wrap (p1:Int)=(p1:Int):=IntWalk.i64_in _ (by omega)
      have e5:(RW:Int)+(h:Int)=(RH:Int):=by omega
      have e6:IntKind.i64.wrap (RH:Int)=(RH:Int):=IntWalk.i64_in _ (by omega)
      have e7:(RH:Int)+(T:Int)=(p2:Int):=by omega
      have e8:IntKind.i64.wrap (p2:Int)=(p2:Int):=IntWalk.i64_in _ (by omega)
      have h1M:p1 < M:=by omega
      have h2M:p2 < M:=by omega
      have q1:(0:Int)≤(p1:Int)∧(p1:Int) < (M:Int):=by omega
      have q2:(0:Int)≤(p2:Int)∧(p2:Int) < (M:Int):=by omega
      have q3:(0:Int)≤(I:Int)∧(I:Int) < (a:Int):=by omega
      have hne12:p1 ≠ p2:=by omega
      obtain ⟨z1,c1⟩:∃ v,wr.cell? ⟨gb,p1,none⟩=some v:=⟨_,(hS.v.2 p1 h1M).1⟩
      obtain ⟨z2,c2⟩:∃ v,wr.cell? ⟨gb,p2,none⟩=some v:=⟨_,(hS.v.2 p2 h2M).1⟩
      have f1:=(hS.v.2 p1 h1M).2
      have f2:=(hS.v.2 p2 h2M).2
      have hmul:=fun W (h:FOk W fb)=>fmul_any (pw x a) (pw x I) fb W h
      unfold FPost at hmul
      obtain ⟨y,hy⟩:∃ y,(pw x I).n=y:=⟨_,rfl⟩
      obtain ⟨m,hm⟩:∃ m,(pw x a * pw x I).n=m:=⟨_,rfl⟩
      rw [HLN.out,hy,hm] at hmul
      rw [hy] at cv
      have HMUL:=Lib.hid hmul
      have HY:=Lib.hid hy
      have HMN:=Lib.hid hm
      have HH1:=Lib.hid (And.intro h1M h2M)
      obtain ⟨kp,hkp⟩:∃ kp:Nat→Bool,∀ k,kp k=true↔k < wr.heap.size∧k ≠ fb∧k ≠ gb:=⟨fun k=>decide (k < wr.heap.size∧k ≠ fb∧k ≠ gb),by simp⟩
      have k1:kp lb=true:=(hkp _).2 ⟨gl,hS.b.lt.2.1,by omega⟩
      have k2:kp sb=true:=(hkp _).2 ⟨gs,by omega,by omega⟩
      have k3:kp pb=true:=(hkp _).2 ⟨gp,hS.b.lt.2.2,by omega⟩
      have HKP:=Lib.hid hkp
      clear hS hmul hy hm hkp hRW hRWM hp1 hRH hp2 h1M h2M
      go_upto_region 11 with fail
      have hgr:=fun (w0 W:World) (p:Addr) (hp:(fun k=>kp k=true) p.block)=>graft_cell (w0:=w0) (keep:=(fun k=>kp k=true)) W hp
      refine wp_region_tree (fun k=>kp k=true) [31,33,35] (.sq [0,1,2,3,4,5,6,7,8,9,10,11,12,13,14,15,16,17,18,19,20,21,22,23,24,25,26,27,28,29,30,31,32,33,34,35] .done) (by kernel_rfl) (by kernel_rfl) ?_
      simp only [Tr.sq,List.foldr_cons,List.foldr_nil,slimTr,slimStep,Oper.slim,List.contains_cons,List.contains_nil,Option.map_none,Option.map_some,List.getElem?_toArray,List.getElem?_cons_zero,List.getElem?_cons_succ,Option.bind_some,beq_self_eq_true,Bool.or_false,Nat.reduceBEq,Nat.reduceAdd,Nat.zero_add]
      repeat' first | ((with_reducible refine wpSlimT_id ?_);first | (with_reducible refine wpSlimT_done ?_) | ((with_reducible refine wpSlimT_step (fun K hK=>?_));go_simp;first | (refine hK _ _ ?_;clear hK K) | (refine ⟨by (intro kk hkk;first | (simp (disch:=(simp;omega)) only [hp_drew,hp_drewN,hp_alloc,hp_set];done) | (simp [hp_drew,hp_drewN,hp_alloc_if,hkk];done) | (have hkk2:=(HKP.out kk).1 hkk;simp (disch:=(first | exact hkk2 | (simp;done) | (simp;omega) | (exact fun e=>hkk2.2.2 e))) only [hp_drew,hp_drewN,hp_alloc,hp_set];first | done | exact HK5.out.block kk hkk2.1 (by have:=hkk2.2.1;simpa using this))),hK _ _ ?_⟩;clear hK K) | (go_at_call 56;(with_reducible refine (HMUL.out _ (HS.out.b.ok.below ((Below.refl _ _).drew))).mono ?_);rintro e w5 ⟨rfl,hk5,hf5⟩;have HK5:Hid (Kp [fb] wr w5):=Lib.hid (((Kp.refl [fb] wr).drew).trans hk5);have HF5:=Lib.hid hf5;have hs5:=HK5.out.size;have c3:=(HK5.out.cell (p:=⟨gb,p1,none⟩) gg (by simp;omega)).trans c1;have f3:=(HK5.out.frozen (p:=⟨gb,p1,none⟩) gg (by simp;omega)).trans f1;have f4:=(HK5.out.frozen (p:=⟨gb,p2,none⟩) gg (by simp;omega)).trans f2;have c4:=(HK5.out.cell (p:=⟨gb,p2,none⟩) gg (by simp;omega)).trans c2;have c6:(w5.setCell ⟨gb,p1,none⟩ (.int .u8 (y:Nat))).cell? ⟨gb,p2,none⟩=some z2:=(World.cell?_setCell_other _ _ _ _ (fun e=>hne12 (congrArg Addr.off e))).trans c4;clear hk5 hf5;refine ⟨_,rfl,(fun kk hkk=>HK5.out.block kk ((HKP.out kk).1 hkk).1 (by have:=((HKP.out kk).1 hkk).2;simpa using this.1)),hK _ _ ?_⟩;clear hK K))) | fail
      clear hgr
      have hput:=((HS.out.step HK5.out HF5.out).put HH1.out.1 (pw x I)).put HH1.out.2 (pw x a * pw x I)
      rw [HY.out,HMN.out] at hput
      obtain ⟨w6,hwB⟩:∃ w6,w6=(w5.setCell ⟨gb,p1,none⟩ (.int .u8 (y:Nat))).setCell ⟨gb,p2,none⟩ (.int .u8 (m:Nat)):=⟨_,rfl⟩
      rw [← hwB] at hput ⊢
      have HS6:=Lib.hid hput
      clear hput hwB HK5 HF5 HMUL HY HMN HH1 HKP k1 k2 k3 c1 c2 c3 c4 c6 f1 f2 f3 f4 cv e1 e2 e3 e4 e5 e6 e7 e8 q1 q2 q3 hne12 ys1 ys2 yb0 gs gg gl gp g1 g2 g3 g4 g5 g6 hs5
      have hS:=HS6.out
      obtain ⟨g1,g2,g3,g4,g5,g6⟩:=hS.lt
      have ys1:=cell_of_heap hS.s (j:=1) rfl
      have ys2:=cell_of_heap hS.s (j:=2) rfl
      have yb0:=hS.b.c0
      have gs:=lt_of_heap hS.s
      have gg:=hS.v.1
      have gl:=hS.b.lt.1
      have gp:=(hS.b.row hP).1
      have cv:w6.cell? ⟨pb,Pa+C,none⟩=some (.int .u8 ((pw x C).n:Nat)):=by
       have:=(hS.b.row hP).2 C hltc
       rw [HPA.out] at this
       rw [← HX.out]
       exact this
      obtain ⟨RW,hRW⟩:∃ RW,I * W=RW:=⟨_,rfl⟩
      have hRWM:RW+W≤M:=by
       rw [← hRW,← HM.out]
       have:=Nat.mul_le_mul_right W (show I+1≤a by omega)
       rw [Nat.add_mul,Nat.one_mul] at this
       exact this
      obtain ⟨p3,hp1⟩:∃ p1,RW+T=p1:=⟨_,rfl⟩
      obtain ⟨RH,hRH⟩:∃ RH,RW+h=RH:=⟨_,rfl⟩
      obtain ⟨p4,hp2⟩:∃ p2,RH+T=p2:=⟨_,rfl⟩
      have HN2:Hid (I * W+T=p3∧I * W+h+T=p4):=Lib.hid ⟨by rw [hRW,hp1],by rw [hRW,hRH,hp2]⟩
      have e1:(I:Int) * (W:Int)=(RW:Int):=by rw [← hRW];simp
      have e2:IntKind.i64.wrap (RW:Int)=(RW:Int):=IntWalk.i64_in _ (by omega)
      have e3:(RW:Int)+(T:Int)=(p3:Int):=by omega
      have e4:IntKind.i64.wrap (p3:Int)=(p3:Int):=IntWalk.i64_in _ (by omega)
      have e5:(RW:Int)+(h:Int)=(RH:Int):=by omega
      have e6:IntKind.i64.wrap (RH:Int)=(RH:Int):=IntWalk.i64_in _ (by omega)
      have e7:(RH:Int)+(T:Int)=(p4:Int):=by omega
      have e8:IntKind.i64.wrap (p4:Int)=(p4:Int):=IntWalk.i64_in _ (by omega)
      have h1M:p3 < M:=by omega
      have h2M:p4 < M:=by omega
      have q1:(0:Int)≤(p3:Int)∧(p3:Int) < (M:Int):=by omega
      have q2:(0:Int)≤(p4:Int)∧(p4:Int) < (M:Int):=by omega
      have q3:(0:Int)≤(C:Int)∧(C:Int) < (a:Int):=by omega
      have hne12:p3 ≠ p4:=by omega
      obtain ⟨z1,c1⟩:∃ v,w6.cell? ⟨gb,p3,none⟩=some v:=⟨_,(hS.v.2 p3 h1M).1⟩
      obtain ⟨z2,c2⟩:∃ v,w6.cell? ⟨gb,p4,none⟩=some v:=⟨_,(hS.v.2 p4 h2M).1⟩
      have f1:=(hS.v.2 p3 h1M).2
      have f2:=(hS.v.2 p4 h2M).2
      have hmul:=fun W (h:FOk W fb)=>fmul_any (pw x a) (pw x C) fb W h
      unfold FPost at hmul
      obtain ⟨y,hy⟩:∃ y,(pw x C).n=y:=⟨_,rfl⟩
      obtain ⟨m,hm⟩:∃ m,(pw x a * pw x C).n=m:=⟨_,rfl⟩
      rw [HLN.out,hy,hm] at hmul
      rw [hy] at cv
      have HMUL:=Lib.hid hmul
      have HY:=Lib.hid hy
      have HMN:=Lib.hid hm
      have HH1:=Lib.hid (And.intro h1M h2M)
      obtain ⟨kp,hkp⟩:∃ kp:Nat→Bool,∀ k,kp k=true↔k < w6.heap.size∧k ≠ fb∧k ≠ gb:=⟨fun k=>decide (k < w6.heap.size∧k ≠ fb∧k ≠ gb),by simp⟩
      have k1:kp lb=true:=(hkp _).2 ⟨gl,hS.b.lt.2.1,by omega⟩
      have k2:kp sb=true:=(hkp _).2 ⟨gs,by omega,by omega⟩
      have k3:kp pb=true:=(hkp _).2 ⟨gp,hS.b.lt.2.2,by omega⟩
      have HKP:=Lib.hid hkp
      clear hS hmul hy hm hkp hRW hRWM hp1 hRH hp2 h1M h2M
      go_upto_region 12 with fail
      have hgr:=fun (w0 W:World) (p:Addr) (hp:(fun k=>kp k=true) p.block)=>graft_cell (w0:=w0) (keep:=(fun k=>kp k=true)) W hp
      refine wp_region_tree (fun k=>kp k=true) [31,33,35] (.sq [0,1,2,3,4,5,6,7,8,9,10,11,12,13,14,15,16,17,18,19,20,21,22,23,24,25,26,27,28,29,30,31,32,33,34,35] .done) (by kernel_rfl) (by kernel_rfl) ?_
      simp only [Tr.sq,List.foldr_cons,List.foldr_nil,slimTr,slimStep,Oper.slim,List.contains_cons,List.contains_nil,Option.map_none,Option.map_some,List.getElem?_toArray,List.getElem?_cons_zero,List.getElem?_cons_succ,Option.bind_some,beq_self_eq_true,Bool.or_false,Nat.reduceBEq,Nat.reduceAdd,Nat.zero_add]
      repeat' first | ((with_reducible refine wpSlimT_id ?_);first | (with_reducible refine wpSlimT_done ?_) | ((with_reducible refine wpSlimT_step (fun K hK=>?_));go_simp;first | (refine hK _ _ ?_;clear hK K) | (refine ⟨by (intro kk hkk;first | (simp (disch:=(simp;omega)) only [hp_drew,hp_drewN,hp_alloc,hp_set];done) | (simp [hp_drew,hp_drewN,hp_alloc_if,hkk];done) | (have hkk2:=(HKP.out kk).1 hkk;simp (disch:=(first | exact hkk2 | (simp;done) | (simp;omega) | (exact fun e=>hkk2.2.2 e))) only [hp_drew,hp_drewN,hp_alloc,hp_set];first | done | exact HK5.out.block kk hkk2.1 (by have:=hkk2.2.1;simpa using this))),hK _ _ ?_⟩;clear hK K) | (go_at_call 56;(with_reducible refine (HMUL.out _ (HS6.out.b.ok.below ((Below.refl _ _).drew))).mono ?_);rintro e w5 ⟨rfl,hk5,hf5⟩;have HK5:Hid (Kp [fb] w6 w5):=Lib.hid (((Kp.refl [fb] w6).drew).trans hk5);have HF5:=Lib.hid hf5;have hs5:=HK5.out.size;have c3:=(HK5.out.cell (p:=⟨gb,p3,none⟩) gg (by simp;omega)).trans c1;have f3:=(HK5.out.frozen (p:=⟨gb,p3,none⟩) gg (by simp;omega)).trans f1;have f4:=(HK5.out.frozen (p:=⟨gb,p4,none⟩) gg (by simp;omega)).trans f2;have c4:=(HK5.out.cell (p:=⟨gb,p4,none⟩) gg (by simp;omega)).trans c2;have c6:(w5.setCell ⟨gb,p3,none⟩ (.int .u8 (y:Nat))).cell? ⟨gb,p4,none⟩=some z2:=(World.cell?_setCell_other _ _ _ _ (fun e=>hne12 (congrArg Addr.off e))).trans c4;clear hk5 hf5;refine ⟨_,rfl,(fun kk hkk=>HK5.out.block kk ((HKP.out kk).1 hkk).1 (by have:=((HKP.out kk).1 hkk).2;simpa using this.1)),hK _ _ ?_⟩;clear hK K))) | fail
      clear hgr
      have hput:=((HS6.out.step HK5.out HF5.out).put HH1.out.1 (pw x C)).put HH1.out.2 (pw x a * pw x C)
      rw [HY.out,HMN.out] at hput
      obtain ⟨w7,hwB⟩:∃ w6,w6=(w5.setCell ⟨gb,p3,none⟩ (.int .u8 (y:Nat))).setCell ⟨gb,p4,none⟩ (.int .u8 (m:Nat)):=⟨_,rfl⟩
      rw [← hwB] at hput ⊢
      have HS7:=Lib.hid hput
      clear hput hwB HK5 HF5 HMUL HY HMN HH1 HKP k1 k2 k3 c1 c2 c3 c4 c6 f1 f2 f3 f4 cv e1 e2 e3 e4 e5 e6 e7 e8 q1 q2 q3 hne12 ys1 ys2 yb0 gs gg gl gp g1 g2 g3 g4 g5 g6 hs5
      have HS8:Hid (MsSt lb fb pb a N gb sb M W (.slice (some ⟨bl,ol,none⟩) N cl) w (flat W (stW a (fun i=>pw x i) (pw x a) (T+1))) w7):=Lib.hid (HS7.out.congr fun j hj=>by
       have:=stW_step (f:=fun i=>pw x i) (l:=pw x a) HHF.out HWW.out hIC hltc (j:=j) (by rw [HM.out];exact hj)
       rw [HTS.out] at this
       rw [HN1.out.1,HN1.out.2,HN2.out.1,HN2.out.2] at this
       exact this)
      have HT8:Hid (tri a I+(C+1 - I)=T+1):=Lib.hid (by have:=HT.out;omega)
      clear HS HS6 HS7 HT HN1 HN2 HTS y5 y6
      go_wp2
      go_roundg (a - (C+1))
      case measure=>omega
      case rel=>exact ⟨C+1,T+1,by omega,hltc,rfl,by go_num,by go_num,HT8,HS8⟩
     ·have HT9:Hid (tri a (I+1)=T):=Lib.hid (by rw [tri_succ];have:=HT.out;omega)
      clear HT
      go_wp2
      go_roundg (a - (I+1))
      case measure=>omega
      case rel=>exact ⟨I+1,T,hlt,rfl,rfl,by go_num,HT9,HS⟩
   ·obtain rfl:I=a:=by omega
    have hTh:T=h:=by rw [← HT.out,← HHF.out];rfl
    have HE:Hid (MsSt lb fb pb I N gb sb M W (.slice (some ⟨bl,ol,none⟩) N cl) w (flat W (stM I (fun i=>pw x i) (pw x I))) wr):=Lib.hid (HS.out.congr fun j hj=>by
     obtain ⟨r,c,hr,hc,rfl⟩:=off_ex (R:=I) (C:=W) hW0 (by rw [HM.out];exact hj)
     rw [flat_at hW0 _ _ _ hc,flat_at hW0 _ _ _ hc,hTh,← HHF.out,stW_full _ _ (by rw [HHF.out,HWW.out];exact hc)])
    clear HS HT hTh
    have s0:=cell_of_heap HE.out.s (j:=0) rfl
    have s1:=cell_of_heap HE.out.s (j:=1) rfl
    have s2:=cell_of_heap HE.out.s (j:=2) rfl
    have r0:=cell_of_heap HE.out.r (j:=0) rfl
    have r1:=cell_of_heap HE.out.r (j:=1) rfl
    have r2:=cell_of_heap HE.out.r (j:=2) rfl
    have z0:=free_of_heap HE.out.r 0
    have z1:=free_of_heap HE.out.r 1
    have z2:=free_of_heap HE.out.r 2
    have gr:=lt_of_heap HE.out.r
    go_wp2
    obtain ⟨g1,g2,g3,g4,g5,g6⟩:=HE.out.lt
    have hk:Kp [w.heap.size] wr (((wr.setCell ⟨w.heap.size,0,none⟩ (.int .i64 I)).setCell ⟨w.heap.size,1,none⟩ (.int .i64 W)).setCell ⟨w.heap.size,2,none⟩ (.slice (some ⟨gb,0,none⟩) M M)):=kp_set3 _ _ _ _ _
    have h6:(((wr.setCell ⟨w.heap.size,0,none⟩ (.int .i64 I)).setCell ⟨w.heap.size,1,none⟩ (.int .i64 W)).setCell ⟨w.heap.size,2,none⟩ (.slice (some ⟨gb,0,none⟩) M M)).heap[w.heap.size]? = some (.cells #[.int .i64 I,.int .i64 W,.slice (some ⟨gb,0,none⟩) M M] 76 (0,0)):=set3 HE.out.r
    have c0:=cell_of_heap h6 (j:=0) (v:=.int .i64 I) rfl
    have c1:=cell_of_heap h6 (j:=1) (v:=.int .i64 W) rfl
    have c2:=cell_of_heap h6 (j:=2) (v:=.slice (some ⟨gb,0,none⟩) M M) rfl
    refine bodyPost_ret (v:=.agg #[.int .i64 I,.int .i64 W,.slice (some ⟨gb,0,none⟩) M M]) ?_ rfl ⟨gb,by rw [HHF.out,HWW.out,HM.out],by omega,?_,HE.out.kp.step hk (fun x hx=>by simp at hx;exact .inr (by omega)),HE.out.b.ok.kp hk (by simp;omega)⟩
    ·simp [results,Tryz.results31,go_sem,c0,c1,c2]
    ·rw [HHF.out,HWW.out,HM.out,HX.out]
     exact HE.out.v.kp hk (by simp;omega)
end Go.Proofs.YtnjbkfeihbcalaaGreat
