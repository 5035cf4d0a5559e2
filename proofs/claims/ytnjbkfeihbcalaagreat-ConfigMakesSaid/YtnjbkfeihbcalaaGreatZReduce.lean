/-
  The program's reduced form.
-/
import Derived.Test.YtnjbkfeihbcalaaGreatZMat
import Derived.Test.YtnjbkfeihbcalaaGreatZLins
import Derived.Deep.CutBlock
import Derived.Deep.DeepCutAuto
/- The program's reduced form. -/
namespace Go.Proofs.YtnjbkfeihbcalaaGreat
open Go.RowKit Fld
set_option linter.unusedVariables false
set_option linter.unusedSimpArgs false
attribute [local go_sem] Oper.semAt_some

def RedPost (fb ba bb R C D:Nat) (MA MB:Nat→Nat→GF) (w:World) (e:Ending) (w':World):Prop :=
 ∃ (a c:Nat) (p:Nat→Nat) (NA NB:Nat→Nat→GF),e=.returned (.int .i64 (a:Nat))∧Kp [fb,ba,bb] w w'∧FOk w' fb∧View w' ba (R * C) (flat C NA)∧View w' bb (R * D) (flat D NB) ∧
  Ech R c a NA p∧c≤C∧a≤R∧(c=C ∨ a=R)∧∀ x z,MetS R C D NA NB x z↔MetS R C D MA MB x z
structure RedB (fb ba bb R C D capA capB:Nat) (w:World) (b8 c a:Nat) (Ds:List Nat) (wr:World):Prop where
 ok:FOk wr fb
 kp:Kp [fb,ba,bb] w wr
 x3:wr.heap[w.heap.size]? = some (.cells #[.pointer (some ⟨fb,0,none⟩)] 30 (0,0))
 x4:MBox wr (w.heap.size+1) R C ba (R * C) capA
 x5:MBox wr (w.heap.size+1+1) R D bb (R * D) capB
 x7:wr.heap[w.heap.size+1+1+1]? = some (.cells #[.int .i64 (a:Nat)] 3 (0,0))
 x8:wr.heap[b8]? = some (.cells #[.int .i64 (c:Nat)] 3 (0,0))
 b8:w.heap.size+4≤b8
 lt:fb < w.heap.size∧ba < w.heap.size∧bb < w.heap.size
 mks:Marks w.heap.size wr Ds
structure RedI (fb ba bb R C D capA capB:Nat) (MA MB:Nat→Nat→GF) (w:World) (b8 c a:Nat) (Ds:List Nat) (NA NB:Nat→Nat→GF) (p:Nat→Nat) (wr:World):Prop extends RedB fb ba bb R C D capA capB w b8 c a Ds wr where
 va:View wr ba (R * C) (flat C NA)
 vb:View wr bb (R * D) (flat D NB)
 ech:Ech R c a NA p
 cC:c≤C
 met:∀ x z,MetS R C D NA NB x z↔MetS R C D MA MB x z
theorem RedB.step {fb ba bb R C D capA capB:Nat} {w:World} {b8 c a:Nat} {Ds:List Nat} {wr w':World} (h:RedB fb ba bb R C D capA capB w b8 c a Ds wr) (hk:Kp [fb,ba,bb] wr w') (hf:FOk w' fb):RedB fb ba bb R C D capA capB w b8 c a Ds w':=by
 obtain ⟨l1,l2,l3⟩:=h.lt
 have hn:∀ k,w.heap.size≤k→k ∉ [fb,ba,bb]:=fun k hk=>by simp;omega
 have h8:=h.b8
 exact ⟨hf,h.kp.trans hk,hk.heap h.x3 (hn _ (Nat.le_refl _)),h.x4.kp hk (hn _ (by omega)),h.x5.kp hk (hn _ (by omega)),hk.heap h.x7 (hn _ (by omega)),hk.heap h.x8 (hn _ (by omega)),h.b8,h.lt,h.mks.kp hk (by simp;omega)⟩
theorem addTo_flat {C R:Nat} (hC:0 < C) (M:Nat→Nat→GF) (i a:Nat) (t:GF) {j:Nat} (hj:j < R * C) :
  addTo (i * C) C (fun k=>flat C M (a * C+k)) t (flat C M) j=flat C (fun r k=>if r=i then M i k+M a k * t else M r k) j:=by
 obtain ⟨r,k,hr,hk,rfl⟩:=off_ex hC hj
 rw [flat_at hC _ _ _ hk]
 unfold addTo
 by_cases e:r=i
 ·rw [if_pos ((off_in hk).2 e),if_pos e,flat_at hC _ _ _ hk,show r * C+k - i * C=k by rw [e];omega,e]
  dsimp only
  rw [flat_at hC _ _ _ hk]
 ·rw [if_neg (fun h=>e ((off_in hk).1 h)),if_neg e,flat_at hC _ _ _ hk]
theorem RedB.other {fb ba bb R C D capA capB:Nat} {w:World} {b8 c a B:Nat} {Ds r:List Nat} {wr w':World} (h:RedB fb ba bb R C D capA capB w b8 c a Ds wr) (hk:Kp r wr w') (hr:∀ x ∈ r,B≤x) (h8:b8 < B) (hn:w.heap.size+1+1+1 < B) (hD:∀ D ∈ Ds,D < B):RedB fb ba bb R C D capA capB w b8 c a Ds w':=by
 obtain ⟨l1,l2,l3⟩:=h.lt
 have hx:∀ k,k < B→k ∉ r:=fun k hk hm=>by have:=hr k hm;omega
 exact ⟨h.ok.kp hk (hx _ (by omega)),h.kp.step hk (fun x hx=>.inr (by have:=hr x hx;omega)),hk.heap h.x3 (hx _ (by omega)),h.x4.kp hk (hx _ (by omega)),h.x5.kp hk (hx _ (by omega)),hk.heap h.x7 (hx _ (by omega)),hk.heap h.x8 (hx _ h8),h.b8,h.lt,h.mks.kpn hk (fun x hx hm=>by have:=hr x hx;have:=hD x hm;omega)⟩
theorem RedB.next {fb ba bb R C D capA capB:Nat} {w:World} {b8 c a:Nat} {Ds:List Nat} {wr:World} (h:RedB fb ba bb R C D capA capB w b8 c a Ds wr) {D0:Nat} (hd:wr.heap[D0]? = some (.deferred (some []))) (hD:w.heap.size≤D0) (hn:D0 ∉ Ds) (v:Value) (o:Obj) (hv:v=.int .i64 ((a+1:Nat):Int)) (ho:o=.cells #[.int .i64 ((c+1:Nat):Int)] 3 (0,0)) :
  RedB fb ba bb R C D capA capB w wr.heap.size (c+1) (a+1) (D0 :: Ds) ((wr.setCell ⟨w.heap.size+1+1+1,0,none⟩ v).alloc o)∧Kp [w.heap.size+1+1+1] wr ((wr.setCell ⟨w.heap.size+1+1+1,0,none⟩ v).alloc o):=by
 subst ho hv
 have hk:Kp [w.heap.size+1+1+1] wr ((wr.setCell ⟨w.heap.size+1+1+1,0,none⟩ (.int .i64 ((a+1:Nat):Int))).alloc (.cells #[.int .i64 ((c+1:Nat):Int)] 3 (0,0))):=((Kp.refl _ _).setCell (.inl (by simp)) _).alloc _
 obtain ⟨l1,l2,l3⟩:=h.lt
 have h8:=h.b8
 have l8:=lt_of_heap h.x8
 have hmk:=(h.mks.cons hD hd hn).kpn hk (fun x hx hm=>(h.mks.cons hD hd hn).not_cells h.x7 (by simpa [← List.mem_singleton.1 hx] using hm))
 refine ⟨⟨h.ok.kp hk (by simp;omega),h.kp.step hk (fun x hx=>.inr (by simp at hx;omega)),hk.heap h.x3 (by simp <;> omega),h.x4.kp hk (by simp <;> omega),h.x5.kp hk (by simp <;> omega),?_,?_,by omega,h.lt,hmk⟩,hk⟩
 ·have:=heap_set_same h.x7 0 (.int .i64 ((a+1:Nat):Int))
  exact keepA (by simpa using this) _
 ·have:=heap_newA (wr.setCell ⟨w.heap.size+1+1+1,0,none⟩ (.int .i64 ((a+1:Nat):Int))) (.cells #[.int .i64 ((c+1:Nat):Int)] 3 (0,0))
  simpa [World.setCell] using this
theorem heap_newE (w:World) (o:Obj) (k:Nat) (h:k=w.heap.size):(w.alloc o).heap[k]? = some o:=by subst h;exact heap_newA w o
def redFr (fb ba bb R C D capA capB n0 b8:Nat) (u:Nat→Value):Array Value:=#[.pointer (some ⟨fb,0,none⟩),.agg #[.int .i64 R,.int .i64 C,.slice (some ⟨ba,0,none⟩) (R * C) capA],.agg #[.int .i64 R,.int .i64 D,.slice (some ⟨bb,0,none⟩) (R * D) capB],.pointer (some ⟨n0,0,none⟩),.pointer (some ⟨n0+1,0,none⟩),.pointer (some ⟨n0+1+1,0,none⟩),.int .i64 0,.pointer (some ⟨n0+1+1+1,0,none⟩),.pointer (some ⟨b8,0,none⟩),u 9,u 10,u 11,u 12,u 13,u 14,u 15,u 16,u 17,u 18,u 19,u 20,u 21,u 22,u 23,u 24,u 25,u 26,u 27,u 28,u 29,u 30,u 31,u 32,u 33,u 34,u 35,u 36,u 37,u 38,u 39,u 40,u 41,u 42,u 43,u 44,u 45,u 46,u 47,u 48,u 49,u 50,u 51,u 52,u 53,u 54,u 55,u 56,u 57,u 58,u 59,u 60,u 61,u 62,u 63,u 64,u 65,u 66,u 67,u 68,u 69,u 70,u 71,u 72,u 73,u 74,u 75,u 76,u 77,u 78,u 79,u 80,u 81,u 82,u 83,u 84,u 85,u 86,u 87,u 88,u 89,u 90,u 91,u 92,u 93,u 94,u 95,u 96,u 97,u 98,u 99,u 100,u 101,u 102,u 103,u 104,u 105,u 106,u 107,u 108,u 109,u 110,u 111,u 112,u 113,u 114,u 115,u 116,u 117,u 118,u 119,u 120,u 121,u 122,u 123,u 124,u 125,u 126,u 127,u 128,u 129,u 130,u 131,u 132,u 133,u 134,u 135,u 136,u 137,u 138,u 139,u 140,u 141,u 142,u 143,u 144,u 145]
def RedR (fb ba bb R C D capA capB:Nat) (MA MB:Nat→Nat→GF) (w:World) (n:Nat) (act:Act) (wr:World):Prop :=
 ∃ (c a b8:Nat) (Ds:List Nat) (NA NB:Nat→Nat→GF) (p:Nat→Nat) (u:Nat→Value),act={ tmps:=redFr fb ba bb R C D capA capB w.heap.size b8 u,defers:=Ds.map mark }∧n=C - c∧RedI fb ba bb R C D capA capB MA MB w b8 c a Ds NA NB p wr
theorem RedR.intro {fb ba bb R C D capA capB:Nat} {MA MB:Nat→Nat→GF} {w:World} {n:Nat} {wr:World} {Ds:List Nat} {T:Array Value} (c a b8:Nat) {NA NB:Nat→Nat→GF} {p:Nat→Nat} (hT:T=redFr fb ba bb R C D capA capB w.heap.size b8 (fun i=>T.getD i undef)) (hn:n=C - c)
  (h:RedI fb ba bb R C D capA capB MA MB w b8 c a Ds NA NB p wr):RedR fb ba bb R C D capA capB MA MB w n { tmps:=T,defers:=Ds.map mark } wr:=⟨c,a,b8,Ds,NA,NB,p,fun i=>T.getD i undef,by rw [← hT],hn,h⟩
theorem RedI.below {fb ba bb R C D capA capB:Nat} {MA MB:Nat→Nat→GF} {w:World} {b8 c a:Nat} {Ds:List Nat} {NA NB:Nat→Nat→GF} {p:Nat→Nat} {wr w':World} (h:RedI fb ba bb R C D capA capB MA MB w b8 c a Ds NA NB p wr) (hb:Below wr.heap.size wr w'):RedI fb ba bb R C D capA capB MA MB w b8 c a Ds NA NB p w' :=
 ⟨h.toRedB.step (Kp.of_below hb) (h.ok.below hb),h.va.below hb,h.vb.below hb,h.ech,h.cC,h.met⟩
theorem RedI.next {fb ba bb R C D capA capB:Nat} {MA MB:Nat→Nat→GF} {w:World} {b8 c a:Nat} {Ds:List Nat} {NA NB:Nat→Nat→GF} {p:Nat→Nat} {wr:World} (h:RedI fb ba bb R C D capA capB MA MB w b8 c a Ds NA NB p wr) (o:Obj) (ho:o=.cells #[.int .i64 ((c+1:Nat):Int)] 3 (0,0))
  (hc:c < C) (he:Ech R (c+1) a NA p):RedI fb ba bb R C D capA capB MA MB w wr.heap.size (c+1) a Ds NA NB p (wr.alloc o):=by
 subst ho
 have hb:=(Below.refl wr.heap.size wr).alloc (Nat.le_refl _) (.cells #[.int .i64 ((c+1:Nat):Int)] 3 (0,0))
 have h':=h.below hb
 exact ⟨⟨h'.ok,h'.kp,h'.x3,h'.x4,h'.x5,h'.x7,heap_newA _ _,by have:=lt_of_heap h.x8;have:=h.b8;omega,h'.lt,h'.mks⟩,h'.va,h'.vb,he,hc,h'.met⟩
set_option maxRecDepth 100000 in
set_option maxHeartbeats 4000000 in
theorem reduce_any (fb ba bb R C D capA capB:Nat) (MA MB:Nat→Nat→GF) (w:World) (hF:FOk w fb) (hA:View w ba (R * C) (flat C MA)) (hB:View w bb (R * D) (flat D MB))
  (h1:fb ≠ ba) (h2:fb ≠ bb) (h3:ba ≠ bb) (hR:0 < R) (hC:0 < C) (hD:0 < D) (hRC:R * C≤capA) (hRD:R * D≤capB) (hR2:R≤1000000) (hC2:C≤1000000) (hD2:D≤1000000) :
  Calls Tryz.prog 72 #[.pointer (some ⟨fb,0,none⟩),.agg #[.int .i64 R,.int .i64 C,.slice (some ⟨ba,0,none⟩) (R * C) capA],.agg #[.int .i64 R,.int .i64 D,.slice (some ⟨bb,0,none⟩) (R * D) capB]] w (RedPost fb ba bb R C D MA MB w):=by
 have HF:=Lib.hid hF
 have HA:=Lib.hid hA
 have HB:=Lib.hid hB
 clear hF hA hB
 refine calls_of_marks Tryz.func72 rfl ?_
 simp only [Tryz.ntmps72,List.size_toArray,List.length_cons,List.length_nil,Nat.reduceAdd,Nat.reduceSub,Array.replicate_succ,Array.replicate_zero,List.push_toArray,List.append_toArray,List.nil_append,List.cons_append]
 go_upto_region 3 with fail
 refine wp_loop_ghost_k (RedR fb ba bb R C D capA capB MA MB w) C ?start ?round
 case start =>
  refine ⟨0,0,w.heap.size+1+1+1+1,[],MA,MB,fun _=>0,fun _=>undef,rfl,rfl,?_⟩
  have hb:Below w.heap.size w (((((w.alloc (.cells #[.pointer (some ⟨fb,0,none⟩)] 30)).alloc (.cells #[.int .i64 R,.int .i64 C,.slice (some ⟨ba,0,none⟩) (R * C) capA] 76)).alloc (.cells #[.int .i64 R,.int .i64 D,.slice (some ⟨bb,0,none⟩) (R * D) capB] 76)).alloc (.cells #[.int .i64 0] 3)).alloc (.cells #[.int .i64 0] 3)) :=
   (((((Below.refl _ _).alloc (Nat.le_refl _) _).alloc (by simp) _).alloc (by simp;omega) _).alloc (by simp;omega) _).alloc (by simp;omega) _
  refine ⟨⟨HF.out.below hb,Kp.of_below hb,?_,?_,?_,?_,?_,by omega,⟨HF.out.lt,HA.out.1,HB.out.1⟩,Marks.nil _ _⟩,HA.out.below hb,HB.out.below hb,Ech.zero _ _,Nat.zero_le _,fun x z=>Iff.rfl⟩
  all_goals
   first | (unfold MBox) | skip
   (repeat (refine Eq.trans (hp_alloc _ _ _ ?_) ?_;(· first | (simp;done) | (simp;omega))))
   exact heap_newE _ _ _ (by simp)
 case round =>
  rintro n act w1 ⟨c,a,b8,Ds,NA,NB,p,u,rfl,rfl,hI⟩ J K hJ hK
  have HI:=Lib.hid hI
  clear hI HF HA HB
  unfold redFr
  let TOK:Exit→Act→World→Prop:=bodyPost Tryz.prog Tryz.f72 (fun _ _=>True)
  have HOV:Hid ((∀ i,i < R→(i+1) * C≤4611686018427387904)∧∀ i,i < R→(i+1) * D≤4611686018427387904):=Lib.hid ⟨fun i hi=>Nat.le_trans (Nat.mul_le_mul (show i+1≤1000000 by omega) hC2) (by omega),fun i hi=>Nat.le_trans (Nat.mul_le_mul (show i+1≤1000000 by omega) hD2) (by omega)⟩
  have hcC:=HI.out.cC
  have haR:=HI.out.ech.aR
  have y3:=cell_of_heap HI.out.x3 (j:=0) rfl
  obtain ⟨y40,y41,y42⟩:=HI.out.x4.cells
  obtain ⟨y50,y51,y52⟩:=HI.out.x5.cells
  have y7:=cell_of_heap HI.out.x7 (j:=0) rfl
  have y8:=cell_of_heap HI.out.x8 (j:=0) rfl
  by_cases hlt:c < C∧a < R
  ·obtain ⟨hc,ha⟩:=hlt
   go_upto_block 2 with fail
   go_cut [9] (fun s wx=>∃ F:Nat,s=.int .i64 (F:Nat)∧a≤F∧F≤R∧Hid (∀ i,a≤i→i < F→NA i c=0)∧Hid (F < R→NA F c ≠ 0)∧Hid (Below w1.heap.size w1 wx))
   case first =>
    go_upto_region 6 with fail
    go_loopg [9] (R - a) (fun gk s wx=>∃ F:Nat,gk=R - F∧s=.int .i64 (F:Nat)∧a≤F∧F≤R∧Hid (∀ i,a≤i→i < F→NA i c=0)∧Hid (Below w1.heap.size w1 wx))
    case atStart=>exact ⟨a,rfl,rfl,Nat.le_refl _,by omega,Lib.hid (fun i h1 h2=>by omega),Lib.hid (Below.refl _ _)⟩
    case round =>
     obtain ⟨F,rfl,rfl,hF1,hF2,hFz,hFb⟩:=hrel
     obtain ⟨z40,z41,z42⟩:=(HI.out.x4.below hFb.out).cells
     have z8:=cell_of_heap (keepB hFb.out HI.out.x8) (j:=0) rfl
     have hl1:=(HI.out.x4.below hFb.out).lt
     have hl2:=lt_of_heap (keepB hFb.out HI.out.x8)
     have hl3:=(HI.out.va.below hFb.out).1
     by_cases hFR:F < R
     ·have hrl:=rows_le hRC hFR
      have HROW:Hid (∀ W',Calls Tryz.prog 70 #[.agg #[.int .i64 R,.int .i64 C,.slice (some ⟨ba,0,none⟩) (R * C) capA],.int .i64 F] W' fun e w'=>e=.returned (.slice (some ⟨ba,F * C,none⟩) C C)∧Below W'.heap.size W' w'):=Lib.hid (fun W'=>(row_any R C F ba 0 (R * C) capA W' hC hrl (HOV.out.1 F hFR)).mono fun e w' h=>by simpa using h)
      have ce:=((HI.out.va.below hFb.out).2 (F * C+c) (off_lt hFR hc)).1
      rw [flat_at hC _ _ _ hc] at ce
      have hq:(0:Int)≤(c:Int)∧(c:Int) < (C:Int):=by omega
      clear hrl
      by_cases hz:NA F c=0
      ·have hzb:(((NA F c).n:Int) == 0)=true:=by rw [hz];rfl
       obtain ⟨e,he⟩:∃ e,(NA F c).n=e:=⟨_,rfl⟩
       rw [he] at hzb ce
       have HZ:=Lib.hid hz
       clear he hz
       go_upto_region 6 with fail
       have hgr:=fun (w0 W:World) (p:Addr) (hp:(fun k=>k < wr.heap.size) p.block)=>graft_cell (w0:=w0) (keep:=(fun k=>k < wr.heap.size)) W hp
       refine wp_region_tree (fun k=>k < wr.heap.size) [7] (.sq [0,1,2,3,4,5,6,8,7,9,10,11,12] .done) (by kernel_rfl) (by kernel_rfl) ?_
       simp only [Tr.sq,List.foldr_cons,List.foldr_nil,slimTr,slimStep,Oper.slim,List.contains_cons,List.contains_nil,Option.map_none,Option.map_some,List.getElem?_toArray,List.getElem?_cons_zero,List.getElem?_cons_succ,Option.bind_some,beq_self_eq_true,Bool.or_false,Nat.reduceBEq,Nat.reduceAdd,Nat.zero_add]
       repeat' first | ((with_reducible refine wpSlimT_id ?_);first | (with_reducible refine wpSlimT_done ?_) | ((with_reducible refine wpSlimT_step (fun K hK=>?_));go_simp;first | (refine hK _ _ ?_;clear hK K) | (refine ⟨by (intro kk hkk;first | (simp (disch:=(simp;omega)) only [hp_drew,hp_drewN,hp_alloc,hp_set];done) | (simp [hp_drew,hp_drewN,hp_alloc_if,hkk];done) | (have hkk2:=(HKP.out kk).1 hkk;simp (disch:=(first | exact hkk2 | (simp;done) | (simp;omega))) only [hp_drew,hp_drewN,hp_alloc,hp_set];done)),hK _ _ ?_⟩;clear hK K) | (go_at_call 70;(with_reducible refine (HROW.out _).mono ?_);rintro e w5 ⟨rfl,hb5⟩;refine ⟨_,rfl,(fun kk hkk=>hb5.block kk (by simpa using hkk)),hK _ _ ?_⟩;clear hK K))) | fail
       clear hgr
       have HB5:=Lib.hid (hFb.out.trans ((((Below.refl _ _).drew).trans hb5).mono hFb.out.size))
       clear hb5
       go_wp2
       go_roundg (R - (F+1))
       case measure=>omega
       case rel=>exact ⟨F+1,rfl,by go_num,by omega,by omega,Lib.hid (fun i h1 h2=>by
        by_cases e:i=F
        ·rw [e];exact HZ.out
        ·exact hFz.out i h1 (by omega)),HB5⟩
      ·have hzb:(((NA F c).n:Int) == 0)=false:=by have:=GF.ne0.1 hz;simpa using this
       obtain ⟨e,he⟩:∃ e,(NA F c).n=e:=⟨_,rfl⟩
       rw [he] at hzb ce
       have HZ:=Lib.hid hz
       clear he hz
       go_upto_region 6 with fail
       have hgr:=fun (w0 W:World) (p:Addr) (hp:(fun k=>k < wr.heap.size) p.block)=>graft_cell (w0:=w0) (keep:=(fun k=>k < wr.heap.size)) W hp
       refine wp_region_tree (fun k=>k < wr.heap.size) [7] (.sq [0,1,2,3,4,5,6,8,7,9,10,11,12] .done) (by kernel_rfl) (by kernel_rfl) ?_
       simp only [Tr.sq,List.foldr_cons,List.foldr_nil,slimTr,slimStep,Oper.slim,List.contains_cons,List.contains_nil,Option.map_none,Option.map_some,List.getElem?_toArray,List.getElem?_cons_zero,List.getElem?_cons_succ,Option.bind_some,beq_self_eq_true,Bool.or_false,Nat.reduceBEq,Nat.reduceAdd,Nat.zero_add]
       repeat' first | ((with_reducible refine wpSlimT_id ?_);first | (with_reducible refine wpSlimT_done ?_) | ((with_reducible refine wpSlimT_step (fun K hK=>?_));go_simp;first | (refine hK _ _ ?_;clear hK K) | (refine ⟨by (intro kk hkk;first | (simp (disch:=(simp;omega)) only [hp_drew,hp_drewN,hp_alloc,hp_set];done) | (simp [hp_drew,hp_drewN,hp_alloc_if,hkk];done) | (have hkk2:=(HKP.out kk).1 hkk;simp (disch:=(first | exact hkk2 | (simp;done) | (simp;omega))) only [hp_drew,hp_drewN,hp_alloc,hp_set];done)),hK _ _ ?_⟩;clear hK K) | (go_at_call 70;(with_reducible refine (HROW.out _).mono ?_);rintro e w5 ⟨rfl,hb5⟩;refine ⟨_,rfl,(fun kk hkk=>hb5.block kk (by simpa using hkk)),hK _ _ ?_⟩;clear hK K))) | fail
       clear hgr
       have HB5:=Lib.hid (hFb.out.trans ((((Below.refl _ _).drew).trans hb5).mono hFb.out.size))
       clear hb5
       go_wp2
       go_meet
       exact ⟨F,rfl,hF1,hF2,hFz,Lib.hid (fun _=>HZ.out),HB5⟩
     ·obtain rfl:F=R:=by omega
      go_upto_region 6 with fail
      have hgr:=fun (w0 W:World) (p:Addr) (hp:(fun k=>k < wr.heap.size) p.block)=>graft_cell (w0:=w0) (keep:=(fun k=>k < wr.heap.size)) W hp
      refine wp_region_tree (fun k=>k < wr.heap.size) [7] (.sq [0,1,2,3,4,5,6,8,7,9,10,11,12] .done) (by kernel_rfl) (by kernel_rfl) ?_
      simp only [Tr.sq,List.foldr_cons,List.foldr_nil,slimTr,slimStep,Oper.slim,List.contains_cons,List.contains_nil,Option.map_none,Option.map_some,List.getElem?_toArray,List.getElem?_cons_zero,List.getElem?_cons_succ,Option.bind_some,beq_self_eq_true,Bool.or_false,Nat.reduceBEq,Nat.reduceAdd,Nat.zero_add]
      repeat' first | ((with_reducible refine wpSlimT_id ?_);first | (with_reducible refine wpSlimT_done ?_) | ((with_reducible refine wpSlimT_step (fun K hK=>?_));go_simp;first | (refine hK _ _ ?_;clear hK K) | (refine ⟨by (intro kk hkk;first | (simp (disch:=(simp;omega)) only [hp_drew,hp_drewN,hp_alloc,hp_set];done) | (simp [hp_drew,hp_drewN,hp_alloc_if,hkk];done) | (have hkk2:=(HKP.out kk).1 hkk;simp (disch:=(first | exact hkk2 | (simp;done) | (simp;omega))) only [hp_drew,hp_drewN,hp_alloc,hp_set];done)),hK _ _ ?_⟩;clear hK K))) | fail
      clear hgr
      go_wp2
      go_meet
      exact ⟨F,rfl,hF1,hF2,hFz,Lib.hid (fun h=>by omega),Lib.hid hFb.out.drew⟩
   case rest =>
    obtain ⟨F,rfl,hF1,hF2,hFz,hFn,hFb⟩:=hcut
    have HI2:=Lib.hid (HI.out.below hFb.out)
    obtain ⟨w2,hw2⟩:∃ w2:World,w2=wc:=⟨_,rfl⟩
    rw [← hw2] at HI2 ⊢
    clear hw2 y3 y40 y41 y42 y50 y51 y52 y7 y8 HI hFb
    have y3:=cell_of_heap HI2.out.x3 (j:=0) rfl
    obtain ⟨y40,y41,y42⟩:=HI2.out.x4.cells
    obtain ⟨y50,y51,y52⟩:=HI2.out.x5.cells
    have y7:=cell_of_heap HI2.out.x7 (j:=0) rfl
    have y8:=cell_of_heap HI2.out.x8 (j:=0) rfl
    by_cases hFR:F=R
    ·have hb1:((F:Int) == (R:Int))=true:=by rw [hFR];simp
     have HFR:=Lib.hid hFR
     clear hFR
     go_wp2
     refine Handed.intro (C - (c+1)) (by omega) (hJ _ _ _ (RedR.intro (c+1) a w2.heap.size (NA:=NA) (NB:=NB) (p:=p) (by kernel_rfl) rfl ?_))
     exact HI2.out.next _ (by simp) hc (HI2.out.ech.skip fun i h1 h2=>hFz.out i h1 (by rw [HFR.out];exact h2))
    ·have hb1:((F:Int) == (R:Int))=false:=by simpa using fun e:(F:Int)=(R:Int)=>hFR (by omega)
     have hF3:F < R:=by omega
     have HNE:Hid (NA F c ≠ 0):=Lib.hid (hFn.out hF3)
     have hrl:=rows_le hRC hF3
     have HROW:Hid (∀ W',Calls Tryz.prog 70 #[.agg #[.int .i64 R,.int .i64 C,.slice (some ⟨ba,0,none⟩) (R * C) capA],.int .i64 F] W' fun e w'=>e=.returned (.slice (some ⟨ba,F * C,none⟩) C C)∧Below W'.heap.size W' w'):=Lib.hid (fun W'=>(row_any R C F ba 0 (R * C) capA W' hC hrl (HOV.out.1 F hF3)).mono fun e w' h=>by simpa using h)
     have ce:=(HI2.out.va.2 (F * C+c) (off_lt hF3 hc)).1
     rw [flat_at hC _ _ _ hc] at ce
     have hq:(0:Int)≤(c:Int)∧(c:Int) < (C:Int):=by omega
     have HINV:Hid (∀ W,FOk W fb→Calls Tryz.prog 100 #[.pointer (some ⟨fb,0,none⟩),.int .u8 ((NA F c).n:Nat)] W (DPost fb (Fld.inv (NA F c)) (decide (NA F c ≠ 0)) W)):=Lib.hid (fun W hW=>finv_any _ _ _ hW)
     obtain ⟨v,hv⟩:∃ v,Fld.inv (NA F c)=v:=⟨_,rfl⟩
     obtain ⟨e0,he⟩:∃ e,(NA F c).n=e:=⟨_,rfl⟩
     obtain ⟨bo,hbo⟩:∃ bo,decide (NA F c ≠ 0)=bo:=⟨_,rfl⟩
     obtain ⟨vn,hvn⟩:∃ vn,v.n=vn:=⟨_,rfl⟩
     unfold DPost at HINV
     rw [hv,he,hbo,hvn] at HINV
     rw [he] at ce
     have HV0:=Lib.hid hv
     have HVN:=Lib.hid hvn
     clear hrl hv he hbo hvn hFR
     have hl1:=HI2.out.x4.lt
     have hl3:=HI2.out.va.1
     have hl0:=HI2.out.ok.lt
     obtain ⟨l1,l2,l3⟩:=HI2.out.lt
     have hl8:=lt_of_heap HI2.out.x8
     have hl88:=HI2.out.b8
     go_upto_region 9 with fail
     go_cut [10] (fun s wx=>s=.int .u8 (vn:Nat)∧Hid (Kp [fb] w2 wx)∧Hid (FOk wx fb))
     case first =>
      obtain ⟨kp,hkp⟩:∃ kp:Nat→Bool,∀ k,kp k=true↔k < w2.heap.size∧k ≠ fb:=⟨fun k=>decide (k < w2.heap.size∧k ≠ fb),by simp⟩
      have k1:kp ba=true:=(hkp _).2 ⟨hl3,by omega⟩
      have k2:kp w.heap.size=true:=(hkp _).2 ⟨by omega,by omega⟩
      have k3:kp (w.heap.size+1)=true:=(hkp _).2 ⟨by omega,by omega⟩
      have k4:kp b8=true:=(hkp _).2 ⟨by omega,by omega⟩
      have HKP:=Lib.hid hkp
      clear hkp
      go_upto_region 9 with fail
      have hgr:=fun (w0 W:World) (p:Addr) (hp:(fun k=>kp k=true) p.block)=>graft_cell (w0:=w0) (keep:=(fun k=>kp k=true)) W hp
      refine wp_region_tree (fun k=>kp k=true) [3,7] (.sq [0,1,2,4,3,5,6,7,8,9,10,11,12] .done) (by kernel_rfl) (by kernel_rfl) ?_
      simp only [Tr.sq,List.foldr_cons,List.foldr_nil,slimTr,slimStep,Oper.slim,List.contains_cons,List.contains_nil,Option.map_none,Option.map_some,List.getElem?_toArray,List.getElem?_cons_zero,List.getElem?_cons_succ,Option.bind_some,beq_self_eq_true,Bool.or_false,Nat.reduceBEq,Nat.reduceAdd,Nat.zero_add]
      repeat' first | ((with_reducible refine wpSlimT_id ?_);first | (with_reducible refine wpSlimT_done ?_) | ((with_reducible refine wpSlimT_step (fun K hK=>?_));go_simp;first | (refine hK _ _ ?_;clear hK K) | (refine ⟨by (intro kk hkk;first | (simp (disch:=(simp;omega)) only [hp_drew,hp_drewN,hp_alloc,hp_set];done) | (simp [hp_drew,hp_drewN,hp_alloc_if,hkk];done) | (have hkk2:=(HKP.out kk).1 hkk;simp (disch:=(first | exact hkk2 | (simp;done) | (simp;omega))) only [hp_drew,hp_drewN,hp_alloc,hp_set];done)),hK _ _ ?_⟩;clear hK K) | (go_at_call 70;(with_reducible refine (HROW.out _).mono ?_);rintro e w5 ⟨rfl,hb5⟩;have hb5k:Kp [fb] w2 w5:=((Kp.refl [fb] w2).drew).below_step hb5;refine ⟨_,rfl,(fun kk hkk=>hb5k.block kk ((HKP.out kk).1 hkk).1 (by have:=((HKP.out kk).1 hkk).2;simpa using this)),hK _ _ ?_⟩;clear hK K) | (go_at_call 100;(with_reducible refine (HINV.out _ ((HI2.out.ok.below ((Below.refl _ _).drew)).below hb5)).mono ?_);rintro e w6 ⟨rfl,hk6,hf6⟩;refine ⟨_,rfl,(fun kk hkk=>(hb5k.trans hk6).block kk ((HKP.out kk).1 hkk).1 (by have:=((HKP.out kk).1 hkk).2;simpa using this)),hK _ _ ?_⟩;clear hK K))) | fail
      clear hgr
      go_wp2
      go_meet
      exact ⟨rfl,Lib.hid (hb5k.trans hk6),Lib.hid hf6⟩
     case rest =>
      obtain ⟨rfl,hk3,hf3⟩:=hcut
      obtain ⟨w3,hw3⟩:∃ w3:World,w3=wc:=⟨_,rfl⟩
      rw [← hw3] at hk3 hf3 ⊢
      have HB3:=Lib.hid (HI2.out.toRedB.step (hk3.out.mono (by simp)) hf3.out)
      have HVA:=Lib.hid (HI2.out.va.kp hk3.out (by simpa using h1.symm))
      have HVB:=Lib.hid (HI2.out.vb.kp hk3.out (by simpa using h2.symm))
      have HECH:=Lib.hid HI2.out.ech
      have HMET:=Lib.hid HI2.out.met
      clear hw3 y3 y40 y41 y42 y50 y51 y52 y7 y8 HI2 hk3 hf3 HROW HINV ce hl1 hl3 hl0 hl8 hl88
      have y3:=cell_of_heap HB3.out.x3 (j:=0) rfl
      obtain ⟨y40,y41,y42⟩:=HB3.out.x4.cells
      obtain ⟨y50,y51,y52⟩:=HB3.out.x5.cells
      have y7:=cell_of_heap HB3.out.x7 (j:=0) rfl
      have y8:=cell_of_heap HB3.out.x8 (j:=0) rfl
      go_upto_block 4 with fail
      have HB4:=Lib.hid (HB3.out.step (Kp.of_below ((Below.refl _ _).alloc (Nat.le_refl _) (.cells #[.int .i64 R,.int .i64 C,.slice (some ⟨ba,0,none⟩) (R * C) capA,.int .i64 R,.int .i64 D,.slice (some ⟨bb,0,none⟩) (R * D) capB] 76))) (HB3.out.ok.below ((Below.refl _ _).alloc (Nat.le_refl _) _)))
      have HVA4:=Lib.hid (HVA.out.below ((Below.refl _ _).alloc (Nat.le_refl _) (.cells #[.int .i64 R,.int .i64 C,.slice (some ⟨ba,0,none⟩) (R * C) capA,.int .i64 R,.int .i64 D,.slice (some ⟨bb,0,none⟩) (R * D) capB] 76)))
      have HVB4:=Lib.hid (HVB.out.below ((Below.refl _ _).alloc (Nat.le_refl _) (.cells #[.int .i64 R,.int .i64 C,.slice (some ⟨ba,0,none⟩) (R * C) capA,.int .i64 R,.int .i64 D,.slice (some ⟨bb,0,none⟩) (R * D) capB] 76)))
      have HSB:=Lib.hid (heap_newA w3 (.cells #[.int .i64 R,.int .i64 C,.slice (some ⟨ba,0,none⟩) (R * C) capA,.int .i64 R,.int .i64 D,.slice (some ⟨bb,0,none⟩) (R * D) capB] 76))
      have hl3:=lt_of_heap HB3.out.x3
      obtain ⟨w4,hw4⟩:∃ w4:World,w4=w3.alloc (.cells #[.int .i64 R,.int .i64 C,.slice (some ⟨ba,0,none⟩) (R * C) capA,.int .i64 R,.int .i64 D,.slice (some ⟨bb,0,none⟩) (R * D) capB] 76):=⟨_,rfl⟩
      obtain ⟨sb,hsb⟩:∃ sb,w3.heap.size=sb:=⟨_,rfl⟩
      rw [← hw4] at HB4 HVA4 HVB4 HSB ⊢
      rw [hsb] at HSB ⊢
      have hsbn:w.heap.size < sb:=by omega
      clear hw4 hsb y3 y40 y41 y42 y50 y51 y52 y7 y8 HB3 HVA HVB hl3
      go_cut [] (fun wx=>Hid (RedB fb ba bb R C D capA capB w b8 c a Ds wx)∧Hid (View wx ba (R * C) (flat C (scR a v (swR a F NA))))∧Hid (View wx bb (R * D) (flat D (scR a v (swR a F NB)))))
      case first =>
       go_upto_region 11 with fail
       go_loopg [69] 2 (fun gk i wx=>∃ J2:Nat,J2≤2∧gk=2 - J2∧i=.int .i64 (J2:Nat)∧Hid (RedB fb ba bb R C D capA capB w b8 c a Ds wx)∧Hid (View wx ba (R * C) (flat C (if 0 < J2 then scR a v (swR a F NA) else NA)))∧Hid (View wx bb (R * D) (flat D (if 1 < J2 then scR a v (swR a F NB) else NB)))∧Hid (wx.heap[sb]? = some (.cells #[.int .i64 R,.int .i64 C,.slice (some ⟨ba,0,none⟩) (R * C) capA,.int .i64 R,.int .i64 D,.slice (some ⟨bb,0,none⟩) (R * D) capB] 76 (0,0))))
       case atStart=>exact ⟨0,by omega,rfl,rfl,HB4,HVA4,HVB4,HSB⟩
       case round =>
        clear HB4 HVA4 HVB4 HSB
        obtain ⟨J2,hJ2,rfl,rfl,HB4,HVA4,HVB4,HSB⟩:=hrel
        obtain ⟨w5,hw5⟩:∃ w5:World,w5=wr:=⟨_,rfl⟩
        rw [← hw5] at HB4 HVA4 HVB4 HSB ⊢
        clear hw5
        by_cases hj:J2 < 2
        ·obtain ⟨X,bx,cx,NX,m0,m1,m2,hX,hX2,hRX,hov,hbx,hVX,hfin⟩:∃ (X bx cx:Nat) (NX:Nat→Nat→GF),w5.cell? ⟨sb,J2 * 3,none⟩=some (.int .i64 R)∧w5.cell? ⟨sb,J2 * 3+1,none⟩=some (.int .i64 X)∧w5.cell? ⟨sb,J2 * 3+2,none⟩=some (.slice (some ⟨bx,0,none⟩) (R * X) cx)∧0 < X∧X≤1000000∧R * X≤cx∧(∀ i,i < R→(i+1) * X≤4611686018427387904)∧(bx=ba ∨ bx=bb)∧Hid (View w5 bx (R * X) (flat X NX)) ∧
           Hid (∀ w',RedB fb ba bb R C D capA capB w b8 c a Ds w'→View w' bx (R * X) (flat X (scR a v (swR a F NX)))→Kp [fb,bx] w5 w'→∃ J3:Nat,J3≤2∧2 - (J2+1)=2 - J3∧((.int .i64 ((J2:Int)+1)):Value)=.int .i64 (J3:Nat)∧Hid (RedB fb ba bb R C D capA capB w b8 c a Ds w')∧Hid (View w' ba (R * C) (flat C (if 0 < J3 then scR a v (swR a F NA) else NA)))∧Hid (View w' bb (R * D) (flat D (if 1 < J3 then scR a v (swR a F NB) else NB)))∧Hid (w'.heap[sb]? = some (.cells #[.int .i64 R,.int .i64 C,.slice (some ⟨ba,0,none⟩) (R * C) capA,.int .i64 R,.int .i64 D,.slice (some ⟨bb,0,none⟩) (R * D) capB] 76 (0,0)))):=by
          rcases (by omega:J2=0 ∨ J2=1) with e | e
          ·subst e
           refine ⟨C,ba,capA,NA,cell_of_heap HSB.out rfl,cell_of_heap HSB.out rfl,cell_of_heap HSB.out rfl,hC,hC2,hRC,HOV.out.1,.inl rfl,HVA4,Lib.hid (fun w' hB' hV' hK'=>⟨1,by omega,rfl,rfl,Lib.hid hB',Lib.hid hV',Lib.hid (HVB4.out.kp hK' (by simp;omega)),Lib.hid (hK'.heap HSB.out (by simp;omega))⟩)⟩
          ·subst e
           refine ⟨D,bb,capB,NB,cell_of_heap HSB.out rfl,cell_of_heap HSB.out rfl,cell_of_heap HSB.out rfl,hD,hD2,hRD,HOV.out.2,.inr rfl,HVB4,Lib.hid (fun w' hB' hV' hK'=>⟨2,by omega,rfl,rfl,Lib.hid hB',Lib.hid (HVA4.out.kp hK' (by simp;omega)),Lib.hid hV',Lib.hid (hK'.heap HSB.out (by simp;omega))⟩)⟩
         have hra:=rows_le hRX ha
         have hrf:=rows_le hRX hF3
         have HROWA:Hid (∀ W',Calls Tryz.prog 70 #[.agg #[.int .i64 R,.int .i64 X,.slice (some ⟨bx,0,none⟩) (R * X) cx],.int .i64 a] W' fun e w'=>e=.returned (.slice (some ⟨bx,a * X,none⟩) X X)∧Below W'.heap.size W' w'):=Lib.hid (fun W'=>(row_any R X a bx 0 (R * X) cx W' hX hra (hov a ha)).mono fun e w' h=>by simpa using h)
         have HROWF:Hid (∀ W',Calls Tryz.prog 70 #[.agg #[.int .i64 R,.int .i64 X,.slice (some ⟨bx,0,none⟩) (R * X) cx],.int .i64 F] W' fun e w'=>e=.returned (.slice (some ⟨bx,F * X,none⟩) X X)∧Below W'.heap.size W' w'):=Lib.hid (fun W'=>(row_any R X F bx 0 (R * X) cx W' hX hrf (hov F hF3)).mono fun e w' h=>by simpa using h)
         have HBX:=Lib.hid hbx
         have HOVX:=Lib.hid hov
         clear hra hrf hov
         have q1:(0:Int)≤(J2:Int)∧(J2:Int) < 2:=by omega
         go_upto_region 13 with fail
         have HB6:=Lib.hid (HB4.out.step (Kp.of_below ((Below.refl _ _).alloc (Nat.le_refl _) (.cells #[.int .i64 R,.int .i64 X,.slice (some ⟨bx,0,none⟩) (R * X) cx] 76))) (HB4.out.ok.below ((Below.refl _ _).alloc (Nat.le_refl _) _)))
         have HV6:=Lib.hid (hVX.out.below ((Below.refl _ _).alloc (Nat.le_refl _) (.cells #[.int .i64 R,.int .i64 X,.slice (some ⟨bx,0,none⟩) (R * X) cx] 76)))
         have HK6:Hid (Kp [fb,bx] w5 (w5.alloc (.cells #[.int .i64 R,.int .i64 X,.slice (some ⟨bx,0,none⟩) (R * X) cx] 76))):=Lib.hid ((Kp.refl _ _).alloc _)
         have HTB:=Lib.hid (heap_newA w5 (.cells #[.int .i64 R,.int .i64 X,.slice (some ⟨bx,0,none⟩) (R * X) cx] 76))
         obtain ⟨w6,hw6⟩:∃ w6:World,w6=w5.alloc (.cells #[.int .i64 R,.int .i64 X,.slice (some ⟨bx,0,none⟩) (R * X) cx] 76):=⟨_,rfl⟩
         obtain ⟨tb,htb⟩:∃ tb,w5.heap.size=tb:=⟨_,rfl⟩
         rw [← hw6] at HB6 HV6 HK6 HTB ⊢
         rw [htb] at HTB ⊢
         clear hw6 htb m0 m1 m2 HB4 HVA4 HVB4 HSB hVX hbx
         obtain ⟨t0,t1,t2⟩:=(show MBox w6 tb R X bx (R * X) cx from HTB.out).cells
         have y7:=cell_of_heap HB6.out.x7 (j:=0) rfl
         have ht1:=lt_of_heap HTB.out
         have h71:=lt_of_heap HB6.out.x7
         have hgr:=fun (w0 W:World) (p:Addr) (hp:(fun k=>k < w6.heap.size) p.block)=>graft_cell (w0:=w0) (keep:=(fun k=>k < w6.heap.size)) W hp
         refine wp_region_tree (fun k=>k < w6.heap.size) [2,5] (.sq [0,1,3,4,2,5,6,7] .done) (by kernel_rfl) (by kernel_rfl) ?_
         simp only [Tr.sq,List.foldr_cons,List.foldr_nil,slimTr,slimStep,Oper.slim,List.contains_cons,List.contains_nil,Option.map_none,Option.map_some,List.getElem?_toArray,List.getElem?_cons_zero,List.getElem?_cons_succ,Option.bind_some,beq_self_eq_true,Bool.or_false,Nat.reduceBEq,Nat.reduceAdd,Nat.zero_add]
         repeat' first | ((with_reducible refine wpSlimT_id ?_);first | (with_reducible refine wpSlimT_done ?_) | ((with_reducible refine wpSlimT_step (fun K hK=>?_));go_simp;first | (refine hK _ _ ?_;clear hK K) | (refine ⟨by (intro kk hkk;first | (simp (disch:=(simp;omega)) only [hp_drew,hp_drewN,hp_alloc,hp_set];done) | (simp [hp_drew,hp_drewN,hp_alloc_if,hkk];done) | (have hkk2:=(HKP.out kk).1 hkk;simp (disch:=(first | exact hkk2 | (simp;done) | (simp;omega))) only [hp_drew,hp_drewN,hp_alloc,hp_set];done)),hK _ _ ?_⟩;clear hK K) | (go_at_call 70;(with_reducible refine (HROWA.out _).mono ?_);rintro e w7 ⟨rfl,hb7⟩;refine ⟨_,rfl,(fun kk hkk=>hb7.block kk (by simpa using hkk)),hK _ _ ?_⟩;clear hK K) | (go_at_call 70;(with_reducible refine (HROWF.out _).mono ?_);rintro e w8 ⟨rfl,hb8⟩;refine ⟨_,rfl,(fun kk hkk=>(hb8.block kk (Nat.lt_of_lt_of_le hkk hb7.size)).trans (hb7.block kk (by simpa using hkk))),hK _ _ ?_⟩;clear hK K))) | fail
         clear hgr
         have HBB:Hid (Below w6.heap.size w6 w8):=Lib.hid ((((Below.refl _ _).drew).trans hb7).trans (hb8.mono hb7.size))
         have HB8:=Lib.hid (HB6.out.step (Kp.of_below HBB.out) (HB6.out.ok.below HBB.out))
         have HV8:=Lib.hid (HV6.out.below HBB.out)
         have HK8:=Lib.hid (HK6.out.below_step HBB.out)
         clear hb7 hb8 t0 t1 t2 y7 HB6 HV6 HK6 HTB HBB ht1 h71
         go_upto_region 15 with fail
         go_loopg [81] X (fun gk i wx=>∃ I:Nat,I≤X∧gk=X - I∧i=.int .i64 (I:Nat)∧Hid (RedB fb ba bb R C D capA capB w b8 c a Ds wx)∧Hid (View wx bx (R * X) (swF (a * X) (F * X) I (flat X NX)))∧Hid (Kp [fb,bx] w5 wx))
         case atStart=>exact ⟨0,by omega,rfl,rfl,HB8,by rw [swF_zero];exact HV8,HK8⟩
         case round =>
          clear HB8 HV8 HK8
          obtain ⟨I,hI,rfl,rfl,HB8,HV8,HK8⟩:=hrel
          by_cases hlt:I < X
          ·have HAP:Hid (a * X=F * X ∨ a * X+X≤F * X ∨ F * X+X≤a * X):=Lib.hid (by
            by_cases e:a=F
            ·left;rw [e]
            ·right;exact row_apart e)
           obtain ⟨o1,o2⟩:=swF_old HAP.out hlt (flat X NX)
           have hA1:=off_lt ha hlt
           have hF1':=off_lt hF3 hlt
           obtain ⟨c1,f1⟩:=HV8.out.2 (a * X+I) hA1
           obtain ⟨c2,f2⟩:=HV8.out.2 (F * X+I) hF1'
           rw [o1] at c1
           rw [o2] at c2
           have HVN:Hid (View (((wr.drew).setCell ⟨bx,a * X+I,none⟩ (.int .u8 ((flat X NX (F * X+I)).n:Nat))).setCell ⟨bx,F * X+I,none⟩ (.int .u8 ((flat X NX (a * X+I)).n:Nat))) bx (R * X) (swF (a * X) (F * X) (I+1) (flat X NX))):=Lib.hid (by
            rw [← swF_succ HAP.out hlt]
            exact (HV8.out.drew.set hA1 _).set hF1' _)
           have HKN:Hid (Kp [bx] wr (((wr.drew).setCell ⟨bx,a * X+I,none⟩ (.int .u8 ((flat X NX (F * X+I)).n:Nat))).setCell ⟨bx,F * X+I,none⟩ (.int .u8 ((flat X NX (a * X+I)).n:Nat)))):=Lib.hid ((((Kp.refl _ _).drew).setCell (.inl (by simp)) _).setCell (.inl (by simp)) _)
           have HBN:=Lib.hid (HB8.out.step (HKN.out.mono (by rcases HBX.out with e | e <;> simp [e])) (HB8.out.ok.kp HKN.out (by rcases HBX.out with e | e <;> simp [e,h1,h2])))
           have HKK:=Lib.hid (HK8.out.step HKN.out (by simp))
           obtain ⟨vx,hvx⟩:∃ vx,(flat X NX (a * X+I)).n=vx:=⟨_,rfl⟩
           obtain ⟨vy,hvy⟩:∃ vy,(flat X NX (F * X+I)).n=vy:=⟨_,rfl⟩
           rw [hvx] at c1 HVN HBN HKK
           rw [hvy] at c2 HVN HBN HKK
           obtain ⟨v',c3⟩:=cell?_setCell_some (w:=wr) (p:=⟨bx,a * X+I,none⟩) (x:=.int .u8 (vy:Nat)) (q:=⟨bx,F * X+I,none⟩) (v:=.int .u8 (vy:Nat)) (by exact c2)
           have q2:(0:Int)≤(I:Int)∧(I:Int) < (X:Int):=by omega
           have hxl:=HV8.out.1
           clear o1 o2 hvx hvy HAP hA1 hF1' HKN HB8 HV8 HK8
           obtain ⟨kp,hkp⟩:∃ kp:Nat→Bool,∀ k,kp k=true↔k ≠ bx:=⟨fun k=>k != bx,by simp⟩
           have HKP:=Lib.hid hkp
           clear hkp
           go_upto_region 17 with fail
           have hgr:=fun (w0 W:World) (p:Addr) (hp:(fun k=>kp k=true) p.block)=>graft_cell (w0:=w0) (keep:=(fun k=>kp k=true)) W hp
           refine wp_region_tree (fun k=>kp k=true) [7,11,13,15] (.sq [0,1,2,3,4,5,6,8,9,10] (.fork 7 (.sq [11,12,13,14,15] .done) 11 (.sq [7,12,13,14,15] .done))) (by kernel_rfl) (by kernel_rfl) ?_
           simp only [Tr.sq,List.foldr_cons,List.foldr_nil,slimTr,slimStep,Oper.slim,List.contains_cons,List.contains_nil,Option.map_none,Option.map_some,List.getElem?_toArray,List.getElem?_cons_zero,List.getElem?_cons_succ,Option.bind_some,beq_self_eq_true,Bool.or_false,Nat.reduceBEq,Nat.reduceAdd,Nat.zero_add]
           repeat' first | ((with_reducible refine wpSlimT_id ?_);first | (with_reducible refine wpSlimT_done ?_) | (with_reducible refine wpSlimT_fork ?_ ?_) | ((with_reducible refine wpSlimT_step (fun K hK=>?_));go_simp;first | (refine hK _ _ ?_;clear hK K) | (refine ⟨by (intro kk hkk;first | (simp (disch:=(simp;omega)) only [hp_drew,hp_drewN,hp_alloc,hp_set];done) | (simp [hp_drew,hp_drewN,hp_alloc_if,hkk];done) | (have hkk2:=(HKP.out kk).1 hkk;simp (disch:=(first | exact hkk2 | (simp;done) | (simp;omega))) only [hp_drew,hp_drewN,hp_alloc,hp_set];done)),hK _ _ ?_⟩;clear hK K) | (refine ⟨(fun kk hkk=>rfl),hK _ _ ?_⟩;clear hK K))) | fail
           all_goals clear hgr
           all_goals
            go_wp2
            go_roundg (X - (I+1))
            case measure=>omega
            case rel=>exact ⟨I+1,by omega,rfl,by go_num,HBN,HVN,HKK⟩
          ·obtain rfl:I=X:=by omega
           have HV9:Hid (View wr bx (R * I) (flat I (swR a F NX))):=Lib.hid (HV8.out.congr fun j hj=>swF_flat hX a F NX hj)
           clear HV8
           go_upto_region 20 with fail
           go_loopg [101] I (fun gk i wx=>∃ L:Nat,L≤I∧gk=I - L∧i=.int .i64 (L:Nat)∧Hid (RedB fb ba bb R C D capA capB w b8 c a Ds wx)∧Hid (View wx bx (R * I) (scF (a * I) L v (flat I (swR a F NX))))∧Hid (Kp [fb,bx] w5 wx))
           case atStart=>exact ⟨0,by omega,rfl,rfl,HB8,by rw [scF_zero];exact HV9,HK8⟩
           case round =>
            clear HB8 HV9 HK8
            obtain ⟨L,hL,rfl,rfl,HB8,HV8,HK8⟩:=hrel
            by_cases hlt2:L < I
            ·have hA1:=off_lt ha hlt2
             obtain ⟨c1,f1⟩:=HV8.out.2 (a * I+L) hA1
             rw [scF_old] at c1
             obtain ⟨x0,hx0⟩:∃ x0,flat I (swR a F NX) (a * I+L)=x0:=⟨_,rfl⟩
             have HMUL:Hid (∀ W,FOk W fb→Calls Tryz.prog 56 #[.pointer (some ⟨fb,0,none⟩),.int .u8 (x0.n:Nat),.int .u8 (vn:Nat)] W (FPost fb (x0 * v) W)):=Lib.hid (fun W hW=>by rw [← HVN.out];exact fmul_any _ _ _ _ hW)
             have HSET:Hid (∀ W,View W bx (R * I) (scF (a * I) L v (flat I (swR a F NX)))→View (W.setCell ⟨bx,a * I+L,none⟩ (.int .u8 ((x0 * v).n:Nat))) bx (R * I) (scF (a * I) (L+1) v (flat I (swR a F NX)))):=Lib.hid (fun W hW=>by rw [← scF_succ,hx0];exact hW.set hA1 _)
             rw [hx0] at c1
             obtain ⟨xn,hxn⟩:∃ xn,x0.n=xn:=⟨_,rfl⟩
             obtain ⟨pn,hpn⟩:∃ pn,(x0 * v).n=pn:=⟨_,rfl⟩
             unfold FPost at HMUL
             rw [hxn,hpn] at HMUL
             rw [hpn] at HSET
             rw [hxn] at c1
             have y3:=cell_of_heap HB8.out.x3 (j:=0) rfl
             have hbl:=HV8.out.1
             have hfx:fb ≠ bx:=by rcases HBX.out with e | e <;> rw [e] <;> assumption
             have HFX:=Lib.hid hfx
             have q2:(0:Int)≤(L:Int)∧(L:Int) < (I:Int):=by omega
             clear hA1 hx0 hxn hpn hfx
             go_wp2_with (go_at_call 56;(with_reducible refine (HMUL.out _ HB8.out.ok).mono ?_);rintro e w9 ⟨rfl,hk9,hf9⟩;have c5:=(hk9.cell (p:=⟨bx,a * I+L,none⟩) hbl (by simpa using HFX.out.symm)).trans c1;have f5:=(hk9.frozen (p:=⟨bx,a * I+L,none⟩) hbl (by simpa using HFX.out.symm)).trans f1;have HK9:=Lib.hid hk9;have HF9:=Lib.hid hf9;clear hk9 hf9)
             have HK10:Hid (Kp [fb,bx] wr (w9.setCell ⟨bx,a * I+L,none⟩ (.int .u8 (pn:Nat)))):=Lib.hid ((HK9.out.mono (by simp)).setCell (.inl (by simp)) _)
             have HB10:=Lib.hid (HB8.out.step (HK10.out.mono (by rcases HBX.out with e | e <;> simp [e])) (HF9.out.kp ((Kp.refl [bx] w9).setCell (p:=⟨bx,a * I+L,none⟩) (.inl (by simp)) (.int .u8 (pn:Nat))) (by simpa using HFX.out)))
             have HV10:=Lib.hid (HSET.out w9 (HV8.out.kp HK9.out (by simpa using HFX.out.symm)))
             have HK11:=Lib.hid (HK8.out.trans HK10.out)
             go_roundg (I - (L+1))
             case measure=>omega
             case rel=>exact ⟨L+1,by omega,rfl,by go_num,HB10,HV10,HK11⟩
            ·obtain rfl:L=I:=by omega
             have HV9:Hid (View wr bx (R * L) (flat L (scR a v (swR a F NX)))):=Lib.hid (HV8.out.congr fun j hj=>scF_flat hX a v _ hj)
             have HEND:=Lib.hid (hfin.out wr HB8.out HV9.out HK8.out)
             clear hfin
             go_wp2
             go_roundg (2 - (J2+1))
             case measure=>omega
             case rel=>exact HEND.out
        ·obtain rfl:J2=2:=by omega
         go_wp2
         go_meet
         exact ⟨HB4,HVA4,HVB4⟩
      case rest =>
       obtain ⟨HB5,HA5,HBv5⟩:=hcut
       obtain ⟨w5,hw5⟩:∃ w5:World,w5=wc:=⟨_,rfl⟩
       rw [← hw5] at HB5 HA5 HBv5 ⊢
       obtain ⟨SA,hSA⟩:∃ SA,scR a v (swR a F NA)=SA:=⟨_,rfl⟩
       obtain ⟨SB,hSB⟩:∃ SB,scR a v (swR a F NB)=SB:=⟨_,rfl⟩
       rw [hSA] at HA5
       rw [hSB] at HBv5
       have HSA:=Lib.hid hSA
       have HSB2:=Lib.hid hSB
       have HONE:Hid (SA a c=1):=Lib.hid (by
        rw [← hSA,scR,if_pos rfl,swR,if_pos rfl,← HV0.out]
        exact m_inv _ HNE.out)
       clear hw5 hSA hSB HB4 HVA4 HVB4 HSB
       have y3:=cell_of_heap HB5.out.x3 (j:=0) rfl
       obtain ⟨y40,y41,y42⟩:=HB5.out.x4.cells
       obtain ⟨y50,y51,y52⟩:=HB5.out.x5.cells
       have y7:=cell_of_heap HB5.out.x7 (j:=0) rfl
       have y8:=cell_of_heap HB5.out.x8 (j:=0) rfl
       go_wp2_with (go_at_call 54;refine (rows_any R C ba (R * C) capA _).mono ?_;rintro e w6 ⟨rfl,hb6,hbx6⟩)
       have HB6:=Lib.hid (HB5.out.step (Kp.of_below hb6) (HB5.out.ok.below hb6))
       have HA6:=Lib.hid (HA5.out.below hb6)
       have HBv6:=Lib.hid (HBv5.out.below hb6)
       have HBX6:=Lib.hid hbx6
       obtain ⟨Bs,hBs⟩:∃ Bs,w5.heap.size=Bs:=⟨_,rfl⟩
       have hB5:b8 < Bs∧w.heap.size+1+1+1 < Bs∧(∀ D ∈ Ds,D < Bs):=by
        rw [← hBs]
        exact ⟨lt_of_heap HB5.out.x8,lt_of_heap HB5.out.x7,fun D hD=>lt_of_heap (HB5.out.mks.at_ D hD).2⟩
       rw [hBs] at HBX6 ⊢
       have HBS:=Lib.hid hB5
       clear hb6 hbx6 hBs hB5 y3 y40 y41 y42 y50 y51 y52 y7 y8 HB5 HA5 HBv5
       have hBs6:Bs < w6.heap.size:=HBX6.out.lt
       have HT:Hid (∀ i,(fun i=>SA i c) i=SA i c):=Lib.hid (fun i=>rfl)
       have HRCM:Hid (R * C≤4611686018427387904):=Lib.hid (Nat.le_trans (Nat.mul_le_mul hR2 hC2) (by omega))
       refine wp_frame (redFr fb ba bb R C D capA capB w.heap.size b8) _ (by kernel_rfl) 116 (.func (.func 69) #[] #[.pointer (some ⟨Bs,0,none⟩)]) (by kernel_rfl) ?_
       intro u2 hu2
       have HU2:=Lib.hid hu2
       clear hu2
       refine wp_range_all2 (gf:=69) (lb:=#[.pointer (some ⟨Bs,0,none⟩)]) (show u2 116=_ from HU2.out) (enters_of Tryz.func69 (by kernel_rfl) rfl) (rows1_stops R C ba (R * C) capA Bs w6 HBX6.out hC hRC (by omega) HRCM.out) (Below.refl _ _) hBs6 (fun _=>rfl) [fb,ba,bb] (by obtain ⟨l1,l2,l3⟩:=HB6.out.lt;have:=HBS.out.2.1;simp;omega)
        (fun pre W=>RedB fb ba bb R C D capA capB w b8 c a Ds W∧View W ba (R * C) (flat C (elS a (fun i=>SA i c) (pre.map Fin.val) SA))∧View W bb (R * D) (flat D (elS a (fun i=>SA i c) (pre.map Fin.val) SB)))
        (ownFrom_of fun s W W' r h hr hk=>⟨h.1.other (B:=w6.heap.size) hk hr (by have:=HBS.out.1;omega) (by have:=HBS.out.2.1;omega) (fun D hD=>by have:=HBS.out.2.2 D hD;omega),h.2.1.kp hk (fun hm=>by have:=hr _ hm;have:=HA6.out.1;omega),h.2.2.kp hk (fun hm=>by have:=hr _ hm;have:=HBv6.out.1;omega)⟩)
        ⟨HB6.out,by rw [List.map_nil,elS_nil];exact HA6.out,by rw [List.map_nil,elS_nil];exact HBv6.out⟩
        (fun x=>{ tmps:=#[.pointer (some ⟨fb,0,none⟩),.agg #[.int .i64 R,.int .i64 C,.slice (some ⟨ba,0,none⟩) (R * C) capA],.agg #[.int .i64 R,.int .i64 D,.slice (some ⟨bb,0,none⟩) (R * D) capB],.pointer (some ⟨w.heap.size,0,none⟩),.pointer (some ⟨w.heap.size+1,0,none⟩),.pointer (some ⟨w.heap.size+1+1,0,none⟩),.int .i64 0,.pointer (some ⟨w.heap.size+1+1+1,0,none⟩),.pointer (some ⟨b8,0,none⟩),u2 9,u2 10,u2 11,u2 12,u2 13,u2 14,u2 15,u2 16,u2 17,u2 18,u2 19,u2 20,u2 21,u2 22,u2 23,u2 24,u2 25,u2 26,u2 27,u2 28,u2 29,u2 30,u2 31,u2 32,u2 33,u2 34,u2 35,u2 36,u2 37,u2 38,u2 39,u2 40,u2 41,u2 42,u2 43,u2 44,u2 45,u2 46,u2 47,u2 48,u2 49,u2 50,u2 51,u2 52,u2 53,u2 54,u2 55,u2 56,u2 57,u2 58,u2 59,u2 60,u2 61,u2 62,u2 63,u2 64,u2 65,u2 66,u2 67,u2 68,u2 69,u2 70,u2 71,u2 72,u2 73,u2 74,u2 75,u2 76,u2 77,u2 78,u2 79,u2 80,u2 81,u2 82,u2 83,u2 84,u2 85,u2 86,u2 87,u2 88,u2 89,u2 90,u2 91,u2 92,u2 93,u2 94,u2 95,u2 96,u2 97,u2 98,u2 99,u2 100,u2 101,u2 102,u2 103,u2 104,u2 105,u2 106,u2 107,u2 108,u2 109,u2 110,u2 111,u2 112,u2 113,u2 114,u2 115,u2 116,.int .i64 (x.val:Nat),.slice (some ⟨ba,x.val * C,none⟩) C C,u2 119,u2 120,u2 121,u2 122,u2 123,u2 124,u2 125,u2 126,u2 127,u2 128,u2 129,u2 130,u2 131,u2 132,u2 133,u2 134,u2 135,u2 136,u2 137,u2 138,u2 139,u2 140,u2 141,u2 142,u2 143,u2 144,u2 145],defers:=[] })
        (fun x=>{ tmps:=#[.pointer (some ⟨fb,0,none⟩),.agg #[.int .i64 R,.int .i64 C,.slice (some ⟨ba,0,none⟩) (R * C) capA],.agg #[.int .i64 R,.int .i64 D,.slice (some ⟨bb,0,none⟩) (R * D) capB],.pointer (some ⟨w.heap.size,0,none⟩),.pointer (some ⟨w.heap.size+1,0,none⟩),.pointer (some ⟨w.heap.size+1+1,0,none⟩),.int .i64 0,.pointer (some ⟨w.heap.size+1+1+1,0,none⟩),.pointer (some ⟨b8,0,none⟩),u2 9,u2 10,u2 11,u2 12,u2 13,u2 14,u2 15,u2 16,u2 17,u2 18,.int .i64 (x.val:Nat),.slice (some ⟨ba,x.val * C,none⟩) C C,u2 21,u2 22,u2 23,u2 24,u2 25,u2 26,u2 27,u2 28,u2 29,u2 30,u2 31,u2 32,u2 33,u2 34,u2 35,u2 36,u2 37,u2 38,u2 39,u2 40,u2 41,u2 42,u2 43,u2 44,u2 45,u2 46,u2 47,u2 48,u2 49,u2 50,u2 51,u2 52,u2 53,u2 54,u2 55,u2 56,u2 57,u2 58,u2 59,u2 60,u2 61,u2 62,u2 63,u2 64,u2 65,u2 66,u2 67,u2 68,u2 69,u2 70,u2 71,u2 72,u2 73,u2 74,u2 75,u2 76,u2 77,u2 78,u2 79,u2 80,u2 81,u2 82,u2 83,u2 84,u2 85,u2 86,u2 87,u2 88,u2 89,u2 90,u2 91,u2 92,u2 93,u2 94,u2 95,u2 96,u2 97,u2 98,u2 99,u2 100,u2 101,u2 102,u2 103,u2 104,u2 105,u2 106,u2 107,u2 108,u2 109,u2 110,u2 111,u2 112,u2 113,u2 114,u2 115,u2 116,.int .i64 (x.val:Nat),.slice (some ⟨ba,x.val * C,none⟩) C C,u2 119,u2 120,u2 121,u2 122,u2 123,u2 124,u2 125,u2 126,u2 127,u2 128,u2 129,u2 130,u2 131,u2 132,u2 133,u2 134,u2 135,u2 136,u2 137,u2 138,u2 139,u2 140,u2 141,u2 142,u2 143,u2 144,u2 145],defers:=[] }) (fun x=>by kernel_rfl) ?assign ?body ?done
       case assign =>
        intro l x W K hK
        gi_wp2
        exact hK
       case body =>
        rintro l pre ⟨i,hi⟩ W ⟨hB,hVA,hVB⟩ hlt hsz
        dsimp only
        obtain ⟨Pr,hPr⟩:∃ Pr,pre.map Fin.val=Pr:=⟨_,rfl⟩
        rw [hPr] at hVA hVB
        have HPN:=Lib.hid hPr
        have HB7:=Lib.hid hB
        have HA7:=Lib.hid hVA
        have HBv7:=Lib.hid hVB
        clear hPr hB hVA hVB
        have y3:=cell_of_heap HB7.out.x3 (j:=0) rfl
        obtain ⟨y40,y41,y42⟩:=HB7.out.x4.cells
        obtain ⟨y50,y51,y52⟩:=HB7.out.x5.cells
        have y7:=cell_of_heap HB7.out.x7 (j:=0) rfl
        have y8:=cell_of_heap HB7.out.x8 (j:=0) rfl
        have ce:=(HA7.out.2 (i * C+c) (off_lt hi hc)).1
        rw [flat_at hC _ _ _ hc] at ce
        obtain ⟨tG,htG⟩:∃ tG,elS a (fun i=>SA i c) Pr SA i c=tG:=⟨_,rfl⟩
        obtain ⟨tn,htn⟩:∃ tn,tG.n=tn:=⟨_,rfl⟩
        rw [htG,htn] at ce
        have HTG:=Lib.hid htG
        have HTN:=Lib.hid htn
        clear htG htn
        by_cases hia:i=a
        ·have hne:((i:Int) != (a:Int))=false:=by rw [hia];simp
         have HIA:=Lib.hid hia
         clear hia
         gi_wp2
         refine ⟨Kp.refl _ _,HB7.out,?_,?_⟩
         ·rw [HPN.out,HIA.out,elS_skip];exact HA7.out
         ·rw [HPN.out,HIA.out,elS_skip];exact HBv7.out
        ·have hne:((i:Int) != (a:Int))=true:=by simp;omega
         have HTOF:Hid (tG=tOf (fun i=>SA i c) Pr i):=Lib.hid (by rw [← HTG.out];exact elS_t hia HONE.out (fun i=>rfl))
         have HAP:=Lib.hid (row_apart (C:=C) hia)
         have HAPD:=Lib.hid (row_apart (C:=D) hia)
         have hIA:=Lib.hid hia
         have hra:=rows_le hRC ha
         have hrb:=rows_le hRD ha
         have hri:=rows_le hRD hi
         have HR1:Hid (∀ W',Calls Tryz.prog 70 #[.agg #[.int .i64 R,.int .i64 C,.slice (some ⟨ba,0,none⟩) (R * C) capA],.int .i64 a] W' fun e w'=>e=.returned (.slice (some ⟨ba,a * C,none⟩) C C)∧Below W'.heap.size W' w'):=Lib.hid (fun W'=>(row_any R C a ba 0 (R * C) capA W' hC hra (HOV.out.1 a ha)).mono fun e w' h=>by simpa using h)
         have HR2:Hid (∀ W',Calls Tryz.prog 70 #[.agg #[.int .i64 R,.int .i64 D,.slice (some ⟨bb,0,none⟩) (R * D) capB],.int .i64 a] W' fun e w'=>e=.returned (.slice (some ⟨bb,a * D,none⟩) D D)∧Below W'.heap.size W' w'):=Lib.hid (fun W'=>(row_any R D a bb 0 (R * D) capB W' hD hrb (HOV.out.2 a ha)).mono fun e w' h=>by simpa using h)
         have HR3:Hid (∀ W',Calls Tryz.prog 70 #[.agg #[.int .i64 R,.int .i64 D,.slice (some ⟨bb,0,none⟩) (R * D) capB],.int .i64 i] W' fun e w'=>e=.returned (.slice (some ⟨bb,i * D,none⟩) D D)∧Below W'.heap.size W' w'):=Lib.hid (fun W'=>(row_any R D i bb 0 (R * D) capB W' hD hri (HOV.out.2 i hi)).mono fun e w' h=>by simpa using h)
         have HM1:Hid (∀ W',FOk W' fb→View W' ba (R * C) (flat C (elS a (fun i=>SA i c) Pr SA))→Calls Tryz.prog 101 #[.pointer (some ⟨fb,0,none⟩),.slice (some ⟨ba,i * C,none⟩) C C,.slice (some ⟨ba,a * C,none⟩) C C,.int .u8 (tn:Nat)] W' (MorePost fb ba (R * C) (flat C (elS a (fun i=>SA i c) (Pr ++ [i]) SA)) W')):=Lib.hid (fun W' hf hv=>by
          rw [← HTN.out]
          refine (more_any fb ba (i * C) C (R * C) C ba (a * C) C _ (fun k=>flat C (elS a (fun i=>SA i c) Pr SA) (a * C+k)) tG W' hf hv (RowAt.of_view hv (by have:=off_lt ha (show C - 1 < C by omega);omega)) (by have:=off_lt hi (show C - 1 < C by omega);omega) (by omega) h1 h1 (.inr (by have:=HAP.out;omega))).mono ?_
          rintro e w' ⟨he,hk,hf',hv'⟩
          refine ⟨he,hk,hf',hv'.congr fun j hj=>?_⟩
          rw [addTo_flat hC _ _ _ _ hj,← elS_step hIA.out,HTOF.out]
          simp only [elS_row])
         have HM2:Hid (∀ W',FOk W' fb→View W' bb (R * D) (flat D (elS a (fun i=>SA i c) Pr SB))→Calls Tryz.prog 101 #[.pointer (some ⟨fb,0,none⟩),.slice (some ⟨bb,i * D,none⟩) D D,.slice (some ⟨bb,a * D,none⟩) D D,.int .u8 (tn:Nat)] W' (MorePost fb bb (R * D) (flat D (elS a (fun i=>SA i c) (Pr ++ [i]) SB)) W')):=Lib.hid (fun W' hf hv=>by
          rw [← HTN.out]
          refine (more_any fb bb (i * D) D (R * D) D bb (a * D) D _ (fun k=>flat D (elS a (fun i=>SA i c) Pr SB) (a * D+k)) tG W' hf hv (RowAt.of_view hv (by have:=off_lt ha (show D - 1 < D by omega);omega)) (by have:=off_lt hi (show D - 1 < D by omega);omega) (by omega) h2 h2 (.inr (by have:=HAPD.out;omega))).mono ?_
          rintro e w' ⟨he,hk,hf',hv'⟩
          refine ⟨he,hk,hf',hv'.congr fun j hj=>?_⟩
          rw [addTo_flat hD _ _ _ _ hj,← elS_step hIA.out,HTOF.out]
          simp only [elS_row])
         obtain ⟨l1,l2,l3⟩:=HB7.out.lt
         have g3:=lt_of_heap HB7.out.x3
         have g4:=HB7.out.x4.lt
         have g5:=HB7.out.x5.lt
         have g7:=lt_of_heap HB7.out.x7
         clear hra hrb hri hia hlt
         gi_wp2
         obtain ⟨kp,hkp⟩:∃ kp:Nat→Bool,∀ k,kp k=true↔k < W.heap.size∧k ≠ fb∧k ≠ ba:=⟨fun k=>decide (k < W.heap.size∧k ≠ fb∧k ≠ ba),by simp⟩
         have k1:kp w.heap.size=true:=(hkp _).2 ⟨g3,by omega,by omega⟩
         have k2:kp (w.heap.size+1)=true:=(hkp _).2 ⟨g4,by omega,by omega⟩
         have k4:kp (w.heap.size+1+1+1)=true:=(hkp _).2 ⟨g7,by omega,by omega⟩
         have HKP:=Lib.hid hkp
         clear hkp
         have hgr:=fun (w0 W:World) (p:Addr) (hp:(fun k=>kp k=true) p.block)=>graft_cell (w0:=w0) (keep:=(fun k=>kp k=true)) W hp
         refine wpIn_region_tree (fun k=>kp k=true) [4,6] (.sq [0,1,2,3,5,4,6] .done) (by kernel_rfl) (by kernel_rfl) (by kernel_rfl) ?_
         simp only [Tr.sq,List.foldr_cons,List.foldr_nil,slimTr,slimStep,Oper.slim,List.contains_cons,List.contains_nil,Option.map_none,Option.map_some,List.getElem?_toArray,List.getElem?_cons_zero,List.getElem?_cons_succ,Option.bind_some,beq_self_eq_true,Bool.or_false,Nat.reduceBEq,Nat.reduceAdd,Nat.zero_add]
         repeat' first | ((with_reducible refine wpSlimT_id ?_);first | (with_reducible refine wpSlimT_done ?_) | ((with_reducible refine wpSlimT_step (fun K hK=>?_));go_simp;first | (refine hK _ _ ?_;clear hK K) | (refine ⟨by (intro kk hkk;first | (simp (disch:=(simp;omega)) only [hp_drew,hp_drewN,hp_alloc,hp_set];done) | (simp [hp_drew,hp_drewN,hp_alloc_if,hkk];done) | (have hkk2:=(HKP.out kk).1 hkk;simp (disch:=(first | exact hkk2 | (simp;done) | (simp;omega))) only [hp_drew,hp_drewN,hp_alloc,hp_set];done)),hK _ _ ?_⟩;clear hK K) | (go_at_call 70;(with_reducible refine (HR1.out _).mono ?_);rintro e w7 ⟨rfl,hb7⟩;refine ⟨_,rfl,(fun kk hkk=>hb7.block kk ((HKP.out kk).1 hkk).1),hK _ _ ?_⟩;clear hK K) | (go_at_call 101;(with_reducible refine (HM1.out _ ((HB7.out.ok.below ((Below.refl _ _).drew)).below hb7) ((HA7.out.below ((Below.refl _ _).drew)).below hb7)).mono ?_);rintro e w8 ⟨rfl,hk8,hf8,hv8⟩;have HK8:Hid (Kp [fb,ba] W w8):=Lib.hid ((((Kp.refl [fb,ba] W).drew).below_step hb7).trans hk8);refine ⟨_,rfl,(fun kk hkk=>HK8.out.block kk ((HKP.out kk).1 hkk).1 (by have:=((HKP.out kk).1 hkk).2;simpa using this)),hK _ _ ?_⟩;clear hK K))) | fail
         clear hgr
         have HB8:=Lib.hid (HB7.out.step (HK8.out.mono (by simp)) hf8)
         have HA8:=Lib.hid hv8
         have HBv8:=Lib.hid (HBv7.out.kp HK8.out (by simp;exact ⟨fun e=>h2 e.symm,fun e=>h3 e.symm⟩))
         clear hb7 hk8 hf8 hv8 k1 k2 k4 HKP y3 y40 y41 y42 y50 y51 y52 y7 y8 ce HB7 HA7 HBv7 g3 g4 g5 g7
         have y3:=cell_of_heap HB8.out.x3 (j:=0) rfl
         obtain ⟨y50,y51,y52⟩:=HB8.out.x5.cells
         have y7:=cell_of_heap HB8.out.x7 (j:=0) rfl
         have g3:=lt_of_heap HB8.out.x3
         have g5:=HB8.out.x5.lt
         have g7:=lt_of_heap HB8.out.x7
         gi_wp2
         obtain ⟨kp2,hkp⟩:∃ kp:Nat→Bool,∀ k,kp k=true↔k < w8.heap.size∧k ≠ fb∧k ≠ bb:=⟨fun k=>decide (k < w8.heap.size∧k ≠ fb∧k ≠ bb),by simp⟩
         have k1:kp2 w.heap.size=true:=(hkp _).2 ⟨g3,by omega,by omega⟩
         have k2:kp2 (w.heap.size+1+1)=true:=(hkp _).2 ⟨g5,by omega,by omega⟩
         have k4:kp2 (w.heap.size+1+1+1)=true:=(hkp _).2 ⟨g7,by omega,by omega⟩
         have HKP:=Lib.hid hkp
         clear hkp
         have hgr:=fun (w0 W:World) (p:Addr) (hp:(fun k=>kp2 k=true) p.block)=>graft_cell (w0:=w0) (keep:=(fun k=>kp2 k=true)) W hp
         refine wpIn_region_tree (fun k=>kp2 k=true) [3,6,8] (.sq [0,1,2,4,5,7,3,6,8] .done) (by kernel_rfl) (by kernel_rfl) (by kernel_rfl) ?_
         simp only [Tr.sq,List.foldr_cons,List.foldr_nil,slimTr,slimStep,Oper.slim,List.contains_cons,List.contains_nil,Option.map_none,Option.map_some,List.getElem?_toArray,List.getElem?_cons_zero,List.getElem?_cons_succ,Option.bind_some,beq_self_eq_true,Bool.or_false,Nat.reduceBEq,Nat.reduceAdd,Nat.zero_add]
         repeat' first | ((with_reducible refine wpSlimT_id ?_);first | (with_reducible refine wpSlimT_done ?_) | ((with_reducible refine wpSlimT_step (fun K hK=>?_));go_simp;first | (refine hK _ _ ?_;clear hK K) | (refine ⟨by (intro kk hkk;first | (simp (disch:=(simp;omega)) only [hp_drew,hp_drewN,hp_alloc,hp_set];done) | (simp [hp_drew,hp_drewN,hp_alloc_if,hkk];done) | (have hkk2:=(HKP.out kk).1 hkk;simp (disch:=(first | exact hkk2 | (simp;done) | (simp;omega))) only [hp_drew,hp_drewN,hp_alloc,hp_set];done)),hK _ _ ?_⟩;clear hK K) | (go_at_call 70;(with_reducible refine (HR3.out _).mono ?_);rintro e w9 ⟨rfl,hb9⟩;refine ⟨_,rfl,(fun kk hkk=>hb9.block kk ((HKP.out kk).1 hkk).1),hK _ _ ?_⟩;clear hK K) | (go_at_call 70;(with_reducible refine (HR2.out _).mono ?_);rintro e w10 ⟨rfl,hb10⟩;have HB10:Hid (Below w8.heap.size w8 w10):=Lib.hid ((((Below.refl _ _).drew).trans hb9).trans (hb10.mono hb9.size));refine ⟨_,rfl,(fun kk hkk=>HB10.out.block kk ((HKP.out kk).1 hkk).1),hK _ _ ?_⟩;clear hK K) | (go_at_call 101;(with_reducible refine (HM2.out _ (HB8.out.ok.below HB10.out) (HBv8.out.below HB10.out)).mono ?_);rintro e w11 ⟨rfl,hk11,hf11,hv11⟩;have HK11:Hid (Kp [fb,bb] w8 w11):=Lib.hid (((Kp.refl [fb,bb] w8).below_step HB10.out).trans hk11);refine ⟨_,rfl,(fun kk hkk=>HK11.out.block kk ((HKP.out kk).1 hkk).1 (by have:=((HKP.out kk).1 hkk).2;simpa using this)),hK _ _ ?_⟩;clear hK K))) | fail
         clear hgr
         have HEND:Hid (Kp [fb,ba,bb] W w11∧RedB fb ba bb R C D capA capB w b8 c a Ds w11∧View w11 ba (R * C) (flat C (elS a (fun i=>SA i c) (List.map Fin.val pre ++ [i]) SA))∧View w11 bb (R * D) (flat D (elS a (fun i=>SA i c) (List.map Fin.val pre ++ [i]) SB))):=Lib.hid (by
          rw [HPN.out]
          exact ⟨(HK8.out.mono (by simp)).trans (HK11.out.mono (by simp)),HB8.out.step (HK11.out.mono (by simp)) hf11,HA8.out.kp HK11.out (by simp;exact ⟨fun e=>h1 e.symm,h3⟩),hv11⟩)
         clear hb9 hb10 hk11 hf11 hv11
         gi_wp2
         exact HEND.out
       case done =>
        rintro D0 xs W hD0 rfl ⟨hB,hVA,hVB⟩ hK0
        have HB7:=Lib.hid hB
        have HA7:Hid (View W ba (R * C) (flat C (stepR a F c NA NA))):=Lib.hid (hVA.congr fun j hj=>by
         obtain ⟨i,k,hi,hk,rfl⟩:=off_ex hC hj
         rw [flat_at hC _ _ _ hk,flat_at hC _ _ _ hk,elS_all (R:=R) (fun i hi=>List.mem_map.2 ⟨⟨i,hi⟩,List.mem_finRange _,rfl⟩) hi]
         unfold stepR
         rw [HV0.out,HSA.out])
        have HBv7:Hid (View W bb (R * D) (flat D (stepR a F c NA NB))):=Lib.hid (hVB.congr fun j hj=>by
         obtain ⟨i,k,hi,hk,rfl⟩:=off_ex hD hj
         rw [flat_at hD _ _ _ hk,flat_at hD _ _ _ hk,elS_all (R:=R) (fun i hi=>List.mem_map.2 ⟨⟨i,hi⟩,List.mem_finRange _,rfl⟩) hi]
         unfold stepR
         rw [HV0.out,HSA.out,HSB2.out])
        have HK0:=Lib.hid hK0
        have y7:=cell_of_heap HB7.out.x7 (j:=0) rfl
        have y8:=cell_of_heap HB7.out.x8 (j:=0) rfl
        have z7:=free_of_heap HB7.out.x7 0
        have g7:=lt_of_heap HB7.out.x7
        have g8:=lt_of_heap HB7.out.x8
        have hDD:=Lib.hid hD0
        have hb88:=HB7.out.b8
        clear hB hVA hVB hK0 hD0
        unfold redFr
        go_wp2
        refine Handed.intro (C - (c+1)) (by omega) (hJ _ _ _ (RedR.intro (Ds:=D0 :: Ds) (c+1) (a+1) W.heap.size (NA:=stepR a F c NA NA) (NB:=stepR a F c NA NB) (p:=fun r=>if r=a then c else p r) (by kernel_rfl) rfl ?_))
        obtain ⟨l1,l2,l3⟩:=HB7.out.lt
        have hDo:=hDD.out
        have hBS:=HBS.out
        obtain ⟨hb9,hk9⟩:=HB7.out.next HK0.out (by omega) (fun hm=>by have:=hBS.2.2 D0 hm;omega) (.int .i64 ((a:Int)+1)) (.cells #[.int .i64 ((c:Int)+1)] 3) (by simp) (by simp)
        exact ⟨hb9,HA7.out.kp hk9 (by simp;omega),HBv7.out.kp hk9 (by simp;omega),HECH.out.step hF1 hF3 HNE.out,by omega,fun x z=>(met_step ha hF3 HNE.out).trans (HMET.out x z)⟩
  ·have hend:c=C ∨ a=R:=by omega
   have HFIN:Hid (∀ w',Kp Ds w1 w'→RedPost fb ba bb R C D MA MB w (.returned (.int .i64 (a:Nat))) w'):=Lib.hid (fun w' hk=>by
    obtain ⟨l1,l2,l3⟩:=HI.out.lt
    have hn:∀ k,k < w.heap.size→k ∉ Ds:=fun k hk hm=>by have:=(HI.out.mks.at_ k hm).1;omega
    exact ⟨a,c,p,NA,NB,rfl,HI.out.kp.step hk (fun x hx=>.inr (HI.out.mks.at_ x hx).1),HI.out.ok.kp hk (hn _ l1),HI.out.va.kp hk (hn _ l2),HI.out.vb.kp hk (hn _ l3),HI.out.ech,hcC,haR,hend,HI.out.met⟩)
   by_cases hc:c < C
   all_goals
    have hnd:¬ (a:Int) < (R:Int) ∨ ¬ (c:Int) < (C:Int):=by omega
    go_wp2
    exact leaves_marks (B:=w.heap.size) Ds w1 HI.out.mks fun w' hk=>⟨.int .i64 (a:Nat),(results_tmp (fn:=Tryz.f72) (t:=6) rfl _ _ _).trans rfl,HFIN.out w' hk⟩
end Go.Proofs.YtnjbkfeihbcalaaGreat
