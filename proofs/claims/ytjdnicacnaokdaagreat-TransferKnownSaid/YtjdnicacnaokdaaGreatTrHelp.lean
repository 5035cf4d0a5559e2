/-
  What a node tells another one: the program's Help.
-/
import Derived.Test.YtjdnicacnaokdaaGreatTrEach
import Derived.Test.YtjdnicacnaokdaaGreatTrFitG
namespace Go.Proofs.YtjdnicacnaokdaaGreat
open Go.RowKit Fld
set_option linter.unusedVariables false
set_option linter.unusedSimpArgs false

def TrHelpIs (n:Nat) (from_ to_:Int) (sh:List GF) (b:GF) (c:Int):Prop :=
 ¬ ((0≤from_∧from_ < (n:Int))∧(0≤to_∧to_ < (n:Int))∧from_ ≠ to_∧sh.length=n - 1)∧b=0∧c=2 ∨
 ((0≤from_∧from_ < (n:Int))∧(0≤to_∧to_ < (n:Int))∧from_ ≠ to_∧sh.length=n - 1)∧b=sh.getD (plcN from_.toNat to_.toNat) 0∧c=0
theorem TrHelpIs.one {n:Nat} {f t:Int} {sh:List GF} {b b':GF} {c c':Int} (h:TrHelpIs n f t sh b c) (h':TrHelpIs n f t sh b' c'):b=b'∧c=c':=by
 rcases h with ⟨h1,h2,h3⟩ | ⟨h1,h2,h3⟩ <;> rcases h' with ⟨k1,k2,k3⟩ | ⟨k1,k2,k3⟩
 ·exact ⟨h2.trans k2.symm,h3.trans k3.symm⟩
 ·exact absurd k1 h1
 ·exact absurd h1 k1
 ·exact ⟨h2.trans k2.symm,h3.trans k3.symm⟩
def TrHelpPost (n:Nat) (f t:Int) (sh:List GF) (w:World) (e:Ending) (w':World):Prop:=∃ (b:GF) (c:Int),e=.returned (.tuple #[.int .u8 (b.n:Nat),.int .i64 c])∧TrHelpIs n f t sh b c∧Below w.heap.size w w'
structure HelpB (wj:World) (rb:Nat) (b:GF) (W:World):Prop where
 kp:Kp [rb] wj W
 row:W.cell? ⟨rb,0,none⟩=some (.int .u8 (b.n:Nat))
 fr:W.frozen? ⟨rb,0,none⟩=false
set_option maxHeartbeats 4000000 in
theorem help1_any (wj W:World) (tb sb rb t:Nat) (sv:Value) (sh:List GF) (b:GF) (o p e:Nat) (ht:wj.cell? ⟨tb,0,none⟩=some (.int .i64 t)) (hs:wj.cell? ⟨sb,0,none⟩=some sv) (hsh:GRd wj sv sh) (hap:Apart sv [rb])
  (hl:tb < wj.heap.size∧sb < wj.heap.size∧rb < wj.heap.size) (hne:tb ≠ rb∧sb ≠ rb) (h:HelpB wj rb b W) (hp:p < sh.length) :
  Calls Tryz.prog 41 #[.int .i64 o,.int .i64 p,.int .i64 e,.pointer (some ⟨tb,0,none⟩),.pointer (some ⟨sb,0,none⟩),.pointer (some ⟨rb,0,none⟩)] W fun e' W'=>e'=.returned (.tuple #[])∧HelpB wj rb (if o=t then sh.getD p 0 else b) W':=by
 have c0:=(h.kp.cell (p:=⟨tb,0,none⟩) hl.1 (by simpa using hne.1)).trans ht
 have c1:=(h.kp.cell (p:=⟨sb,0,none⟩) hl.2.1 (by simpa using hne.2)).trans hs
 obtain ⟨as_,cs_,rfl,hcs⟩:=hsh.form
 obtain ⟨x,hx,hxd⟩:=at_get hp
 obtain ⟨b2,o2,rfl,hb2,c2⟩:=(hsh.kp h.kp hap).at hx
 obtain ⟨L,hL⟩:∃ L,sh.length=L:=⟨_,rfl⟩
 rw [hL] at c1 hp
 have i1:(0:Int)≤(p:Int)∧(p:Int) < (L:Int):=by omega
 have r0:=h.row
 have f0:=h.fr
 have hrb:=Nat.lt_of_lt_of_le hl.2.2 h.kp.size
 have H:=Lib.hid h
 have HXD:=Lib.hid hxd
 obtain ⟨y,hy⟩:∃ y,x.n=y:=⟨_,rfl⟩
 rw [hy] at c2
 have HY:=Lib.hid hy
 clear h ht hs hsh hap hcs hx hxd hy
 by_cases hot:o=t
 ·subst hot
  rw [if_pos rfl]
  have HP:Hid (HelpB wj rb (sh.getD p 0) (W.setCell ⟨rb,0,none⟩ (.int .u8 (y:Nat)))):=Lib.hid (by
   refine ⟨H.out.kp.setCell (.inl (by simp)) _,?_,?_⟩
   ·rw [World.cell?_setCell_same _ _ _ r0,HXD.out,HY.out]
   ·rw [World.frozen?_setCell];exact f0)
  go_enter Tryz.func41,Tryz.ntmps41
  go_wp2
  go_end0
  exact ⟨rfl,HP.out⟩
 ·rw [if_neg hot]
  have hot':¬ (o:Int)=(t:Int):=by omega
  go_enter Tryz.func41,Tryz.ntmps41
  go_wp2
  go_end0
  exact ⟨rfl,H.out⟩
set_option maxRecDepth 100000 in
set_option maxHeartbeats 4000000 in
theorem trhelp_any (w:World) (lb cb fb mb n k:Nat) (cv sv:Value) (from_ to_:Int) (sh:List GF) (h:TrC w lb cb fb mb n k cv) (hn:1≤n∧n≤23) (hs:GRd w sv sh) (hsl:sh.length≤1000000) :
  Calls Tryz.prog 19 #[.pointer (some ⟨lb,0,none⟩),.int .i64 from_,.int .i64 to_,sv] w (TrHelpPost n from_ to_ sh w):=by
 obtain ⟨as_,cs_,rfl,hcs⟩:=hs.form
 obtain ⟨L,hL⟩:∃ L,sh.length=L:=⟨_,rfl⟩
 obtain ⟨n1,hn1⟩:∃ n1,n - 1=n1:=⟨_,rfl⟩
 have x1:(n:Int) - 1=(n1:Int):=by omega
 have x2:IntKind.i64.wrap (n1:Int)=(n1:Int):=IntWalk.i64_in _ (by omega)
 have hlb:=lt_of_heap h.box
 have y0:=cell_of_heap h.box (j:=0) rfl
 obtain ⟨w1,hw1⟩:∃ w1,w1=((w.alloc (.cells #[.int .i64 to_] 3)).alloc (.cells #[.slice as_ L cs_] 34)).alloc (.cells #[.int .u8 0] 5):=⟨_,rfl⟩
 have hb1:Below w.heap.size w w1:=by rw [hw1];exact (((Below.refl _ _).alloc (Nat.le_refl _) _).alloc (by simp) _).alloc (by simp;omega) _
 have d0:w1.heap[w.heap.size]? = some (.cells #[.int .i64 to_] 3 (0,0)):=by rw [hw1];exact keepA (keepA (heap_newA _ _) _) _
 have d1:w1.heap[w.heap.size+1]? = some (.cells #[.slice as_ L cs_] 34 (0,0)):=by rw [hw1];exact keepA (heap_newE _ _ _ (by simp)) _
 have d2:w1.heap[w.heap.size+1+1]? = some (.cells #[.int .u8 0] 5 (0,0)):=by rw [hw1];exact heap_newE _ _ _ (by simp)
 have y0':w1.cell? ⟨lb,0,none⟩=some (.int .i64 n):=(hb1.cell (p:=⟨lb,0,none⟩) hlb).trans y0
 have HIS:=Lib.hid (fun (x:Int)=>tris_any w1.drew lb n x y0')
 have hlb1:lb < w1.heap.size:=Nat.lt_of_lt_of_le hlb hb1.size
 have z0:=cell_of_heap d0 (j:=0) rfl
 have z1:=cell_of_heap d1 (j:=0) rfl
 have z2:=cell_of_heap d2 (j:=0) rfl
 have f2:=free_of_heap d2 0
 have l2:=lt_of_heap d2
 have l0:=lt_of_heap d0
 have l1:=lt_of_heap d1
 have H:=Lib.hid h
 have HS:=Lib.hid hs
 have HB1:=Lib.hid hb1
 have HL:=Lib.hid (And.intro hL hn1)
 have HD:=Lib.hid (And.intro d0 (And.intro d1 d2))
 rw [hL]
 clear h hs hb1 hL hn1 d0 d1 d2 hcs
 go_enter Tryz.func19,Tryz.ntmps19
 go_upto_region 3 with fail
 rw [← hw1]
 clear hw1
 unfold NodePost at HIS
 have hgr:=fun (w0 W:World) (p:Addr) (hp:(fun k=>k < w1.heap.size) p.block)=>graft_cell (w0:=w0) (keep:=(fun k=>k < w1.heap.size)) W hp
 refine wp_region_units_draw (fun k=>k < w1.heap.size) [2,7] (.sq [0,1,2,3,4,5,6,7,8,9,10,11,12,13,14,15,16,17,18,19,20,21,22,23,24,25] .done) (.step 0 (.step 1 (.step 2 (.step 3 (.step 4 (.unit 4 false (.step 5 (.step 6 (.step 7 (.step 8 .done)))) 9 8 (.step 10 (.unit 10 false (.step 11 (.step 12 (.step 13 .done))) 14 13 (.step 15 (.unit 15 false (.step 16 (.step 17 (.step 18 (.step 19 (.step 20 (.step 21 (.step 22 (.step 23 .done)))))))) 24 23 (.step 25 .done))))))))))) (by kernel_rfl) (by kernel_rfl) (by kernel_rfl) (by kernel_rfl) ?_
 simp only [mkUT,dstOf,bare,Oper.slim,List.contains_cons,List.contains_nil,Option.map_none,Option.map_some,List.getElem?_toArray,List.getElem?_cons_zero,List.getElem?_cons_succ,Option.bind_some,beq_self_eq_true,Bool.or_false,Nat.reduceBEq,Nat.reduceAdd,Nat.zero_add,Option.getD_some,Option.isSome_some,Option.isSome_none,Bool.false_and,Bool.true_and,Bool.false_eq_true,if_false,if_true,Option.some_beq_some,Option.some_beq_none,Option.none_beq_some,reduceCtorEq,ite_true,ite_false]
 repeat ((with_reducible refine wpUT_step (fun K hK=>?_));go_simp;first | (refine hK _ _ ?_;clear hK K) | (refine ⟨by (intro kk hkk;first | exact hkk.elim | (simp (disch:=(simp;omega)) only [hp_drew,hp_drewN,hp_alloc,hp_set];done) | (simp [hp_drew,hp_drewN,hp_alloc_if,hkk];done) | fail),hK _ _ ?_⟩;clear hK K)| (go_at_call 40;(with_reducible refine (HIS.out _).mono ?_);rintro e wc ⟨rfl,rfl⟩;refine ⟨_,rfl,(fun kk hkk=>rfl),hK _ _ ?_⟩;clear hK K))
 refine wpUT_unit_below (x:=?_) (by rfl) ?_ ?_
 rotate_left
 ·intro hgd
  repeat ((with_reducible refine wpUT_step (fun K hK=>?_));go_simp;first | (refine hK _ _ ?_;clear hK K) | (refine ⟨by (intro kk hkk;first | exact hkk.elim | (simp (disch:=(simp;omega)) only [hp_drew,hp_drewN,hp_alloc,hp_set];done) | (simp [hp_drew,hp_drewN,hp_alloc_if,hkk];done) | fail),hK _ _ ?_⟩;clear hK K)| (go_at_call 40;(with_reducible refine (HIS.out _).mono ?_);rintro e wc ⟨rfl,rfl⟩;refine ⟨_,rfl,(fun kk hkk=>rfl),hK _ _ ?_⟩;clear hK K))
  exact wpUT_done ⟨by rfl,by (repeat' (first | (with_reducible exact RowKit.Below.refl _ _) | (with_reducible assumption) | (with_reducible refine RowKit.Below.drew ?_) | (with_reducible refine RowKit.Below.alloc ?_ ?_ _) | omega | (simp;done) | (simp;omega)))⟩
 intro js wu hbu
 simp only [UT.dsts,junk,SOp.dst,Option.toList_some,Option.toList_none,List.cons_append,List.nil_append,List.append_nil,cond_true,cond_false]
 repeat ((with_reducible refine wpUT_step (fun K hK=>?_));go_simp;first | (refine hK _ _ ?_;clear hK K) | (refine ⟨by (intro kk hkk;first | exact hkk.elim | (simp (disch:=(simp;omega)) only [hp_drew,hp_drewN,hp_alloc,hp_set];done) | (simp [hp_drew,hp_drewN,hp_alloc_if,hkk];done) | fail),hK _ _ ?_⟩;clear hK K)| (go_at_call 40;(with_reducible refine (HIS.out _).mono ?_);rintro e wc ⟨rfl,rfl⟩;refine ⟨_,rfl,(fun kk hkk=>rfl),hK _ _ ?_⟩;clear hK K))
 refine wpUT_unit (x:=?_) (by rfl) ?_ ?_
 rotate_left
 ·intro hgd
  repeat ((with_reducible refine wpUT_step (fun K hK=>?_));go_simp;first | (refine hK _ _ ?_;clear hK K) | (refine ⟨by (intro kk hkk;first | exact hkk.elim | (simp (disch:=(simp;omega)) only [hp_drew,hp_drewN,hp_alloc,hp_set];done) | (simp [hp_drew,hp_drewN,hp_alloc_if,hkk];done) | fail),hK _ _ ?_⟩;clear hK K)| (go_at_call 40;(with_reducible refine (HIS.out _).mono ?_);rintro e wc ⟨rfl,rfl⟩;refine ⟨_,rfl,(fun kk hkk=>rfl),hK _ _ ?_⟩;clear hK K))
  exact wpUT_done ⟨by rfl,rfl⟩
 intro js
 simp only [UT.dsts,junk,SOp.dst,Option.toList_some,Option.toList_none,List.cons_append,List.nil_append,List.append_nil,cond_true,cond_false]
 repeat ((with_reducible refine wpUT_step (fun K hK=>?_));go_simp;first | (refine hK _ _ ?_;clear hK K) | (refine ⟨by (intro kk hkk;first | exact hkk.elim | (simp (disch:=(simp;omega)) only [hp_drew,hp_drewN,hp_alloc,hp_set];done) | (simp [hp_drew,hp_drewN,hp_alloc_if,hkk];done) | fail),hK _ _ ?_⟩;clear hK K)| (go_at_call 40;(with_reducible refine (HIS.out _).mono ?_);rintro e wc ⟨rfl,rfl⟩;refine ⟨_,rfl,(fun kk hkk=>rfl),hK _ _ ?_⟩;clear hK K))
 refine wpUT_unit (x:=?_) (by rfl) ?_ ?_
 rotate_left
 ·intro hgd
  repeat ((with_reducible refine wpUT_step (fun K hK=>?_));go_simp;first | (refine hK _ _ ?_;clear hK K) | (refine ⟨by (intro kk hkk;first | exact hkk.elim | (simp (disch:=(simp;omega)) only [hp_drew,hp_drewN,hp_alloc,hp_set];done) | (simp [hp_drew,hp_drewN,hp_alloc_if,hkk];done) | fail),hK _ _ ?_⟩;clear hK K)| (go_at_call 40;(with_reducible refine (HIS.out _).mono ?_);rintro e wc ⟨rfl,rfl⟩;refine ⟨_,rfl,(fun kk hkk=>rfl),hK _ _ ?_⟩;clear hK K))
  exact wpUT_done ⟨by rfl,rfl⟩
 intro js
 simp only [UT.dsts,junk,SOp.dst,Option.toList_some,Option.toList_none,List.cons_append,List.nil_append,List.append_nil,cond_true,cond_false]
 repeat ((with_reducible refine wpUT_step (fun K hK=>?_));go_simp;first | (refine hK _ _ ?_;clear hK K) | (refine ⟨by (intro kk hkk;first | exact hkk.elim | (simp (disch:=(simp;omega)) only [hp_drew,hp_drewN,hp_alloc,hp_set];done) | (simp [hp_drew,hp_drewN,hp_alloc_if,hkk];done) | fail),hK _ _ ?_⟩;clear hK K)| (go_at_call 40;(with_reducible refine (HIS.out _).mono ?_);rintro e wc ⟨rfl,rfl⟩;refine ⟨_,rfl,(fun kk hkk=>rfl),hK _ _ ?_⟩;clear hK K))
 refine wpUT_done ?_
 clear hgr
 have hb2:Below w1.heap.size w1 wu:=((Below.refl w1.heap.size w1).drew).trans hbu
 have hgd:(!decide (0≤from_) || !decide (from_ < (n:Int)) || (!decide (0≤to_) || !decide (to_ < (n:Int))) || from_ == to_ || (L:Int) != (n1:Int))=false↔((0≤from_∧from_ < (n:Int))∧(0≤to_∧to_ < (n:Int))∧from_ ≠ to_∧L=n1):=by
  simp only [Bool.or_eq_false_iff,Bool.not_eq_false',decide_eq_true_eq,beq_eq_false_iff_ne,bne_eq_false_iff_eq,ne_eq]
  omega
 generalize hq:(!decide (0≤from_) || !decide (from_ < (n:Int)) || (!decide (0≤to_) || !decide (to_ < (n:Int))) || from_ == to_ || (L:Int) != (n1:Int))=q at *
 have HGD:=Lib.hid hgd
 have hd0:=keepB hb2 HD.out.1
 have hd1:=keepB hb2 HD.out.2.1
 have hd2:=keepB hb2 HD.out.2.2
 have HB2:=Lib.hid hb2
 have z2u:=cell_of_heap hd2 (j:=0) rfl
 have f2u:=free_of_heap hd2 0
 have l2u:=lt_of_heap hd2
 have hk3:Kp [w.heap.size+1+1] wu (wu.setCell ⟨w.heap.size+1+1,0,none⟩ (.int .u8 0)):=(Kp.refl _ _).setCell (.inl (by simp)) _
 have HBW:Hid (Below w.heap.size w wu):=Lib.hid (HB1.out.trans (hb2.mono HB1.out.size))
 cases q
 case true =>
  have HP:Hid (TrHelpPost n from_ to_ sh w (.returned (.tuple #[.int .u8 0,.int .i64 2])) (wu.setCell ⟨w.heap.size+1+1,0,none⟩ (.int .u8 0))):=Lib.hid
   ⟨0,2,rfl,.inl ⟨(fun hg=>by rw [HL.out.1,HL.out.2] at hg;exact absurd (HGD.out.2 hg) (by simp)),rfl,rfl⟩,HBW.out.trans (hk3.below (Nat.le_trans HB1.out.size hb2.size) (by simp;omega))⟩
  have r1:(wu.setCell ⟨w.heap.size+1+1,0,none⟩ (.int .u8 0)).cell? ⟨w.heap.size+1+1,0,none⟩=some (.int .u8 0):=World.cell?_setCell_same _ _ _ z2u
  clear hgd hq hb2 hbu hk3 hd0 hd1 hd2
  go_wp2
  refine bodyPost_ret (v:=.tuple #[.int .u8 0,.int .i64 2]) ?_ rfl HP.out
  simp [results,Tryz.results19,go_sem,r1]
 case false =>
  have hg:=HGD.out.1 (by trivial)
  obtain ⟨F,rfl⟩:∃ F:Nat,from_=(F:Int):=⟨from_.toNat,by omega⟩
  obtain ⟨T,rfl⟩:∃ T:Nat,to_=(T:Int):=⟨to_.toNat,by omega⟩
  have hF:F < n:=by omega
  have hT:T < n:=by omega
  have hFT:T ≠ F:=by omega
  have hw0:=HB1.out.size
  have hw1:=hb2.size
  have HB:=Lib.hid ((H.out.below HBW.out).b)
  have HMB:=Lib.hid (H.out.tab.lt)
  have HC:=Lib.hid (eachH_any wu lb n mb F w.heap.size (w.heap.size+1) (w.heap.size+1+1) (fun o W=>HelpB wu (w.heap.size+1+1) (if T < o then sh.getD (plcN F T) 0 else 0) W) hn.2 hF
   (fun o W hr=>HB.out.kp hr.kp (by simp;omega) (by have:=HMB.out;simp;omega))
   (fun W hr=>by
    have:(if T < F+1 then sh.getD (plcN F T) 0 else 0)=if T < F then sh.getD (plcN F T) 0 else (0:GF):=by
     by_cases h:T < F
     ·rw [if_pos h,if_pos (by omega)]
     ·rw [if_neg h,if_neg (by omega)]
    rw [this]
    exact hr)
   (fun o W ho hne hr=>by
    have h2:=help1_any wu W w.heap.size (w.heap.size+1) (w.heap.size+1+1) T (.slice as_ L cs_) sh _ o (plcN F o) (eE n F o) (cell_of_heap hd0 (j:=0) rfl) (cell_of_heap hd1 (j:=0) rfl) (by have:=HS.out.below HBW.out;rwa [HL.out.1] at this)
     (fun b hb hm=>by
      simp at hm
      have:=HS.out
      rw [HL.out.1] at this
      cases as_ with
      | none=>simp [Value.ownBlock] at hb
      | some A =>
       simp [Value.ownBlock] at hb
       rcases Nat.eq_zero_or_pos L with h0 | h0
       ·omega
       ·obtain ⟨x,hx,-⟩:=at_get (l:=sh) (i:=0) (by rw [HL.out.1];exact h0)
        obtain ⟨b2,o2,e2,hb2,-⟩:=this.at hx
        cases e2
        simp at hb
        omega)
     ⟨by omega,by omega,l2u⟩ ⟨by omega,by omega⟩ hr (by rw [HL.out.1];have:=plc_lt hne ho hF;have:=HL.out.2;omega)
    refine h2.mono fun e' W' hw=>⟨hw.1,?_⟩
    have e1:(if o=T then sh.getD (plcN F o) 0 else if T < o then sh.getD (plcN F T) 0 else 0)=if T < o+1 then sh.getD (plcN F T) 0 else 0:=by
     by_cases e:o=T
     ·subst e
      rw [if_pos rfl,if_pos (by omega)]
     ·rw [if_neg e]
      by_cases e2:T < o
      ·rw [if_pos e2,if_pos (by omega)]
      ·rw [if_neg e2,if_neg (by omega)]
    rw [← e1]
    exact hw.2)
   ⟨Kp.refl _ _,by rw [if_neg (Nat.not_lt_zero _)];exact z2u,f2u⟩)
  rw [if_pos hT] at HC
  obtain ⟨x,hx⟩:∃ x,sh.getD (plcN F T) 0=x:=⟨_,rfl⟩
  rw [hx] at HC
  obtain ⟨y,hy⟩:∃ y,x.n=y:=⟨_,rfl⟩
  have HX:=Lib.hid (And.intro hx hy)
  clear hgd hq hb2 hbu hk3 hd0 hd1 hd2 hx hy hg z2u f2u z2 f2
  go_wp2_with fail
  refine HC.out.mono ?_
  rintro e wc ⟨rfl,hh⟩
  have r0:=hh.row
  rw [HX.out.2] at r0
  have rf:=hh.fr
  have hlc:=Nat.lt_of_lt_of_le l2u hh.kp.size
  have hk4:Kp [w.heap.size+1+1] wc (wc.setCell ⟨w.heap.size+1+1,0,none⟩ (.int .u8 (y:Nat))):=(Kp.refl _ _).setCell (.inl (by simp)) _
  have r1:(wc.setCell ⟨w.heap.size+1+1,0,none⟩ (.int .u8 (y:Nat))).cell? ⟨w.heap.size+1+1,0,none⟩=some (.int .u8 (y:Nat)):=World.cell?_setCell_same _ _ _ r0
  have HP:Hid (TrHelpPost n (F:Int) (T:Int) sh w (.returned (.tuple #[.int .u8 (y:Nat),.int .i64 0])) (wc.setCell ⟨w.heap.size+1+1,0,none⟩ (.int .u8 (y:Nat)))):=Lib.hid
   ⟨x,0,by rw [HX.out.2],.inr ⟨by rw [HL.out.1,HL.out.2];exact HGD.out.1 (by trivial),by rw [Int.toNat_natCast,Int.toNat_natCast];exact HX.out.1.symm,rfl⟩,
    HBW.out.trans ((hh.kp.trans hk4).below (Nat.le_trans hw0 hw1) (by simp;omega))⟩
  clear hh hk4 HC
  go_wp2
  refine bodyPost_ret (v:=.tuple #[.int .u8 (y:Nat),.int .i64 0]) ?_ rfl HP.out
  simp [results,Tryz.results19,go_sem,r1]
end Go.Proofs.YtjdnicacnaokdaaGreat
