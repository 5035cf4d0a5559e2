/-
  How long a row of wrong places is.
  The reference's wrong nodes.
  The reference's message of a polynomial.
  The reference's Decode by all rows: the plain laws.
  The reference's Decode.
  The reference's Repair.
-/
import Derived.Test.YtbiaoohodjoojaaGreatWeRefs
import Derived.Test.YtbiaoohodjoojaaGreatR12A
import Derived.Test.YtbiaoohodjoojaaGreatRefsB
import Derived.Test.YtbiaoohodjoojaaGreatLocDG
import Derived.Test.YtbiaoohodjoojaaGreatSyG
/- How long a row of wrong places is. -/
namespace Go.Proofs.YtbiaoohodjoojaaGreat
open Go.RowKit Fld
set_option linter.unusedVariables false
set_option linter.unusedSimpArgs false

theorem inR_len (ps:List Int) (W ys:List GF) (p i:Nat):(inR ps W ys p i).length≤i:=by
 unfold inR
 rw [List.length_map]
 have:=List.length_filter_le (fun i=>decide (ps.getD i 0=(p:Int)) && decide (W.getD p 0 ≠ ys.getD i 0)) (List.range i)
 rwa [List.length_range] at this
theorem wrR_len (ps:List Int) (W ys:List GF):∀ p,(wrR ps W ys p).length≤p * ps.length
 | 0=>by simp [wrR_zero]
 | p+1=>by
  have h1:=wrR_len ps W ys p
  have h2:=inR_len ps W ys p ps.length
  rw [wrR_succ,List.length_append,Nat.succ_mul]
  omega
def RWrPost (ps:List Int) (W ys:List GF) (N:Nat) (w:World) (e:Ending) (w':World):Prop:=∃ v,e=.returned v∧OwnZ w' w.heap.size v (wrR ps W ys N)∧Below w.heap.size w w'
end Go.Proofs.YtbiaoohodjoojaaGreat
/- The reference's wrong nodes. -/
namespace Go.Proofs.YtbiaoohodjoojaaGreat
open Go.RowKit Fld
set_option linter.unusedVariables false
set_option linter.unusedSimpArgs false

theorem nodes_getD {l:List Sy} {I:Nat} {s:Sy} (h:l[I]? = some s):(Sy.nodes l).getD I 0=s.node:=by
 rw [Sy.nodes,List.getD_eq_getElem?_getD,List.getElem?_map,h];rfl
theorem ysL_getD {l:List Sy} {I:Nat} {s:Sy} (h:l[I]? = some s):(ysL l).getD I 0=s.d.getD 0 0:=by
 rw [ysL,List.getD_eq_getElem?_getD,List.getElem?_map,h];rfl
set_option maxRecDepth 100000 in
set_option maxHeartbeats 8000000 in
theorem rwrong12_any (n k r:Nat) (pv hv:Value) (m:List GF) (l:List Sy) (w:World) (h:LOkN n k r) (hp:GRd w pv m) (hpl:m.length≤1000000) (hl:SyAll w hv l) (hll:l.length≤1000) (hsz:∀ s ∈ l,s.d.length=1) :
  Calls Tryz.prog 56 #[rc n k r,pv,hv] w (RWrPost (Sy.nodes l) (rowF (fun i=>ev m ((cosL r (n / (r+1))).getD i 0)) n) (ysL l) n w):=by
 have n1:=h.n1
 obtain ⟨wb,hwb⟩:∃ wb,wb=w.alloc (.cells #[.int .i64 n,.int .i64 k,.int .i64 r] 29):=⟨_,rfl⟩
 have hbb:Below w.heap.size w wb:=by rw [hwb];exact (Below.refl _ _).alloc (Nat.le_refl _) _
 have hbx:wb.heap[w.heap.size]? = some (.cells #[.int .i64 n,.int .i64 k,.int .i64 r] 29 (0,0)):=by rw [hwb];exact heap_newA _ _
 have HPT:=Lib.hid (rpoints_any n k r wb h)
 unfold RPtsPost at HPT
 have hxl:(cosL r (n / (r+1))).length=n:=h.len
 obtain ⟨xs,hxs⟩:∃ xs,cosL r (n / (r+1))=xs:=⟨_,rfl⟩
 rw [hxs] at HPT hxl ⊢
 rw [hwb] at HPT
 have hWg:∀ p,p < n→(rowF (fun i=>ev m (xs.getD i 0)) n).getD p 0=ev m (xs.getD p 0):=fun p hp=>rowF_get _ hp
 obtain ⟨W,hW⟩:∃ W,rowF (fun i=>ev m (xs.getD i 0)) n=W:=⟨_,rfl⟩
 rw [hW] at hWg ⊢
 have hql:=nodes_len l
 obtain ⟨ps,hps⟩:∃ ps,Sy.nodes l=ps:=⟨_,rfl⟩
 obtain ⟨ys,hys⟩:∃ ys,ysL l=ys:=⟨_,rfl⟩
 have hpg:∀ I s,l[I]? = some s→ps.getD I 0=s.node:=fun I s hs=>by rw [← hps];exact nodes_getD hs
 have hyg:∀ I s,l[I]? = some s→ys.getD I 0=s.d.getD 0 0:=fun I s hs=>by rw [← hys];exact ysL_getD hs
 rw [hps] at hql ⊢
 rw [hys]
 obtain ⟨am,cm,rfl,hcm⟩:=hp.form
 obtain ⟨ah,ch,rfl⟩:=hl.rd.form
 obtain ⟨L,hL⟩:∃ L,l.length=L:=⟨_,rfl⟩
 obtain ⟨M,hM⟩:∃ M,m.length=M:=⟨_,rfl⟩
 have HL:=Lib.hid hL
 have HS:=Lib.hid hl
 have HSZ:=Lib.hid hsz
 have HP:=Lib.hid hp
 have HM:=Lib.hid hM
 have HXL:=Lib.hid hxl
 have HWB:=Lib.hid hwb
 have HBX:=Lib.hid (And.intro hbb hbx)
 have HWG:=Lib.hid hWg
 have HPG:=Lib.hid hpg
 have HYG:=Lib.hid hyg
 have HQ:=Lib.hid (hql.trans hL)
 rw [hL] at HS hll ⊢
 rw [hM] at HP hpl hcm ⊢
 clear h hp hl hsz hwb hbb hbx hxs hxl hL hM hW hWg hps hys hpg hyg hql hcm
 go_enter Tryz.func56,Tryz.ntmps56
 go_wp2_with fail
 refine HPT.out.mono ?_
 rintro e w2 ⟨xv,rfl,hox,hb2⟩
 rw [← HWB.out] at hox hb2
 have hb02:Below w.heap.size w w2:=HBX.out.1.trans (hb2.mono HBX.out.1.size)
 obtain ⟨gx,cx,rfl,hgx,hcx,hvx⟩:=hox.view (fun e=>by have:=HXL.out;rw [e] at this;simp at this;omega)
 rw [HXL.out] at hvx hcx ⊢
 have HVX:=Lib.hid hvx
 have HB2:=Lib.hid hb02
 have HX2:=Lib.hid (keepB hb2 HBX.out.2)
 have hgxl:=hvx.1
 have hs2:=hb02.size
 have hwb2:w.heap.size < w2.heap.size:=lt_of_heap HX2.out
 clear hb2 hb02 hox hvx HPT
 go_wp2
 go_loopg [8,9] n (fun gk l i wr=>∃ (V:Value) (p:Nat),V=l∧p≤n∧gk=n - p∧i=.int .i64 p∧Hid (OwnZ wr w2.heap.size V (wrR ps W ys p))∧Hid (Below w2.heap.size w2 wr))
 case atStart=>exact ⟨_,0,rfl,by omega,rfl,rfl,Lib.hid (OwnZ.nil _ _),Lib.hid (Below.refl _ _)⟩
 case round =>
  obtain ⟨V,p,rfl,hpN,rfl,rfl,HO,HB⟩:=hrel
  have hs:=HB.out.size
  have y0:=cell_of_heap ((HB.out.block w.heap.size hwb2).trans HX2.out) (j:=0) rfl
  by_cases hlt:p < n
  ·have hlen0:p * L≤500 * 1000:=Nat.mul_le_mul (by omega) hll
   have hlen:=wrR_len ps W ys p
   rw [HQ.out] at hlen
   have HLEN:Hid ((wrR ps W ys p).length≤500000):=Lib.hid (by omega)
   clear hlen hlen0
   go_wp2
   go_loopg [8,10] L (fun gk l i wr=>∃ (V:Value) (I:Nat),V=l∧I≤L∧gk=L - I∧i=.int .i64 I∧Hid (OwnZ wr w2.heap.size V (wrR ps W ys p ++ inR ps W ys p I))∧Hid (Below w2.heap.size w2 wr))
   case atStart=>exact ⟨_,0,rfl,by omega,rfl,rfl,by rw [inR_zero,List.append_nil];exact HO,HB⟩
   case round =>
    clear HO HB hs y0
    obtain ⟨V,I,rfl,hI,rfl,rfl,HO,HB⟩:=hrel
    have hs:=HB.out.size
    by_cases hlt2:I < L
    ·obtain ⟨s,hs0⟩:∃ s,l[I]? = some s:=⟨_,List.getElem?_eq_getElem (by rw [HL.out];exact hlt2)⟩
     have hbw:Below w.heap.size w wr:=HB2.out.trans (HB.out.mono hs2)
     obtain ⟨-,hcap,b,o,rfl,hb,hat⟩:=SRd.at (HS.out.below hbw).rd hs0
     have c0:wr.cell? ⟨b,o+I * 2,none⟩=some (.int .i64 s.node):=hat 0 _ rfl
     have c1:wr.cell? ⟨b,o+I * 2+1,none⟩=some (.slice s.a s.d.length s.cp):=hat 1 _ rfl
     have hsd:s.d.length=1:=HSZ.out s (List.mem_of_getElem? hs0)
     rw [hsd] at c1
     have hxd:=HPG.out I s hs0
     have hyd0:=HYG.out I s hs0
     obtain ⟨y,hy,hyd⟩:=at_get (l:=s.d) (i:=0) (by rw [hsd];exact Nat.one_pos)
     have hsrd:=HS.out.each s (List.mem_of_getElem? hs0)
     unfold Sy.rd at hsrd
     rw [hsd] at hsrd
     obtain ⟨sa,sd,hsa⟩:∃ sa sd,sa=s.a∧sd=s.cp:=⟨_,_,rfl,rfl⟩
     rw [← hsa.1,← hsa.2] at hsrd c1
     obtain ⟨bd,od,rfl,hbd,-⟩:=hsrd.at hy
     obtain ⟨_,_,e,-,cy⟩:=(hsrd.below hbw).at hy
     cases e
     rw [Nat.add_zero] at cy
     obtain ⟨x,hx⟩:∃ x,s.node=x:=⟨_,rfl⟩
     rw [hx] at c0 hxd
     have HXD:=Lib.hid hxd
     have HBD:Hid (Below w2.heap.size w2 wr.drew):=Lib.hid HB.out.drew
     obtain ⟨kp,hkp⟩:∃ kp:Nat→Bool,∀ j,kp j=true↔j < wr.heap.size:=⟨fun j=>decide (j < wr.heap.size),by simp⟩
     have k0:kp b=true:=(hkp _).2 (by omega)
     have i0:(0:Int)≤(I:Int)∧(I:Int) < (L:Int):=by omega
     by_cases hxp:x=(p:Int)
     ·obtain ⟨z,hz,hzd⟩:=at_get (l:=xs) (i:=p) (by rw [HXL.out];exact hlt)
      have cz:wr.cell? ⟨gx,p,none⟩=some (.int .u8 (((xs.getD p 0).n:Nat):Int)):=((HVX.out.below HB.out).2 p hlt).1
      rw [hzd] at cz
      have HAT:=Lib.hid (rat_any _ m z wr.drew ((HP.out.below hbw).below ((Below.refl _ _).drew)) (by rw [HM.out];omega))
      have hiff:W.getD p 0=ys.getD I 0↔(ev m z).n=y.n:=by
       rw [HWG.out p hlt,hzd,hyd0,hyd]
       exact ⟨fun e=>by rw [e],fun e=>GF.ext' e⟩
      obtain ⟨zn,hzn⟩:∃ zn,z.n=zn:=⟨_,rfl⟩
      obtain ⟨cn,hcn⟩:∃ cn,(ev m z).n=cn:=⟨_,rfl⟩
      obtain ⟨dn,hdn⟩:∃ dn,y.n=dn:=⟨_,rfl⟩
      rw [hzn,hcn] at HAT
      rw [hzn] at cz
      rw [hdn] at cy
      rw [hcn,hdn] at hiff
      have HIF:=Lib.hid hiff
      have k1:kp gx=true:=(hkp _).2 (by omega)
      have k2:kp bd=true:=(hkp _).2 (by omega)
      have k3:kp w.heap.size=true:=(hkp _).2 (by omega)
      have i1:(0:Int)≤(p:Int)∧(p:Int) < (n:Int):=by omega
      subst hxp
      clear hkp hz hzd hzn hcn hdn hiff hx hxd hyd0 hyd hy hsrd hsa hsd hs0 hat hbw hcap
      by_cases hcc:cn=dn
      ·subst hcc
       have HO2:Hid (OwnZ wr.drew w2.heap.size V (wrR ps W ys p ++ inR ps W ys p (I+1))):=Lib.hid (by
        rw [inR_no (fun _=>HIF.out.2 rfl)]
        exact HO.out)
       go_upto_region 9 with fail
       have hgr:=fun (w0 W:World) (p:Addr) (hp:(fun j=>kp j=true) p.block)=>graft_cell (w0:=w0) (keep:=(fun j=>kp j=true)) W hp
       refine wp_region_tree (fun j=>kp j=true) [13] (.sq [0,1,2,3,4,5,6,7,8,9,10,11,12,14,15,16,17,18,19,20,13,21,22] .done) (by kernel_rfl) (by kernel_rfl) ?_
       simp only [Tr.sq,List.foldr_cons,List.foldr_nil,slimTr,slimStep,Oper.slim,List.contains_cons,List.contains_nil,Option.map_none,Option.map_some,List.getElem?_toArray,List.getElem?_cons_zero,List.getElem?_cons_succ,Option.bind_some,beq_self_eq_true,Bool.or_false,Nat.reduceBEq,Nat.reduceAdd,Nat.zero_add]
       repeat' first | ((with_reducible refine wpSlimT_id ?_);first | (with_reducible refine wpSlimT_done ?_) | ((with_reducible refine wpSlimT_step (fun K hK=>?_));go_simp;first | (refine hK _ _ ?_;clear hK K) | (refine ⟨by (intro kk hkk;first | (simp (disch:=(simp;omega)) only [hp_drew,hp_drewN,hp_alloc,hp_set];done) | (simp [hp_drew,hp_drewN,hp_alloc_if,hkk];done) | fail),hK _ _ ?_⟩;clear hK K) | (go_at_call 44;(with_reducible refine (HAT.out).mono ?_);rintro e w7 ⟨rfl,rfl⟩;refine ⟨_,rfl,(fun kk hkk=>rfl),hK _ _ ?_⟩;clear hK K))) | fail
       clear hgr
       go_wp2
       go_roundg (L - (I+1))
       case measure=>omega
       case rel=>exact ⟨_,I+1,rfl,by omega,rfl,by go_num,HO2,HBD⟩
      ·have hne:¬ (cn:Int)=(dn:Int):=by omega
       obtain ⟨v1,w6,hap,ho1,-,hb6,-⟩:=app_int (W:=wr.drew) (p:Int) HO.out (by
        have:=HLEN.out
        have:=inR_len ps W ys p I
        rw [List.length_append]
        omega) (by simpa using HB.out.size) (ad:=wr.heap.size) rfl
       have HO6:Hid (OwnZ w6 w2.heap.size v1 (wrR ps W ys p ++ inR ps W ys p (I+1))):=Lib.hid (by
        rw [inR_yes HXD.out (fun e=>hcc (HIF.out.1 e)),← List.append_assoc]
        exact ho1)
       have HB6:Hid (Below w2.heap.size w2 w6):=Lib.hid (HBD.out.trans hb6)
       clear hcc ho1 hb6
       go_upto_region 9 with fail
       have hgr:=fun (w0 W:World) (p:Addr) (hp:(fun j=>kp j=true) p.block)=>graft_cell (w0:=w0) (keep:=(fun j=>kp j=true)) W hp
       refine wp_region_tree (fun j=>kp j=true) [13] (.sq [0,1,2,3,4,5,6,7,8,9,10,11,12,14,15,16,17,18,19,20,13,21,22] .done) (by kernel_rfl) (by kernel_rfl) ?_
       simp only [Tr.sq,List.foldr_cons,List.foldr_nil,slimTr,slimStep,Oper.slim,List.contains_cons,List.contains_nil,Option.map_none,Option.map_some,List.getElem?_toArray,List.getElem?_cons_zero,List.getElem?_cons_succ,Option.bind_some,beq_self_eq_true,Bool.or_false,Nat.reduceBEq,Nat.reduceAdd,Nat.zero_add]
       repeat' first | ((with_reducible refine wpSlimT_id ?_);first | (with_reducible refine wpSlimT_done ?_) | ((with_reducible refine wpSlimT_step (fun K hK=>?_));go_simp;first | (refine hK _ _ ?_;clear hK K) | (refine ⟨by (intro kk hkk;first | (simp (disch:=(simp;omega)) only [hp_drew,hp_drewN,hp_alloc,hp_set];done) | (simp [hp_drew,hp_drewN,hp_alloc_if,hkk];done) | fail),hK _ _ ?_⟩;clear hK K) | (go_at_call 44;(with_reducible refine (HAT.out).mono ?_);rintro e w7 ⟨rfl,rfl⟩;refine ⟨_,rfl,(fun kk hkk=>rfl),hK _ _ ?_⟩;clear hK K))) | fail
       clear hgr
       go_wp2_with (at_builtin;refine wpList_append rfl _ _ _ rfl rfl rfl hap ?_)
       go_roundg (L - (I+1))
       case measure=>omega
       case rel=>exact ⟨_,I+1,rfl,by omega,rfl,by go_num,HO6,HB6⟩
     ·have HO2:Hid (OwnZ wr.drew w2.heap.size V (wrR ps W ys p ++ inR ps W ys p (I+1))):=Lib.hid (by
       rw [inR_no (fun e=>absurd (hxd.symm.trans e) hxp)]
       exact HO.out)
      clear hkp hx hxd hyd0 hyd hy hsrd hsa hsd hs0 hat hbw hcap
      go_upto_region 9 with fail
      have hgr:=fun (w0 W:World) (p:Addr) (hp:(fun j=>kp j=true) p.block)=>graft_cell (w0:=w0) (keep:=(fun j=>kp j=true)) W hp
      refine wp_region_tree (fun j=>kp j=true) [13] (.sq [0,1,2,3,4,5,6,7,8,9,10,11,12,14,15,16,17,18,19,20,13,21,22] .done) (by kernel_rfl) (by kernel_rfl) ?_
      simp only [Tr.sq,List.foldr_cons,List.foldr_nil,slimTr,slimStep,Oper.slim,List.contains_cons,List.contains_nil,Option.map_none,Option.map_some,List.getElem?_toArray,List.getElem?_cons_zero,List.getElem?_cons_succ,Option.bind_some,beq_self_eq_true,Bool.or_false,Nat.reduceBEq,Nat.reduceAdd,Nat.zero_add]
      repeat' first | ((with_reducible refine wpSlimT_id ?_);first | (with_reducible refine wpSlimT_done ?_) | ((with_reducible refine wpSlimT_step (fun K hK=>?_));go_simp;first | (refine hK _ _ ?_;clear hK K) | (refine ⟨by (intro kk hkk;first | (simp (disch:=(simp;omega)) only [hp_drew,hp_drewN,hp_alloc,hp_set];done) | (simp [hp_drew,hp_drewN,hp_alloc_if,hkk];done) | fail),hK _ _ ?_⟩;clear hK K))) | fail
      clear hgr
      go_wp2
      go_roundg (L - (I+1))
      case measure=>omega
      case rel=>exact ⟨_,I+1,rfl,by omega,rfl,by go_num,HO2,HBD⟩
    ·obtain rfl:I=L:=by omega
     have HO2:Hid (OwnZ wr w2.heap.size V (wrR ps W ys (p+1))):=Lib.hid (by
      rw [wrR_succ,HQ.out]
      exact HO.out)
     go_wp2
     go_roundg (n - (p+1))
     case measure=>omega
     case rel=>exact ⟨_,p+1,rfl,by omega,rfl,by go_num,HO2,HB⟩
  ·obtain rfl:p=n:=by omega
   have HP1:Hid (OwnZ wr w.heap.size V (wrR ps W ys p)∧Below w.heap.size w wr):=Lib.hid ⟨HO.out.mono hs2,HB2.out.trans (HB.out.mono hs2)⟩
   go_wp2
   go_ret
   exact ⟨V,rfl,HP1.out.1,HP1.out.2⟩
end Go.Proofs.YtbiaoohodjoojaaGreat
/- The reference's message of a polynomial. -/
namespace Go.Proofs.YtbiaoohodjoojaaGreat
open Go.RowKit Fld
set_option linter.unusedVariables false
set_option linter.unusedSimpArgs false

noncomputable def mP (r:Nat) (p:List GF) (I j:Nat):GF:=if j / r * (r+1)+j % r < I then p.getD (j / r * (r+1)+j % r) 0 else 0
theorem mP_zero (r:Nat) (p:List GF) (j:Nat):mP r p 0 j=0:=by unfold mP;rw [if_neg (by omega)]
theorem mP_all (r:Nat) (p:List GF) (j:Nat):mP r p p.length j=p.getD (j / r * (r+1)+j % r) 0:=by
 unfold mP
 by_cases h:j / r * (r+1)+j % r < p.length
 ·rw [if_pos h]
 ·rw [if_neg h,List.getD_eq_getElem?_getD,List.getElem?_eq_none (by omega)];rfl
theorem mpos {r j:Nat} (hr:0 < r):(j / r * (r+1)+j % r) / (r+1)=j / r∧(j / r * (r+1)+j % r) % (r+1)=j % r:=by
 have hm:j % r < r:=Nat.mod_lt _ hr
 exact ⟨by rw [Nat.mul_comm,Nat.mul_add_div (Nat.succ_pos r),Nat.div_eq_of_lt (Nat.lt_succ_of_lt hm),Nat.add_zero],by rw [Nat.mul_comm,Nat.mul_add_mod,Nat.mod_eq_of_lt (Nat.lt_succ_of_lt hm)]⟩
theorem mP_skip {r I:Nat} (hr:0 < r) (p:List GF) (h:I % (r+1)=r) (j:Nat):mP r p (I+1) j=mP r p I j:=by
 have hne:j / r * (r+1)+j % r ≠ I:=fun e=>by
  have h1:=(mpos (j:=j) hr).2
  rw [e,h] at h1
  have hm:j % r < r:=Nat.mod_lt _ hr
  omega
 unfold mP
 by_cases h3:j / r * (r+1)+j % r < I
 ·rw [if_pos h3,if_pos (by omega)]
 ·rw [if_neg h3,if_neg (by omega)]
theorem mP_succ {r I:Nat} (hr:0 < r) (p:List GF) (h:I % (r+1) < r) (j:Nat):mP r p (I+1) j=if j=I / (r+1) * r+I % (r+1) then p.getD I 0 else mP r p I j:=by
 have hI:I=I / (r+1) * (r+1)+I % (r+1):=by rw [Nat.mul_comm];exact (Nat.div_add_mod I (r+1)).symm
 by_cases e:j=I / (r+1) * r+I % (r+1)
 ·have h1:j / r=I / (r+1):=by rw [e,Nat.mul_comm,Nat.mul_add_div hr,Nat.div_eq_of_lt h,Nat.add_zero]
  have h2:j % r=I % (r+1):=by rw [e,Nat.mul_comm,Nat.mul_add_mod,Nat.mod_eq_of_lt h]
  rw [if_pos e]
  unfold mP
  rw [h1,h2,← hI,if_pos (Nat.lt_succ_self I)]
 ·rw [if_neg e]
  have hne:j / r * (r+1)+j % r ≠ I:=fun e2=>by
   apply e
   have h1:=mpos (j:=j) hr
   rw [e2] at h1
   rw [h1.1,h1.2,Nat.mul_comm]
   exact (Nat.div_add_mod j r).symm
  unfold mP
  by_cases h3:j / r * (r+1)+j % r < I
  ·rw [if_pos h3,if_pos (by omega)]
  ·rw [if_neg h3,if_neg (by omega)]
theorem mplace_lt {r d I:Nat} (hI:I < d * (r+1) - 1) (h:I % (r+1) < r):I / (r+1) * r+I % (r+1) < d * r:=by
 have h1:I / (r+1) < d:=Nat.div_lt_of_lt_mul (by rw [Nat.mul_comm];omega)
 have h3:=Nat.mul_le_mul_right r (show I / (r+1)+1≤d from h1)
 rw [Nat.add_mul,Nat.one_mul] at h3
 omega
def GapsZ (r:Nat) (p:List GF) (I:Nat):Prop:=∀ i,i < I→i % (r+1)=r→p.getD i 0=0
def RMsgPost (r k T:Nat) (p:List GF) (w:World) (e:Ending) (w':World):Prop :=
 Below w.heap.size w w'∧((T < p.length ∨ ¬ GapsZ r p p.length)∧e=.returned (.tuple #[.slice none 0 0,.bool false]) ∨
  (p.length≤T∧GapsZ r p p.length)∧∃ g,e=.returned (.tuple #[.slice (some ⟨g,0,none⟩) k k,.bool true])∧w.heap.size≤g∧View w' g k (fun j=>p.getD (j / r * (r+1)+j % r) 0))
set_option maxRecDepth 100000 in
set_option maxHeartbeats 4000000 in
theorem rmsg12_any (n k r:Nat) (v:Value) (m:List GF) (w:World) (h:LOkN n k r) (hm:GRd w v m) (hpl:m.length≤1000000) :
  Calls Tryz.prog 55 #[rc n k r,v] w (RMsgPost r k (k / r * (r+1) - 1) m w):=by
 have n1:=h.n1
 have r1:=h.r1
 have k1':=h.k1
 have htl:=h.tells
 have hkr:k / r * r=k:=Nat.div_mul_cancel (Nat.dvd_of_mod_eq_zero h.kr)
 obtain ⟨T,hT⟩:∃ T,k+k / r - 1=T:=⟨_,rfl⟩
 have hTn:T≤n:=by have:=h.le;omega
 have hTd:k / r * (r+1) - 1=T:=by omega
 obtain ⟨i0,hi,hz0,hz1,hz2⟩:=info_parts u8_info
 have hmk:∀ W,(Instr.makeSlice 36 (.int .i64 k) (.int .i64 k)).run Tryz.prog W=.ok (.slice (some ⟨W.heap.size,0,none⟩) k k) (W.alloc (.cells (Array.replicate k (.int .u8 0)) 5)):=fun W =>
  run_row W 36 5 i0 (.int .u8 0) Tryz.underlying36 hi hz0 hz1 rfl k (by rw [hz2];omega) (by unfold maxLen;omega)
 obtain ⟨R,hR⟩:∃ R,r+1=R:=⟨_,rfl⟩
 have e1:(r:Int)+1=(R:Int):=by omega
 have e2:IntKind.i64.wrap (R:Int)=(R:Int):=IntWalk.i64_in _ (by omega)
 have e3:¬ (R:Int)=0:=by omega
 have e3n:¬ R=0:=by omega
 obtain ⟨am,cm,rfl,hcm⟩:=hm.form
 obtain ⟨L,hL⟩:∃ L,m.length=L:=⟨_,rfl⟩
 have HM:=Lib.hid hm
 have HML:=Lib.hid hL
 rw [hL] at HM hcm hpl ⊢
 obtain ⟨wb,hwb⟩:∃ wb,wb=w.alloc (.cells #[.int .i64 n,.int .i64 k,.int .i64 r] 29):=⟨_,rfl⟩
 have hbb:Below w.heap.size w wb:=by rw [hwb];exact (Below.refl _ _).alloc (Nat.le_refl _) _
 have hbx:wb.heap[w.heap.size]? = some (.cells #[.int .i64 n,.int .i64 k,.int .i64 r] 29 (0,0)):=by rw [hwb];exact heap_newA _ _
 have hwbs:w.heap.size < wb.heap.size:=lt_of_heap hbx
 have HTL:=Lib.hid (rtells_any (n:Int) k r wb r1.1 (by omega))
 unfold RTelPost at HTL
 rw [hT,hwb] at HTL
 have HWB:=Lib.hid hwb
 have HBX:=Lib.hid (And.intro hbb hbx)
 have HD:Hid (k / r * (r+1) - 1=T∧k / r * r=k):=Lib.hid ⟨hTd,hkr⟩
 have HRR:=Lib.hid hR
 rw [hTd]
 clear h hm hL hi hz0 hz1 hz2 hT htl hTd hkr hwb hbb hbx hR
 go_enter Tryz.func55,Tryz.ntmps55
 go_wp2_with fail
 refine HTL.out.mono ?_
 rintro e w2 ⟨rfl,hb2⟩
 rw [← HWB.out] at hb2
 have hb02:Below w.heap.size w w2:=HBX.out.1.trans (hb2.mono (by omega))
 have hbx2:=keepB hb2 HBX.out.2
 have hs2:w.heap.size < w2.heap.size:=lt_of_heap hbx2
 have z1:=cell_of_heap hbx2 (j:=1) rfl
 by_cases hLT:T < L
 ·have hLT':(T:Int) < (L:Int):=by omega
  have HP:Hid (RMsgPost r k T m w (.returned (.tuple #[.slice none 0 0,.bool false])) w2):=Lib.hid ⟨hb02,.inl ⟨.inl (by rw [HML.out];exact hLT),rfl⟩⟩
  clear hb2 hb02 hbx2 HTL z1
  go_wp2
  go_ret2
  exact HP.out
 have hLT':¬ (T:Int) < (L:Int):=by omega
 have HLT:Hid (L≤T):=Lib.hid (by omega)
 have hbx3:(w2.alloc (.cells (Array.replicate k (.int .u8 0)) 5)).heap[w.heap.size]? = some (.cells #[.int .i64 n,.int .i64 k,.int .i64 r] 29 (0,0)):=keepA hbx2 _
 have hhz:(w2.alloc (.cells (Array.replicate k (.int .u8 0)) 5)).heap[w2.heap.size]? = some (.cells (Array.replicate k (.int .u8 0)) 5 (0,0)):=heap_newA _ _
 have HV0:Hid (View (w2.alloc (.cells (Array.replicate k (.int .u8 0)) 5)) w2.heap.size k (mP r m 0)):=Lib.hid ⟨lt_of_heap hhz,fun j hj=>⟨by
  rw [cell_of_row _ _ _ _ _ (0,0) hhz,mP_zero]
  simp [hj]
  rfl,free_of_heap hhz j⟩⟩
 have HX0:=Lib.hid hbx3
 have HB0:Hid (Below w.heap.size w (w2.alloc (.cells (Array.replicate k (.int .u8 0)) 5))):=Lib.hid (hb02.trans ((Below.refl _ _).alloc (by omega) _))
 clear hb2 hb02 hbx2 hbx3 hhz HTL
 go_wp2
 clear z1
 go_loopg [7] L (fun gk i wr=>∃ I:Nat,I≤L∧gk=L - I∧i=.int .i64 I∧Hid (View wr w2.heap.size k (mP r m I))∧Hid (GapsZ r m I)∧Hid (wr.heap[w.heap.size]? = some (.cells #[.int .i64 n,.int .i64 k,.int .i64 r] 29 (0,0)))∧Hid (Below w.heap.size w wr))
 case atStart=>exact ⟨0,by omega,rfl,rfl,HV0,Lib.hid (fun i hi=>by omega),HX0,HB0⟩
 case round =>
  clear HV0 HX0 HB0
  obtain ⟨I,hI,rfl,rfl,HV,HGZ,HX,HB⟩:=hrel
  by_cases hlt:I < L
  ·obtain ⟨Q,hQ⟩:∃ Q,I / R=Q:=⟨_,rfl⟩
   obtain ⟨E,hE⟩:∃ E,I % R=E:=⟨_,rfl⟩
   have hQI:Q≤I:=by rw [← hQ];exact Nat.div_le_self _ _
   have hEr:E < R:=by rw [← hE];exact Nat.mod_lt _ (by omega)
   have f5:(I:Int).tmod (R:Int)=(E:Int):=by rw [← hE];exact (Int.ofNat_tmod I R).symm
   have f6:IntKind.i64.wrap (E:Int)=(E:Int):=IntWalk.i64_in _ (by omega)
   have i2:(0:Int)≤(I:Int)∧(I:Int) < (L:Int):=by omega
   obtain ⟨x,hx,hxd⟩:=at_get (l:=m) (i:=I) (by rw [HML.out];exact hlt)
   obtain ⟨bm,om,rfl,hbm,-⟩:=HM.out.at hx
   obtain ⟨_,_,e,-,cx⟩:=(HM.out.below HB.out).at hx
   cases e
   have hsr:=HB.out.size
   have y2:=cell_of_heap HX.out (j:=2) rfl
   have gx:=lt_of_heap HX.out
   have gv:=HV.out.1
   by_cases hEE:E=r
   ·have hEE':((E:Int) == (r:Int))=true:=by simp;omega
    obtain ⟨kp,hkp⟩:∃ kp:Nat→Bool,∀ j,kp j=true↔j < wr.heap.size∧j ≠ w2.heap.size:=⟨fun j=>decide (j < wr.heap.size∧j ≠ w2.heap.size),by simp⟩
    have k1:kp w.heap.size=true:=(hkp _).2 ⟨by omega,by omega⟩
    have HMOD:Hid (I % (r+1)=r):=Lib.hid (by rw [HRR.out,hE];exact hEE)
    have HXD:=Lib.hid hxd
    obtain ⟨xn,hxn⟩:∃ xn,x.n=xn:=⟨_,rfl⟩
    have HXN:=Lib.hid hxn
    rw [hxn] at cx
    clear hQ hE hx hxd hxn hkp
    by_cases hz:xn=0
    ·have HG2:Hid (GapsZ r m (I+1)):=Lib.hid (fun i hi hi2=>by
      rcases Nat.lt_or_ge i I with h | h
      ·exact HGZ.out i h hi2
      ·obtain rfl:i=I:=by omega
       rw [HXD.out]
       exact GF.ext' (by rw [HXN.out,hz];rfl))
     have HV2:Hid (View wr.drew w2.heap.size k (mP r m (I+1))):=Lib.hid ((HV.out.below ((Below.refl wr.heap.size wr).drew)).congr fun j hj=>(mP_skip r1.1 m HMOD.out j).symm)
     have HB2:Hid (Below w.heap.size w wr.drew):=Lib.hid HB.out.drew
     have HX2:Hid (wr.drew.heap[w.heap.size]? = some (.cells #[.int .i64 n,.int .i64 k,.int .i64 r] 29 (0,0))):=Lib.hid HX.out
     go_upto_region 7 with fail
     have hgr:=fun (w0 W:World) (p:Addr) (hp:(fun k=>kp k=true) p.block)=>graft_cell (w0:=w0) (keep:=(fun k=>kp k=true)) W hp
     refine wp_region_tree (fun k=>kp k=true) [] (.sq [0,1,2,3,4,5,6,7] .done) (by kernel_rfl) (by kernel_rfl) ?_
     simp only [Tr.sq,List.foldr_cons,List.foldr_nil,slimTr,slimStep,Oper.slim,List.contains_cons,List.contains_nil,Option.map_none,Option.map_some,List.getElem?_toArray,List.getElem?_cons_zero,List.getElem?_cons_succ,Option.bind_some,beq_self_eq_true,Bool.or_false,Nat.reduceBEq,Nat.reduceAdd,Nat.zero_add]
     repeat' first | ((with_reducible refine wpSlimT_id ?_);first | (with_reducible refine wpSlimT_done ?_) | ((with_reducible refine wpSlimT_step (fun K hK=>?_));go_simp;(refine hK _ _ ?_;clear hK K))) | fail
     clear hgr
     go_wp2
     go_roundg (L - (I+1))
     case measure=>omega
     case rel=>exact ⟨I+1,by omega,rfl,by go_num,HV2,HG2,HX2,HB2⟩
    ·have HP:Hid (RMsgPost r k T m w (.returned (.tuple #[.slice none 0 0,.bool false])) wr.drew):=Lib.hid ⟨HB.out.drew,.inl ⟨.inr (fun hg=>hz (by
      have:=hg I (by rw [HML.out];exact hlt) HMOD.out
      rw [HXD.out] at this
      rw [← HXN.out,this]
      rfl)),rfl⟩⟩
     have hz':¬ (xn:Int)=0:=by omega
     go_upto_region 7 with fail
     have hgr:=fun (w0 W:World) (p:Addr) (hp:(fun k=>kp k=true) p.block)=>graft_cell (w0:=w0) (keep:=(fun k=>kp k=true)) W hp
     refine wp_region_tree (fun k=>kp k=true) [] (.sq [0,1,2,3,4,5,6,7] .done) (by kernel_rfl) (by kernel_rfl) ?_
     simp only [Tr.sq,List.foldr_cons,List.foldr_nil,slimTr,slimStep,Oper.slim,List.contains_cons,List.contains_nil,Option.map_none,Option.map_some,List.getElem?_toArray,List.getElem?_cons_zero,List.getElem?_cons_succ,Option.bind_some,beq_self_eq_true,Bool.or_false,Nat.reduceBEq,Nat.reduceAdd,Nat.zero_add]
     repeat' first | ((with_reducible refine wpSlimT_id ?_);first | (with_reducible refine wpSlimT_done ?_) | ((with_reducible refine wpSlimT_step (fun K hK=>?_));go_simp;(refine hK _ _ ?_;clear hK K))) | fail
     clear hgr
     go_wp2
     go_ret2
     exact HP.out
   ·have hEE':((E:Int) == (r:Int))=false:=by simp;omega
    have hElt:E < r:=by omega
    obtain ⟨P,hP⟩:∃ P,Q * r=P:=⟨_,rfl⟩
    obtain ⟨J,hJ⟩:∃ J,P+E=J:=⟨_,rfl⟩
    have hmod:I % (r+1) < r:=by rw [HRR.out,hE];exact hElt
    have hJk:J < k:=by
     have:=mplace_lt (d:=k / r) (by rw [HD.out.1];have:=HLT.out;omega) hmod
     rw [HD.out.2,HRR.out,hQ,hE,hP,hJ] at this
     exact this
    have f1:(I:Int).tdiv (R:Int)=(Q:Int):=by rw [← hQ];exact (Int.ofNat_tdiv I R).symm
    have f2:IntKind.i64.wrap (Q:Int)=(Q:Int):=IntWalk.i64_in _ (by omega)
    have f3:(Q:Int) * (r:Int)=(P:Int):=by rw [← hP];simp
    have f4:IntKind.i64.wrap (P:Int)=(P:Int):=IntWalk.i64_in _ (by omega)
    have f7:(P:Int)+(E:Int)=(J:Int):=by omega
    have f8:IntKind.i64.wrap (J:Int)=(J:Int):=IntWalk.i64_in _ (by omega)
    have i1:(0:Int)≤(J:Int)∧(J:Int) < (k:Int):=by omega
    obtain ⟨w3,hw3⟩:∃ w3:World,w3=wr.drew.drew:=⟨_,rfl⟩
    have hnew:=HV.out.set hJk x
    have HV2:Hid (View (wr.drew.drew.setCell ⟨w2.heap.size,J,none⟩ (.int .u8 (x.n:Nat))) w2.heap.size k (mP r m (I+1))):=Lib.hid (hnew.congr fun j hj=>by
     rw [mP_succ r1.1 m hmod,HRR.out,hQ,hE,hP,hJ,hxd])
    have hkx:Kp [w2.heap.size] wr (wr.drew.drew.setCell ⟨w2.heap.size,J,none⟩ (.int .u8 (x.n:Nat))):=(((Kp.refl _ _).drew).drew).setCell (.inl (by simp)) _
    have HX2:=Lib.hid (hkx.heap HX.out (by simp;omega))
    have HB2:Hid (Below w.heap.size w (wr.drew.drew.setCell ⟨w2.heap.size,J,none⟩ (.int .u8 (x.n:Nat)))):=Lib.hid (HB.out.trans (hkx.below hsr (by simp;omega)))
    have HG2:Hid (GapsZ r m (I+1)):=Lib.hid (fun i hi hi2=>by
     rcases Nat.lt_or_ge i I with h | h
     ·exact HGZ.out i h hi2
     ·obtain rfl:i=I:=by omega
      omega)
    obtain ⟨cJ,fJ⟩:=HV.out.2 J hJk
    obtain ⟨xn,hxn⟩:∃ xn,x.n=xn:=⟨_,rfl⟩
    rw [hxn] at cx HV2 HX2 HB2
    obtain ⟨kp,hkp⟩:∃ kp:Nat→Bool,∀ j,kp j=true↔j < wr.heap.size∧j ≠ w2.heap.size:=⟨fun j=>decide (j < wr.heap.size∧j ≠ w2.heap.size),by simp⟩
    have k1:kp w.heap.size=true:=(hkp _).2 ⟨by omega,by omega⟩
    have k2:kp bm=true:=(hkp _).2 ⟨by omega,by omega⟩
    have HKP:=Lib.hid hkp
    clear hQ hE hP hJ hx hxd hnew hkx hxn hkp hmod hw3
    go_upto_region 7 with fail
    have hgr:=fun (w0 W:World) (p:Addr) (hp:(fun k=>kp k=true) p.block)=>graft_cell (w0:=w0) (keep:=(fun k=>kp k=true)) W hp
    refine wp_region_tree (fun k=>kp k=true) [] (.sq [0,1,2,3,4,5,6,7] .done) (by kernel_rfl) (by kernel_rfl) ?_
    simp only [Tr.sq,List.foldr_cons,List.foldr_nil,slimTr,slimStep,Oper.slim,List.contains_cons,List.contains_nil,Option.map_none,Option.map_some,List.getElem?_toArray,List.getElem?_cons_zero,List.getElem?_cons_succ,Option.bind_some,beq_self_eq_true,Bool.or_false,Nat.reduceBEq,Nat.reduceAdd,Nat.zero_add]
    repeat' first | ((with_reducible refine wpSlimT_id ?_);first | (with_reducible refine wpSlimT_done ?_) | ((with_reducible refine wpSlimT_step (fun K hK=>?_));go_simp;(refine hK _ _ ?_;clear hK K))) | fail
    clear hgr
    go_upto_region 10 with fail
    have hgr:=fun (w0 W:World) (p:Addr) (hp:(fun k=>kp k=true) p.block)=>graft_cell (w0:=w0) (keep:=(fun k=>kp k=true)) W hp
    refine wp_region_tree (fun k=>kp k=true) [20] (.sq [0,1,2,3,4,5,6,7,8,9,10,11,12,13,14,15,16,17,18,19,20] .done) (by kernel_rfl) (by kernel_rfl) ?_
    simp only [Tr.sq,List.foldr_cons,List.foldr_nil,slimTr,slimStep,Oper.slim,List.contains_cons,List.contains_nil,Option.map_none,Option.map_some,List.getElem?_toArray,List.getElem?_cons_zero,List.getElem?_cons_succ,Option.bind_some,beq_self_eq_true,Bool.or_false,Nat.reduceBEq,Nat.reduceAdd,Nat.zero_add]
    repeat' first | ((with_reducible refine wpSlimT_id ?_);first | (with_reducible refine wpSlimT_done ?_) | ((with_reducible refine wpSlimT_step (fun K hK=>?_));go_simp;first | (refine hK _ _ ?_;clear hK K) | (refine ⟨by (intro kk hkk;first | (simp (disch:=(simp;omega)) only [hp_drew,hp_drewN,hp_alloc,hp_set];done) | (simp [hp_drew,hp_drewN,hp_alloc_if,hkk];done) | (exact (hp_set _ _ _ _ (by have:=((HKP.out kk).1 hkk).2;simp;omega)).trans rfl)),hK _ _ ?_⟩;clear hK K))) | fail
    clear hgr
    go_wp2
    go_roundg (L - (I+1))
    case measure=>omega
    case rel=>exact ⟨I+1,by omega,rfl,by go_num,HV2,HG2,HX2,HB2⟩
  ·obtain rfl:I=L:=by omega
   have HP:Hid (RMsgPost r k T m w (.returned (.tuple #[.slice (some ⟨w2.heap.size,0,none⟩) k k,.bool true])) wr):=Lib.hid ⟨HB.out,.inr ⟨⟨by rw [HML.out];exact HLT.out,by rw [HML.out];exact HGZ.out⟩,w2.heap.size,rfl,by omega,HV.out.congr fun j hj=>by
    have:=mP_all r m j
    rwa [HML.out] at this⟩⟩
   go_wp2
   go_ret2
   exact HP.out
end Go.Proofs.YtbiaoohodjoojaaGreat
/- The reference's Decode by all rows: the plain laws. -/
namespace Go.Proofs.YtbiaoohodjoojaaGreat
open Go.RowKit Fld
set_option linter.unusedVariables false
set_option linter.unusedSimpArgs false

theorem ptsOf_rowP (xs:List GF) (ps:List Int) (q:Nat→Nat) (J:Nat):ptsOf xs (rowP ps q J)=rowF (fun j=>xs.getD (ps.getD (q j) 0).toNat 0) J:=by
 unfold ptsOf rowP rowF
 rw [List.map_map]
 rfl
section
variable {xs ys p:List GF} {ps:List Int} {r d T t n:Nat} {q:Nat→Nat}
def FailL (xs:List GF) (ps:List Int) (ys:List GF) (r d T t:Nat) (q:Nat→Nat):Prop:=∀ m:List GF,m.length=d * r→Fits xs T (rowP ps q T) (rowY ys q T) (polyL r d m)→¬ (wrS xs ps ys (polyL r d m)).length≤t
theorem failL_congr {q':Nat→Nat} (h:∀ j,j < T→q j=q' j) (hf:FailL xs ps ys r d T t q'):FailL xs ps ys r d T t q:=by
 intro m hm hfit
 rw [rowP_congr h,rowY_congr h] at hfit
 exact hf m hm hfit
theorem all_failL (hT:d * (r+1) - 1=T) (hk:T+t≤ps.length) (h:∀ q,Ris T ps.length q→FailL xs ps ys r d T t q):LTell xs r d ps ys t none:=by
 intro m hm hw
 have hw':=hw
 rw [wrS_len] at hw'
 obtain ⟨q,hr,hf⟩:=right_ris hw' (by rw [pts_len];exact hk)
 rw [pts_len] at hr
 refine h q hr m hm (fits_rowP.2 ⟨by rw [polyL_len,hT],fun j hj=>?_⟩) hw
 have:=hf j hj
 rwa [pts_get xs (hr.1 j hj)] at this
theorem failL_one (hn:xs.Nodup) (hg:GoodP xs.length ps) (h:Ris T ps.length q) (hT:d * (r+1) - 1=T) (hpl:p.length≤T) (hf:Fits xs T (rowP ps q T) (rowY ys q T) (padTo p T)) (hb:¬ GapsZ r p p.length ∨ ¬ (wrS xs ps ys (padTo p T)).length≤t):FailL xs ps ys r d T t q:=by
 intro m hm hfit
 have e:=fits_one hn (ris_good hg h) (by rw [rowP_len];exact Nat.le_refl _) hfit hf
 rcases hb with hb | hb
 ·exfalso
  refine hb fun i hi him=>?_
  have hdm:i / (r+1) * (r+1)+i % (r+1)=i:=by rw [Nat.mul_comm];exact Nat.div_add_mod i (r+1)
  rw [him] at hdm
  have hiT:i < d * (r+1) - 1:=by omega
  have hc:i / (r+1)+1 < d:=by
   generalize hC:i / (r+1)=c at *
   rcases Nat.lt_or_ge (c+1) d with h1 | h1
   ·exact h1
   ·have:=Nat.mul_le_mul_right (r+1) h1
    rw [Nat.add_mul,Nat.one_mul] at this
    omega
  have:=polyL_gap (r:=r) m hc
  rw [e,padTo_get,hdm] at this
  exact this
 ·rw [e]
  exact hb
theorem gaps_pad (h:GapsZ r p p.length) (c:Nat):(padTo p T).getD (c * (r+1)+r) 0=0:=by
 rw [padTo_get]
 by_cases h1:c * (r+1)+r < p.length
 ·exact h _ h1 (by rw [Nat.mul_comm,Nat.mul_add_mod,Nat.mod_eq_of_lt (Nat.lt_succ_self r)])
 ·rw [List.getD_eq_getElem?_getD,List.getElem?_eq_none (by omega)];rfl
theorem msgL_pad {j:Nat} (hj:j < d * r):(msgL r (padTo p T) d).getD j 0=p.getD (j / r * (r+1)+j % r) 0:=by
 rw [msgL,rowF_get _ hj,padTo_get]
theorem wr_pad (hx:xs.length=n) (hg:GoodP xs.length ps):wrR ps (rowF (fun i=>ev p (xs.getD i 0)) n) ys n=wrS xs ps ys (padTo p T):=by
 subst hx
 rw [rowF_map,← wrR_wrS ys (padTo p T) hg]
 congr 1
 exact List.map_congr_left fun x _=>(padTo_ev p T x).symm
theorem thru_fits (hn:xs.Nodup) (hg:GoodP xs.length ps) (h:Ris T ps.length q) (hpl:p.length≤T) (ht:Thru (ptsOf xs (rowP ps q T)) (rowY ys q T) p):Fits xs T (rowP ps q T) (rowY ys q T) (padTo p T) :=
 (thru_tells hn (ris_good hg h) (by rw [rowP_len,rowY,rowF_len]) (by rw [rowP_len];exact Nat.le_refl _) ht).1 hpl
theorem tell_pad (hr:0 < r) (hT:d * (r+1) - 1=T) (hpl:p.length≤T) (hz:GapsZ r p p.length) (hw:(wrS xs ps ys (padTo p T)).length≤t):LTell xs r d ps ys t (some (msgL r (padTo p T) d))∧polyL r d (msgL r (padTo p T) d)=padTo p T :=
 LTell.of_some hr ⟨by rw [padTo_len _ hpl,hT],hw⟩ fun c _=>gaps_pad hz c
end
def RDecAns12 (B:Nat) (xs:List GF) (n r d:Nat) (l:List Sy) (t:Int) (e:Ending) (w':World):Prop :=
 (t < 0 ∨ ¬ SyGood n (-1) 1 l)∧e=.returned (.tuple #[.slice none 0 0,.slice none 0 0,.int .i64 2]) ∨
 (0≤t∧SyGood n (-1) 1 l)∧((l.length:Int) < ((d * (r+1) - 1:Nat):Int)+2 * t∧e=.returned (.tuple #[.slice none 0 0,.slice none 0 0,.int .i64 70]) ∨
  ((d * (r+1) - 1:Nat):Int)+2 * t≤(l.length:Int)∧((∃ m v1 v2,e=.returned (.tuple #[v1,v2,.int .i64 0])∧LTell xs r d (Sy.nodes l) (ysL l) t.toNat (some m)∧(GRd w' v1 m∧∀ b,v1.ownBlock=some b→B≤b)∧RdZ w' B v2 (wrS xs (Sy.nodes l) (ysL l) (polyL r d m))) ∨
   e=.returned (.tuple #[.slice none 0 0,.slice none 0 0,.int .i64 80])∧LTell xs r d (Sy.nodes l) (ysL l) t.toNat none))
def RDec12Post (xs:List GF) (n r d:Nat) (l:List Sy) (t:Int) (w:World) (e:Ending) (w':World):Prop :=
 Below w.heap.size w w'∧RDecAns12 w.heap.size xs n r d l t e w'
end Go.Proofs.YtbiaoohodjoojaaGreat
/- The reference's Decode. -/
namespace Go.Proofs.YtbiaoohodjoojaaGreat
open Go.RowKit Fld
set_option linter.unusedVariables false
set_option linter.unusedSimpArgs false

set_option maxRecDepth 100000 in
set_option maxHeartbeats 8000000 in
theorem rdec12_any (n k r:Nat) (hv:Value) (l:List Sy) (t:Int) (w:World) (h:LOkN n k r) (hl:SyAll w hv l) (hll:l.length≤500) (ht:-9223372036854775808≤t∧t≤9223372036854775807) :
  Calls Tryz.prog 28 #[rc n k r,hv,.int .i64 t] w (RDec12Post (cosL r (n / (r+1))) n r (k / r) l t w):=by
 have n1:=h.n1
 have r1:=h.r1
 have k1':=h.k1
 have htl:=h.tells
 obtain ⟨T,hT⟩:∃ T,k+k / r - 1=T:=⟨_,rfl⟩
 have hTn:T≤n:=by have:=h.le;omega
 have hTd:k / r * (r+1) - 1=T:=by omega
 have hT1:1≤T:=by omega
 obtain ⟨wb,hwb⟩:∃ wb,wb=w.alloc (.cells #[.int .i64 n,.int .i64 k,.int .i64 r] 29):=⟨_,rfl⟩
 have hbb:Below w.heap.size w wb:=by rw [hwb];exact (Below.refl _ _).alloc (Nat.le_refl _) _
 have hbx:wb.heap[w.heap.size]? = some (.cells #[.int .i64 n,.int .i64 k,.int .i64 r] 29 (0,0)):=by rw [hwb];exact heap_newA _ _
 have HROW:=Lib.hid (rrows_any n hv l (-1) 1 wb (hl.below hbb) (by omega))
 unfold BelowPost at HROW
 rw [show (((1:Nat):Nat):Int)=1 from rfl,hwb] at HROW
 have HPT:=Lib.hid (fun W=>rpoints_any n k r W h)
 unfold RPtsPost at HPT
 have HTL:=Lib.hid (fun W=>rtells_any (n:Int) k r W r1.1 (by omega))
 unfold RTelPost at HTL
 rw [hT] at HTL
 have HMS:=Lib.hid (fun v m W=>rmsg12_any n k r v m W h)
 rw [hTd] at HMS
 have HWR:=Lib.hid (fun v m W=>rwrong12_any n k r v hv m l W h)
 have hxl:(cosL r (n / (r+1))).length=n:=h.len
 have hnd:=h.nodup
 obtain ⟨xs,hxs⟩:∃ xs,cosL r (n / (r+1))=xs:=⟨_,rfl⟩
 rw [hxs] at HPT HWR hxl hnd ⊢
 obtain ⟨D,hD⟩:∃ D,k / r=D:=⟨_,rfl⟩
 have hDk:D * r=k:=by rw [← hD];exact Nat.div_mul_cancel (Nat.dvd_of_mod_eq_zero h.kr)
 rw [hD] at hTd ⊢
 have hnl:=nodes_len l
 have hyl:=ysL_len l
 obtain ⟨ah,ch,rfl⟩:=hl.rd.form
 obtain ⟨Q,hQ⟩:∃ Q,l.length=Q:=⟨_,rfl⟩
 have HL:=Lib.hid hQ
 have HS:=Lib.hid hl
 have HND:=Lib.hid hnd
 have HXL:=Lib.hid hxl
 have HWB:=Lib.hid hwb
 have HBX:=Lib.hid (And.intro hbb hbx)
 have HTD:=Lib.hid (And.intro hTd hDk)
 have HNL:=Lib.hid (hnl.trans hQ)
 have HYL:=Lib.hid (hyl.trans hQ)
 rw [hQ] at HS HROW HWR hll ⊢
 clear h hl hwb hbb hbx hxs hxl hQ hnd hT hTd hD hDk htl hnl hyl
 by_cases ht0:t < 0
 ·go_enter Tryz.func28,Tryz.ntmps28
  go_wp2
  go_ret3
  exact ⟨by (repeat' (first | (with_reducible exact RowKit.Below.refl _ _) | (with_reducible assumption) | (with_reducible refine RowKit.Below.drew ?_) | (with_reducible refine RowKit.Below.alloc ?_ ?_ _) | omega | (simp;done) | (simp;omega))),.inl ⟨.inl ht0,rfl⟩⟩
 obtain ⟨tn,rfl⟩:∃ tn:Nat,t=(tn:Int):=⟨t.toNat,by omega⟩
 go_enter Tryz.func28,Tryz.ntmps28
 go_wp2_with fail
 refine HROW.out.mono ?_
 rintro e w1 ⟨b,rfl,hb1,hbi⟩
 rw [← HWB.out] at hb1
 have hbw1:Below w.heap.size w w1:=HBX.out.1.trans (hb1.mono HBX.out.1.size)
 have HB1:=Lib.hid hbw1
 have HX1:=Lib.hid (keepB hb1 HBX.out.2)
 have HBI:=Lib.hid hbi
 clear hb1 hbw1 hbi HROW
 cases b
 ·have HNG:Hid (¬ SyGood n (-1) 1 l):=Lib.hid fun h=>by have:=HBI.out.2 h;cases this
  go_wp2
  go_ret3
  exact ⟨HB1.out,.inl ⟨.inr HNG.out,rfl⟩⟩
 have HG:=Lib.hid (HBI.out.1 (by trivial))
 clear HBI
 have HGA:Hid ((0:Int)≤(tn:Int)∧SyGood n (-1) 1 l):=Lib.hid ⟨by omega,HG.out⟩
 have hx1:=lt_of_heap HX1.out
 have y0:=cell_of_heap HX1.out (j:=0) rfl
 have y1:=cell_of_heap HX1.out (j:=1) rfl
 have y2:=cell_of_heap HX1.out (j:=2) rfl
 by_cases hf:(Q:Int) < (tn:Int)
 ·have HF:Hid (((l.length:Nat):Int) < ((D * (r+1) - 1:Nat):Int)+2 * (tn:Int)):=Lib.hid (by rw [HL.out,HTD.out.1];omega)
  go_wp2
  go_ret3
  exact ⟨HB1.out,.inr ⟨HGA.out,.inl ⟨HF.out,rfl⟩⟩⟩
 have HTL1:=Lib.hid (HTL.out w1)
 go_wp2_with fail
 refine HTL1.out.mono ?_
 rintro e w2 ⟨rfl,hb2⟩
 have HB2:Hid (Below w.heap.size w w2):=Lib.hid (HB1.out.trans (hb2.mono HB1.out.size))
 have HX2:=Lib.hid (keepB hb2 HX1.out)
 clear hb2 HTL1 y0 y1 y2 hx1
 obtain ⟨T2,hT2⟩:∃ T2,2 * tn=T2:=⟨_,rfl⟩
 obtain ⟨U,hU⟩:∃ U,T+T2=U:=⟨_,rfl⟩
 have x1:(2:Int) * (tn:Int)=(T2:Int):=by omega
 have x2:IntKind.i64.wrap (T2:Int)=(T2:Int):=IntWalk.i64_in _ (by omega)
 have x3:(T:Int)+(T2:Int)=(U:Int):=by omega
 have x4:IntKind.i64.wrap (U:Int)=(U:Int):=IntWalk.i64_in _ (by omega)
 by_cases hfew:Q < U
 ·have hfew':(Q:Int) < (U:Int):=by omega
  have HF:Hid (((l.length:Nat):Int) < ((D * (r+1) - 1:Nat):Int)+2 * (tn:Int)):=Lib.hid (by rw [HL.out,HTD.out.1];omega)
  clear hfew hT2 hU
  go_wp2
  go_ret3
  exact ⟨HB2.out,.inr ⟨HGA.out,.inl ⟨HF.out,rfl⟩⟩⟩
 have hfew':¬ (Q:Int) < (U:Int):=by omega
 have HFW:Hid (T+2 * tn≤Q):=Lib.hid (by omega)
 have hkQ:T≤Q:=by omega
 have HFZ:Hid (((D * (r+1) - 1:Nat):Int)+2 * (tn:Int)≤((l.length:Nat):Int)):=Lib.hid (by rw [HL.out,HTD.out.1];omega)
 have hd2:decide (Q < U)=false:=by simp;omega
 have hx2:=lt_of_heap HX2.out
 have y0:=cell_of_heap HX2.out (j:=0) rfl
 have y1:=cell_of_heap HX2.out (j:=1) rfl
 have y2:=cell_of_heap HX2.out (j:=2) rfl
 have HPT1:=Lib.hid (HPT.out w2)
 clear hfew hT2 hU ht
 go_wp2_with fail
 refine HPT1.out.mono ?_
 rintro e w3 ⟨xv,rfl,hox,hb3⟩
 obtain ⟨gx,cx,rfl,hgx,hcx,hvx⟩:=hox.view (fun e=>by have:=HXL.out;rw [e] at this;simp at this;omega)
 rw [HXL.out] at hvx hcx ⊢
 have HVX3:=Lib.hid hvx
 have HB3:Hid (Below w.heap.size w w3):=Lib.hid (HB2.out.trans (hb3.mono HB2.out.size))
 have HX3:=Lib.hid (keepB hb3 HX2.out)
 clear hb3 hox hvx HPT1 HPT y0 y1 y2 hx2
 have hx3:=lt_of_heap HX3.out
 have y0:=cell_of_heap HX3.out (j:=0) rfl
 have y1:=cell_of_heap HX3.out (j:=1) rfl
 have y2:=cell_of_heap HX3.out (j:=2) rfl
 have HTL3:=Lib.hid (HTL.out w3)
 go_wp2_with fail
 refine HTL3.out.mono ?_
 rintro e w4 ⟨rfl,hb4⟩
 have HVX:=Lib.hid (HVX3.out.below hb4)
 have HB4:Hid (Below w.heap.size w w4):=Lib.hid (HB3.out.trans (hb4.mono HB3.out.size))
 have HX4:=Lib.hid (keepB hb4 HX3.out)
 clear hb4 HTL3 y0 y1 y2 hx3 HVX3
 have HFI:=Lib.hid (rfirst_any T w4 (by omega))
 go_wp2_with fail
 refine HFI.out.mono ?_
 rintro e w5 ⟨lv,rfl,hol,hb5⟩
 obtain ⟨g,capg,rfl,hg1,hg2,hgv⟩:=OwnZ.view hol hT1
 have HV2:=Lib.hid hgv
 have HB5:=Lib.hid hb5
 have HGG:Hid (w4.heap.size≤g):=Lib.hid hg1
 have hgxl:=HVX.out.1
 have hs4:=HB4.out.size
 have hwb4:w.heap.size < w4.heap.size:=lt_of_heap HX4.out
 clear hgv hb5 hol hg1 HFI
 obtain ⟨E,hE⟩:∃ E:(Nat→Nat)→Nat,E=fun q=>Q ^ T - encE Q q T:=⟨_,rfl⟩
 have HE:=Lib.hid hE
 clear hE
 obtain ⟨ps,hps⟩:∃ ps,Sy.nodes l=ps:=⟨_,rfl⟩
 obtain ⟨ys,hys⟩:∃ ys,ysL l=ys:=⟨_,rfl⟩
 have hpg:∀ I s,l[I]? = some s→ps.getD I 0=s.node:=fun I s hs=>by rw [← hps];exact nodes_getD hs
 have hyg:∀ I s,l[I]? = some s→ys.getD I 0=s.d.getD 0 0:=fun I s hs=>by rw [← hys];exact ysL_getD hs
 have hgp:GoodP xs.length ps:=by rw [← hps,HXL.out];exact HG.out.1
 have HPS:=Lib.hid (And.intro hps hys)
 have HPG:=Lib.hid hpg
 have HYG:=Lib.hid hyg
 have HGP:=Lib.hid hgp
 rw [hps] at HNL
 rw [hys] at HYL
 rw [hps,hys] at HWR
 clear hps hys hpg hyg hgp
 go_wp2
 clear x1 x2 x3 x4 hfew' hf ht0 hd2
 go_loopg [11] (E (fun j=>j)) (fun gk s wr=>∃ (b:Bool) (q:Nat→Nat),s=.bool b∧gk=cond b (E q) 0∧Hid (ViewZ wr g T q)∧Hid (Ris T Q q)∧Hid (Below w4.heap.size w4 wr)∧Hid (b=true→∀ q',Ris T Q q'→Lx T q' q→FailL xs ps ys r D T tn q')∧Hid (b=false→∀ q',Ris T Q q'→FailL xs ps ys r D T tn q'))
 case atStart=>exact ⟨true,fun j=>j,rfl,rfl,HV2,Lib.hid (first_ris hkQ),HB5,Lib.hid (fun _ q' h1 h2=>absurd h2 (first_none h1)),Lib.hid (fun h=>by cases h)⟩
 case round =>
  clear HV2 HB5
  obtain ⟨b,q,rfl,rfl,HV,HR,HB,HT,HF⟩:=hrel
  have hsr:=HB.out.size
  cases b
  ·have HP:Hid (RDec12Post xs n r D l (tn:Int) w (.returned (.tuple #[.slice none 0 0,.slice none 0 0,.int .i64 80])) wr):=Lib.hid ⟨HB4.out.trans (HB.out.mono hs4),.inr ⟨HGA.out,.inr ⟨HFZ.out,.inr ⟨rfl,by
    rw [Int.toNat_natCast,HPS.out.1,HPS.out.2]
    exact all_failL HTD.out.1 (by rw [HNL.out];have:=HFW.out;omega) (by rw [HNL.out];exact HF.out (by trivial))⟩⟩⟩⟩
   go_wp2
   go_ret3
   exact HP.out
  obtain ⟨wo,rfl⟩:∃ wo:World,wo=wr:=⟨_,rfl⟩
  go_wp2
  go_loopg [12,13,14] T (fun gk p y i wr=>∃ (V1 V2:Value) (I:Nat),V1=p∧V2=y∧I≤T∧gk=T - I∧i=.int .i64 I∧Hid (OwnG wr wo.heap.size V1 (rowF (fun j=>xs.getD (ps.getD (q j) 0).toNat 0) I))∧Hid (OwnG wr wo.heap.size V2 (rowY ys q I))∧Hid (Apart V2 V1.ownBlock.toList)∧Hid (Below wo.heap.size wo wr))
  case atStart=>exact ⟨_,_,0,rfl,rfl,by omega,rfl,rfl,Lib.hid (OwnG.nil _ _),Lib.hid (OwnG.nil _ _),Lib.hid (apart_nilG _),Lib.hid (Below.refl _ _)⟩
  case round =>
   obtain ⟨V1,V2,I,rfl,rfl,hI,rfl,rfl,HO1,HO2,HAP,HBR⟩:=hrel
   have hsw:=HBR.out.size
   by_cases hlt:I < T
   ·have hgo:=HV.out.1
    have cl:=((HV.out.below HBR.out).2 I hlt).1
    have hRQ:=HR.out.1 I hlt
    obtain ⟨R,hRe⟩:∃ R,q I=R:=⟨_,rfl⟩
    rw [hRe] at cl hRQ
    obtain ⟨s,hs⟩:∃ s,l[R]? = some s:=⟨_,List.getElem?_eq_getElem (by rw [HL.out];exact hRQ)⟩
    have hb4r:Below w4.heap.size w4 wr:=HB.out.trans (HBR.out.mono hsr)
    have hbw:Below w.heap.size w wr:=HB4.out.trans (hb4r.mono hs4)
    obtain ⟨-,hcap,b,o,rfl,hb,hat⟩:=SRd.at (HS.out.below hbw).rd hs
    have c0:wr.cell? ⟨b,o+R * 2,none⟩=some (.int .i64 s.node):=hat 0 _ rfl
    obtain ⟨⟨hs0,hsn⟩,hst,hsd⟩:=HG.out.at hs
    have hpn:=HPG.out R s hs
    have hyn0:=HYG.out R s hs
    obtain ⟨x,hx⟩:∃ x:Nat,s.node=(x:Int):=⟨s.node.toNat,by omega⟩
    rw [hx] at c0 hsn hpn
    have hxn:x < n:=by omega
    have i2:(0:Int)≤(x:Int)∧(x:Int) < (n:Int):=by omega
    obtain ⟨z,hz,hzd⟩:=at_get (l:=xs) (i:=x) (by rw [HXL.out];exact hxn)
    have cz:wr.cell? ⟨gx,x,none⟩=some (.int .u8 (((xs.getD x 0).n:Nat):Int)):=((HVX.out.below hb4r).2 x hxn).1
    rw [hzd] at cz
    obtain ⟨y,hy,hyd⟩:=at_get (l:=s.d) (i:=0) (by rw [hsd];exact Nat.one_pos)
    have hsrd:=HS.out.each s (List.mem_of_getElem? hs)
    unfold Sy.rd at hsrd
    rw [hsd] at hsrd
    obtain ⟨sa,sd,hsa⟩:∃ sa sd,sa=s.a∧sd=s.cp:=⟨_,_,rfl,rfl⟩
    rw [← hsa.1,← hsa.2] at hsrd
    obtain ⟨bd,od,rfl,hbd,-⟩:=hsrd.at hy
    obtain ⟨zn,hzn⟩:∃ zn,z.n=zn:=⟨_,rfl⟩
    obtain ⟨yn,hyn⟩:∃ yn,y.n=yn:=⟨_,rfl⟩
    rw [hzn] at cz
    obtain ⟨v1,w6,hap1,ho1,hk1,hb6,hat1⟩:=app_row (W:=wr) (f:=fun j=>xs.getD (ps.getD (q j) 0).toNat 0) (J:=I) HO1.out (by omega) (by omega) (n:=zn) (by show (xs.getD (ps.getD (q I) 0).toNat 0).n=zn;rw [hRe,hpn,Int.toNat_natCast,hzd,hzn]) (ad:=wr.heap.size) rfl
    have ho2:OwnG w6 wo.heap.size V2 (rowY ys q I):=OwnG.kp HO2.out hk1 HAP.out
    have hap6:Apart V2 v1.ownBlock.toList:=apart_grow HAP.out (fun kk hkk=>(HO2.out.lt kk hkk).2) hat1
    have hs6:=hk1.size
    obtain ⟨v2,w7,hap2,ho3,hk2,hb7,hat2⟩:=app_row (W:=w6) (f:=fun j=>ys.getD (q j) 0) (J:=I) ho2 (by omega) (by omega) (n:=yn) (by show (ys.getD (q I) 0).n=yn;rw [hRe,hyn0,hyd,hyn]) (ad:=w6.heap.size) rfl
    have HO1':Hid (OwnG w7 wo.heap.size v1 (rowF (fun j=>xs.getD (ps.getD (q j) 0).toNat 0) (I+1))):=Lib.hid (OwnG.kp ho1 hk2 (apart_swap hap6))
    have HO2':Hid (OwnG w7 wo.heap.size v2 (rowY ys q (I+1))):=Lib.hid ho3
    have HAP':Hid (Apart v2 v1.ownBlock.toList):=Lib.hid (apart_swap (apart_grow (apart_swap hap6) (fun kk hkk=>(ho1.lt kk hkk).2) hat2))
    have hb46:=HBR.out.trans hb6
    have HB7:Hid (Below wo.heap.size wo w7):=Lib.hid (hb46.trans hb7)
    have cl6:=((HV.out.below hb46).2 I hlt).1
    rw [hRe] at cl6
    have hb06:Below w.heap.size w w6:=HB4.out.trans ((HB.out.trans (hb46.mono hsr)).mono hs4)
    obtain ⟨_,_,e,-,cy⟩:=(hsrd.below hb06).at hy
    cases e
    rw [Nat.add_zero,hyn] at cy
    obtain ⟨-,-,_,_,e,-,hat6⟩:=SRd.at (HS.out.below hb06).rd hs
    cases e
    have d1:w6.cell? ⟨b,o+R * 2+1,none⟩=some (.slice s.a s.d.length s.cp):=hat6 1 _ rfl
    rw [hsd,← hsa.1,← hsa.2] at d1
    have i1:(0:Int)≤(R:Int)∧(R:Int) < (Q:Int):=by omega
    have i3:(0:Int)≤(I:Int)∧(I:Int) < (T:Int):=by omega
    clear ho1 ho2 ho3 hk1 hk2 hb6 hb7 hat1 hat2 hb46 hb06 hap6 hx hy hyd hyn hzn hz hzd hRe hbw hb4r hs hat hat6 hs0 hsn hst hsd hpn hyn0 hsrd hsa hcap
    go_wp2_with (at_builtin;first | refine wpList_append rfl _ _ _ rfl rfl rfl hap1 ?_ | refine wpList_append rfl _ _ _ rfl rfl rfl hap2 ?_)
    go_roundg (T - (I+1))
    case measure=>omega
    case rel=>exact ⟨v1,v2,I+1,rfl,rfl,by omega,rfl,by go_num,HO1',HO2',HAP',HB7⟩
   ·obtain rfl:I=T:=by omega
    have hb4r:Below w4.heap.size w4 wr:=HB.out.trans (HBR.out.mono hsr)
    have HBW:Hid (Below w.heap.size w wr):=Lib.hid (HB4.out.trans (hb4r.mono hs4))
    have HB4R:=Lib.hid hb4r
    have HRG:Hid (Ris I ps.length q):=Lib.hid (by rw [HNL.out];exact HR.out)
    have hpl0:(rowF (fun j=>xs.getD (ps.getD (q j) 0).toNat 0) I).length=I:=rowF_len _ _
    have HTH:=Lib.hid (rthru_any V1 V2 (rowF (fun j=>xs.getD (ps.getD (q j) 0).toNat 0) I) (rowY ys q I) wr HO1.out.rd HO2.out.rd (by
     rw [← ptsOf_rowP]
     exact pts_nodup HND.out (ris_good HGP.out HRG.out)) (by rw [hpl0];omega) (by rw [hpl0,rowY,rowF_len]))
    unfold RThruPost at HTH
    rw [← ptsOf_rowP] at HTH
    have HV3:=Lib.hid (HV.out.below HBR.out)
    clear hb4r hpl0
    go_wp2_with fail
    refine HTH.out.mono ?_
    rintro e w6 ⟨v,p,rfl,hg6,hth6,hb6⟩
    have hpl:p.length≤I:=by have:=hth6.2.1;rw [ptsOf_rowP,rowF_len] at this;exact this
    have HFIT:=Lib.hid (thru_fits HND.out HGP.out HRG.out hpl hth6)
    have HB6:Hid (Below w.heap.size w w6):=Lib.hid (HBW.out.trans (hb6.mono HBW.out.size))
    have HB46:Hid (Below w4.heap.size w4 w6):=Lib.hid (HB4R.out.trans (hb6.mono HB4R.out.size))
    have HV6:=Lib.hid (HV3.out.below hb6)
    have HG6:=Lib.hid hg6
    have HPL:=Lib.hid hpl
    have HM6:=Lib.hid (HMS.out v p w6 hg6 (by omega))
    have hx6:w6.heap[w.heap.size]? = some (.cells #[.int .i64 n,.int .i64 k,.int .i64 r] 29 (0,0)):=(HB46.out.block w.heap.size hwb4).trans HX4.out
    have gl6:=lt_of_heap hx6
    have y0:=cell_of_heap hx6 (j:=0) rfl
    have y1:=cell_of_heap hx6 (j:=1) rfl
    have y2:=cell_of_heap hx6 (j:=2) rfl
    clear hg6 hth6 hb6 hpl HTH HO1 HO2 HAP HBR HV3 HV HBW HB4R hx6
    go_wp2_with fail
    refine HM6.out.mono ?_
    rintro e w7 ⟨hb7,hm7⟩
    obtain ⟨mv,ok,rfl,hok1,hok2,hmb⟩:∃ mv ok,e=.returned (.tuple #[mv,.bool ok])∧(ok=true→GapsZ r p p.length∧GRd w7 mv (msgL r (padTo p I) D))∧(ok=false→¬ GapsZ r p p.length)∧(∀ b,mv.ownBlock=some b→w6.heap.size≤b):=by
     rcases hm7 with ⟨h1,rfl⟩ | ⟨h1,gm,rfl,hgm,hvm⟩
     ·refine ⟨_,_,rfl,(fun h=>by cases h),(fun _=>?_),(fun b hb=>by simp [Value.ownBlock] at hb)⟩
      rcases h1 with h1 | h1
      ·exact absurd HPL.out (by omega)
      ·exact h1
     ·refine ⟨_,_,rfl,(fun _=>⟨h1.2,?_⟩),(fun h=>by cases h),(fun b hb=>by simp [Value.ownBlock] at hb;omega)⟩
      have hml:=msgL_len r (padTo p I) D
      rw [HTD.out.2] at hml
      have:=View.list (l:=msgL r (padTo p I) D) (hvm.congr fun j hj=>by rw [msgL_pad (by rw [HTD.out.2];exact hj)]) hml (Nat.le_refl _)
      exact this
    have HB7:Hid (Below w.heap.size w w7):=Lib.hid (HB6.out.trans (hb7.mono HB6.out.size))
    have HB47:Hid (Below w4.heap.size w4 w7):=Lib.hid (HB46.out.trans (hb7.mono HB46.out.size))
    have HV7:=Lib.hid (HV6.out.below hb7)
    have HOK1:=Lib.hid hok1
    have HOK2:=Lib.hid hok2
    have HMB:Hid (∀ b,mv.ownBlock=some b→w.heap.size≤b):=Lib.hid fun b hb=>Nat.le_trans HB6.out.size (hmb b hb)
    have hgp7:=HG6.out.below (w':=w7) (hb7.mono (Nat.le_refl _))
    have HW7:=Lib.hid (HWR.out v p w7 hgp7 (by have:=HPL.out;omega) (HS.out.below HB7.out) (by omega) (fun s hs=>(HG.out.2 s hs).2))
    have hx7:w7.heap[w.heap.size]? = some (.cells #[.int .i64 n,.int .i64 k,.int .i64 r] 29 (0,0)):=(HB47.out.block w.heap.size hwb4).trans HX4.out
    clear y0 y1 y2 gl6
    have gl7:=lt_of_heap hx7
    have y0:=cell_of_heap hx7 (j:=0) rfl
    have y1:=cell_of_heap hx7 (j:=1) rfl
    have y2:=cell_of_heap hx7 (j:=2) rfl
    clear hb7 hm7 hok1 hok2 hmb hgp7 HG6 HV6 HB6 HB46 HM6 hx7
    go_wp2_with fail
    refine HW7.out.mono ?_
    rintro e w8 ⟨v2,rfl,hoz,hb8⟩
    rw [wr_pad (T:=I) HXL.out HGP.out] at hoz
    have hs7:=HB7.out.size
    have HB8:Hid (Below w.heap.size w w8):=Lib.hid (HB7.out.trans (hb8.mono HB7.out.size))
    have HB48:Hid (Below w4.heap.size w4 w8):=Lib.hid (HB47.out.trans (hb8.mono HB47.out.size))
    have HV8:=Lib.hid (HV7.out.below hb8)
    have hzz:=RdZ.of_own hoz
    obtain ⟨av,cv,rfl⟩:=hzz.rd.form
    obtain ⟨L,hL⟩:∃ L,(wrS xs ps ys (padTo p I)).length=L:=⟨_,rfl⟩
    have HLL:=Lib.hid hL
    have HZZ:Hid (RdZ w8 w7.heap.size (.slice av L cv) (wrS xs ps ys (padTo p I))):=Lib.hid (by rw [← hL];exact hzz)
    have HM8:Hid (ok=true→GRd w8 mv (msgL r (padTo p I) D)):=Lib.hid (fun h=>(HOK1.out h).2.below hb8)
    rw [hL]
    clear hb8 hoz hzz hL HW7 HV7 y0 y1 y2 gl7
    by_cases hgood:ok=true∧L≤tn
    ·obtain ⟨rfl,hLT⟩:=hgood
     have hLT':(L:Int)≤(tn:Int):=by omega
     have HP:Hid (RDec12Post xs n r D l (tn:Int) w (.returned (.tuple #[mv,.slice av L cv,.int .i64 0])) w8):=Lib.hid (by
      have htp:=tell_pad (r:=r) (d:=D) (t:=tn) r1.1 HTD.out.1 HPL.out (HOK1.out (by trivial)).1 (by rw [HLL.out];exact hLT)
      refine ⟨HB8.out,.inr ⟨HGA.out,.inr ⟨HFZ.out,.inl ⟨_,mv,_,rfl,?_,⟨HM8.out (by trivial),HMB.out⟩,?_⟩⟩⟩⟩
      ·rw [Int.toNat_natCast,HPS.out.1,HPS.out.2]
       exact htp.1
      ·rw [HPS.out.1,HPS.out.2,htp.2]
       exact HZZ.out.mono hs7)
     clear hLT
     go_wp2
     go_ret3
     exact HP.out
    ·have HFAIL:Hid (FailL xs ps ys r D I tn q):=Lib.hid (failL_one HND.out HGP.out HRG.out HTD.out.1 HPL.out HFIT.out (by
      cases ok
      ·exact .inl (HOK2.out (by trivial))
      ·exact .inr (by rw [HLL.out];exact fun h=>hgood ⟨by trivial,h⟩)))
     have HNX:=Lib.hid (rnext_any g capg I Q q w8 HV8.out (fun j hj=>HR.out.1 j hj) hkQ (by omega))
     cases ok
     case' true =>
      have hLT':¬ (L:Int)≤(tn:Int):=by
       have:¬ L≤tn:=fun h=>hgood ⟨by trivial,h⟩
       omega
      clear hgood
     case' false=>clear hgood
     all_goals
      go_wp2_with fail
      refine HNX.out.mono ?_
      rintro e w9 ⟨hk9,⟨i,hi,hgi,hti,rfl,hv9⟩ | ⟨hti,rfl,hv9⟩⟩
      ·have HB9:Hid (Below w4.heap.size w4 w9):=Lib.hid (HB48.out.trans (hk9.below HB48.out.size (by simp;exact HGG.out)))
       have HV9:=Lib.hid hv9
       have HR9:=Lib.hid (nxt_ris HR.out hi hgi)
       have HM:Hid (E (nxt q i) < E q):=Lib.hid (by
        rw [HE.out]
        have h1:=encE_lx I HR.out.1 (nxt_lx (k:=I) (n:=Q) (l:=q) hi)
        have h2:=encE_lt I (nxt_ris HR.out hi hgi).1
        simp only []
        omega)
       have HT9:Hid (∀ q',Ris I Q q'→Lx I q' (nxt q i)→FailL xs ps ys r D I tn q'):=Lib.hid fun q' h1 h2=>by
        rcases nxt_next hi hti h1 h2 with h3 | h3
        ·exact failL_congr h3 HFAIL.out
        ·exact HT.out (by trivial) q' h1 h3
       clear hk9 hv9 HNX
       go_wp2
       go_roundg (E (nxt q i))
       case measure=>exact HM.out
       case rel=>exact ⟨true,nxt q i,rfl,rfl,HV9,HR9,HB9,Lib.hid (fun _=>HT9.out),Lib.hid (fun h=>by cases h)⟩
      ·have HB9:Hid (Below w4.heap.size w4 w9):=Lib.hid (HB48.out.trans (hk9.below HB48.out.size (by simp;exact HGG.out)))
       have HV9:=Lib.hid hv9
       have HM:Hid (0 < E q):=Lib.hid (by
        rw [HE.out]
        have h2:=encE_lt I HR.out.1
        simp only []
        omega)
       have HF9:Hid (∀ q',Ris I Q q'→FailL xs ps ys r D I tn q'):=Lib.hid fun q' h1=>by
        rcases last_next hti h1 with h3 | h3
        ·exact failL_congr h3 HFAIL.out
        ·exact HT.out (by trivial) q' h1 h3
       clear hk9 hv9 HNX
       go_wp2
       go_roundg 0
       case measure=>exact HM.out
       case rel=>exact ⟨false,q,rfl,rfl,HV9,HR,HB9,Lib.hid (fun h=>by cases h),Lib.hid (fun _=>HF9.out)⟩
end Go.Proofs.YtbiaoohodjoojaaGreat
/- The reference's Repair. -/
namespace Go.Proofs.YtbiaoohodjoojaaGreat
open Go.RowKit Fld
set_option linter.unusedVariables false
set_option linter.unusedSimpArgs false

def RRep12Post (xs:List GF) (n r d:Nat) (tz:Int) (l:List Sy) (t:Int) (w:World) (e:Ending) (w':World):Prop :=
 Below w.heap.size w w'∧∃ (b:GF) (c:Int),e=.returned (.tuple #[.int .u8 (b.n:Nat),.int .i64 c])∧LRepIs xs n r d tz l t b c
set_option maxRecDepth 100000 in
set_option maxHeartbeats 8000000 in
theorem rrep12_any (n k r:Nat) (tz:Int) (hv:Value) (l:List Sy) (t:Int) (w:World) (h:LOkN n k r) (hl:SyAll w hv l) (hll:l.length≤500) (ht:-9223372036854775808≤t∧t≤9223372036854775807) :
  Calls Tryz.prog 30 #[rc n k r,.int .i64 tz,hv,.int .i64 t] w (RRep12Post (cosL r (n / (r+1))) n r (k / r) tz l t w):=by
 have n1:=h.n1
 have r1:=h.r1
 have k1':=h.k1
 have hkr:k / r * r=k:=Nat.div_mul_cancel (Nat.dvd_of_mod_eq_zero h.kr)
 have htl:=h.tells
 have htd:k / r * (r+1) - 1≤255:=by have:=h.le;omega
 obtain ⟨wb,hwb⟩:∃ wb,wb=w.alloc (.cells #[.int .i64 n,.int .i64 k,.int .i64 r] 29):=⟨_,rfl⟩
 have hbb:Below w.heap.size w wb:=by rw [hwb];exact (Below.refl _ _).alloc (Nat.le_refl _) _
 have hbx:wb.heap[w.heap.size]? = some (.cells #[.int .i64 n,.int .i64 k,.int .i64 r] 29 (0,0)):=by rw [hwb];exact heap_newA _ _
 have HROW:=Lib.hid (rrows_any n hv l tz 1 wb (hl.below hbb) (by omega))
 unfold BelowPost at HROW
 rw [show (((1:Nat):Nat):Int)=1 from rfl,hwb] at HROW
 have HPT:=Lib.hid (fun W=>rpoints_any n k r W h)
 unfold RPtsPost at HPT
 have HDE:=Lib.hid (fun W hW=>rdec12_any n k r hv l t W h hW hll ht)
 unfold RDec12Post at HDE
 have hxl:(cosL r (n / (r+1))).length=n:=h.len
 obtain ⟨xs,hxs⟩:∃ xs,cosL r (n / (r+1))=xs:=⟨_,rfl⟩
 rw [hxs] at HPT HDE hxl ⊢
 obtain ⟨ah,ch,rfl⟩:=hl.rd.form
 obtain ⟨L,hL⟩:∃ L,l.length=L:=⟨_,rfl⟩
 have HL:=Lib.hid hL
 have HS:=Lib.hid hl
 have HXL:=Lib.hid hxl
 have HWB:=Lib.hid hwb
 have HH:=Lib.hid h
 have HBX:=Lib.hid (And.intro hbb hbx)
 have HKR:=Lib.hid hkr
 have HTD:=Lib.hid htd
 rw [hL] at HS HROW hll HDE ⊢
 clear h hl hwb hbb hbx hxs hxl hL hkr htl htd ht
 by_cases c1:tz < 0
 ·go_enter Tryz.func30,Tryz.ntmps30
  go_wp2
  go_ret2
  exact ⟨by (repeat' (first | (with_reducible exact RowKit.Below.refl _ _) | (with_reducible assumption) | (with_reducible refine RowKit.Below.drew ?_) | (with_reducible refine RowKit.Below.alloc ?_ ?_ _) | omega | (simp;done) | (simp;omega))),0,2,rfl,.inl ⟨fun h=>by omega,rfl,rfl⟩⟩
 by_cases c2:tz ≥ (n:Int)
 ·go_enter Tryz.func30,Tryz.ntmps30
  go_wp2
  go_ret2
  exact ⟨by (repeat' (first | (with_reducible exact RowKit.Below.refl _ _) | (with_reducible assumption) | (with_reducible refine RowKit.Below.drew ?_) | (with_reducible refine RowKit.Below.alloc ?_ ?_ _) | omega | (simp;done) | (simp;omega))),0,2,rfl,.inl ⟨fun h=>by omega,rfl,rfl⟩⟩
 obtain ⟨tn,rfl⟩:∃ tn:Nat,tz=(tn:Int):=⟨tz.toNat,by omega⟩
 have ht:tn < n:=by omega
 go_enter Tryz.func30,Tryz.ntmps30
 go_wp2_with fail
 refine HROW.out.mono ?_
 rintro e w1 ⟨b,rfl,hb1,hbi⟩
 rw [← HWB.out] at hb1
 have hbw1:Below w.heap.size w w1:=HBX.out.1.trans (hb1.mono HBX.out.1.size)
 have HB1:=Lib.hid hbw1
 have HX1:=Lib.hid (keepB hb1 HBX.out.2)
 have HBI:=Lib.hid hbi
 clear hb1 hbw1 hbi HROW c1 c2
 cases b
 ·have HNG:Hid (¬ SyGood n (tn:Int) 1 l):=Lib.hid fun h=>by have:=HBI.out.2 h;cases this
  go_wp2
  go_ret2
  exact ⟨HB1.out,0,2,rfl,.inl ⟨fun h=>HNG.out h.2,rfl,rfl⟩⟩
 have HG:=Lib.hid (HBI.out.1 (by trivial))
 clear HBI
 have HGA:Hid ((0≤(tn:Int)∧(tn:Int) < (n:Int))∧SyGood n (tn:Int) 1 l):=Lib.hid ⟨⟨by omega,by omega⟩,HG.out⟩
 have hx1:=lt_of_heap HX1.out
 have y0:=cell_of_heap HX1.out (j:=0) rfl
 have y1:=cell_of_heap HX1.out (j:=1) rfl
 have y2:=cell_of_heap HX1.out (j:=2) rfl
 have HDE1:=Lib.hid (HDE.out w1 (HS.out.below HB1.out))
 go_wp2_with fail
 refine HDE1.out.mono ?_
 rintro e w2 ⟨hb2,hd2⟩
 have HB2:Hid (Below w.heap.size w w2):=Lib.hid (HB1.out.trans (hb2.mono HB1.out.size))
 have HX2:=Lib.hid (keepB hb2 HX1.out)
 clear hb2 HDE1 HDE y0 y1 y2 hx1
 rcases hd2 with ⟨hd,rfl⟩ | ⟨hd,⟨hd3,rfl⟩ | ⟨hd3,⟨m,v1,v2,rfl,hm1,⟨hm2,-⟩,hm3⟩ | ⟨rfl,hd4⟩⟩⟩
 ·have ht0:t < 0:=by
   rcases hd with h | h
   ·exact h
   ·exact absurd HG.out.any h
  have HP:Hid (LRepIs xs n r (k / r) (tn:Int) l t 0 2):=Lib.hid (.inr ⟨HGA.out,.inl ⟨ht0,rfl,rfl⟩⟩)
  clear hd ht0
  go_wp2
  go_ret2
  exact ⟨HB2.out,0,2,rfl,HP.out⟩
 ·have HP:Hid (LRepIs xs n r (k / r) (tn:Int) l t 0 70):=Lib.hid (.inr ⟨HGA.out,.inr ⟨hd.1,.inl ⟨hd3,rfl,rfl⟩⟩⟩)
  clear hd hd3
  go_wp2
  go_ret2
  exact ⟨HB2.out,0,70,rfl,HP.out⟩
 case inr.inr.inr =>
  have HP:Hid (LRepIs xs n r (k / r) (tn:Int) l t 0 80):=Lib.hid (.inr ⟨HGA.out,.inr ⟨hd.1,.inr ⟨hd3,.inl ⟨hd4,rfl,rfl⟩⟩⟩⟩)
  clear hd hd3 hd4
  go_wp2
  go_ret2
  exact ⟨HB2.out,0,80,rfl,HP.out⟩
 have HP:Hid (LRepIs xs n r (k / r) (tn:Int) l t (ev (polyL r (k / r) m) (xs.getD tn 0)) 0):=Lib.hid (.inr ⟨HGA.out,.inr ⟨hd.1,.inr ⟨hd3,.inr ⟨m,hm1,rfl,by rw [Int.toNat_natCast]⟩⟩⟩⟩)
 have hml:m.length=k:=by rw [hm1.1,HKR.out]
 have HPO:=Lib.hid (rpoly_any n k r v1 m w2.drew HH.out (hm2.below ((Below.refl _ _).drew)) hml)
 unfold RPolPost at HPO
 have hpl:(polyL r (k / r) m).length≤1000000:=by rw [polyL_len];have:=HTD.out;omega
 obtain ⟨PL,hPL⟩:∃ PL,(polyL r (k / r) m).length=PL:=⟨_,rfl⟩
 obtain ⟨z,hz,hzd⟩:=at_get (l:=xs) (i:=tn) (by rw [HXL.out];exact ht)
 have HAT:Hid (∀ W g,View W g PL (fun i=>(polyL r (k / r) m).getD i 0)→Calls Tryz.prog 44 #[.slice (some ⟨g,0,none⟩) PL PL,.int .u8 (z.n:Nat)] W (fun e w'=>e=.returned (.int .u8 ((ev (polyL r (k / r) m) z).n:Nat))∧W=w')):=Lib.hid fun W g hv =>
  rat_any _ _ z W (View.list hv hPL (Nat.le_refl _)) (by omega)
 rw [hPL] at HPO
 rw [hzd] at HP
 obtain ⟨zn,hzn⟩:∃ zn,z.n=zn:=⟨_,rfl⟩
 obtain ⟨rn,hrn⟩:∃ rn,(ev (polyL r (k / r) m) z).n=rn:=⟨_,rfl⟩
 rw [hzn,hrn] at HAT
 have HRN:=Lib.hid hrn
 have HZD:Hid ((xs.getD tn 0).n=zn):=Lib.hid (by rw [hzd,hzn])
 have hx2:=lt_of_heap HX2.out
 have y0:=cell_of_heap HX2.out (j:=0) rfl
 have y1:=cell_of_heap HX2.out (j:=1) rfl
 have y2:=cell_of_heap HX2.out (j:=2) rfl
 have i1:(0:Int)≤(tn:Int)∧(tn:Int) < (n:Int):=by omega
 obtain ⟨kp,hkp⟩:∃ kp:Nat→Bool,∀ kk,kp kk=true↔kk < w2.heap.size:=⟨fun kk=>decide (kk < w2.heap.size),by simp⟩
 have k1:kp w.heap.size=true:=(hkp _).2 hx2
 have HKP:=Lib.hid hkp
 clear hd hd3 hm1 hm2 hm3 hml hpl hPL hz hzd hzn hrn hkp
 go_upto_region 6 with fail
 have hgr:=fun (w0 W:World) (p:Addr) (hp:(fun kk=>kp kk=true) p.block)=>graft_cell (w0:=w0) (keep:=(fun kk=>kp kk=true)) W hp
 refine wp_region_tree (fun kk=>kp kk=true) [2,4,7,8] (.sq [0,1,3,5,2,4,6,7,8,9,10] .done) (by kernel_rfl) (by kernel_rfl) ?_
 simp only [Tr.sq,List.foldr_cons,List.foldr_nil,slimTr,slimStep,Oper.slim,List.contains_cons,List.contains_nil,Option.map_none,Option.map_some,List.getElem?_toArray,List.getElem?_cons_zero,List.getElem?_cons_succ,Option.bind_some,beq_self_eq_true,Bool.or_false,Nat.reduceBEq,Nat.reduceAdd,Nat.zero_add]
 repeat' first | ((with_reducible refine wpSlimT_id ?_);first | (with_reducible refine wpSlimT_done ?_) | ((with_reducible refine wpSlimT_step (fun K hK=>?_));go_simp;first | (refine hK _ _ ?_;clear hK K) | (refine ⟨by (intro kk hkk;first | (simp (disch:=(simp;omega)) only [hp_drew,hp_drewN,hp_alloc,hp_set];done) | (simp [hp_drew,hp_drewN,hp_alloc_if,hkk];done) | (first | exact HB7.out.block kk ((HKP.out kk).1 hkk) | exact HB6.out.block kk ((HKP.out kk).1 hkk))),hK _ _ ?_⟩;clear hK K) | (go_at_call 45;(with_reducible refine (HPO.out).mono ?_);rintro e w6 ⟨g,rfl,hg,hvg,hb6⟩;have HVG:=Lib.hid hvg;have HB6:Hid (Below w2.heap.size w2 w6):=Lib.hid (((Below.refl _ _).drew).trans hb6);clear hvg hb6;refine ⟨_,rfl,(fun kk hkk=>HB6.out.block kk ((HKP.out kk).1 hkk)),hK _ _ ?_⟩;clear hK K) | (go_at_call 43;(with_reducible refine (HPT.out w6).mono ?_);rintro e w7 ⟨xv,rfl,hox,hb7⟩;obtain ⟨gx,cx,rfl,hgx,hcx,hvx⟩:=hox.view (fun e=>by have:=HXL.out;rw [e] at this;simp at this;omega);rw [HXL.out] at hvx hcx ⊢;have hgxl:=hvx.1;have cz:=(hvx.2 tn ht).1;rw [HZD.out] at cz;have HVG7:=Lib.hid (HVG.out.below hb7);have HB7:Hid (Below w2.heap.size w2 w7):=Lib.hid (HB6.out.trans (hb7.mono HB6.out.size));clear hvx hox hb7;refine ⟨_,rfl,(fun kk hkk=>HB7.out.block kk ((HKP.out kk).1 hkk)),hK _ _ ?_⟩;clear hK K) | (go_at_call 44;(with_reducible refine (HAT.out _ _ HVG7.out).mono ?_);rintro e w8 ⟨rfl,rfl⟩;refine ⟨_,rfl,(fun kk hkk=>HB7.out.block kk ((HKP.out kk).1 hkk)),hK _ _ ?_⟩;clear hK K))) | fail
 clear hgr
 go_wp2
 go_ret2
 exact ⟨HB2.out.trans (HB7.out.mono HB2.out.size),ev (polyL r (k / r) m) z,0,by rw [HRN.out] <;> rfl,HP.out⟩
end Go.Proofs.YtbiaoohodjoojaaGreat
