/-
  The reference's Mul, Roots and Through.
  The reference's Through.
  The reference's powers.
  The reference's values of polynomials, its inverses, and a word by definition.
  The reference's Places, At, Full and Decode.
-/
import Derived.Test.YtjdnicacnaokdaaGreatRefsA
import Derived.Test.YtjdnicacnaokdaaGreatPlains
/- The reference's Mul, Roots and Through. -/
namespace Go.Proofs.YtjdnicacnaokdaaGreat
open Go.RowKit Fld
set_option linter.unusedVariables false
set_option linter.unusedSimpArgs false

theorem own_lit (w:World) (l:List GF) {n:Nat} (hn:l.length=n) (hl:l.length≤1000000):OwnG (w.alloc (.cells (gv l).toArray 5)) w.heap.size (.slice (some ⟨w.heap.size,0,none⟩) n n) l:=by
 subst hn
 exact ⟨by rw [gv_length];simp,.inr ⟨w.heap.size,l.length,(gv l).toArray,rfl,Nat.le_refl _,heap_alloc_new w _,Nat.le_refl _,by unfold maxLen;omega,by simp [gv],by simp [gv];exact List.take_of_length_le (by simp)⟩⟩
theorem gv_rep (i:Nat):(gv (List.replicate i (0:GF))).toArray=Array.replicate i (.int .u8 0):=by
 simp [gv]
 exact .inr rfl
theorem own_zeros (w:World) (i:Nat) (hi:i≤1000000):OwnG (w.alloc (.cells (Array.replicate i (.int .u8 0)) 5)) w.heap.size (.slice (some ⟨w.heap.size,0,none⟩) i i) (List.replicate i 0):=by
 rw [← gv_rep]
 exact own_lit w _ (by simp) (by simp;exact hi)
noncomputable def rowK (I:Nat) (c:GF) (m:List GF) (K:Nat):List GF:=List.replicate I 0 ++ rowF (fun k=>c * m.getD k 0) K
theorem rowK_len (I:Nat) (c:GF) (m:List GF) (K:Nat):(rowK I c m K).length=I+K:=by simp [rowK,rowF_len]
theorem rowK_succ (I:Nat) (c:GF) (m:List GF) (K:Nat):rowK I c m (K+1)=rowK I c m K ++ [c * m.getD K 0]:=by simp [rowK,rowF_succ]
theorem app_rowK {W:World} {B:Nat} {V:Value} {I K:Nat} {c d:GF} {m:List GF} (h:OwnG W B V (rowK I c m K)) (hJ:I+K≤1000000) (hb:B≤W.heap.size) (hd:m.getD K 0=d) {n:Nat} (hn:(c * d).n=n) {ad:Nat} (had:ad=W.heap.size) :
  ∃ v1 w3,(Builtin.append_ #[34,34] 34 #[V,.slice (some ⟨ad,0,none⟩) 1 1]).run Tryz.prog (W.alloc (.cells #[.int .u8 (n:Int)] 5))=.ok v1 w3 ∧
   OwnG w3 B v1 (rowK I c m (K+1))∧Below B W w3:=by
 obtain ⟨v1,w3,h1,h2,_,h3,_⟩:=app_byte (c * d) h (by rw [rowK_len];exact hJ) hb hn had
 exact ⟨v1,w3,h1,by rw [rowK_succ,hd];exact h2,h3⟩
structure MulI (w wo:World) (l m:List GF) (I:Nat) (V:Value) (p:List GF):Prop where
 own:OwnG wo w.heap.size V p
 trim:Trimd p
 eval:∀ x,ev p x=ev (l.take I) x * ev m x
 len:p.length≤I - 1+m.length
 nul:I=0→p=[]
 below:Below w.heap.size w wo
def RMulPost (l m:List GF) (w:World) (e:Ending) (w':World):Prop :=
 ∃ v p,e=.returned v∧OwnG w' w.heap.size v p∧Trimd p∧(∀ x,ev p x=ev l x * ev m x)∧p.length≤l.length - 1+m.length∧Below w.heap.size w w'
set_option maxRecDepth 100000 in
set_option maxHeartbeats 4000000 in
theorem rpmul_any (u v:Value) (l m:List GF) (w:World) (hu:GRd w u l) (hv:GRd w v m) (hl:l.length≤30000) (hm:m.length≤30000) :
  Calls Tryz.prog 107 #[u,v] w (RMulPost l m w):=by
 obtain ⟨a,cap,rfl,hcap⟩:=hu.form
 obtain ⟨b,capb,rfl,hcapb⟩:=hv.form
 obtain ⟨i0,hi,hz0,hz1,hz2⟩:=info_parts u8_info
 obtain ⟨L,hL⟩:∃ L,l.length=L:=⟨_,rfl⟩
 obtain ⟨M,hM⟩:∃ M,m.length=M:=⟨_,rfl⟩
 have hmk:∀ I:Nat,I≤30000→∀ W,(Instr.makeSlice 34 (.int .i64 I) (.int .i64 I)).run Tryz.prog W=.ok (.slice (some ⟨W.heap.size,0,none⟩) I I) (W.alloc (.cells (Array.replicate I (.int .u8 0)) 5)):=fun I hI W =>
  run_row W 34 5 i0 (.int .u8 0) Tryz.underlying34 hi hz0 hz1 rfl I (by rw [hz2];omega) (by unfold maxLen;omega)
 have HMK:=Lib.hid hmk
 have HL:=Lib.hid hL
 have HM:=Lib.hid hM
 rw [hL] at hl hcap hu ⊢
 rw [hM] at hm hcapb hv ⊢
 have HU:=Lib.hid hu
 have HV:=Lib.hid hv
 clear hu hv hL hM hmk hi hz0 hz1 hz2
 go_enter Tryz.func107,Tryz.ntmps107
 go_wp2
 go_loopg [5,6] L (fun gk y i wr=>∃ (V:Value) (I:Nat) (p:List GF),V=y∧I≤L∧gk=L - I∧i=.int .i64 I∧Hid (MulI w wr l m I V p))
 case atStart=>exact ⟨_,0,[],rfl,by omega,rfl,rfl,Lib.hid ⟨OwnG.nil _ _,.inl rfl,fun x=>by rw [List.take_zero,ev_nil,zmul],by simp,fun _=>rfl,Below.refl _ _⟩⟩
 case round =>
  obtain ⟨V,I,p,rfl,hI,rfl,rfl,HI⟩:=hrel
  obtain ⟨wo,rfl⟩:∃ wo:World,wo=wr:=⟨_,rfl⟩
  have hs:=HI.out.below.size
  by_cases hlt:I < L
  ·obtain ⟨c,hc,hd⟩:=at_get (l:=l) (i:=I) (by rw [HL.out];omega)
   obtain ⟨ba,oa,rfl,hba,cxa⟩:=HU.out.at hc
   have hmkI:=HMK.out I (by omega)
   obtain ⟨W1,hW1⟩:∃ W1,W1=wo.alloc (.cells (Array.replicate I (.int .u8 0)) 5):=⟨_,rfl⟩
   have HO1:Hid (OwnG W1 wo.heap.size (.slice (some ⟨wo.heap.size,0,none⟩) I I) (rowK I c m 0)):=Lib.hid (by
    rw [hW1]
    simpa [rowK,rowF] using own_zeros wo I (by omega))
   have HB1:Hid (Below wo.heap.size wo W1):=Lib.hid (by rw [hW1];exact (Below.refl _ _).alloc (Nat.le_refl _) _)
   have HC:=Lib.hid (And.intro hc hd)
   have HW1:=Lib.hid hW1
   clear hc hd hW1 cxa
   go_wp2
   rw [← HW1.out]
   go_loopg [7,8] M (fun gk y k wr=>∃ (V2:Value) (K:Nat),V2=y∧K≤M∧gk=M - K∧k=.int .i64 K∧Hid (OwnG wr wo.heap.size V2 (rowK I c m K))∧Hid (Below wo.heap.size wo wr))
   case atStart=>exact ⟨_,0,rfl,by omega,rfl,rfl,HO1,HB1⟩
   case round =>
    clear HO1 HB1 HW1
    obtain ⟨V2,K,rfl,hK,rfl,rfl,HO,HB⟩:=hrel
    have hsk:=HB.out.size
    by_cases hlt2:K < M
    ·obtain ⟨c2,hc2,hd2⟩:=at_get (l:=m) (i:=K) (by rw [HM.out];omega)
     have hbel:Below w.heap.size w wr:=HI.out.below.trans (HB.out.mono hs)
     obtain ⟨ba',oa',e',hba',cx1⟩:=(HU.out.below hbel).at HC.out.1
     cases e'
     obtain ⟨bb,ob,rfl,hbb0,-⟩:=HV.out.at hc2
     obtain ⟨bb',ob',e',hbb,cx2⟩:=(HV.out.below hbel).at hc2
     cases e'
     have HMU:=Lib.hid (fun W=>rmul_g c c2 W)
     obtain ⟨s,hs2⟩:∃ t,(c * c2).n=t:=⟨_,rfl⟩
     obtain ⟨v1,w6,hap,ho6,hb6⟩:=app_rowK (W:=wr.drew) HO.out (by omega) (by exact hsk) hd2 hs2 (ad:=wr.heap.size) rfl
     have HO6:=Lib.hid ho6
     have HB6:=Lib.hid (((Below.refl wo.heap.size wr).drew).trans hb6)
     have HBK:=Lib.hid (HB.out.trans HB6.out)
     obtain ⟨cn,hcn⟩:∃ t,c.n=t:=⟨_,rfl⟩
     obtain ⟨dn,hdn⟩:∃ t,c2.n=t:=⟨_,rfl⟩
     rw [hcn] at cx1 HMU
     rw [hdn] at cx2 HMU
     rw [hs2] at HMU
     obtain ⟨kp,hkp⟩:∃ kp:Nat→Bool,∀ j,kp j=true↔j < wo.heap.size:=⟨fun j=>decide (j < wo.heap.size),by simp⟩
     have hka:kp ba=true:=(hkp _).2 (by omega)
     have hkb:kp bb=true:=(hkp _).2 (by omega)
     have HKP:=Lib.hid hkp
     clear hkp ho6 hb6 hc2 hd2 hcn hdn hs2 hbel hbb0
     go_upto_region 9 with fail
     have hgr:=fun (w0 W:World) (p:Addr) (hp:(fun j=>kp j=true) p.block)=>graft_cell (w0:=w0) (keep:=(fun j=>kp j=true)) W hp
     refine wp_region_tree (fun j=>kp j=true) [9,10,11] (.sq [0,1,2,3,4,5,6,7,8,9,10,11,12] .done) (by kernel_rfl) (by kernel_rfl) ?_
     simp only [Tr.sq,List.foldr_cons,List.foldr_nil,slimTr,slimStep,Oper.slim,List.contains_cons,List.contains_nil,Option.map_none,Option.map_some,List.getElem?_toArray,List.getElem?_cons_zero,List.getElem?_cons_succ,Option.bind_some,beq_self_eq_true,Bool.or_false,Nat.reduceBEq,Nat.reduceAdd,Nat.zero_add]
     repeat' first | ((with_reducible refine wpSlimT_id ?_);first | (with_reducible refine wpSlimT_done ?_) | (refine wpSlimT_append _ _ _ rfl rfl rfl rfl rfl hap (fun kk hkk=>HB6.out.block kk ((HKP.out kk).1 hkk)) ?_) | ((with_reducible refine wpSlimT_step (fun K hK=>?_));go_simp;first | (refine hK _ _ ?_;clear hK K) | (refine ⟨by (intro kk hkk;first | (simp (disch:=(simp;omega)) only [hp_drew,hp_drewN,hp_alloc,hp_set];done) | (simp [hp_drew,hp_drewN,hp_alloc_if,hkk];done) | (have hkk2:=(HKP.out kk).1 hkk;simp (disch:=(simp;omega)) only [hp_drew,hp_drewN,hp_alloc,hp_set];done)),hK _ _ ?_⟩;clear hK K) | (go_at_call 82;(with_reducible refine (HMU.out _).mono ?_);rintro e w7 ⟨rfl,rfl⟩;refine ⟨_,rfl,(fun kk hkk=>rfl),hK _ _ ?_⟩;clear hK K))) | fail
     clear hgr
     go_wp2
     go_roundg (M - (K+1))
     case measure=>omega
     case rel=>exact ⟨v1,K+1,rfl,by omega,rfl,by go_num,HO6,HBK⟩
    ·obtain rfl:K=M:=by omega
     have HADD:=Lib.hid (radd_any V V2 p (rowK I c m K) wr (HI.out.own.rd.below HB.out) HO.out.rd (by have:=HI.out.len;rw [HM.out] at this;omega) (by rw [rowK_len];omega))
     go_wp2_with fail
     refine HADD.out.mono ?_
     rintro e w9 ⟨v9,q,rfl,ho9,ht9,hev,hlq,hb9⟩
     have HI2:Hid (MulI w w9 l m (I+1) v9 q):=Lib.hid ⟨ho9.mono (by omega),ht9,fun x=>by
      have hr:ev (rowK I c m K) x=pw x I * (c * ev m x):=by
       have:=shift_ev I c m x
       rwa [HM.out] at this
      rw [hev,HI.out.eval,hr,take_ev l (by rw [HL.out];exact hlt),HC.out.2,dam,Fld.mulA],by
      rw [rowK_len] at hlq
      have h1:=HI.out.len
      rw [HM.out] at h1 ⊢
      by_cases h0:I=0
      ·rw [HI.out.nul h0] at hlq
       simp at hlq
       omega
      ·omega,fun h=>by omega,(HI.out.below.trans (HB.out.mono hs)).trans (hb9.mono (by omega))⟩
     clear ho9 ht9 hev hlq hb9
     go_wp2
     go_roundg (L - (I+1))
     case measure=>omega
     case rel=>exact ⟨v9,I+1,q,rfl,by omega,rfl,by go_num,HI2⟩
  ·obtain rfl:I=L:=by omega
   have HP:Hid (RMulPost l m w (.returned V) wo):=Lib.hid ⟨V,p,rfl,HI.out.own,HI.out.trim,fun x=>by
    have:=HI.out.eval x
    rwa [List.take_of_length_le (by rw [HL.out];exact Nat.le_refl _)] at this,by rw [HL.out];exact HI.out.len,HI.out.below⟩
   go_wp2
   go_ret
   exact HP.out
def RRootsPost (xs:List GF) (w:World) (e:Ending) (w':World):Prop :=
 ∃ v p,e=.returned v∧GRd w' v p∧(∀ y,ev p y=prodN (fun i=>xs.getD i 0) y xs.length)∧p.length≤xs.length+1∧Below w.heap.size w w'
set_option maxRecDepth 100000 in
set_option maxHeartbeats 4000000 in
theorem rroots_any (u:Value) (xs:List GF) (w:World) (hu:GRd w u xs) (hl:xs.length≤10000) :
  Calls Tryz.prog 104 #[u] w (RRootsPost xs w):=by
 obtain ⟨a,cap,rfl,hcap⟩:=hu.form
 obtain ⟨L,hL⟩:∃ L,xs.length=L:=⟨_,rfl⟩
 have HL:=Lib.hid hL
 rw [hL] at hl hcap hu ⊢
 have HU:=Lib.hid hu
 clear hu hL
 have h0:GRd (w.alloc (.cells #[.int .u8 1] 5)) (.slice (some ⟨w.heap.size,0,none⟩) 1 1) [1]:=GRd.lit [1] (heap_newA _ _) rfl
 have H0:=Lib.hid h0
 clear h0
 go_enter Tryz.func104,Tryz.ntmps104
 go_wp2
 go_loopg [3,4] L (fun gk y i wr=>∃ (V:Value) (I:Nat) (p:List GF),V=y∧I≤L∧gk=L - I∧i=.int .i64 I∧Hid (GRd wr V p)∧Hid (∀ y,ev p y=prodN (fun i=>xs.getD i 0) y I)∧Hid (p.length≤I+1)∧Hid (Below w.heap.size w wr))
 case atStart=>exact ⟨_,0,[1],rfl,by omega,rfl,rfl,H0,Lib.hid (fun y=>ev_one1 1 y),Lib.hid (by simp),Lib.hid ((Below.refl _ _).alloc (Nat.le_refl _) _)⟩
 case round =>
  clear H0
  obtain ⟨V,I,p,rfl,hI,rfl,rfl,HG,HE,HLEN,HB⟩:=hrel
  have hs:=HB.out.size
  by_cases hlt:I < L
  ·obtain ⟨c,hc,hd⟩:=at_get (l:=xs) (i:=I) (by rw [HL.out];omega)
   obtain ⟨b1,o1,rfl,hb1,cx⟩:=(HU.out.below HB.out).at hc
   have hb2:Below wr.heap.size wr (wr.alloc (.cells #[.int .u8 (c.n:Nat),.int .u8 1] 5)):=(Below.refl _ _).alloc (Nat.le_refl _) _
   have HMUL:=Lib.hid (rpmul_any V (.slice (some ⟨wr.heap.size,0,none⟩) 2 2) p [c,1] (wr.alloc (.cells #[.int .u8 (c.n:Nat),.int .u8 1] 5)) (HG.out.below hb2) (GRd.lit [c,1] (heap_newA _ _) rfl) (by have:=HLEN.out;omega) (by simp))
   have HB2:=Lib.hid hb2
   have HC:=Lib.hid hd
   obtain ⟨cn,hcn⟩:∃ t,c.n=t:=⟨_,rfl⟩
   rw [hcn] at cx HMUL HB2
   clear hb2 hc hd hcn
   go_wp2_with fail
   refine HMUL.out.mono ?_
   rintro e w9 ⟨v9,q,rfl,ho9,ht9,hev,hlq,hb9⟩
   have HG2:=Lib.hid ho9.rd
   have HE2:Hid (∀ y,ev q y=prodN (fun i=>xs.getD i 0) y (I+1)):=Lib.hid fun y=>by rw [hev,HE.out,ev_two,prodN,HC.out]
   have HLEN2:Hid (q.length≤I+1+1):=Lib.hid (by have:=HLEN.out;simp at hlq;omega)
   have HB9:Hid (Below w.heap.size w w9):=Lib.hid ((HB.out.trans (HB2.out.mono hs)).trans (hb9.mono (by simp;omega)))
   clear ho9 ht9 hev hlq hb9
   go_wp2
   go_roundg (L - (I+1))
   case measure=>omega
   case rel=>exact ⟨v9,I+1,q,rfl,by omega,rfl,by go_num,HG2,HE2,HLEN2,HB9⟩
  ·obtain rfl:I=L:=by omega
   have HP:Hid (RRootsPost xs w (.returned V) wr):=Lib.hid ⟨V,p,rfl,HG.out,by rw [HL.out];exact HE.out,by rw [HL.out];exact HLEN.out,HB.out⟩
   go_wp2
   go_ret
   exact HP.out
end Go.Proofs.YtjdnicacnaokdaaGreat
/- The reference's Through. -/
namespace Go.Proofs.YtjdnicacnaokdaaGreat
open Go.RowKit Fld
set_option linter.unusedVariables false
set_option linter.unusedSimpArgs false

def lack (xs:List GF) (I:Nat):List GF:=xs.take I ++ xs.drop (I+1)
theorem lack_len {xs:List GF} {I:Nat} (h:I < xs.length):(lack xs I).length+1=xs.length:=by simp [lack];omega
theorem lack_get {xs:List GF} {I:Nat} (h:I < xs.length) (t:Nat):(lack xs I).getD t 0=if t < I then xs.getD t 0 else xs.getD (t+1) 0:=by
 rw [lack,List.getD_eq_getElem?_getD]
 by_cases ht:t < I
 ·rw [if_pos ht,List.getElem?_append_left (by rw [List.length_take];omega),List.getElem?_take,if_pos ht,List.getD_eq_getElem?_getD]
 ·rw [if_neg ht,List.getElem?_append_right (by rw [List.length_take];omega),List.length_take,Nat.min_eq_left (by omega),List.getElem?_drop,List.getD_eq_getElem?_getD]
  congr 2
  omega
theorem lack_zero {xs:List GF} {I j:Nat} (hI:I < xs.length) (hj:j < xs.length) (hne:j ≠ I):prodN (fun i=>(lack xs I).getD i 0) (xs.getD j 0) (lack xs I).length=0:=by
 refine (prodN_eq0 _ _ _).2 ⟨if j < I then j else j - 1,?_,?_⟩
 ·have:=lack_len hI
  split <;> omega
 ·rw [lack_get hI]
  by_cases h:j < I
  ·rw [if_pos h,if_pos h]
  ·rw [if_neg h,if_neg (by omega),show j - 1+1=j by omega]
theorem lack_ne {xs:List GF} {I:Nat} (hn:xs.Nodup) (hI:I < xs.length):prodN (fun i=>(lack xs I).getD i 0) (xs.getD I 0) (lack xs I).length ≠ 0:=by
 intro h
 obtain ⟨t,ht,e⟩:=(prodN_eq0 _ _ _).1 h
 have hl:=lack_len hI
 rw [lack_get hI] at e
 by_cases h2:t < I
 ·rw [if_pos h2] at e
  have:=getD_inj hn (by omega) hI e
  omega
 ·rw [if_neg h2] at e
  have:=getD_inj hn (by omega) hI e
  omega
structure ThruI (w wr:World) (xs ys:List GF) (I:Nat) (V:Value) (p:List GF):Prop where
 rd:GRd wr V p
 trim:Trimd p
 len:p.length≤xs.length
 val:∀ j,j < xs.length→ev p (xs.getD j 0)=if j < I then ys.getD j 0 else 0
 below:Below w.heap.size w wr
theorem ThruI.step {w wr w9:World} {xs ys:List GF} {I:Nat} {V V9:Value} {p q r s:List GF} {c:GF} (h:ThruI w wr xs ys I V p) (hn:xs.Nodup) (hI:I < xs.length)
  (hq:∀ y,ev q y=prodN (fun i=>(lack xs I).getD i 0) y (lack xs I).length) (hql:q.length≤(lack xs I).length+1) (hc:c=ys.getD I 0 * Fld.inv (ev q (xs.getD I 0)))
  (hr:∀ y,ev r y=ev q y * ev [c] y) (hrl:r.length≤q.length - 1+1) (hs:∀ y,ev s y=ev p y+ev r y) (hsl:s.length≤max p.length r.length) (ht:Trimd s) (hrd:GRd w9 V9 s) (hb:Below w.heap.size w w9):ThruI w w9 xs ys (I+1) V9 s:=by
 have hll:=lack_len hI
 have hpl:=h.len
 refine ⟨hrd,ht,by omega,fun j hj=>?_,hb⟩
 rw [hs,hr,ev_one1,h.val j hj]
 by_cases e:j=I
 ·subst e
  rw [if_neg (by omega),if_pos (by omega),zadd,hc,mulL,m_inv _ (by rw [hq];exact lack_ne hn hI),mone]
 ·rw [hq,lack_zero hI hj e,zmul,addz]
  by_cases h2:j < I
  ·rw [if_pos h2,if_pos (by omega)]
  ·rw [if_neg h2,if_neg (by omega)]
def RThruPost (xs ys:List GF) (w:World) (e:Ending) (w':World):Prop :=
 ∃ v p,e=.returned (.tuple #[v,.int .i64 0])∧GRd w' v p∧Thru xs ys p∧Below w.heap.size w w'
set_option maxRecDepth 100000 in
set_option maxHeartbeats 8000000 in
theorem rthru_any (u v:Value) (xs ys:List GF) (w:World) (hu:GRd w u xs) (hv:GRd w v ys) (hn:xs.Nodup) (hl:xs.length≤1000) (hxy:ys.length=xs.length) :
  Calls Tryz.prog 73 #[u,v] w (RThruPost xs ys w):=by
 obtain ⟨a,cap,rfl,hcap⟩:=hu.form
 obtain ⟨b,capb,rfl,hcapb⟩:=hv.form
 obtain ⟨L,hL⟩:∃ L,xs.length=L:=⟨_,rfl⟩
 have HL:=Lib.hid hL
 have HY:=Lib.hid (hxy.trans hL)
 have HN:=Lib.hid hn
 rw [hxy] at hv hcapb ⊢
 rw [hL] at hl hcap hcapb hu hv ⊢
 have HU:=Lib.hid hu
 have HV:=Lib.hid hv
 clear hu hv hL hxy hn
 go_enter Tryz.func73,Tryz.ntmps73
 go_wp2
 go_loopg [6,7] L (fun gk y i wr=>∃ (V:Value) (I:Nat) (p:List GF),V=y∧I≤L∧gk=L - I∧i=.int .i64 I∧Hid (ThruI w wr xs ys I V p))
 case atStart=>exact ⟨_,0,[],rfl,by omega,rfl,rfl,Lib.hid ⟨(OwnG.nil w w.heap.size).rd,.inl rfl,by simp,fun j hj=>by rw [ev_nil,if_neg (by omega)],Below.refl _ _⟩⟩
 case round =>
  obtain ⟨V,I,p,rfl,hI,rfl,rfl,HI⟩:=hrel
  have hs:=HI.out.below.size
  by_cases hlt:I < L
  ·have hIx:I < xs.length:=by rw [HL.out];exact hlt
   obtain ⟨c,hc,hd⟩:=at_get (l:=xs) (i:=I) hIx
   obtain ⟨d,hc2,hd2⟩:=at_get (l:=ys) (i:=I) (by rw [HY.out];exact hlt)
   obtain ⟨b1,o1,rfl,hb1,-⟩:=HU.out.at hc
   obtain ⟨b2,o2,rfl,hb2,-⟩:=HV.out.at hc2
   have HC:=Lib.hid (And.intro hc hd)
   have HD:=Lib.hid (And.intro hc2 hd2)
   obtain ⟨sa,sc,hsl1,hs1,-⟩:=slice_h (some ⟨b1,o1,none⟩) L cap I (by omega)
   obtain ⟨v1,w3,hap1,ho3,hb3⟩:=app_nil (hs1 wr xs (HU.out.below HI.out.below) (by omega)) (by rw [List.length_take];omega)
   have hw3:Below w.heap.size w w3:=HI.out.below.trans (hb3.mono hs)
   have hs3:=hb3.size
   obtain ⟨sb,sd,hsl2,hs2,hne⟩:=slice_l (some ⟨b1,o1,none⟩) L cap (I+1) (by omega) (by omega)
   obtain ⟨B,rfl⟩:∃ B,sb=some B:=by
    cases sb with
    | none=>exact absurd rfl (hne (by simp))
    | some B=>exact ⟨B,rfl⟩
   obtain ⟨v2,w4,hap2,ho4,-,hb4⟩:=app_rows ho3 (hs2 w3 xs (HU.out.below hw3)) (by rw [List.length_take];omega) (by rw [List.length_drop,HL.out];omega) hs3
   have HO4:Hid (OwnG w4 wr.heap.size v2 (lack xs I)):=Lib.hid ho4
   have HB4:=Lib.hid (hb3.trans hb4)
   have hs4:=HB4.out.size
   have hcast:((I+1:Nat):Int)=(I:Int)+1:=by omega
   rw [hcast] at hsl2
   clear hc hd hc2 hd2 hs1 hs2 ho3 ho4 hb3 hb4 hw3 hne hcast
   have HROOT:=Lib.hid (rroots_any v2 (lack xs I) w4 HO4.out.rd (by have:=lack_len (xs:=xs) (I:=I) (by rw [HL.out];exact hlt);rw [HL.out] at this;omega))
   go_upto_region 9 with (at_builtin;refine wpList_append rfl _ _ _ rfl rfl rfl hap1 ?_)
   clear hap1
   go_upto_region 10 with (at_builtin;refine wpList_append rfl _ _ _ rfl rfl rfl hap2 ?_)
   clear hap2
   go_wp2_with fail
   refine HROOT.out.mono ?_
   rintro e w5 ⟨v5,q,rfl,hg5,hev5,hq5,hb5⟩
   have HB5:Hid (Below wr.heap.size wr w5):=Lib.hid (HB4.out.trans (hb5.mono hs4))
   have HBW5:Hid (Below w.heap.size w w5):=Lib.hid (HI.out.below.trans (HB5.out.mono hs))
   have hs5:=HB5.out.size
   have HG5:=Lib.hid hg5
   have HQ:=Lib.hid (And.intro hev5 hq5)
   clear hg5 hev5 hq5 hb5 HROOT HB4 HO4
   obtain ⟨b1',o1',e1,hb1',cx⟩:=(HU.out.below HBW5.out).at HC.out.1
   cases e1
   obtain ⟨b2',o2',e2,hb2',cy⟩:=(HV.out.below HBW5.out).at HD.out.1
   cases e2
   have hql:q.length≤L:=by
    have h1:=lack_len (xs:=xs) (I:=I) (by rw [HL.out];exact hlt)
    have h2:=HQ.out.2
    rw [HL.out] at h1
    omega
   have hne0:ev q c ≠ 0:=by
    rw [HQ.out.1,← HC.out.2]
    exact lack_ne HN.out (by rw [HL.out];exact hlt)
   have HAT:Hid (∀ W,Below w5.heap.size w5 W→Calls Tryz.prog 62 #[v5,.int .u8 (c.n:Nat)] W fun e w'=>e=.returned (.int .u8 ((ev q c).n:Nat))∧W=w'):=Lib.hid fun W hW=>rat_any v5 q c W (HG5.out.below hW) (by omega)
   have HDIV:Hid (∀ W,Calls Tryz.prog 105 #[.int .u8 (d.n:Nat),.int .u8 ((ev q c).n:Nat)] W fun e w'=>e=.returned (.tuple #[.int .u8 ((d * Fld.inv (ev q c)).n:Nat),.bool true])∧W=w'):=Lib.hid fun W=>by
    have:=rdiv_any d (ev q c) W
    rwa [decide_eq_true hne0] at this
   obtain ⟨f,hf⟩:∃ f,f=d * Fld.inv (ev q c):=⟨_,rfl⟩
   rw [← hf] at HDIV
   have HF:Hid (f=ys.getD I 0 * Fld.inv (ev q (xs.getD I 0))):=Lib.hid (by rw [hf,HC.out.2,HD.out.2])
   have HMUL:Hid (Calls Tryz.prog 107 #[v5,.slice (some ⟨w5.heap.size,0,none⟩) 1 1] (w5.alloc (.cells #[.int .u8 (f.n:Nat)] 5)).drew (RMulPost q [f] (w5.alloc (.cells #[.int .u8 (f.n:Nat)] 5)).drew)):=Lib.hid
    (rpmul_any v5 _ q [f] _ (HG5.out.below (((Below.refl _ _).alloc (Nat.le_refl _) _).drew)) (GRd.lit [f] (by exact heap_newA _ _) rfl) (by omega) (by simp))
   obtain ⟨cn,hcn⟩:∃ t,c.n=t:=⟨_,rfl⟩
   obtain ⟨dn,hdn⟩:∃ t,d.n=t:=⟨_,rfl⟩
   obtain ⟨en,hen⟩:∃ t,(ev q c).n=t:=⟨_,rfl⟩
   obtain ⟨fn,hfn⟩:∃ t,f.n=t:=⟨_,rfl⟩
   rw [hcn] at cx HAT
   rw [hdn] at cy HDIV
   rw [hen] at HAT HDIV
   rw [hfn] at HDIV HMUL
   obtain ⟨kp,hkp⟩:∃ kp:Nat→Bool,∀ j,kp j=true↔j < w5.heap.size:=⟨fun j=>decide (j < w5.heap.size),by simp⟩
   have hk1:kp b1=true:=(hkp _).2 hb1'
   have hk2:kp b2=true:=(hkp _).2 hb2'
   have HKP:=Lib.hid hkp
   clear hkp hcn hdn hen hfn hf hne0
   go_upto_region 11 with fail
   have hgr:=fun (w0 W:World) (p:Addr) (hp:(fun j=>kp j=true) p.block)=>graft_cell (w0:=w0) (keep:=(fun j=>kp j=true)) W hp
   refine wp_region_tree (fun j=>kp j=true) [9,10] (.sq [0,1,2,3,4,5,6,7,8,9,10,11,12,13,14,15] .done) (by kernel_rfl) (by kernel_rfl) ?_
   simp only [Tr.sq,List.foldr_cons,List.foldr_nil,slimTr,slimStep,Oper.slim,List.contains_cons,List.contains_nil,Option.map_none,Option.map_some,List.getElem?_toArray,List.getElem?_cons_zero,List.getElem?_cons_succ,Option.bind_some,beq_self_eq_true,Bool.or_false,Nat.reduceBEq,Nat.reduceAdd,Nat.zero_add]
   repeat' first | ((with_reducible refine wpSlimT_id ?_);first | (with_reducible refine wpSlimT_done ?_) | ((with_reducible refine wpSlimT_step (fun K hK=>?_));go_simp;first | (refine hK _ _ ?_;clear hK K) | (refine ⟨by (intro kk hkk;first | (simp (disch:=(simp;omega)) only [hp_drew,hp_drewN,hp_alloc,hp_set];done) | (simp [hp_drew,hp_drewN,hp_alloc_if,hkk];done) | (have hkk2:=(HKP.out kk).1 hkk;simp (disch:=(simp;omega)) only [hp_drew,hp_drewN,hp_alloc,hp_set];done)),hK _ _ ?_⟩;clear hK K) | (go_at_call 62;(with_reducible refine (HAT.out _ (by (repeat' (first | (with_reducible exact RowKit.Below.refl _ _) | (with_reducible assumption) | (with_reducible refine RowKit.Below.drew ?_) | (with_reducible refine RowKit.Below.alloc ?_ ?_ _) | omega | (simp;done) | (simp;omega))))).mono ?_);rintro e w7 ⟨rfl,rfl⟩;refine ⟨_,rfl,(fun kk hkk=>rfl),hK _ _ ?_⟩;clear hK K) | (go_at_call 105;(with_reducible refine (HDIV.out _).mono ?_);rintro e w7 ⟨rfl,rfl⟩;refine ⟨_,rfl,(fun kk hkk=>rfl),hK _ _ ?_⟩;clear hK K))) | fail
   clear hgr
   go_wp2_with fail
   refine HMUL.out.mono ?_
   rintro e w8 ⟨v8,r,rfl,ho8,-,hev8,hr8,hb8⟩
   have HB8:Hid (Below w5.heap.size w5 w8):=Lib.hid ((show Below w5.heap.size w5 _ from by (repeat' (first | (with_reducible exact RowKit.Below.refl _ _) | (with_reducible assumption) | (with_reducible refine RowKit.Below.drew ?_) | (with_reducible refine RowKit.Below.alloc ?_ ?_ _) | omega | (simp;done) | (simp;omega)))).trans (hb8.mono (by simp)))
   have hs8:=HB8.out.size
   have HB58:Hid (Below wr.heap.size wr w8):=Lib.hid (HB5.out.trans (HB8.out.mono hs5))
   have HR:=Lib.hid (And.intro hev8 hr8)
   have HADD:=Lib.hid (radd_any V v8 p r w8 (HI.out.rd.below HB58.out) ho8.rd (by have:=HI.out.len;rw [HL.out] at this;omega) (by simp at hr8;omega))
   clear ho8 hev8 hr8 hb8
   go_wp2_with fail
   refine HADD.out.mono ?_
   rintro e w9 ⟨v9,s,rfl,ho9,ht9,hev9,hl9,hb9⟩
   have HI9:Hid (ThruI w w9 xs ys (I+1) v9 s):=Lib.hid (HI.out.step HN.out (by rw [HL.out];exact hlt) HQ.out.1 HQ.out.2 HF.out HR.out.1 HR.out.2 hev9 hl9 ht9 ho9.rd ((HI.out.below.trans (HB58.out.mono hs)).trans (hb9.mono (by omega))))
   clear ho9 ht9 hev9 hl9 hb9 HADD HMUL HDIV HAT HB58 HB8 HB5 HR HQ HF
   go_wp2
   go_roundg (L - (I+1))
   case measure=>omega
   case rel=>exact ⟨v9,I+1,s,rfl,by omega,rfl,by go_num,HI9⟩
  ·obtain rfl:I=L:=by omega
   have HP:Hid (RThruPost xs ys w (.returned (.tuple #[V,.int .i64 0])) wr):=Lib.hid ⟨V,p,rfl,HI.out.rd,⟨HI.out.trim,HI.out.len,fun j hj=>by rw [HI.out.val j hj,if_pos (by rw [HL.out] at hj;exact hj)]⟩,HI.out.below⟩
   go_wp2
   go_ret2
   exact HP.out
end Go.Proofs.YtjdnicacnaokdaaGreat
/- The reference's powers. -/
namespace Go.Proofs.YtjdnicacnaokdaaGreat
open Go.RowKit Fld
set_option linter.unusedVariables false
set_option linter.unusedSimpArgs false

def RPowPost (x:GF) (w:World) (e:Ending) (w':World):Prop:=e=.returned (.int .u8 (x.n:Nat))∧w=w'
set_option maxHeartbeats 2000000 in
theorem rpow_any (a:GF) (n:Nat) (w:World) (hn:n≤1000000) :
  Calls Tryz.prog 83 #[.int .u8 (a.n:Nat),.int .i64 n] w (RPowPost (pw a n) w):=by
 by_cases h0:n=0
 ·subst h0
  obtain ⟨x,hx⟩:∃ x,a.n=x:=⟨_,rfl⟩
  have h1:(pw a 0).n=1:=rfl
  have HP:=Lib.hid h1
  rw [hx]
  clear hx h1
  go_enter Tryz.func83,Tryz.ntmps83
  go_wp2
  go_ret
  exact ⟨by rw [HP.out];rfl,rfl⟩
 have hn0:¬ (n:Int)=0:=by omega
 by_cases ha:a=0
 ·subst ha
  have h1:(pw (0:GF) n)=0:=by
   obtain ⟨m,rfl⟩:∃ m,n=m+1:=⟨n - 1,by omega⟩
   rw [pw,mzero]
  have HP:=Lib.hid h1
  rw [show ((0:GF).n:Int)=0 from rfl]
  clear h1 h0
  go_enter Tryz.func83,Tryz.ntmps83
  go_wp2
  go_ret
  exact ⟨by rw [HP.out];rfl,rfl⟩
 obtain ⟨M,hM⟩:∃ M,n % 255=M:=⟨_,rfl⟩
 have hMl:M < 255:=by rw [← hM];exact Nat.mod_lt _ (by omega)
 have HP:Hid (pw a n=pw a M):=Lib.hid (by rw [← hM];exact (GF.pw_mod ha n).symm)
 have e1:(n:Int).tmod 255=(M:Int):=by rw [← hM];exact (Int.ofNat_tmod n 255).symm
 have e2:IntKind.i64.wrap (M:Int)=(M:Int):=IntWalk.i64_in _ (by omega)
 have e3:¬ (M:Int) < 0:=by omega
 have ha':¬ (a.n:Int)=0:=by have:=GF.ne0.1 ha;omega
 obtain ⟨x,hx⟩:∃ x,a.n=x:=⟨_,rfl⟩
 have HX:=Lib.hid hx
 rw [hx] at ha' ⊢
 clear h0 ha hx hM
 go_enter Tryz.func83,Tryz.ntmps83
 go_wp2
 clear e1 e2 e3
 go_loopg [6,7] M (fun gk y i wr=>∃ I yn:Nat,I≤M∧gk=M - I∧i=.int .i64 I∧y=.int .u8 (yn:Nat)∧w=wr∧Hid ((pw a I).n=yn))
 case atStart=>exact ⟨0,1,by omega,rfl,rfl,rfl,rfl,Lib.hid rfl⟩
 case round =>
  obtain ⟨I,yn,hI,rfl,rfl,rfl,rfl,HY⟩:=hrel
  by_cases hlt:I < M
  ·have HMUL:=Lib.hid (rmul_g (pw a I) a w)
   have HY2:Hid ((pw a (I+1)).n=(pw a I * a).n):=Lib.hid (by rw [show pw a (I+1)=pw a I * a from rfl])
   obtain ⟨zn,hzn⟩:∃ zn,(pw a I * a).n=zn:=⟨_,rfl⟩
   rw [hzn] at HY2 HMUL
   rw [HY.out,HX.out] at HMUL
   clear hzn
   go_wp2_with fail
   refine HMUL.out.mono ?_
   rintro e w' ⟨rfl,rfl⟩
   go_wp2
   go_roundg (M - (I+1))
   case measure=>omega
   case rel=>exact ⟨I+1,zn,by omega,rfl,by go_num,rfl,rfl,HY2⟩
  ·obtain rfl:I=M:=by omega
   go_wp2
   go_ret
   exact ⟨by rw [HP.out,HY.out] <;> rfl,rfl⟩
end Go.Proofs.YtjdnicacnaokdaaGreat
/- The reference's values of polynomials, its inverses, and a word by definition. -/
namespace Go.Proofs.YtjdnicacnaokdaaGreat
open Go.RowKit Fld
set_option linter.unusedVariables false
set_option linter.unusedSimpArgs false

def REncPost (xs:List GF) (k:Int) (ms:List GF) (w:World) (e:Ending) (w':World):Prop :=
 Below w.heap.size w w'∧(((ms.length:Int)=k∧∃ v,e=.returned (.tuple #[v,.int .i64 0])∧OwnG w' w.heap.size v (rowF (fun i=>ev ms (xs.getD i 0)) xs.length)) ∨
  (ms.length:Int) ≠ k∧e=.returned (.tuple #[.slice none 0 0,.int .i64 2]))
set_option maxRecDepth 100000 in
set_option maxHeartbeats 2000000 in
theorem renc_any (xv mv:Value) (xs ms:List GF) (k:Int) (w:World) (hx:GRd w xv xs) (hm:GRd w mv ms) (hxl:xs.length≤100000) (hml:ms.length≤1000000000) (hk:-9223372036854775808≤k∧k≤9223372036854775807) :
  Calls Tryz.prog 37 #[xv,.int .i64 k,mv] w (REncPost xs k ms w):=by
 obtain ⟨a,cap,rfl,hcap⟩:=hx.form
 obtain ⟨am,capm,rfl,hcapm⟩:=hm.form
 obtain ⟨L,hL⟩:∃ L,xs.length=L:=⟨_,rfl⟩
 obtain ⟨M,hM⟩:∃ M,ms.length=M:=⟨_,rfl⟩
 have HX:=Lib.hid hx
 have HM:=Lib.hid hm
 have HL:=Lib.hid hL
 have HML:=Lib.hid hM
 unfold REncPost
 rw [hL] at hxl ⊢
 rw [hM] at hml ⊢
 clear hx hm hL hM hcap hcapm
 go_enter Tryz.func37,Tryz.ntmps37
 by_cases hk':(M:Int)=k
 ·subst hk'
  go_wp2
  go_loopg [8,9] L (fun gk l i wr=>∃ (V:Value) (J:Nat),V=l∧J≤L∧gk=L - J∧i=.int .i64 J∧Hid (OwnG wr w.heap.size V (rowF (fun i=>ev ms (xs.getD i 0)) J))∧Hid (Below w.heap.size w wr))
  case atStart=>exact ⟨_,0,rfl,by omega,rfl,rfl,Lib.hid (OwnG.nil _ _),Lib.hid (Below.refl _ _)⟩
  case round =>
   obtain ⟨V,J,rfl,hJ,rfl,rfl,HO,HB⟩:=hrel
   have hs:=HB.out.size
   by_cases hlt:J < L
   ·obtain ⟨c,hc,hd⟩:=at_get (l:=xs) (i:=J) (by rw [HL.out];exact hlt)
    have hat:=HX.out
    rw [HL.out] at hat
    obtain ⟨b,o,rfl,hb,cx⟩:=(hat.below HB.out).at hc
    have HAT:Hid (∀ W,Below w.heap.size w W→Calls Tryz.prog 62 #[.slice am M capm,.int .u8 (c.n:Nat)] W fun e w'=>e=.returned (.int .u8 ((ev ms c).n:Nat))∧W=w'):=Lib.hid fun W hW=>by
     have:=HM.out
     rw [HML.out] at this
     exact rat_any _ ms c W (this.below hW) (by rw [HML.out];exact hml)
    obtain ⟨y,hy⟩:∃ t,(ev ms c).n=t:=⟨_,rfl⟩
    have hy2:((fun i=>ev ms (xs.getD i 0)) J).n=y:=by rw [← hy,← hd]
    obtain ⟨v1,w6,hap,ho1,-,hb6,-⟩:=app_row (W:=wr) HO.out (by omega) (by omega) hy2 (ad:=wr.heap.size) rfl
    obtain ⟨cn,hcn⟩:∃ t,c.n=t:=⟨_,rfl⟩
    rw [hcn] at cx HAT
    rw [hy] at HAT
    have HO6:=Lib.hid ho1
    have HB6:=Lib.hid (HB.out.trans hb6)
    have HATR:=Lib.hid (HAT.out wr HB.out)
    clear hat hc hd hcn hy hy2 ho1 hb6 HAT
    go_wp2_with fail
    refine HATR.out.mono ?_
    rintro e w1 ⟨rfl,rfl⟩
    go_wp2_with (at_builtin;refine wpList_append rfl _ _ _ rfl rfl rfl hap ?_)
    go_roundg (L - (J+1))
    case measure=>omega
    case rel=>exact ⟨_,J+1,rfl,by omega,rfl,by go_num,HO6,HB6⟩
   ·obtain rfl:J=L:=by omega
    go_wp2
    go_ret2
    exact ⟨HB.out,_,rfl,HO.out⟩
 ·go_wp2
  go_ret2
  exact ⟨Below.refl _ _,.inr ⟨hk',rfl⟩⟩
end Go.Proofs.YtjdnicacnaokdaaGreat
/- The reference's Places, At, Full and Decode. -/
namespace Go.Proofs.YtjdnicacnaokdaaGreat
open Go.RowKit Fld
set_option linter.unusedVariables false
set_option linter.unusedSimpArgs false

theorem good_snoc {N:Nat} {l:List Int} {I:Nat} {x:Int} (h:GoodP N (l.take I)) (hx:l[I]? = some x) (h0:¬ x < 0) (hN:¬ (N:Int)≤x) (hne:∀ j,j < I→l.getD j 0 ≠ x):GoodP N (l.take (I+1)):=by
  obtain ⟨hI,hx'⟩:=List.getElem?_eq_some_iff.1 hx
  rw [List.take_succ_eq_append_getElem hI,hx']
  refine ⟨fun y hy=>?_,List.nodup_append.2 ⟨h.2,by simp,fun a ha b hb e=>?_⟩⟩
  · rcases List.mem_append.1 hy with hy | hy
    · exact h.1 y hy
    · rw [List.mem_singleton] at hy
      subst hy
      omega
  · rw [List.mem_singleton] at hb
    subst hb
    subst e
    obtain ⟨j,hj,hja⟩:=List.mem_iff_getElem.1 ha
    rw [List.length_take] at hj
    refine hne j (by omega) ?_
    rw [List.getElem_take] at hja
    rw [List.getD_eq_getElem?_getD,List.getElem?_eq_getElem (by omega),hja]
    rfl
theorem good_range {N:Nat} {l:List Int} {i:Nat} {x:Int} (h:GoodP N l) (hx:l[i]? = some x):0≤x∧x < (N:Int):=h.1 x (List.mem_of_getElem? hx)
theorem good_twice {N:Nat} {l:List Int} {i j:Nat} {x:Int} (h:GoodP N l) (hx:l[i]? = some x) (hy:l[j]? = some x) (hne:j < i):False:=by
  obtain ⟨hi,h1⟩:=List.getElem?_eq_some_iff.1 hx
  obtain ⟨hj,h2⟩:=List.getElem?_eq_some_iff.1 hy
  have:=(List.getElem_inj h.2).1 (h1.trans h2.symm)
  omega
def RPlPost (N:Nat) (ps:List Int) (M:Nat) (w:World) (e:Ending) (w':World):Prop :=
  ∃ b:Bool,e=.returned (.bool b)∧(b=true↔GoodP N ps∧ps.length=M)∧Below w.heap.size w w'
set_option maxRecDepth 100000 in
set_option maxHeartbeats 4000000 in
theorem rplaces_any (xv pv yv:Value) (xs:List GF) (ps:List Int) (ys:List GF) (w:World) (hx:GRd w xv xs) (hp:IRd w pv ps) (hy:GRd w yv ys) (hpl:ps.length≤1000000) :
    Calls Tryz.prog 72 #[xv,pv,yv] w (RPlPost xs.length ps ys.length w):=by
  obtain ⟨ax,cx,rfl,hcx⟩:=hx.form
  obtain ⟨ay,cy,rfl,hcy⟩:=hy.form
  obtain ⟨ap,cp,rfl⟩:=hp.form
  obtain ⟨N,hN⟩:∃ N,xs.length=N:=⟨_,rfl⟩
  obtain ⟨Q,hQ⟩:∃ Q,ps.length=Q:=⟨_,rfl⟩
  obtain ⟨M,hM⟩:∃ M,ys.length=M:=⟨_,rfl⟩
  have HQ:=Lib.hid hQ
  rw [hN,hM]
  rw [hQ] at hpl hp ⊢
  have HP:=Lib.hid hp
  clear hx hp hy hN hQ hM hcx hcy
  go_enter Tryz.func72,Tryz.ntmps72
  go_wp2
  go_loopg [7] Q (fun gk i wr=>∃ I:Nat,I≤Q∧gk=Q - I∧i=.int .i64 I∧Hid (GoodP N (ps.take I))∧Hid (Below w.heap.size w wr))
  case atStart=>exact ⟨0,by omega,rfl,rfl,Lib.hid ⟨by simp,by simp⟩,Lib.hid (Below.refl _ _)⟩
  case round =>
    obtain ⟨I,hI,rfl,rfl,HG,HB⟩:=hrel
    by_cases hlt:I < Q
    · obtain ⟨x,hx⟩:∃ x,ps[I]? = some x:=⟨_,List.getElem?_eq_getElem (by rw [HQ.out];exact hlt)⟩
      obtain ⟨-,-,b,o,rfl,hb,c0⟩:=IRd.cell (HP.out.below HB.out) hx
      obtain ⟨-,-,b',o',e',hbw,-⟩:=IRd.cell HP.out hx
      cases e'
      have HX:=Lib.hid hx
      clear hx
      by_cases h1:x < 0
      · go_wp2
        go_ret
        exact ⟨false,rfl,by
          simp only [Bool.false_eq_true,false_iff]
          intro h
          have:=good_range h.1 HX.out
          omega,HB.out⟩
      · by_cases h2:(N:Int)≤x
        · go_wp2
          go_ret
          exact ⟨false,rfl,by
            simp only [Bool.false_eq_true,false_iff]
            intro h
            have:=good_range h.1 HX.out
            omega,HB.out⟩
        · go_wp2
          go_loopg [8] I (fun gk j wr=>∃ J:Nat,J≤I∧gk=I - J∧j=.int .i64 J∧Hid (∀ j,j < J→ps.getD j 0 ≠ x)∧Hid (Below w.heap.size w wr))
          case atStart=>exact ⟨0,by omega,rfl,rfl,Lib.hid (fun j hj=>by omega),HB⟩
          case round =>
            clear c0
            obtain ⟨J,hJ,rfl,rfl,HNE,HBK⟩:=hrel
            have hsk:=HBK.out.size
            by_cases hlt2:J < I
            · have hlt3:J < Q:=by omega
              obtain ⟨y,hy⟩:∃ y,ps[J]? = some y:=⟨_,List.getElem?_eq_getElem (by rw [HQ.out];omega)⟩
              have c1:=IRd.cells (HP.out.below HBK.out) I x HX.out
              have c2:=IRd.cells (HP.out.below HBK.out) J y hy
              have HY:=Lib.hid hy
              obtain ⟨kp,hkp⟩:∃ kp:Nat→Bool,∀ j,kp j=true↔j < wr.heap.size:=⟨fun j=>decide (j < wr.heap.size),by simp⟩
              have hk1:kp b=true:=(hkp _).2 (by omega)
              have HKP:=Lib.hid hkp
              clear hkp hy
              by_cases hxy:x=y
              · subst hxy
                go_upto_region 9 with fail
                have hgr:=fun (w0 W:World) (p:Addr) (hp:(fun j=>kp j=true) p.block)=>graft_cell (w0:=w0) (keep:=(fun j=>kp j=true)) W hp
                refine wp_region_tree (fun j=>kp j=true) [] (.sq [0,1,2,3,4,5,6,7,8] .done) (by kernel_rfl) (by kernel_rfl) ?_
                simp only [Tr.sq,List.foldr_cons,List.foldr_nil,slimTr,slimStep,Oper.slim,List.contains_cons,List.contains_nil,Option.map_none,Option.map_some,List.getElem?_toArray,List.getElem?_cons_zero,List.getElem?_cons_succ,Option.bind_some,beq_self_eq_true,Bool.or_false,Nat.reduceBEq,Nat.reduceAdd,Nat.zero_add]
                repeat' first | ((with_reducible refine wpSlimT_id ?_);first | (with_reducible refine wpSlimT_done ?_) | ((with_reducible refine wpSlimT_step (fun K hK=>?_));go_simp;(refine hK _ _ ?_;clear hK K))) | fail
                clear hgr
                go_wp2
                go_ret
                exact ⟨false,rfl,by
                  simp only [Bool.false_eq_true,false_iff]
                  intro h
                  exact good_twice h.1 HX.out HY.out hlt2,HBK.out.drew⟩
              · have HNE2:Hid (∀ j,j < J+1→ps.getD j 0 ≠ x):=Lib.hid fun j hj=>by
                  by_cases e:j=J
                  · rw [e,List.getD_eq_getElem?_getD,HY.out]
                    exact fun e=>hxy e.symm
                  · exact HNE.out j (by omega)
                have HBD:Hid (Below w.heap.size w wr.drew):=Lib.hid HBK.out.drew
                go_upto_region 9 with fail
                have hgr:=fun (w0 W:World) (p:Addr) (hp:(fun j=>kp j=true) p.block)=>graft_cell (w0:=w0) (keep:=(fun j=>kp j=true)) W hp
                refine wp_region_tree (fun j=>kp j=true) [] (.sq [0,1,2,3,4,5,6,7,8] .done) (by kernel_rfl) (by kernel_rfl) ?_
                simp only [Tr.sq,List.foldr_cons,List.foldr_nil,slimTr,slimStep,Oper.slim,List.contains_cons,List.contains_nil,Option.map_none,Option.map_some,List.getElem?_toArray,List.getElem?_cons_zero,List.getElem?_cons_succ,Option.bind_some,beq_self_eq_true,Bool.or_false,Nat.reduceBEq,Nat.reduceAdd,Nat.zero_add]
                repeat' first | ((with_reducible refine wpSlimT_id ?_);first | (with_reducible refine wpSlimT_done ?_) | ((with_reducible refine wpSlimT_step (fun K hK=>?_));go_simp;(refine hK _ _ ?_;clear hK K))) | fail
                clear hgr
                go_wp2
                go_roundg (I - (J+1))
                case measure=>omega
                case rel=>exact ⟨J+1,by omega,rfl,by go_num,HNE2,HBD⟩
            · obtain rfl:J=I:=by omega
              have HG2:Hid (GoodP N (ps.take (J+1))):=Lib.hid (good_snoc HG.out HX.out (by omega) (by omega) HNE.out)
              go_wp2
              go_roundg (Q - (J+1))
              case measure=>omega
              case rel=>exact ⟨J+1,by omega,rfl,by go_num,HG2,HBK⟩
    · obtain rfl:I=Q:=by omega
      have HG2:Hid (GoodP N ps):=Lib.hid (by
        have:=HG.out
        rwa [List.take_of_length_le (by rw [HQ.out];exact Nat.le_refl _)] at this)
      by_cases hm:I=M
      · subst hm
        go_wp2
        go_ret
        exact ⟨true,rfl,by simp [HG2.out,HQ.out],HB.out⟩
      · have hm':((I:Int) == (M:Int))=false:=by simp;omega
        go_wp2
        go_ret
        exact ⟨false,rfl,by simp [HQ.out,hm],HB.out⟩
def RowPost (l:List GF) (w:World) (e:Ending) (w':World):Prop:=∃ v,e=.returned v∧OwnG w' w.heap.size v l∧Below w.heap.size w w'
set_option maxRecDepth 100000 in
set_option maxHeartbeats 4000000 in
theorem rpts_any (xv pv:Value) (xs:List GF) (ps:List Int) (w:World) (hx:GRd w xv xs) (hp:IRd w pv ps) (hg:∀ x ∈ ps,0≤x∧x < (xs.length:Int)) (hpl:ps.length≤1000000) :
    Calls Tryz.prog 74 #[xv,pv] w (RowPost (ptsOf xs ps) w):=by
  obtain ⟨ax,cx,rfl,hcx⟩:=hx.form
  obtain ⟨ap,cp,rfl⟩:=hp.form
  obtain ⟨N,hN⟩:∃ N,xs.length=N:=⟨_,rfl⟩
  obtain ⟨Q,hQ⟩:∃ Q,ps.length=Q:=⟨_,rfl⟩
  obtain ⟨f,hf⟩:∃ f:Nat→GF,f=fun i=>xs.getD (ps.getD i 0).toNat 0:=⟨_,rfl⟩
  have hrow:=ptsRow xs ps
  rw [← hf,hQ] at hrow
  rw [← hrow]
  have HF:=Lib.hid hf
  have HQ:=Lib.hid hQ
  have HN:=Lib.hid hN
  have HG:=Lib.hid hg
  rw [hN] at hx hcx ⊢
  rw [hQ] at hpl hp ⊢
  have HX:=Lib.hid hx
  have HP:=Lib.hid hp
  clear hx hp hN hQ hcx hg hrow hf
  go_enter Tryz.func74,Tryz.ntmps74
  go_wp2
  go_loopg [5,6] Q (fun gk l i wr=>∃ (V:Value) (J:Nat),V=l∧J≤Q∧gk=Q - J∧i=.int .i64 J∧Hid (OwnG wr w.heap.size V (rowF f J))∧Hid (Below w.heap.size w wr))
  case atStart=>exact ⟨_,0,rfl,by omega,rfl,rfl,Lib.hid (OwnG.nil _ _),Lib.hid (Below.refl _ _)⟩
  case round =>
    obtain ⟨V,J,rfl,hJ,rfl,rfl,HO,HB⟩:=hrel
    have hs:=HB.out.size
    by_cases hlt:J < Q
    · obtain ⟨x,hx⟩:∃ x,ps[J]? = some x:=⟨_,List.getElem?_eq_getElem (by rw [HQ.out];exact hlt)⟩
      have hxr:=HG.out x (List.mem_of_getElem? hx)
      obtain ⟨p,rfl⟩:∃ p:Nat,x=(p:Int):=⟨x.toNat,by omega⟩
      rw [HN.out] at hxr
      have hpN:p < N:=by omega
      obtain ⟨-,-,b,o,rfl,hb,c0⟩:=IRd.cell (HP.out.below HB.out) hx
      obtain ⟨c,hc,hd⟩:=at_get (l:=xs) (i:=p) (by rw [HN.out];exact hpN)
      obtain ⟨b2,o2,rfl,hb2,c1⟩:=(HX.out.below HB.out).at hc
      obtain ⟨y,hy⟩:∃ t,c.n=t:=⟨_,rfl⟩
      have hy2:(f J).n=y:=by
        rw [HF.out,← hy,← hd]
        show (xs.getD (ps.getD J 0).toNat 0).n=_
        rw [List.getD_eq_getElem?_getD (l:=ps),hx]
        rfl
      rw [hy] at c1
      obtain ⟨v1,w6,hap,ho1,-,hb6,-⟩:=app_row (W:=wr) HO.out (by omega) (by omega) hy2 (ad:=wr.heap.size) rfl
      have HO6:=Lib.hid ho1
      have HB6:=Lib.hid (HB.out.trans hb6)
      clear hc hd hy hy2 ho1 hb6 hx
      go_wp2_with (at_builtin;refine wpList_append rfl _ _ _ rfl rfl rfl hap ?_)
      go_roundg (Q - (J+1))
      case measure=>omega
      case rel=>exact ⟨_,J+1,rfl,by omega,rfl,by go_num,HO6,HB6⟩
    · obtain rfl:J=Q:=by omega
      go_wp2
      go_ret
      exact ⟨V,rfl,HO.out,HB.out⟩
noncomputable def padN (p:List GF) (J:Nat):List GF:=p ++ List.replicate J 0
theorem padN_len (p:List GF) (J:Nat):(padN p J).length=p.length+J:=by simp [padN]
theorem padN_succ (p:List GF) (J:Nat):padN p (J+1)=padN p J ++ [0]:=by simp [padN,List.replicate_succ']
def RFullPost (p:List GF) (k:Nat) (w:World) (e:Ending) (w':World):Prop:=∃ v,e=.returned (.tuple #[v,.bool (decide (p.length≤k))])∧OwnG w' w.heap.size v (padTo p k)∧Below w.heap.size w w'
set_option maxRecDepth 100000 in
set_option maxHeartbeats 4000000 in
theorem rfull_any (pv:Value) (p:List GF) (k:Nat) (w:World) (hp:GRd w pv p) (hpl:p.length≤100000) (hk:k≤100000) :
    Calls Tryz.prog 75 #[pv,.int .i64 k] w (RFullPost p k w):=by
  obtain ⟨ax,cx,rfl,hcx⟩:=hp.form
  obtain ⟨L,hL⟩:∃ L,p.length=L:=⟨_,rfl⟩
  obtain ⟨v1,w1,hap1,ho1,hb1⟩:=app_nil hp (by omega)
  have HL:=Lib.hid hL
  have HO1:Hid (OwnG w1 w.heap.size v1 (padN p 0)):=Lib.hid (by simpa [padN] using ho1)
  have HB1:=Lib.hid hb1
  rw [hL] at hpl hap1 ⊢
  clear hp hL hcx ho1 hb1
  go_enter Tryz.func75,Tryz.ntmps75
  go_wp2_with (at_builtin;refine wpList_append rfl _ _ _ rfl rfl rfl hap1 ?_)
  go_loopg [6] (k - L) (fun gk m wr=>∃ (V:Value) (J:Nat),V=m∧(J=0 ∨ L+J≤k)∧gk=k - L - J∧Hid (OwnG wr w.heap.size V (padN p J))∧Hid (Below w.heap.size w wr))
  case atStart=>exact ⟨_,0,rfl,.inl rfl,rfl,HO1,HB1⟩
  case round =>
    clear HO1 HB1
    obtain ⟨V,J,rfl,hJ,rfl,HO,HB⟩:=hrel
    have hs:=HB.out.size
    obtain ⟨T,hT⟩:∃ T,L+J=T:=⟨_,rfl⟩
    obtain ⟨av,cv,rfl,-⟩:=HO.out.form
    rw [padN_len,HL.out,hT] at HO ⊢
    by_cases hlt:T < k
    · obtain ⟨v2,w6,hap,ho2,-,hb6,-⟩:=app_byte (W:=wr) 0 HO.out (by rw [padN_len,HL.out];omega) (by omega) (n:=0) rfl (ad:=wr.heap.size) rfl
      have HO6:Hid (OwnG w6 w.heap.size v2 (padN p (J+1))):=Lib.hid (by rw [padN_succ];exact ho2)
      have HB6:=Lib.hid (HB.out.trans hb6)
      clear ho2 hb6
      go_wp2_with (at_builtin;refine wpList_append rfl _ _ _ rfl rfl rfl hap ?_)
      go_roundg (k - L - (J+1))
      case measure=>omega
      case rel=>exact ⟨v2,J+1,rfl,.inr (by omega),rfl,HO6,HB6⟩
    · have hpad:padN p J=padTo p k:=by
        unfold padN padTo
        rw [HL.out]
        congr 2
        omega
      rw [hpad] at HO
      have HP:=Lib.hid HO.out
      by_cases he:L≤k
      · obtain rfl:T=k:=by omega
        have HE:=Lib.hid he
        clear he
        go_wp2
        go_ret2
        refine ⟨_,?_,HP.out,HB.out⟩
        rw [HL.out,decide_eq_true HE.out]
        rfl
      · have he2:((T:Int) == (k:Int))=false:=by simp;omega
        have HE:=Lib.hid he
        clear he
        go_wp2
        go_ret2
        refine ⟨_,?_,HP.out,HB.out⟩
        rw [HL.out,decide_eq_false HE.out]
        rfl
def RDecPost (xs:List GF) (k:Nat) (ps:List Int) (ys:List GF) (w:World) (e:Ending) (w':World):Prop :=
  Below w.heap.size w w' ∧
  ((ps.length=ys.length→¬ GoodP xs.length ps)∧e=.returned (.tuple #[.slice none 0 0,.int .i64 2]) ∨
   (ps.length=ys.length∧GoodP xs.length ps)∧(ps.length < k∧e=.returned (.tuple #[.slice none 0 0,.int .i64 70]) ∨
    k≤ps.length∧((∃ v m,e=.returned (.tuple #[v,.int .i64 0])∧OwnG w' w.heap.size v m∧Fits xs k ps ys m) ∨
      e=.returned (.tuple #[.slice none 0 0,.int .i64 71])∧∀ m,¬ Fits xs k ps ys m)))
set_option maxRecDepth 100000 in
set_option maxHeartbeats 4000000 in
theorem rdec_any (xv pv yv:Value) (xs:List GF) (k:Nat) (ps:List Int) (ys:List GF) (w:World) (hx:GRd w xv xs) (hp:IRd w pv ps) (hy:GRd w yv ys) (hn:xs.Nodup) (hxl:xs.length≤1000) (hpl:ps.length≤1000) (hk:k≤1000) :
    Calls Tryz.prog 53 #[xv,.int .i64 k,pv,yv] w (RDecPost xs k ps ys w):=by
  have HPL:=Lib.hid (rplaces_any xv pv yv xs ps ys w hx hp hy (by omega))
  obtain ⟨ax,cx,rfl,hcx⟩:=hx.form
  obtain ⟨ay,cy,rfl,hcy⟩:=hy.form
  obtain ⟨ap,cp,rfl⟩:=hp.form
  have HX:=Lib.hid hx
  have HP:=Lib.hid hp
  have HY:=Lib.hid hy
  have HN:=Lib.hid hn
  obtain ⟨Q,hQ⟩:∃ Q,ps.length=Q:=⟨_,rfl⟩
  obtain ⟨N,hN⟩:∃ N,xs.length=N:=⟨_,rfl⟩
  obtain ⟨Y,hY⟩:∃ Y,ys.length=Y:=⟨_,rfl⟩
  have HQ:=Lib.hid hQ
  have HNN:=Lib.hid hN
  have HYY:=Lib.hid hY
  rw [hQ] at HPL HP hpl ⊢
  rw [hN] at HPL HX hxl ⊢
  rw [hY] at HPL HY ⊢
  clear hx hp hy hn hcx hcy hQ hN hY
  go_enter Tryz.func53,Tryz.ntmps53
  go_wp2_with fail
  refine HPL.out.mono ?_
  rintro e w1 ⟨b,rfl,hbi,hb1⟩
  have HB1:=Lib.hid hb1
  have HBI:=Lib.hid hbi
  clear hb1 hbi HPL
  cases b
  · go_wp2
    go_ret2
    refine ⟨HB1.out,.inl ⟨fun h1 h2=>?_,rfl⟩⟩
    rw [HNN.out] at h2
    rw [HQ.out,HYY.out] at h1
    have:=HBI.out.2 ⟨h2,by rw [HQ.out];exact h1⟩
    cases this
  · have HGD:=Lib.hid (HBI.out.1 (by trivial))
    clear HBI
    by_cases hf:Q < k
    · go_wp2
      go_ret2
      exact ⟨HB1.out,.inr ⟨⟨by rw [HYY.out];exact HGD.out.2,by rw [HNN.out];exact HGD.out.1⟩,.inl ⟨by rw [HQ.out];exact hf,rfl⟩⟩⟩
    · have hf':¬ (Q:Int) < (k:Int):=by omega
      have HAT:=Lib.hid (rpts_any _ _ xs ps w1 (HX.out.below HB1.out) (HP.out.below HB1.out) (by rw [HNN.out];exact HGD.out.1.1) (by rw [HQ.out];omega))
      go_wp2_with fail
      refine HAT.out.mono ?_
      rintro e w2 ⟨v2,rfl,ho2,hb2⟩
      have HB2:Hid (Below w.heap.size w w2):=Lib.hid (HB1.out.trans (hb2.mono HB1.out.size))
      have hptl:(ptsOf xs ps).length=Q:=by rw [← HQ.out];simp [ptsOf]
      have HTH:=Lib.hid (rthru_any v2 _ (ptsOf xs ps) ys w2 ho2.rd (HY.out.below HB2.out) (pts_nodup HN.out (by rw [HNN.out];exact HGD.out.1)) (by omega) (by have:=HGD.out.2;rw [HQ.out] at this;rw [hptl,HYY.out];exact this.symm))
      have HPT:=Lib.hid hptl
      have hs2:=HB2.out.size
      clear ho2 hb2 hptl HAT HB1
      go_wp2_with fail
      refine HTH.out.mono ?_
      rintro e w3 ⟨v3,p,rfl,hr3,ht3,hb3⟩
      have HB3:Hid (Below w.heap.size w w3):=Lib.hid (HB2.out.trans (hb3.mono hs2))
      have hs3:=HB3.out.size
      have hpl3:p.length≤Q:=by have:=ht3.2.1;rw [HPT.out] at this;exact this
      have HTL:Hid ((p.length≤k→Fits xs k ps ys (padTo p k))∧(k < p.length→∀ m,¬ Fits xs k ps ys m)):=Lib.hid (thru_tells HN.out (by rw [HNN.out];exact HGD.out.1) (by rw [HYY.out];exact HGD.out.2) (by rw [HQ.out];omega) ht3)
      have HFU:=Lib.hid (rfull_any v3 p k w3 hr3 (by omega) (by omega))
      clear hr3 ht3 hb3 HTH HB2
      go_wp2_with fail
      refine HFU.out.mono ?_
      rintro e w4 ⟨v4,rfl,ho4,hb4⟩
      have HB4:Hid (Below w.heap.size w w4):=Lib.hid (HB3.out.trans (hb4.mono hs3))
      have HO4:=Lib.hid ho4
      clear ho4 hb4 HFU HB3
      have hgd:(ps.length=ys.length∧GoodP xs.length ps)∧k≤ps.length:=⟨⟨by rw [HYY.out];exact HGD.out.2,by rw [HNN.out];exact HGD.out.1⟩,by rw [HQ.out];omega⟩
      have HGDD:=Lib.hid hgd
      clear hgd
      by_cases hpk:p.length≤k
      · rw [decide_eq_true hpk]
        have HFIT:=Lib.hid (HTL.out.1 hpk)
        clear hpk
        go_wp2
        go_ret2
        exact ⟨HB4.out,.inr ⟨HGDD.out.1,.inr ⟨HGDD.out.2,.inl ⟨v4,_,rfl,HO4.out.mono hs3,HFIT.out⟩⟩⟩⟩
      · rw [decide_eq_false hpk]
        have HFIT:=Lib.hid (HTL.out.2 (by omega))
        clear hpk
        go_wp2
        go_ret2
        exact ⟨HB4.out,.inr ⟨HGDD.out.1,.inr ⟨HGDD.out.2,.inr ⟨rfl,HFIT.out⟩⟩⟩⟩
end Go.Proofs.YtjdnicacnaokdaaGreat
