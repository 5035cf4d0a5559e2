import Derived.Test.YtcclhhjcejmepaaGreatZWorks
set_option linter.all false
set_option maxRecDepth 100000
set_option maxHeartbeats 8000000
namespace Go.Proofs.YtcclhhjcejmepaaGreat
open Go.RowKit Fld
theorem Kp.below_to {S:List Nat} {a b c:World} (h:Kp S a b) (k:Below a.heap.size b c):Kp S a c :=
 ⟨k.os.trans h.os,k.tape.trans h.tape,k.output.trans h.output,Zat h.size k.size,fun i hi hn=>(k.block i hi).trans (h.block i hi hn)⟩
theorem zgj.kpM {S:List Nat} {w w':World} {B:Nat} {V:Value} {l:List Sy} (h:zgj w B V l) (hk:Kp S w w') (hS:∀x∈S,x<B):zgj w' B V l:=by
 have ha:=h.own.apart hS;have hsz:=hk.size;refine⟨⟨h.own.row.kp hk (fun k hkk hm=>by have:=(h.own.row.lt k hkk).1;have:=hS k hm;omega),(zby.kp h.own.all hk ha).each,fun s hs a hA=>?_⟩,fun s hs=>?_,h.dist⟩
 ·have h1:=h.own.new s hs a hA;exact⟨h1.1,h1.2.1,by omega⟩
 ·obtain⟨b,h1,h2,h3⟩:=h.view s hs;have h4:=(h.own.new s hs _ h1).1;exact⟨b,h1,h2,h3.kp hk (fun hm=>by have:=hS b hm;simp only at h4;omega)⟩
theorem zy4 {n k d I j:Nat} {M:List GF} {b:GF} {c:Int} (hI:I<n) (hj:j<n) (hne:I≠j) (h:ze2 n d (I:Int) (j:Int) (zau k d M ((za9 n).getD I 0)) b c):b=ev (zau k d M ((za9 n).getD j 0)) ((za9 n).getD I 0)∧c=0:=by
 rcases h with ⟨h,-⟩|⟨-,rfl,rfl⟩
 ·exact absurd ⟨⟨by omega,by omega⟩,⟨by omega,by omega⟩,by omega,za5 _ _ _ _⟩ h
 ·refine⟨?_,rfl⟩;rw[Zam,←yb3];exact zaj fun i hi=>by rw[zau,zam _ hi]
theorem yel {D:List (List GF)} {s:Sy} {x:GF} (hl:s.d.length=1) (h:D.getD s.node.toNat []=[x]):bad D s=decide (s.d.getD 0 0≠x):=by
 unfold bad;rw[h];obtain⟨y,hy⟩:∃y,s.d=[y]:=⟨_,yam hl⟩;rw[hy];by_cases e:y=x
 ·subst e;simp
 ·rw[decide_eq_true (show [y]≠[x] from fun e2=>e (List.cons.inj e2).1),decide_eq_true (show ([y]:List GF).getD 0 0≠x from e)]
theorem znr (n k d:Int) (um ta tb:Value) (A As Bs:List GF) (tj bs t:Nat) (w:World) (hnb:I64 n∧I64 k∧I64 d) (hm:GRd w um A) (htj:tj<256) (hbs:bs<18446744073709551616) (ha:GRd w ta As) (hb:GRd w tb Bs) (ht:t<256) :
  Calls Tryz.prog 7 #[.int .i64 n,.int .i64 k,.int .i64 d,um,.int .u8 tj,.int .u64 bs,ta,tb,.int .u8 t] w fun e w'=>e=.returned (.bool true)∧Below w.heap.size w w':=by
 have HW:=Hd (yf6 w);have HFN:=Hd (fun W=>zjk W);have HNB:=Hd hnb;have HM:=Hd hm;obtain⟨aa,ca,rfl,hca⟩:=ha.form;obtain⟨ab,cb,rfl,hcb⟩:=hb.form;obtain⟨LA,hLA⟩:=zE4 As.length;obtain⟨LB,hLB⟩:=zE4 Bs.length;have HA:=Hd ha;have HBB:=Hd hb;have HLA:=Hd hLA;have HLB:=Hd hLB;have HBIT:=Hd (fun I=>zx0 bs I hbs);rw[hLA] at HA ⊢;rw[hLB] at HBB ⊢;obtain⟨S,hS⟩:=zE4 (t % 3);have hS4:S<3:=by rw[←hS];exact Zck _ (by omega)
 have z1:(t:Int) % 3=(S:Int):=by omega
 clear hnb hm ha hb hbs hLA hLB hca hcb hS;go_enter Tryz.func7,Tryz.ntmps7;go_wp2_with fail;refine (zds n k d w).mono ?_;rintro e w' ⟨b,rfl,rfl,hb⟩;have HBW:Hid (Below w.heap.size w w):=Hd (Zaa _ _);cases b
 ·clear hb;go_wp2_with fail;refine (HW.out _ HBW.out).mono ?_;rintro e w20 ⟨rfl,HB20⟩;go_wp2;go_ret;exact⟨rfl,HB20.out⟩
 have h9:=Hd (hb.1 rfl);clear hb;by_cases h4:6<LA
 ·have h4':(6:Int)<(LA:Int):=by omega
  go_wp2_with fail;refine (HW.out _ HBW.out).mono ?_;rintro e w20 ⟨rfl,HB20⟩;go_wp2;go_ret;exact⟨rfl,HB20.out⟩
 have h4':¬(6:Int)<(LA:Int):=by omega
 clear HBW;go_wp2_with fail;refine (HFN.out _).mono ?_;rintro e w1 ⟨fb,rfl,hfb0,hf1,hb1⟩;have HFO:=Hd hf1;have HB0:=Hd hb1;have HFB:=Hd hfb0;have hs1:=hf1.lt;clear hf1 hb1 hfb0;go_wp2_with fail;refine (zbo fb n k d w1 HFO.out HNB.out.1 HNB.out.2.1 HNB.out.2.2 (fun h=>by simp only[zbl];first|omega|(have:=h9.out;omega))).mono ?_;rintro e w2 ⟨hk2,hf2,hcase⟩;have HB2:Hid (Below w.heap.size w w2):=Hd (HB0.out.trans (hk2.below HB0.out.size (by have:=HFB.out;simp;omega)));have HF2:=Hd hf2;have hfl2:=hf2.lt;have hs2:=HB2.out.size;clear hk2 hf2 HFO HB0;rcases hcase with ⟨N,K,D,rfl,rfl,rfl,hNK,lb,t1,t2,pb,cv,cv2,rfl,hlb,hc2⟩|⟨hno,rfl⟩
 case inr =>
  have HBW:=HB2;clear hno;go_wp2_with fail;refine (HW.out _ HBW.out).mono ?_;rintro e w20 ⟨rfl,HB20⟩;go_wp2;go_ret;exact⟨rfl,HB20.out⟩
 have HC2:=Hd hc2;have HNK:=Hd hNK;have hN9:N≤9:=by have:=h9.out;omega
 have hKD:1≤K∧K≤D∧D<N:=by omega
 clear hc2 hNK h9 hlb h4 h4';have HTB:=Hd (zje w2 lb K D (cOH HC2.out.box (j:=2) rfl) (cOH HC2.out.box (j:=3) rfl) (lOH HC2.out.box) (by omega));obtain⟨BN,hBN⟩:=zE4 (mbB K D);rw[hBN] at HTB;have hBL:BN≤81:=by rw[←hBN];exact yao (by omega) (by omega)
 have HBN:=Hd hBN;clear hBN;go_wp2_with fail;refine HTB.out.mono ?_;rintro e w3 ⟨rfl,hb3⟩;have HC3:=Hd (HC2.out.below hb3);have HB3:Hid (Below w.heap.size w w3):=Hd (HB2.out.trans (hb3.mono HB2.out.size));have hs3:=hb3.size;clear hb3 HC2 HTB;go_wp2_with fail;refine (znt _ A BN w3 (HM.out.below HB3.out) (by omega)).mono ?_;rintro e w4 ⟨gm,rfl,hgm,hvm,hrm,hb4⟩;have HC4:=Hd (HC3.out.below hb4);have HB4:Hid (Below w.heap.size w w4):=Hd (HB3.out.trans (hb4.mono HB3.out.size));obtain⟨M,hM⟩:=zE4 (znz A BN);have hml:M.length=BN:=by rw[←hM,zny]
 rw[hM] at hrm;have HML:Hid (M.length=mbB K D):=Hd (by rw[hml,HBN.out]);have hs4:=hb4.size;have HENC:=Hd (zef w4 lb t1 t2 fb pb N K D cv cv2 _ M HC4.out HNK.out hrm (by omega) (fun k hk hm=>by simp[Value.ownBlock] at hk hm;omega));clear hvm hrm hb4 HC3 hM hml HM;go_wp2_with fail;refine HENC.out.mono ?_;rintro e w5 (⟨hne,-⟩|⟨-,hk5,hf5,v5,S5,rfl,hsh⟩)
 ·exact absurd HML.out hne
 have HC5:=Hd (HC4.out.step hk5 hf5);have HF5:=Hd hf5;have HB5:Hid (Below w.heap.size w w5):=Hd (HB4.out.trans (hk5.below HB4.out.size (by have:=HFB.out;simp;omega)));have hs5:=hk5.size;have hsl:S5.length=N:=by have:=congrArg List.length hsh.eq;rw[zf9] at this;simpa using this
 obtain⟨a5,c5,e5⟩:=hsh.all.rd.form;rw[hsl] at e5;subst e5;obtain⟨s0,hs0⟩:∃s0,S5[0]? = some s0:=⟨_,zE1 (by rw[hsl];omega)⟩;obtain⟨-,-,ga,oa,rfl,-,-⟩:=SRd.at hsh.all.rd hs0;have HSH:=Hd hsh;obtain⟨j,hj⟩:=zE4 (tj % N);have hjN:j<N:=by rw[←hj];exact Zck _ (by omega)
 have y1:(tj:Int) % (N:Int)=(j:Int):=by rw[←hj];rfl
 have y2:Int.tmod (tj:Int) (N:Int)=(j:Int):=by rw[Int.tmod_eq_emod_of_nonneg (by omega),y1]
 have y3:=zE6 (j:Int) (by omega);have y4:¬(N:Int)=0:=by omega
 have y5:¬N=0:=by omega
 have y6:((N:Int) == 0)=false:=by simp;omega
 have y7:(N:Int)≠0:=by omega
 have y8:=zE6 (tj:Int) (by omega);obtain⟨P,hP⟩:=zE4 (zau K D M ((za9 N).getD j 0));have hPl:P.length=D:=by rw[←hP,za5]
 have HPP:=Hd hP;have HPL:=Hd hPl;obtain⟨DD,hDD⟩:∃DD,zka N (fun i=>[ev P ((za9 N).getD i 0)])=DD:=⟨_,rfl⟩;have HDD:=Hd hDD;have HDG:Hid (∀i,i<N→DD.getD i []=[ev P ((za9 N).getD i 0)]):=Hd fun i hi=>by rw[←hDD,zka,zE2,Zae,Zax hi];rfl
 have HSG:Hid (∀i,i<N→(znp N K D M).getD i []=zau K D M ((za9 N).getD i 0)):=Hd fun i hi=>by rw[zE2,znp,Zae,Zax hi];rfl
 clear hj hk5 hf5 hsh hsl hs0 HC4 HENC HML HB4 hP hPl hDD htj;go_wp2;clear y1 y2 y3 y4 y5 y6 y7 y8 z1;go_loopg [25,26] N (fun gk hv iv wr=>∃(V:Value) (l:List Sy) (I:Nat),V=hv∧I≤N∧gk=N-I∧iv=.int .i64 I∧Hid (zgj wr w5.heap.size V l)∧Hid (Kp [fb] w5 wr)∧Hid (FOk wr fb)∧Hid (Sy.nodes l=za6 (zjn j bs I))∧Hid (∀s∈l,s.d=DD.getD s.node.toNat []))
 case atStart=>exact⟨_,[],0,rfl,by omega,rfl,rfl,Hd (zgj.nil _ _),Hd (Kp.refl _ _),HF5,Hd rfl,Hd (by simp)⟩
 case round =>
  obtain⟨V,l,I,rfl,hI,rfl,rfl,HT,HK,HF,HND,HDT⟩:=hrel;have hsr:=HK.out.size;by_cases hlt:I<N
  ·by_cases hIj:I=j
   ·subst hIj;have HND2:Hid (Sy.nodes l=za6 (zjn I bs (I+1))):=Hd (by rw[zxe (.inl rfl)];exact HND.out);go_wp2;go_roundg (N-(I+1))
    case measure=>omega
    case rel=>exact⟨_,l,I+1,rfl,by omega,rfl,by go_num,HT,HK,HF,HND2,HDT⟩
   have hIj':¬(I:Int)=(j:Int):=by omega
   have h64:I<64:=by omega
   have hbit:=HBIT.out I;cases ht:bs.testBit I
   ·rw[ht] at hbit;simp only[Bool.not_false] at hbit;have HND2:Hid (Sy.nodes l=za6 (zjn j bs (I+1))):=Hd (by rw[zxe (.inr ht)];exact HND.out);clear ht;go_wp2;go_roundg (N-(I+1))
    case measure=>omega
    case rel=>exact⟨_,l,I+1,rfl,by omega,rfl,by go_num,HT,HK,HF,HND2,HDT⟩
   rw[ht] at hbit;simp only[Bool.not_true] at hbit;have hyes:=zzy hIj ht;have HYES:=Hd hyes;clear ht hyes;obtain⟨aI,cI,ce,hge,hna⟩:=ydo (HSH.out.kp HK.out (by simp;omega)) (zf9 _ _ _ _) hlt (HSG.out I hlt) (za5 _ _ _ _);have HH:=Hd (zky wr lb t1 t2 fb pb N K D cv cv2 _ (I:Int) (j:Int) _ (HC5.out.step HK.out HF.out) (by omega) hge (fun b hb hm=>by
    cases aI with
    | none=>simp[Value.ownBlock] at hb
    | some A0 =>
     simp[Value.ownBlock] at hb hm;have:=hna A0 rfl;omega) (by rw[za5];omega))
   have i1:(0:Int)≤(I:Int)∧(I:Int)<(N:Int):=by omega
   clear hge hna;go_wp2_with fail;refine HH.out.mono ?_;rintro e w7 ⟨b2,e2,rfl,hp2,hk7,hf7⟩;obtain⟨hbv,rfl⟩:=zy4 hlt hjN hIj hp2;rw[HPP.out] at hbv;have HBV:=Hd hbv;obtain⟨y,hy⟩:=zE4 b2.n;rw[hy];have HK7:=Hd (HK.out.trans hk7);have HF7:=Hd hf7;have hT7:=HT.out.kpM hk7 (by simp;omega);have hs7:=HK7.out.size;obtain⟨W,hW⟩:=zE5 (w7.alloc (.cells #[.int .u8 (y:Nat)] 5));have hWs:W.heap.size=w7.heap.size+1:=by rw[hW];simp
   have hWb:Below w7.heap.size w7 W:=by rw[hW];exact (Zaa _ _).alloc (zE3 _) _
   have hvw:zag W w7.heap.size 1 (fun i=>[b2].getD i 0):=by rw[hW];exact zag.one w7 b2 hy
   have hll:l.length≤1000:=by
    have:=congrArg List.length HND.out
    rw[zbv] at this;have:=zrg j bs I;simp[Sy.nodes] at *;omega
   have hTW:=hT7.below hWb;have hVne:V.ownBlock≠some w7.heap.size:=fun e=>by have:=(hT7.own.row.lt _ e).2;simp at this
   have hnewa:∀q∈l,q.a≠some ⟨w7.heap.size,0,none⟩:=fun q hq e=>by
    have:=(hT7.own.new q hq _ e).2.2
    simp at this
   obtain⟨v1,w8,hap,ho1,hk1,hb8,-⟩:=zxf (W:=W) (s:=⟨I,some ⟨w7.heap.size,0,none⟩,1,[b2]⟩) hTW.own (zag.list hvw rfl (zE3 _)) (fun a ha=>by
    cases ha;exact⟨hs7,hVne,by simp only[];omega⟩) (by omega) (by omega) (ad:=w7.heap.size+1) hWs.symm
   have HT8:Hid (zgj w8 w5.heap.size v1 (l++[⟨I,some ⟨w7.heap.size,0,none⟩,1,[b2]⟩])):=Hd (hTW.app ho1 hk1 (b:=w7.heap.size) rfl (zE3 _) hvw hVne hnewa);have HK8:Hid (Kp [fb] w5 w8):=Hd ((HK7.out.below_step hWb).below_to hb8);have HF8:Hid (FOk w8 fb):=Hd ((HF7.out.below hWb).kp hk1 (fun hm=>by
    cases e:V.ownBlock with
    | none=>rw[e] at hm;simp at hm
    | some x =>
     rw[e] at hm;simp at hm;have:=(hT7.own.row.lt _ e).1;omega))
   have HND8:Hid (Sy.nodes (l++[⟨I,some ⟨w7.heap.size,0,none⟩,1,[b2]⟩])=za6 (zjn j bs (I+1))):=Hd (by
    rw[Sy.nodes,Zaw,HYES.out,show l.map Sy.node=_ from HND.out];simp[za6])
   have HDT8:Hid (∀q∈l++[(⟨I,some ⟨w7.heap.size,0,none⟩,1,[b2]⟩:Sy)],q.d=DD.getD q.node.toNat []):=Hd (fun q hq=>by
    rcases Zba.1 hq with hq|hq
    ·exact HDT.out q hq
    ·simp only[Zaq] at hq;rw[hq];show [b2]=DD.getD (Int.toNat (I:Int)) [];rw[Zam,HDG.out I hlt,HBV.out])
   rw[hW] at hap;have hap':=hap;simp only[show [b2].length=1 from rfl] at hap';clear hp2 hk7 hf7 hbv hy hW hWs hWb hvw hll hap ho1 hk1 hb8 hT7 hTW hVne hnewa HK7 HF7 HH ce HT HK HF HND HDT;go_wp2_with (at_builtin;refine zae rfl _ _ _ rfl rfl rfl hap' ?_);clear hap';go_roundg (N-(I+1))
   case measure=>omega
   case rel=>exact⟨v1,_,I+1,rfl,by omega,rfl,by go_num,HT8,HK8,HF8,HND8,HDT8⟩
  ·obtain rfl:I=N:=by omega
   obtain⟨w6,rfl⟩:=zE5 (wr:World);have hnd:=HND.out;have hll:l.length=(zjn j bs I).length:=by
    have:=congrArg List.length hnd
    rw[zbv] at this;simpa[Sy.nodes] using this
   obtain⟨L,hL⟩:=zE4 l.length;have hLn:L≤I:=by have:=zrg j bs I;omega
   have hvf:=HT.out.own.row.rd.form;rw[hL] at hvf;obtain⟨a0,c0,rfl⟩:=hvf;have HLL:=Hd hL;have HT6:=HT;have HK6:=HK;have HF6:=HF;have hys:∀(E:Nat) (s:Sy),l[E]? = some s→0≤s.node∧s.node<(I:Int):=fun E s hs=>by
    have hm:s.node∈za6 (zjn j bs I):=by rw[←hnd];exact Zau.2 ⟨s,Zad hs,rfl⟩
    exact zre.1.1 _ hm
   have hW1:∀s∈l,s.d.length=1:=fun s hs=>by obtain⟨E,hE⟩:=List.mem_iff_getElem?.1 hs;have h1:=hys E s hE;rw[HDT.out s hs,HDG.out s.node.toNat (by omega)];rfl
   have HW1:=Hd hW1;have hbd:(l.filter (bad DD)).length≤0:=by rw[List.filter_eq_nil_iff.2 fun s hs=>by rw[bad,HDT.out s hs];simp];exact zE3 _
   have HBD:=Hd hbd;have HLT:Hid (∀s∈l,∀a,s.a=some a→a.block<w6.heap.size):=Hd fun s hs a ha=>(HT.out.own.new s hs a ha).2.2;have HYV:Hid (∀l':List Sy,Sy.nodes l'=za6 (zjn j bs I)→∀(E:Nat) (s:Sy),l'[E]? = some s→DD.getD s.node.toNat []=[(ysL l).getD E 0]∧(ysL l)[E]? = some ((ysL l).getD E 0)):=Hd fun l' hn' E s hs=>by
    have hEl:E<l.length:=by have h1:=(Zah.1 hs).1;have h2:=congrArg List.length (hn'.trans hnd.symm);simp[Sy.nodes] at h2;omega
    obtain⟨q,hq⟩:∃q,l[E]? = some q:=⟨_,zE1 hEl⟩;have e1:s.node=q.node:=by have h1:=congrArg (·[E]?) (hn'.trans hnd.symm);simp only[Sy.nodes,Zae,hs,hq,Zbv,Option.some.injEq] at h1;exact h1
    have h2:=hys E q hq;have h3:=HDT.out q (Zad hq);rw[HDG.out q.node.toNat (by omega)] at h3;have h4:(ysL l)[E]? = some (q.d.getD 0 0):=by rw[ysL,Zae,hq];rfl
    have h5:(ysL l).getD E 0=q.d.getD 0 0:=by rw[zE2,h4];rfl
    rw[h5];refine⟨?_,h4⟩;rw[e1,HDG.out q.node.toNat (by omega),h3];rfl
   have HSYS:=Hd hys;obtain⟨Y,hY⟩:=zE4 (ysL l);have hYl:Y.length=L:=by rw[←hY,zlh,hL]
   have HY:=Hd hY;rw[hY] at HYV;have HYL:=Hd hYl;have HND6:=HND;have hI0:Hid (I≤9∧K≤D∧1≤K∧D<I):=Hd (by omega);clear hnd hll hL hys hW1 hbd hY hYl HT HK HF HND HDT hlt hI;go_wp2;go_loopg [29,30] L (fun gk hv iv wr=>∃(V:Value) (E:Nat),V=hv∧E≤L∧gk=L-E∧iv=.int .i64 E∧Hid (zao wr w6.heap.size V (Y.take E))∧Hid (Below w6.heap.size w6 wr))
   case atStart=>exact⟨_,0,rfl,by omega,rfl,rfl,Hd (by rw[List.take_zero];exact zao.nil _ _),Hd (Zaa _ _)⟩
   case round =>
    obtain⟨V,E,rfl,hE,rfl,rfl,HO,HBR⟩:=hrel;have hsr:=HBR.out.size;by_cases hltE:E<L
    ·obtain⟨s,hs⟩:∃s,l[E]? = some s:=⟨_,zE1 (by rw[HLL.out];exact hltE)⟩;have hm:=Zad hs;have hTR:=HT6.out.below HBR.out;obtain⟨b,hb,hcap,hv⟩:=hTR.view s hm;obtain⟨-,-,bv,ov,rfl,hbv,hat⟩:=SRd.at hTR.own.row.rd hs;have d1:wr.cell? ⟨bv,ov+E*2+1,none⟩=some (.slice s.a s.d.length s.cp):=hat 1 _ rfl;rw[hb,HW1.out s hm] at d1;rw[HW1.out s hm] at hv;have d2:=(hv.2 0 (by omega)).1;obtain⟨y,hy⟩:=zE4 ((s.d.getD 0 0).n);simp only[hy] at d2;have hsY:Y[E]? = some (s.d.getD 0 0):=by rw[←HY.out,ysL,Zae,hs];rfl
     obtain⟨v1,w8,hap,ho1,hk1,hb8,-⟩:=zcb (W:=wr) (s.d.getD 0 0) HO.out (by rw[Zan];omega) hsr hy (ad:=wr.heap.size) rfl;have HO8:Hid (zao w8 w6.heap.size v1 (Y.take (E+1))):=Hd (by
      rw[Zaz,hsY];exact ho1)
     have HB8:Hid (Below w6.heap.size w6 w8):=Hd (HBR.out.trans hb8);have i1:(0:Int)≤(E:Int)∧(E:Int)<(L:Int):=by omega
     clear hs hm hTR hb hcap hv hat hy hsY ho1 hk1 hb8 HO;go_wp2_with (at_builtin;refine zae rfl _ _ _ rfl rfl rfl hap ?_);go_roundg (L-(E+1))
     case measure=>omega
     case rel=>exact⟨_,E+1,rfl,by omega,rfl,by go_num,HO8,HB8⟩
    ·obtain rfl:E=L:=by omega
     obtain⟨w7,rfl⟩:=zE5 (wr:World);have hoy:=HO.out;rw[Zca (by rw[HYL.out];exact zE3 _)] at hoy;have hfy:=hoy.rd.form;rw[HYL.out] at hfy;obtain⟨aw,cw,rfl,-⟩:=hfy;have HOY:=Hd hoy;have HT7:=Hd (HT6.out.below HBR.out);have HK7:=Hd (HK6.out.below_step HBR.out);have HF7:=Hd (HF6.out.below HBR.out);have hs67:=HBR.out.size;have hs56:=HK6.out.size;clear hoy HO HBR HT6 HK6 HF6 hltE hE;go_wp2;go_loopg [31] S (fun gk iv wr=>∃(J:Nat) (l':List Sy),J≤S∧gk=S-J∧iv=.int .i64 J∧Hid (zgj wr w5.heap.size (.slice a0 E c0) l')∧Hid (zao wr w6.heap.size (.slice aw E cw) Y)∧Hid (Kp [fb] w5 wr)∧Hid (FOk wr fb)∧Hid (Sy.nodes l'=za6 (zjn j bs I))∧Hid (∀s∈l',s.d.length=1)∧Hid ((l'.filter (bad DD)).length≤J)∧Hid (l'.length=E)∧Hid (∀s∈l',∀a,s.a=some a→a.block<w6.heap.size)∧Hid (w6.heap.size≤wr.heap.size))
     case atStart=>exact⟨0,l,by omega,rfl,rfl,HT7,HOY,HK7,HF7,HND6,HW1,HBD,HLL,HLT,Hd hs67⟩
     case round =>
      clear HT7 HOY HK7 HF7 HND6 HW1 HBD HLL HLT;obtain⟨J,l',hJ,rfl,rfl,HT,HO,HK,HF,HND,HW1,HBD,HLL,HLT,HSZ⟩:=hrel;have hsr:=HSZ.out;by_cases hall:J<LA∧J<LB∧J<S∧0<E
      ·obtain⟨q1,q2,q3,q4⟩:=hall;have q1':(J:Int)<(LA:Int):=by omega
       have q2':(J:Int)<(LB:Int):=by omega
       have q3':(J:Int)<(S:Int):=by omega
       have q4':(0:Int)<(E:Int):=by omega
       have hbw:Below w.heap.size w wr:=HB5.out.trans (HK.out.below (by omega) (by have:=HFB.out;simp;omega));obtain⟨c,hc,-⟩:=zbt (l:=As) (i:=J) (by rw[HLA.out];exact q1);obtain⟨d,hd,-⟩:=zbt (l:=Bs) (i:=J) (by rw[HLB.out];exact q2);obtain⟨bA,oA,rfl,hbA,-⟩:=HA.out.at hc;obtain⟨bB,oB,rfl,hbB,-⟩:=HBB.out.at hd;obtain⟨_,_,e,-,k1⟩:=(HA.out.below hbw).at hc;cases e;obtain⟨_,_,e,-,k2⟩:=(HBB.out.below hbw).at hd;cases e;have hcl:=c.lt;have hdl:=d.lt;obtain⟨x,hx⟩:∃t,c.n=t:=⟨_,rfl⟩;obtain⟨y,hy⟩:∃t,d.n=t:=⟨_,rfl⟩;rw[hx] at k1 hcl;rw[hy] at k2 hdl;obtain⟨r,hr⟩:=zE4 (x % E);have hrJ:r<E:=by rw[←hr];exact Zck _ (by omega)
       have z1:(x:Int) % (E:Int)=(r:Int):=by rw[←hr];rfl
       have z2:Int.tmod (x:Int) (E:Int)=(r:Int):=by rw[Int.tmod_eq_emod_of_nonneg (by omega),z1]
       have z3:=zE6 (r:Int) (by omega);have z4:¬(E:Int)=0:=by omega
       have z5:¬E=0:=by omega
       have z6:((E:Int) == 0)=false:=by simp;omega
       have z7:(E:Int)≠0:=by omega
       have hcv:=zE6 (x:Int) (by omega);obtain⟨s,hs⟩:∃s,l'[r]? = some s:=⟨_,zE1 (by rw[HLL.out];exact hrJ)⟩;have hm:=Zad hs;obtain⟨b,hb,hcap,hv⟩:=HT.out.view s hm;obtain⟨-,-,bv,ov,rfl,hbv,hat⟩:=SRd.at HT.out.own.row.rd hs;have cv1:wr.cell? ⟨bv,ov+r*2+1,none⟩=some (.slice s.a s.d.length s.cp):=hat 1 _ rfl;rw[hb,HW1.out s hm] at cv1;rw[HW1.out s hm] at hv;have hbn:=HT.out.own.new s hm _ hb;have hb6:=HLT.out s hm _ hb;have hbvb:bv≠b:=fun e=>hbn.2.1 (by rw[e];rfl);have hbl1:w5.heap.size≤b:=hbn.1;have hbl2:b<wr.heap.size:=hbn.2.2;simp only at hb6;have cE:=(hv.2 0 (by omega)).1;have fE:=(hv.2 0 (by omega)).2;have hvs:=hv.set (i:=0) (by omega) d;rw[hy] at hvs;obtain⟨w9,hw9⟩:=zE5 ((wr.setCell ⟨b,0,none⟩ (.int .u8 (y:Nat))).drew);have hk9:Kp [b] wr w9:=by rw[hw9];exact ((Kp.refl _ _).setCell (.inl (by simp)) _).drew
       have hv9:zag w9 b s.d.length (fun i=>[d].getD i 0):=by
        rw[hw9,HW1.out s hm];refine zag.congr hvs.drew fun i hi=>?_;obtain rfl:i=0:=by omega
        rfl
       have HT9:=Hd (HT.out.wr hs hb hk9 (d:=[d]) (by rw[HW1.out s hm];rfl) hv9);have HO9:Hid (zao w9 w6.heap.size (.slice aw E cw) Y):=Hd (HO.out.kp hk9 (fun q hq hqm=>by have:=(HO.out.lt q hq).1;simp at hqm;omega));have HK9:Hid (Kp [fb] w5 w9):=Hd (HK.out.step hk9 (by simp;omega));have HF9:Hid (FOk w9 fb):=Hd (HF.out.kp hk9 (by simp;omega));have HND9:Hid (Sy.nodes (l'.set r ⟨s.node,s.a,s.cp,[d]⟩)=za6 (zjn j bs I)):=Hd (by
        rw[←HND.out];unfold Sy.nodes;rw[List.map_set];refine List.ext_getElem? fun i=>?_;rw[List.getElem?_set];split
        ·rename_i e;subst e;rw[Zae,hs,Zag,if_pos (Zah.1 hs).1];rfl
        ·rfl)
       have HW9:Hid (∀q∈l'.set r ⟨s.node,s.a,s.cp,[d]⟩,q.d.length=1):=Hd (fun q hq=>by
        rcases List.mem_or_eq_of_mem_set hq with hq|rfl
        ·exact HW1.out q hq
        ·rfl)
       have HBD9:Hid (((l'.set r ⟨s.node,s.a,s.cp,[d]⟩).filter (bad DD)).length≤J+1):=Hd (Zat (zd4 _ _ _ _) (by have:=HBD.out;omega));have HLL9:Hid ((l'.set r ⟨s.node,s.a,s.cp,[d]⟩).length=E):=Hd (by rw[List.length_set];exact HLL.out);have HLT9:Hid (∀q∈l'.set r ⟨s.node,s.a,s.cp,[d]⟩,∀a,q.a=some a→a.block<w6.heap.size):=Hd (fun q hq a ha=>by
        rcases List.mem_or_eq_of_mem_set hq with hq|rfl
        ·exact HLT.out q hq a ha
        ·exact HLT.out s hm a ha)
       have HSZ9:Hid (w6.heap.size≤w9.heap.size):=Hd (Zat hsr hk9.size);have i1:(0:Int)≤(J:Int)∧(J:Int)<(LA:Int):=by omega
       have i2:(0:Int)≤(J:Int)∧(J:Int)<(LB:Int):=by omega
       have i3:(0:Int)≤(r:Int)∧(r:Int)<(E:Int):=by omega
       have hbw5:=HB5.out.size;obtain⟨kp,hkp⟩:∃kp:Nat→Bool,∀j,kp j=true↔j≠b:=⟨fun j=>decide (j≠b),by simp⟩;have m1:kp bA=true:=(hkp _).2 (by omega);have m2:kp bB=true:=(hkp _).2 (by omega);have m3:kp bv=true:=(hkp _).2 hbvb;have HKP:=Hd hkp;subst hw9;clear hkp hc hd hx hy hr hs hm hb hcap hv hat hbn hvs hk9 hv9 hbw;go_upto_region 28 with fail
       have hgr:=hgK (fun j=>kp j=true);refine w_T (fun j=>kp j=true) [17] (.sq [0,1,2,3,4,5,6,7,8,9,10,11,12,13,14,15,16,17] .done) (by kernel_rfl) (by kernel_rfl) ?_;simp only[TQ,Oper.slim,Nat.reduceBEq,Nat.reduceAdd]
       repeat' first|((with_reducible refine w_I ?_);first|(with_reducible refine w_D ?_)|((with_reducible refine w_S (fun K hK=>?_));go_simp;first|(refine hK _ _ ?_;clear hK K)|(refine⟨by (intro kk hkk;first|(simp (disch:=(simp;omega)) only[h_D,h_N,h_A,h_S];done)|(simp[h_D,h_N,h_I,hkk];done)|(have hkk2:=(HKP.out kk).1 hkk;simp (disch:=(first|exact hkk2|(simp;done)|(simp;omega))) only[h_D,h_N,h_A,h_S];done)),hK _ _ ?_⟩;clear hK K)))|fail
       clear hgr;go_wp2;go_roundg (S-(J+1))
       case measure=>omega
       case rel=>exact⟨J+1,_,by omega,rfl,by go_num,HT9,HO9,HK9,HF9,HND9,HW9,HBD9,HLL9,HLT9,HSZ9⟩
      ·obtain⟨p1,hp1⟩:∃p,decide (J<LA)=p:=⟨_,rfl⟩;obtain⟨p2,hp2⟩:∃p,decide (J<LB)=p:=⟨_,rfl⟩;obtain⟨p3,hp3⟩:∃p,decide (J<S)=p:=⟨_,rfl⟩;obtain⟨p4,hp4⟩:∃p,decide (0<E)=p:=⟨_,rfl⟩;have hpq:(((p1 && p2) && p3) && p4)=false:=by
        rw[←hp1,←hp2,←hp3,←hp4,←Bool.decide_and,←Bool.decide_and,←Bool.decide_and];exact decide_eq_false (fun h=>hall ⟨h.1.1.1,h.1.1.2,h.1.2,h.2⟩)
       obtain⟨w8,rfl⟩:=zE5 (wr:World);have HBDS:Hid ((l'.filter (bad DD)).length≤S):=Hd (Zat HBD.out hJ);clear hall HBD hJ;go_upto_region 26 with fail
       refine zbk (.step 0 (.step 1 (.step 2 (.step 3 (.step 4 (.unit 4 true (.step 5 (.step 6 (.step 7 (.step 8 .done)))) 9 8 (.step 10 (.unit 10 true (.step 11 (.step 12 (.step 13 .done))) 14 13 (.step 15 (.unit 15 true (.step 16 (.step 17 (.step 18 .done))) 19 18 .done)))))))))) (by kernel_rfl) (by kernel_rfl) ?_;simp only[zkc,zgg,ztv,Oper.slim,List.contains_cons,List.contains_nil,Option.map_none,Zbv,List.getElem?_toArray,Zbj,List.getElem?_cons_succ,Option.bind_some,beq_self_eq_true,Bool.or_false,Nat.reduceBEq,Nat.reduceAdd,Zbe,Option.getD_some,Option.isSome_some,Option.isSome_none,Bool.false_and,Bool.true_and,Bool.false_eq_true,if_false,if_true,Option.some_beq_some,Option.some_beq_none,Option.none_beq_some,reduceCtorEq,ite_true,ite_false]
       repeat ((with_reducible refine zac (fun K hK=>?_));go_simp;first|(refine hK _ _ ?_;clear hK K)|(refine⟨by (intro kk hkk;first|exact hkk.elim|(simp (disch:=(simp;omega)) only[h_D,h_N,h_A,h_S];done)|(simp[h_D,h_N,h_I,hkk];done)|(have hkk2:=(HKP.out kk).1 hkk;simp (disch:=(first|exact hkk2|(simp;done)|(simp;omega))) only[h_D,h_N,h_A,h_S];done)),hK _ _ ?_⟩;clear hK K))
       iterate 3
        refine zax (x:=?_) (by rfl) ?_ ?_;rotate_left
        ·intro hgd
         repeat ((with_reducible refine zac (fun K hK=>?_));go_simp;first|(refine hK _ _ ?_;clear hK K)|(refine⟨by (intro kk hkk;first|exact hkk.elim|(simp (disch:=(simp;omega)) only[h_D,h_N,h_A,h_S];done)|(simp[h_D,h_N,h_I,hkk];done)|(have hkk2:=(HKP.out kk).1 hkk;simp (disch:=(first|exact hkk2|(simp;done)|(simp;omega))) only[h_D,h_N,h_A,h_S];done)),hK _ _ ?_⟩;clear hK K))
         exact zah ⟨by rfl,rfl⟩
        intro js;simp only[UT.dsts,zct,SOp.dst,Option.toList_some,Option.toList_none,Zas,Zav,Zal,cond_true,cond_false]
        repeat ((with_reducible refine zac (fun K hK=>?_));go_simp;first|(refine hK _ _ ?_;clear hK K)|(refine⟨by (intro kk hkk;first|exact hkk.elim|(simp (disch:=(simp;omega)) only[h_D,h_N,h_A,h_S];done)|(simp[h_D,h_N,h_I,hkk];done)|(have hkk2:=(HKP.out kk).1 hkk;simp (disch:=(first|exact hkk2|(simp;done)|(simp;omega))) only[h_D,h_N,h_A,h_S];done)),hK _ _ ?_⟩;clear hK K))
       try go_simp
       refine zah ?_
       try go_simp
       go_wp2;clear hp1 hp2 hp3 hp4 hpq;go_loopg [32,33] E (fun gk hv iv wr=>∃(V:Value) (F:Nat),V=hv∧F≤E∧gk=E-F∧iv=.int .i64 F∧Hid (za4 wr w8.heap.size V (Sy.nodes ((l'.take F).filter (bad DD))))∧Hid (Below w8.heap.size w8 wr))
       case atStart=>exact⟨_,0,rfl,by omega,rfl,rfl,Hd (za4.nil _ _),Hd (Zaa _ _)⟩
       case round =>
        obtain⟨V,F,rfl,hF,rfl,rfl,HZ,HBR⟩:=hrel;have hsr8:=HBR.out.size;by_cases hltF:F<E
        ·obtain⟨s,hs⟩:∃s,l'[F]? = some s:=⟨_,zE1 (by rw[HLL.out];exact hltF)⟩;have hm:=Zad hs;obtain⟨hyv,hyw⟩:=HYV.out l' HND.out F s hs;have hTR:=HT.out.below HBR.out;obtain⟨b,hb,hcap,hv⟩:=hTR.view s hm;obtain⟨-,-,bv,ov,rfl,hbv,hat⟩:=SRd.at hTR.own.row.rd hs;have d0:wr.cell? ⟨bv,ov+F*2,none⟩=some (.int .i64 s.node):=hat 0 _ rfl;have d1:wr.cell? ⟨bv,ov+F*2+1,none⟩=some (.slice s.a s.d.length s.cp):=hat 1 _ rfl;rw[hb,HW1.out s hm] at d1;rw[HW1.out s hm] at hv;have d2:=(hv.2 0 (by omega)).1;have hob:=HO.out.below HBR.out;obtain⟨bY,oY,rfl,hbY,d3⟩:=hob.rd.at hyw;obtain⟨p,hp⟩:=zE4 ((s.d.getD 0 0).n);obtain⟨q,hq⟩:=zE4 ((Y.getD F 0).n);simp only[hp] at d2;rw[hq] at d3;have hbc:=yel (HW1.out s hm) hyv;have hiff:s.d.getD 0 0=Y.getD F 0↔p=q:=⟨fun e=>by rw[←hp,←hq,e],fun e=>GF.ext' (by omega)⟩;have htk:(l'.take (F+1)).filter (bad DD)=(l'.take F).filter (bad DD)++(if bad DD s=true then [s] else []):=by
          rw[Zaz,hs,Zcj];congr 1;show List.filter (bad DD) [s]=_;rw[Zby,List.filter_nil]
         obtain⟨x,hx⟩:=zE4 s.node;have hXB:=HSZ.out;obtain⟨kp,hkp⟩:∃kp:Nat→Bool,∀j,kp j=true↔j<wr.heap.size:=⟨fun j=>decide (j<wr.heap.size),by simp⟩;have m1:kp bv=true:=(hkp _).2 hbv;have m2:kp b=true:=(hkp _).2 hv.1;have m3:kp bY=true:=(hkp _).2 hbY;have HKP:=Hd hkp;have HBRD:Hid (Below w8.heap.size w8 wr.drew):=Hd HBR.out.drew;have i1:(0:Int)≤(F:Int)∧(F:Int)<(E:Int):=by omega
         have hlF:(l'.take F).length≤9:=by rw[Zan];have:=HLL.out;have:=hI0.out;omega
         by_cases hcc:p=q
         ·subst hcc;have HZ2:Hid (za4 wr.drew w8.heap.size V (Sy.nodes ((l'.take (F+1)).filter (bad DD)))):=Hd (by
           rw[htk,hbc,decide_eq_false (fun h=>h (hiff.2 rfl)),if_neg (by simp),Zal];exact HZ.out)
          clear hkp hs hm hyv hyw hTR hb hcap hv hat hob hp hq hbc hiff htk hx hlF;go_upto_region 33 with fail
          have hgr:=hgK (fun j=>kp j=true);refine w_T (fun j=>kp j=true) [] (.sq [0,1,2,3,4,5,6,7,8,9,10,11] .done) (by kernel_rfl) (by kernel_rfl) ?_;simp only[TQ,Oper.slim,Nat.reduceBEq,Nat.reduceAdd]
          repeat' first|((with_reducible refine w_I ?_);first|(with_reducible refine w_D ?_)|((with_reducible refine w_S (fun K hK=>?_));go_simp;(refine hK _ _ ?_;clear hK K)))|fail
          clear hgr;go_wp2;go_roundg (E-(F+1))
          case measure=>omega
          case rel=>exact⟨_,F+1,rfl,by omega,rfl,by go_num,HZ2,HBRD⟩
         ·have hne:¬(p:Int)=(q:Int):=by omega
          obtain⟨v1,w9,hap,ho1,-,hb9,-⟩:=zdf (W:=wr.drew) s.node HZ.out (by
           rw[Sy.nodes,Zag];exact Zat (Zce _ _) (by omega)) (by simpa using hsr8) (ad:=wr.heap.size) rfl
          have HZ9:Hid (za4 w9 w8.heap.size v1 (Sy.nodes ((l'.take (F+1)).filter (bad DD)))):=Hd (by
           rw[htk,hbc,decide_eq_true (show s.d.getD 0 0≠Y.getD F 0 from fun h=>hcc (hiff.1 h)),if_pos rfl,Sy.nodes,Zaw];exact ho1)
          have HB9:Hid (Below w8.heap.size w8 w9):=Hd (HBRD.out.trans hb9);rw[hx] at hap d0;clear hkp hs hm hyv hyw hTR hb hcap hv hat hob hp hq hbc hiff htk hx ho1 hb9 hcc hlF;go_upto_region 33 with fail
          have hgr:=hgK (fun j=>kp j=true);refine w_T (fun j=>kp j=true) [] (.sq [0,1,2,3,4,5,6,7,8,9,10,11] .done) (by kernel_rfl) (by kernel_rfl) ?_;simp only[TQ,Oper.slim,Nat.reduceBEq,Nat.reduceAdd]
          repeat' first|((with_reducible refine w_I ?_);first|(with_reducible refine w_D ?_)|((with_reducible refine w_S (fun K hK=>?_));go_simp;(refine hK _ _ ?_;clear hK K)))|fail
          clear hgr;go_wp2_with (at_builtin;refine zae rfl _ _ _ rfl rfl rfl hap ?_);go_roundg (E-(F+1))
          case measure=>omega
          case rel=>exact⟨_,F+1,rfl,by omega,rfl,by go_num,HZ9,HB9⟩
        ·obtain rfl:F=E:=by omega
         obtain⟨w9,rfl⟩:=zE5 (wr:World);have hzo:=RdZ.of_own HZ.out;rw[Zca (by rw[HLL.out];exact zE3 _)] at hzo;obtain⟨az,cz,ez⟩:=hzo.rd.form;subst ez;have HZO:=Hd hzo;have HT9:=Hd (HT.out.below HBR.out);have HK9:=Hd (HK.out.below_step HBR.out);have HF9:=Hd (HF.out.below HBR.out);have hmm:=yb2 (K:=K) (d:=D) (t:=S) (M:=M) (zbd I) hjN HND.out HW1.out (by rw[HPP.out,HDD.out];exact HBDS.out);rw[HPP.out,HDD.out,HLL.out] at hmm;have HMM:=Hd hmm;have hZL:(Sy.nodes (l'.filter (bad DD))).length≤1000000:=by rw[Sy.nodes,Zag];have:=HBDS.out;omega
         have HZL:=Hd hZL;have hIB:=hI0.out;have HRP:=Hd (zjb w9 lb t1 t2 fb pb I K D cv cv2 (.slice a0 F c0) (j:Int) (S:Int) l' (HC5.out.step HK9.out HF9.out) (by omega) (zay (by omega)) HT9.out.own.all (by rw[HLL.out];omega) (by omega));unfold zjs at HRP;clear hzo hmm hZL hltF hF HZ HBR HT HK HF HO;go_wp2_with fail;refine HRP.out.mono ?_;rintro e w10 ⟨hk10,hf10,hans⟩;obtain⟨c,m,zs',v1,v2,rfl,his,ho1,hz2⟩:=hans.is;have HIS:=Hd his;have HK10:=Hd (HK9.out.trans hk10);have HB10:Hid (Below w.heap.size w w10):=Hd (HB5.out.trans (HK10.out.below (by have:=HB5.out.size;omega) (by have:=HFB.out;simp;omega)));have HV1:=Hd ho1.rd;have HV2:=Hd hz2;have HZ10:=Hd (HZO.out.kp hk10 (by simp;have:=HK9.out.size;have:=hs56;omega));clear hk10 hf10 hans his ho1 hz2 HRP HZO;obtain⟨S2,hS2⟩:=zE4 (2*S);obtain⟨TS,hTS⟩:=zE4 (D+S2);have x1:(2:Int)*(S:Int)=(S2:Int):=by omega
         have x2:=zE6 (S2:Int) (by omega);have x3:(D:Int)+(S2:Int)=(TS:Int):=by omega
         have x4:=zE6 (TS:Int) (by omega);have HTS:Hid (D+2*S=TS):=Hd (by omega);have HNN:Hid (I≤255):=Hd (by omega);clear hS2 hTS hKD hIB;by_cases hfew:F<TS
         ·have hfew':(F:Int)<(TS:Int):=by omega
          obtain⟨rfl,rfl,rfl⟩:=zgp.one (zay HNN.out) HIS.out (HMM.out.2 (by rw[HTS.out];exact hfew));have HBW:=HB10;go_wp2_with fail;refine (HW.out _ HBW.out).mono ?_;rintro e w20 ⟨rfl,HB20⟩;go_wp2;go_ret;exact⟨rfl,HB20.out⟩
         have hfew':¬(F:Int)<(TS:Int):=by omega
         obtain⟨rfl,rfl,rfl⟩:=zgp.one (zay HNN.out) HIS.out (HMM.out.1 (by rw[HTS.out];omega));obtain⟨aj,cj,cej,hgj,-⟩:=ydo (HSH.out.kp HK10.out (by simp;omega)) (zf9 _ _ _ _) hjN (HSG.out j hjN) (za5 _ _ _ _);rw[HPP.out] at hgj;have HGJ:=Hd hgj;have i2:(0:Int)≤(j:Int)∧(j:Int)<(I:Int):=by omega
         clear HIS HMM hgj;go_wp2_with fail;refine (zus _ _ m m w10 HV1.out HGJ.out).mono ?_;rintro e w11 ⟨rfl,rfl⟩;rw[decide_eq_true rfl];go_wp2_with fail;refine (zfy _ _ _ _ w10 HV2.out.rd HZ10.out.rd HZL.out HZL.out).mono ?_;rintro e w11 ⟨rfl,hb11⟩;rw[decide_eq_true rfl];have HBW:Hid (Below w.heap.size w w11):=Hd (HB10.out.trans (hb11.mono HB10.out.size));clear hb11;go_wp2_with fail;refine (HW.out _ HBW.out).mono ?_;rintro e w20 ⟨rfl,HB20⟩;go_wp2;go_ret;exact⟨rfl,HB20.out⟩
end Go.Proofs.YtcclhhjcejmepaaGreat
namespace Go.Proofs.YtcclhhjcejmepaaGreat
open Go.RowKit
end Go.Proofs.YtcclhhjcejmepaaGreat
