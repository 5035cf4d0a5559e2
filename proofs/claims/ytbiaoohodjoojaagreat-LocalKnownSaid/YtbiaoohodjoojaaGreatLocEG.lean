/-
  The iterator of a row's parts.
  A message's shares.
  A message's shares: the program's Encode.
-/
import Derived.Test.YtbiaoohodjoojaaGreatRanges
import Derived.Test.YtbiaoohodjoojaaGreatRefsA
import Derived.Test.YtbiaoohodjoojaaGreatLocA
import Derived.Test.YtbiaoohodjoojaaGreatWeExG
import Derived.Test.YtbiaoohodjoojaaGreatPolG
/- The iterator of a row's parts. -/
namespace Go.Proofs.YtbiaoohodjoojaaGreat
open Go.RowKit Fld
set_option linter.unusedVariables false
set_option linter.unusedSimpArgs false
attribute [local go_sem] Oper.semAt_some

def chEnc (b o L n:Nat) (j:Nat):Array Value:=#[.slice (some ⟨b,o+j * n,none⟩) (min n (L - j * n)) (min n (L - j * n))]
def chN (L n:Nat):Nat:=(L+n - 1) / n
theorem chN_lt {L n j:Nat} (hn:0 < n):j < chN L n↔j * n < L:=by
 unfold chN
 rw [Nat.lt_iff_add_one_le,Nat.le_div_iff_mul_le hn,Nat.add_mul,Nat.one_mul]
 omega
set_option maxHeartbeats 1000000 in
theorem chunk_any (a:Option Addr) (L cap n:Nat) (w:World) (hn:0 < n) :
  Calls Tryz.prog 41 #[.slice a L cap,.int .i64 n] w fun e w'=>e=.returned (.func (.func 64) #[] #[.pointer (some ⟨w.heap.size,0,none⟩),.pointer (some ⟨w.heap.size+1,0,none⟩)]) ∧
   Below w.heap.size w w'∧w'.heap[w.heap.size]? = some (.cells #[.slice a L cap] 36 (0,0))∧w'.heap[w.heap.size+1]? = some (.cells #[.int .i64 n] 3 (0,0)):=by
 have hmf:∀ (fn:Fn) (first cap:Array Value) (w:World),(Instr.makeFunc fn first cap).run Tryz.prog w=.ok (.func fn first cap) w:=fun _ _ _ _=>rfl
 have h1:¬ (n:Int) < 1:=by omega
 go_enter Tryz.func41,Tryz.ntmps41
 go_wp2
 go_ret
 refine ⟨rfl,by (repeat' (first | (with_reducible exact RowKit.Below.refl _ _) | (with_reducible assumption) | (with_reducible refine RowKit.Below.drew ?_) | (with_reducible refine RowKit.Below.alloc ?_ ?_ _) | omega | (simp;done) | (simp;omega))),?_,?_⟩
 ·exact keepA (heap_newA _ _) _
 ·exact heap_newE _ _ _ (by simp)
set_option maxRecDepth 100000 in
set_option maxHeartbeats 4000000 in
theorem chunk1_seq (Bs Bn fb b o L cap n:Nat) (a:Option Addr) (w0:World) (hs:w0.heap[Bs]? = some (.cells #[.slice a L cap] 36 (0,0))) (hnb:w0.heap[Bn]? = some (.cells #[.int .i64 n] 3 (0,0)))
  (ha:0 < L→a=some ⟨b,o,none⟩) (hc:L≤cap) (hn:0 < n) (hb:L≤1000000∧n≤1000000) :
  SeqE fb Tryz.prog 64 #[.pointer (some ⟨Bs,0,none⟩),.pointer (some ⟨Bn,0,none⟩)] (chEnc b o L n) [Bs,Bn] 0 (fun xs=>xs=List.range (chN L n)) (fun pre=>pre=List.range pre.length∧pre.length≤chN L n) (some (chN L n)) w0:=by
 intro lv N J Jx W hW hJ hJx hOk hN1 hN2 hY h0
 obtain rfl:=hN1 _ rfl
 have HBs:Hid (W.heap[Bs]? = some (.cells #[.slice a L cap] 36 (0,0))):=Lib.hid (keepB hW hs)
 have HBn:Hid (W.heap[Bn]? = some (.cells #[.int .i64 n] 3 (0,0))):=Lib.hid (keepB hW hnb)
 refine callsIn_of_wp Tryz.func64 rfl trivial ?_ rfl
 simp only [Tryz.ntmps64,List.size_toArray,List.length_cons,List.length_nil,Nat.reduceAdd,Nat.reduceSub,Array.replicate_succ,Array.replicate_zero,List.push_toArray,List.append_toArray,List.nil_append,List.cons_append]
 have HJ0:=Lib.hid h0
 have HYY:=Lib.hid hY
 have HOK:=Lib.hid hOk
 have HA:=Lib.hid ha
 have HJJ:=Lib.hid hJ
 clear hs hnb hW h0 hJ hJx hY hOk hN1 hN2 ha
 gi_wp2
 gi_loopw [4] (fun i wr=>∃ (j I:Nat),i=.int .i64 (I:Nat)∧I=j * n∧j≤chN L n∧Hid (J (List.range j) wr)∧Hid (wr.heap[Bs]? = some (.cells #[.slice a L cap] 36 (0,0)))∧Hid (wr.heap[Bn]? = some (.cells #[.int .i64 n] 3 (0,0))))
  (fun i _=>((L:Int) - intOf i).toNat)
 case atStart=>exact ⟨0,0,rfl,by simp,Nat.zero_le _,HJ0,HBs,HBn⟩
 case round =>
  clear HJ0 HBs HBn
  obtain ⟨j,I,rfl,hI,hj,HJ,HBs,HBn⟩:=hrel
  have cs:=cell_of_heap HBs.out (j:=0) rfl
  have cn:=cell_of_heap HBn.out (j:=0) rfl
  have g1:=lt_of_heap HBs.out
  have g2:=lt_of_heap HBn.out
  have HI:=Lib.hid hI
  by_cases hlt:I < L
  ·obtain rfl:=HA.out (by omega)
   have hjc:j < chN L n:=(chN_lt hn).2 (by rw [← hI];exact hlt)
   have HJC:=Lib.hid hjc
   obtain ⟨sa,sc,hsl,-,-⟩:=slice_l (some ⟨b,o,none⟩) L cap I (by omega) hc
   obtain ⟨D,hD⟩:∃ D,L - I=D:=⟨_,rfl⟩
   obtain ⟨m,hm⟩:∃ m,min n D=m:=⟨_,rfl⟩
   obtain ⟨E,hE⟩:∃ E,I+m=E:=⟨_,rfl⟩
   rw [hD] at hsl
   have hmI:min (n:Int) (D:Int)=(m:Int):=by omega
   have e1:(I:Int)+(m:Int)=(E:Int):=by omega
   have e2:IntKind.i64.wrap (E:Int)=(E:Int):=IntWalk.i64_in _ (by omega)
   have e3:(0:Int)≤(I:Int)∧(I:Int) < (E:Int)∧(E:Int)≤(cap:Int):=by omega
   have hIE:I < E:=by omega
   have hIE2:¬ E=I:=by omega
   have hIE3:¬ E≤I:=by omega
   have hIE4:¬ E - I=0:=by omega
   have hEc:E≤cap:=by omega
   have hIc:I < cap:=by omega
   have HM:Hid (min n (L - j * n)=E - I):=Lib.hid (by rw [← hI,hD,hm];omega)
   obtain ⟨I2,hI2⟩:∃ I2,I+n=I2:=⟨_,rfl⟩
   have f1:(I:Int)+(n:Int)=(I2:Int):=by omega
   have f2:IntKind.i64.wrap (I2:Int)=(I2:Int):=IntWalk.i64_in _ (by omega)
   have HI2:=Lib.hid hI2
   have HST:Hid (J (List.range j) wr.drew):=Lib.hid (HJJ.out _ _ _ HJ.out ⟨(Kp.refl _ _).drew,fun h=>h.below ((Below.refl _ _).drew)⟩)
   clear hI hjc hD hm hE hI2
   gi_wp2
   refine wpIn_wide.2 ?_
   have hgr:=fun (w0 W:World) (p:Addr) (hp:(fun k=>k < wr.heap.size) p.block)=>graft_cell (w0:=w0) (keep:=(fun k=>k < wr.heap.size)) W hp
   refine wp_region_tree (fun k=>k < wr.heap.size) [] (.sq [0,1,2,3,4,5,6] .done) (by kernel_rfl) (by kernel_rfl) ?_
   simp only [Tr.sq,List.foldr_cons,List.foldr_nil,slimTr,slimStep,Oper.slim,List.contains_cons,List.contains_nil,Option.map_none,Option.map_some,List.getElem?_toArray,List.getElem?_cons_zero,List.getElem?_cons_succ,Option.bind_some,beq_self_eq_true,Bool.or_false,Nat.reduceBEq,Nat.reduceAdd,Nat.zero_add]
   repeat' first | ((with_reducible refine wpSlimT_id ?_);first | (with_reducible refine wpSlimT_done ?_) | ((with_reducible refine wpSlimT_step (fun K hK=>?_));go_simp;(refine hK _ _ ?_;clear hK K))) | fail
   clear hgr
   obtain ⟨fn,tmps,assign,body,hy,hR5⟩:=HYY.out (List.range j) j wr.drew HST.out ⟨by simp [List.range_succ],by simp;exact HJC.out⟩ (by simpa using HJC.out) (HOK.out _ _ HST.out).2
   have HR5:=Lib.hid hR5
   simp only [chEnc,HM.out] at hy
   rw [← HI.out] at hy
   have HPRE:Hid (List.range j ++ [j]=List.range (j+1)):=Lib.hid (by rw [List.range_succ])
   rw [HPRE.out] at HR5
   clear hR5
   gi_wp2
   refine HR5.out.mono ?_
   rintro e W3 ⟨hks,hsz,⟨rfl,hJ3⟩ | ⟨rfl,hJ3⟩⟩
   ·have HB3s:Hid (W3.heap[Bs]? = some (.cells #[.slice (some ⟨b,o,none⟩) L cap] 36 (0,0))):=Lib.hid ((hks Bs (by simp)).trans HBs.out)
    have HB3n:Hid (W3.heap[Bn]? = some (.cells #[.int .i64 n] 3 (0,0))):=Lib.hid ((hks Bn (by simp)).trans HBn.out)
    have c3:=cell_of_heap HB3n.out (j:=0) rfl
    have HJ3:=Lib.hid hJ3
    clear hJ3 hks hsz cs cn
    gi_wp2
    go_roundw
    case rel=>exact ⟨j+1,I2,rfl,by rw [← HI2.out,HI.out,Nat.add_mul,Nat.one_mul],HJC.out,HJ3,HB3s,HB3n⟩
    case measure=>have:=HI2.out;simp [intOf] <;> omega
   ·have HX:=Lib.hid hJ3
    clear hJ3 hks hsz
    gi_wp2
    refine bodyPost_ret (results_none rfl _ _ _) rfl ?_
    exact ⟨⟨_,rfl⟩,.inr ⟨_,⟨by simp,by rw [List.length_range];exact HJC.out⟩,HX.out⟩⟩
  ·have hje:j=chN L n:=by
    rcases Nat.lt_or_ge j (chN L n) with h | h
    ·exact absurd ((chN_lt hn).1 h) (by rw [← hI];exact hlt)
    ·omega
   subst hje
   clear hI
   gi_wp2
   go_end0
   exact ⟨⟨_,rfl⟩,.inl ⟨_,rfl,HJ.out⟩⟩
end Go.Proofs.YtbiaoohodjoojaaGreat
/- A message's shares. -/
namespace Go.Proofs.YtbiaoohodjoojaaGreat
open Go.RowKit Fld
set_option linter.unusedVariables false
set_option linter.unusedSimpArgs false

theorem wpSlimT_append2 {P:Program} {w0:World} {keep:Nat→Prop} {Q:Act→World→Prop} {c:Bool} {a:Act} {w:World} {o:SOp} {rest:STr} (s x:Operand) (t u:TypeId)
  (ho:o.op=.call { callee:=.builtin .append,args:=#[s,x],argTypes:=#[t,u] }) (hg:o.guard=none) (hc:c=true) {V X v:Value} {w3:World} (hs:a.eval s=V) (hx:a.eval x=X)
  (hr:(Builtin.append_ #[t,u] o.type #[V,X]).run P w=.ok v w3) (hcls:∀ k,keep k→w3.heap[k]? = w0.heap[k]?) (h:wpSlimT P w0 keep Q rest (a.put o.dst v) w3):wpSlimT P w0 keep Q (.step c o rest) a w:=by
 refine wpSlimT_step (fun K hK=>?_)
 subst hc
 have hwt:o.wanted a=true:=by unfold SOp.wanted;rw [hg]
 rw [if_pos hwt,if_pos rfl]
 unfold Chains execOp
 simp only [SOp.oper,ho,resolve,invoke,builtin,Sem.run_bind,Sem.run_pure,Result.andThen_ok,List.map_toArray,List.map_cons,List.map_nil,hs,hx,hr]
 exact ⟨hcls,hK _ _ h⟩
theorem app_rowsK {W:World} {base:Nat} {V:Value} {l m:List GF} {A:Addr} {n cap:Nat} (h:OwnG W base V l) (hs:GRd W (.slice (some A) n cap) m) (hl:l.length≤1000000) (hm:m.length≤1000000) (hb:base≤W.heap.size) :
  ∃ v1 w3,(Builtin.append_ #[36,36] 36 #[V,.slice (some A) n cap]).run Tryz.prog W=.ok v1 w3∧OwnG w3 base v1 (l ++ m)∧Kp V.ownBlock.toList W w3∧Below base W w3∧(v1.ownBlock=V.ownBlock ∨ v1.ownBlock=some W.heap.size):=by
 obtain ⟨i0,hi,hz0,hz1,hz2⟩:=info_parts u8_info
 have hn:n=m.length:=by
  obtain ⟨_,_,e,_⟩:=hs.form
  cases e
  rfl
 subst hn
 obtain ⟨v1,w3,hap,hown1,hgrow1,-,hat1⟩:=run_append_own_at (P:=Tryz.prog) (w:=W) base 36 36 5 i0 (.int .u8 0) 1 1 Tryz.underlying36 hi hz0 hz1 hz2 rfl (by decide) V l.length _ h A m.length cap (gv m) (by simp [gv]) (fun j u hj=>hs.news j u hj) gv_one (by unfold maxLen;omega) (by omega) hb
 refine ⟨v1,w3,hap,?_,(Kp.refl _ W).grown hgrow1 (fun b hb=>.inl (by rw [hb];simp)),(Below.refl base W).grown hgrow1 hb (fun b hb=>(h.lt b hb).1),hat1⟩
 unfold OwnG
 rw [gv_append,List.length_append]
 exact hown1
def WordPost (fb:Nat) (V:Value) (p xs:List GF) (w0 w:World) (e:Ending) (w':World):Prop :=
 ∃ g,e=.returned (.slice (some ⟨g,0,none⟩) xs.length xs.length)∧w.heap.size≤g∧View w' g xs.length (fun i=>ev p (xs.getD i 0))∧Kp [fb] w0 w'∧FOk w' fb∧Kp (fb :: V.ownBlock.toList) w w'
set_option maxRecDepth 100000 in
set_option maxHeartbeats 4000000 in
theorem lword_any (w0 w:World) (cb fb T:Nat) (cv V:Value) (xs p:List GF) (hc:CodeAt w0 cb fb T cv xs) (hk:Kp [fb] w0 w) (hf:FOk w fb) (hp:OwnG w w0.heap.size V p) (hpl:p.length≤T) (hT:T≤256) (hx0:0 < xs.length) (hxl:xs.length≤256) :
  Calls Tryz.prog 42 #[.agg #[.pointer (some ⟨cb,0,none⟩)],V] w (WordPost fb V p xs w0 w):=by
 have hb1:Below w.heap.size w ((w.alloc (.cells #[.pointer (some ⟨cb,0,none⟩)] 70)).drew):=((Below.refl _ _).alloc (Nat.le_refl _) _).drew
 obtain ⟨w1,hw1⟩:∃ w1,w1=(w.alloc (.cells #[.pointer (some ⟨cb,0,none⟩)] 70)).drew:=⟨_,rfl⟩
 rw [← hw1] at hb1
 obtain ⟨Z,hZ⟩:∃ Z,T - p.length=Z:=⟨_,rfl⟩
 have hs:=hk.size
 have hs1:=hb1.size
 obtain ⟨v1,w3,hapz,ho3,hk3,hb3⟩:=app_zeros (W:=w1) (hp.below hb1) (by omega) (by omega) Z (by omega)
 have hpad:p ++ List.replicate Z 0=padTo p T:=by unfold padTo;rw [hZ]
 rw [hpad] at ho3
 have HC1:Hid (CodeAt w1 cb fb T cv xs):=Lib.hid ((hc.step hk hf).below hb1)
 have hkk:Kp [fb] w0 w3:=(hk.below_step hb1).step hk3 fun x hx=>.inr (hp.lt x (by simpa using hx)).1
 have hfl:=hc.ok.lt
 have hf3:FOk w3 fb:=(hf.below hb1).kp hk3 fun hm=>by have:=(hp.lt fb (by simpa using hm)).1;omega
 have hlen:(padTo p T).length=T:=padTo_len _ hpl
 have HENC:=Lib.hid (encode_any w3 cb fb cv v1 xs (padTo p T) (by rw [hlen];exact hc.step hkk hf3) ho3.rd (fun b hb hm=>by have:=(ho3.lt b hb).1;simp at hm;omega) hx0 hxl (by omega))
 have HKC:=Lib.hid (codeK_any w1 cb fb T cv xs HC1.out)
 have hks:=hk3.size
 have HFIN:Hid (∀ e w',EncPost fb (padTo p T) xs w3 e w'→∃ g,e=.returned (.tuple #[.slice (some ⟨g,0,none⟩) xs.length xs.length,.int .i64 0])∧Kp [fb] w3 w'∧WordPost fb V p xs w0 w (.returned (.slice (some ⟨g,0,none⟩) xs.length xs.length)) w'):=Lib.hid fun e w' ⟨g,h1,h2,h3,h4,h5⟩=>⟨g,h1,h4,g,rfl,by omega,h3.congr fun i hi=>padTo_ev _ _ _,hkk.trans h4,h5,((Kp.of_below hb1).trans (hk3.mono (fun x hx=>List.mem_cons_of_mem _ hx))).trans (h4.mono (by simp))⟩
 obtain ⟨a1,c1,rfl,-⟩:=ho3.form
 rw [hlen] at hapz HENC
 obtain ⟨av,cv',rfl,hcv'⟩:=hp.form
 obtain ⟨PL,hPL⟩:∃ PL,p.length=PL:=⟨_,rfl⟩
 rw [hPL] at hapz hZ hpl hk3 HFIN ⊢
 obtain ⟨NX,hNX⟩:∃ NX,xs.length=NX:=⟨_,rfl⟩
 have e1:(T:Int) - (PL:Int)=(Z:Int):=by omega
 have e2:IntKind.i64.wrap (Z:Int)=(Z:Int):=IntWalk.i64_in _ (by omega)
 have hVB:∀ x,x ∈ (Value.slice av PL cv').ownBlock.toList→x < w.heap.size∧w0.heap.size≤x:=fun x hx=>by
  have:=hp.lt x (by rw [hPL];simpa using hx)
  exact ⟨this.2,this.1⟩
 have HKE:Hid (∀ kk,kk < w.heap.size+1∧kk ∉ (Value.slice av PL cv').ownBlock.toList→w3.heap[kk]? = w1.heap[kk]?):=Lib.hid fun kk hkk=>hk3.block kk (by rw [hw1];simp;omega) hkk.2
 obtain ⟨kp,hkp⟩:∃ kp:Nat→Bool,∀ k,kp k=true↔(k < w.heap.size+1∧k ∉ (Value.slice av PL cv').ownBlock.toList)∧k ≠ fb:=⟨fun k=>decide ((k < w.heap.size+1∧k ∉ (Value.slice av PL cv').ownBlock.toList)∧k ≠ fb),by simp⟩
 have k1:kp w.heap.size=true:=(hkp _).2 ⟨⟨by omega,fun hm=>by have:=(hVB _ hm).1;omega⟩,by omega⟩
 have HKP:=Lib.hid hkp
 have HS3:Hid (w.heap.size+1≤w3.heap.size):=Lib.hid (by have:=hk3.size;rw [hw1] at this;simpa using this)
 rw [hw1] at hapz HKC HKE
 clear hw1 hb1 ho3 hk3 hb3 hpad hkk hf3 hlen hZ hkp hVB hc hk hf hp hPL hNX
 go_enter Tryz.func42,Tryz.ntmps42
 go_upto_region 1 with fail
 have hgr:=fun (w0 W:World) (p:Addr) (hp:(fun k=>kp k=true) p.block)=>graft_cell (w0:=w0) (keep:=(fun k=>kp k=true)) W hp
 refine wp_region_tree (fun k=>kp k=true) [5,9,10] (.sq [0,1,2,3,4,6,7,5,8,9,10,11,12,13,14,15] .done) (by kernel_rfl) (by kernel_rfl) ?_
 simp only [Tr.sq,List.foldr_cons,List.foldr_nil,slimTr,slimStep,Oper.slim,List.contains_cons,List.contains_nil,Option.map_none,Option.map_some,List.getElem?_toArray,List.getElem?_cons_zero,List.getElem?_cons_succ,Option.bind_some,beq_self_eq_true,Bool.or_false,Nat.reduceBEq,Nat.reduceAdd,Nat.zero_add]
 repeat' first | ((with_reducible refine wpSlimT_id ?_);first | (with_reducible refine wpSlimT_done ?_) | (refine wpSlimT_append2 _ _ _ _ rfl rfl rfl rfl rfl hapz (fun kk hkk=>HKE.out kk ((HKP.out kk).1 hkk).1) ?_) | ((with_reducible refine wpSlimT_step (fun K hK=>?_));go_simp;first | (refine hK _ _ ?_;clear hK K) | (refine ⟨by (intro kk hkk;first | (simp (disch:=(simp;omega)) only [hp_drew,hp_drewN,hp_alloc,hp_set];done) | (simp [hp_drew,hp_drewN,hp_alloc_if,hkk];done) | fail),hK _ _ ?_⟩;clear hK K) | (go_at_call 40;(with_reducible refine (HKC.out).mono ?_);rintro e w6 ⟨rfl,rfl⟩;refine ⟨_,rfl,(fun kk hkk=>rfl),hK _ _ ?_⟩;clear hK K) | (go_at_call 65;(with_reducible refine (HENC.out).mono ?_);intro e w7 h7;obtain ⟨g,rfl,hk7,hP⟩:=HFIN.out _ _ h7;have HP:=Lib.hid hP;have HK7:=Lib.hid hk7;clear h7 hP hk7;refine ⟨_,rfl,(fun kk hkk=>(HK7.out.block kk (Nat.lt_of_lt_of_le ((HKP.out kk).1 hkk).1.1 HS3.out) (by have:=((HKP.out kk).1 hkk).2;simpa using this)).trans (HKE.out kk ((HKP.out kk).1 hkk).1)),hK _ _ ?_⟩;clear hK K))) | fail
 clear hgr
 go_wp2
 go_ret
 exact HP.out
end Go.Proofs.YtbiaoohodjoojaaGreat
/- A message's shares: the program's Encode. -/
namespace Go.Proofs.YtbiaoohodjoojaaGreat
open Go.RowKit Fld
set_option linter.unusedVariables false
set_option linter.unusedSimpArgs false
attribute [local go_sem] Oper.semAt_some

noncomputable def pF (r:Nat) (m:List GF) (i:Nat):GF:=if i % (r+1) < r then m.getD (i / (r+1) * r+i % (r+1)) 0 else 0
noncomputable def polyL (r d:Nat) (m:List GF):List GF:=rowF (pF r m) (d * (r+1) - 1)
theorem polyL_len (r d:Nat) (m:List GF):(polyL r d m).length=d * (r+1) - 1:=rowF_len _ _
theorem pF_in {r j e:Nat} (m:List GF) (he:e < r):pF r m (j * (r+1)+e)=m.getD (j * r+e) 0:=by
 have h1:(j * (r+1)+e) / (r+1)=j:=by rw [Nat.mul_comm,Nat.mul_add_div (by omega),Nat.div_eq_of_lt (by omega)];omega
 have h2:(j * (r+1)+e) % (r+1)=e:=by rw [Nat.mul_comm,Nat.mul_add_mod,Nat.mod_eq_of_lt (by omega)]
 unfold pF
 rw [h1,h2,if_pos he]
theorem pF_out {r j:Nat} (m:List GF):pF r m (j * (r+1)+r)=0:=by
 have h2:(j * (r+1)+r) % (r+1)=r:=by rw [Nat.mul_comm,Nat.mul_add_mod,Nat.mod_eq_of_lt (by omega)]
 unfold pF
 rw [h2,if_neg (by omega)]
noncomputable def partL (r j:Nat) (m:List GF):List GF:=rowF (fun e=>m.getD (j * r+e) 0) r
theorem polyL_zero (r:Nat) (m:List GF) (hr:0 < r):polyL r 1 m=partL r 0 m:=by
 unfold polyL partL
 rw [Nat.one_mul,Nat.add_sub_cancel]
 refine rowF_congr fun j hj=>?_
 have:=pF_in (j:=0) m hj
 simpa using this
theorem polyL_succ (r d:Nat) (m:List GF) (hd:0 < d):polyL r (d+1) m=polyL r d m ++ [0] ++ partL r d m:=by
 have h1:(d+1) * (r+1) - 1=d * (r+1)+r:=by rw [Nat.add_mul];omega
 obtain ⟨d',rfl⟩:∃ d',d=d'+1:=⟨d - 1,by omega⟩
 have h2:(d'+1) * (r+1) - 1=d' * (r+1)+r:=by rw [Nat.add_mul];omega
 have h3:(d'+1) * (r+1)=d' * (r+1)+r+1:=by rw [Nat.add_mul];omega
 unfold polyL partL
 rw [h1,h2]
 have er:List.range ((d'+1) * (r+1)+r)=List.range ((d'+1) * (r+1)) ++ (List.range r).map ((d'+1) * (r+1)+·):=List.range_add ..
 have e2:rowF (pF r m) ((d'+1) * (r+1)+r)=rowF (pF r m) ((d'+1) * (r+1)) ++ rowF (fun e=>pF r m ((d'+1) * (r+1)+e)) r:=by
  unfold rowF
  rw [er,List.map_append,List.map_map]
  rfl
 rw [e2]
 have e3:rowF (pF r m) ((d'+1) * (r+1))=rowF (pF r m) (d' * (r+1)+r) ++ [0]:=by rw [h3,rowF_succ,pF_out]
 rw [e3]
 exact congrArg _ (rowF_congr fun e he=>pF_in m he)
theorem part_rd {W:World} {b o L cap r j:Nat} {m:List GF} (h:GRd W (.slice (some ⟨b,o,none⟩) L cap) m) (hj:(j+1) * r≤L) (hr:0 < r):GRd W (.slice (some ⟨b,o+j * r,none⟩) r r) (partL r j m):=by
 have hL:L=m.length:=by
  obtain ⟨_,_,e,_⟩:=h.form
  cases e
  rfl
 rw [Nat.add_mul,Nat.one_mul] at hj
 refine ⟨fun x hx=>?_,some ⟨b,o+j * r,none⟩,r,?_,?_,fun _=>⟨b,o+j * r,rfl,?_,fun i hi=>?_⟩⟩
 ·obtain ⟨y,_,rfl⟩:=List.mem_map.1 hx
  exact y.lt
 ·rw [List.length_map,partL,rowF_len]
 ·rw [List.length_map,partL,rowF_len];exact Nat.le_refl _
 ·obtain ⟨b',o',e,hb,_⟩:=h.at (i:=0) (List.getElem?_eq_getElem (show 0 < m.length by omega))
  cases e
  exact hb
 ·rw [List.length_map,partL,rowF_len] at hi
  have hi2:j * r+i < m.length:=by omega
  obtain ⟨b',o',e,_,hc⟩:=h.at (List.getElem?_eq_getElem hi2)
  cases e
  rw [show o+j * r+i=o+(j * r+i) by omega,hc,partL,List.getD_eq_getElem?_getD,List.getElem?_map,rowF,List.getElem?_map,List.getElem?_range hi]
  simp [List.getElem?_eq_getElem hi2]
theorem own_room (w:World) (n:Nat) (hn:n≤1000000):OwnG (w.alloc (.cells (Array.replicate n (.int .u8 0)) 5)) w.heap.size (.slice (some ⟨w.heap.size,0,none⟩) 0 n) []:=by
 refine ⟨rfl,.inr ⟨w.heap.size,n,_,rfl,Nat.le_refl _,heap_newA _ _,Nat.zero_le _,by unfold maxLen;omega,by simp,by simp [gv]⟩⟩
theorem run_room (w:World) (n:Nat) (hn:n≤1000000):(Instr.makeSlice 36 (.int .i64 0) (.int .i64 n)).run Tryz.prog w=.ok (.slice (some ⟨w.heap.size,0,none⟩) 0 n) (w.alloc (.cells (Array.replicate n (.int .u8 0)) 5)):=by
 obtain ⟨i0,hi,hz0,hz1,hz2⟩:=info_parts u8_info
 have hr:=run_make (P:=Tryz.prog) w 36 5 i0 (.int .u8 0) Tryz.underlying36 hi hz0 .i64 .i64 (0:Int) (n:Int) (by omega) (by omega) (by rw [hz2];omega) (by omega)
 rw [hz1,Nat.mul_one,made_one (.int .u8 0) rfl] at hr
 simpa using hr
structure EncI (fb Bp B M r:Nat) (m:List GF) (w:World) (pre:List Nat) (A:World):Prop where
 ok:FOk A fb
 ex:∃ V',A.heap[Bp]? = some (.cells #[V'] 36 (0,0))∧OwnG A B V' (polyL r pre.length m)∧(∀ b,V'.ownBlock=some b→b=B ∨ M≤b)
 kp:Kp [fb] w A
def LEncPost (fb n k r:Nat) (m xs:List GF) (w:World) (e:Ending) (w':World):Prop :=
 Kp [fb] w w'∧FOk w' fb∧(m.length=k∧(∃ g,e=.returned (.tuple #[.slice (some ⟨g,0,none⟩) n n,.int .i64 0])∧w.heap.size≤g∧View w' g n (fun i=>ev (polyL r (k / r) m) (xs.getD i 0))) ∨
  m.length ≠ k∧e=.returned (.tuple #[.slice none 0 0,.int .i64 2]))
set_option maxRecDepth 100000 in
set_option maxHeartbeats 4000000 in
theorem lencode_any (w:World) (lb cb fb n k r:Nat) (cv xv mv:Value) (xs m:List GF) (h:LCode w lb cb fb n k r (k+k / r - 1) cv xv xs) (ho:LOkN n k r) (hx:xs.length=n) (hm:GRd w mv m) (hma:m=[] ∨ Apart mv [fb]) :
  Calls Tryz.prog 18 #[.pointer (some ⟨lb,0,none⟩),mv] w (LEncPost fb n k r m xs w):=by
 obtain ⟨am,cm,rfl,hcm⟩:=hm.form
 obtain ⟨L,hL⟩:∃ L,m.length=L:=⟨_,rfl⟩
 rw [hL] at hm hma hcm ⊢
 have H:=Lib.hid h
 have HO:=Lib.hid ho
 have HX:=Lib.hid hx
 have HM:=Lib.hid hm
 have HMA:=Lib.hid hma
 have HL:=Lib.hid hL
 have hfl:=h.code.ok.lt
 have hll:=lt_of_heap h.box
 have y0:=cell_of_heap h.box (j:=0) rfl
 have y3:=cell_of_heap h.box (j:=3) rfl
 have y4:=cell_of_heap h.box (j:=4) rfl
 have n1:=ho.n1
 have r1:=ho.r1
 have k1:=ho.k1
 by_cases hk:L=k
 case neg =>
  have hk':¬ (L:Int)=(k:Int):=by omega
  have HF:=Lib.hid h.code.ok
  have HK:Hid (m.length ≠ k):=Lib.hid (by rw [hL];exact hk)
  clear h ho hx hm hma hL hk
  go_enter Tryz.func18,Tryz.ntmps18
  go_wp2
  go_ret2
  exact ⟨Kp.refl _ _,HF.out,.inr ⟨HK.out,rfl⟩⟩
 subst hk
 obtain ⟨T,hT⟩:∃ T,L+L / r - 1=T:=⟨_,rfl⟩
 have htl:=ho.tells
 have hTb:T≤n:=by have:=ho.le;omega
 rw [hT] at H htl
 have HKC:=Lib.hid (fun W (hb:Below w.heap.size w W)=>codeK_any W cb fb T cv xs (H.out.code.below hb))
 have hroom:=run_room (n:=T)
 have HT:=Lib.hid hT
 have HTL:=Lib.hid htl
 clear h ho hx hm hma hL hT htl
 have hmk:∀ W,(Instr.makeSlice 36 (.int .i64 0) (.int .i64 T)).run Tryz.prog W=.ok (.slice (some ⟨W.heap.size,0,none⟩) 0 T) (W.alloc (.cells (Array.replicate T (.int .u8 0)) 5)):=fun W=>run_room W T (by omega)
 clear hroom
 refine calls_of_marks Tryz.func18 rfl ?_
 simp only [Tryz.ntmps18,List.size_toArray,List.length_cons,List.length_nil,Nat.reduceAdd,Nat.reduceSub,Array.replicate_succ,Array.replicate_zero,List.push_toArray,List.append_toArray,List.nil_append,List.cons_append]
 go_wp2_with (go_at_call 40;refine (HKC.out _ (Below.refl _ _)).mono ?_;rintro e w' ⟨rfl,rfl⟩)
 go_wp2_with (go_at_call 41;refine (chunk_any _ _ _ _ _ (by omega)).mono ?_;rintro e w2 ⟨rfl,hb2,hc1,hc2⟩)
 have hlt0:0 < m.length:=by rw [HL.out];omega
 obtain ⟨bm,om,rfl,hbm,-⟩:=HM.out.at (List.getElem?_eq_getElem hlt0)
 have hmaf:bm ≠ fb:=by
  have:=HMA.out.resolve_left (fun e=>by rw [e] at hlt0;simp at hlt0)
  simpa using this bm rfl
 obtain ⟨wA,hwA⟩:∃ wA,wA=(w.alloc (.cells (Array.replicate T (.int .u8 0)) 5)).alloc (.cells #[.slice (some ⟨w.heap.size,0,none⟩) 0 T] 36):=⟨_,rfl⟩
 rw [← hwA] at hb2 hc1 hc2
 have hsA:wA.heap.size=w.heap.size+1+1:=by rw [hwA];simp
 rw [hsA] at hb2 hc1 hc2
 have hbA:Below w.heap.size w wA:=by rw [hwA];(repeat' (first | (with_reducible exact RowKit.Below.refl _ _) | (with_reducible assumption) | (with_reducible refine RowKit.Below.drew ?_) | (with_reducible refine RowKit.Below.alloc ?_ ?_ _) | omega | (simp;done) | (simp;omega)))
 have hoA:OwnG wA w.heap.size (.slice (some ⟨w.heap.size,0,none⟩) 0 T) []:=by
  have:=OwnG.below (own_room w T (by omega)) ((Below.refl _ (w.alloc (.cells (Array.replicate T (.int .u8 0)) 5))).alloc (Nat.le_refl _) (.cells #[.slice (some ⟨w.heap.size,0,none⟩) 0 T] 36))
  rw [hwA]
  exact this
 have hxA:wA.heap[w.heap.size+1]? = some (.cells #[.slice (some ⟨w.heap.size,0,none⟩) 0 T] 36 (0,0)):=by rw [hwA];exact heap_newE _ _ _ (by simp)
 have hbA2:Below wA.heap.size wA w2:=by rw [hsA];exact hb2
 have hs2:=lt_of_heap hc2
 have hbw2:Below w.heap.size w w2:=hbA.trans (hbA2.mono (by omega))
 have HC:=Lib.hid (And.intro hc1 hc2)
 have HI0:Hid (EncI fb (w.heap.size+1) w.heap.size (w2.heap.size+0+2) r m w [] w2):=Lib.hid ⟨H.out.code.ok.below hbw2,⟨_,keepB hbA2 hxA,by
  have:=OwnG.below hoA hbA2
  simpa [polyL,rowF] using this,fun b hb=>.inl (by simpa [Value.ownBlock] using hb.symm)⟩,Kp.of_below hbw2⟩
 have HB2:=Lib.hid hbw2
 clear hb2 hc1 hc2 hwA hbA hoA hxA hbA2 hbw2 hlt0
 have hdr:L=L / r * r:=(Nat.div_mul_cancel (Nat.dvd_of_mod_eq_zero HO.out.kr)).symm
 have hcn:chN L r=L / r:=by
  unfold chN
  refine Nat.div_eq_of_lt_le ?_ ?_
  ·omega
  ·rw [Nat.add_mul]
   omega
 have HDR:=Lib.hid hdr
 have HCN:=Lib.hid hcn
 clear hdr hcn
 refine wp_range_E (gf:=64) (lb:=#[.pointer (some ⟨w.heap.size+1+1,0,none⟩),.pointer (some ⟨w.heap.size+1+1+1,0,none⟩)]) (by kernel_rfl) (enters_of Tryz.func64 (by kernel_rfl) rfl)
  (chunk1_seq (w.heap.size+1+1) (w.heap.size+1+1+1) fb bm om L cm r _ w2 HC.out.1 HC.out.2 (fun _=>rfl) (by omega) (by omega) ⟨by omega,by omega⟩) (Below.refl _ _) (fun _=>rfl) (by omega) (chN L r) (fun n h=>by cases h;rfl)
  (EncI fb (w.heap.size+1) w.heap.size (w2.heap.size+0+2) r m w) (fun _ _=>False)
  (fun pre A A' h hst=>by
   obtain ⟨V',h1,h2,h3⟩:=h.ex
   refine ⟨hst.ok h.ok,⟨V',(hst.kp.block _ (lt_of_heap h1) (not_own (by omega) (.inl (by omega)))).trans h1,h2.kp hst.kp (fun b hb=>not_own (by have:=(h2.lt b hb).1;omega) ?_),h3⟩,h.kp.step hst.kp fun x hx=>?_⟩
   ·rcases h3 b hb with h4 | h4
    ·exact .inl (by omega)
    ·exact .inr (by omega)
   ·rcases List.mem_cons.1 hx with rfl | hx
    ·exact .inl (by simp)
    ·have:=(List.mem_range'_1.1 hx).1
     exact .inr (by omega))
  (fun pre A A' h hst=>h) (fun pre A h=>h.ok) HI0.out (fun h=>by cases h) (fun b hb=>by
   simp only [List.mem_cons,List.not_mem_nil,or_false] at hb
   rcases hb with rfl | rfl <;> omega)
  (fun x=>{ tmps:=#[.pointer (some ⟨lb,0,none⟩),.slice (some ⟨bm,om,none⟩) L cm,undef,undef,.slice none 0 0,.int .i64 0,.pointer (some ⟨w.heap.size+1,0,none⟩),undef,.bool false,.pointer (some ⟨lb,0,none⟩),.bool false,.bool false,.slice (some ⟨bm,om,none⟩) L cm,.int .i64 (L:Nat),.pointer (some ⟨lb,0,none⟩),.pointer (some ⟨lb,0,none⟩),.pointer (some ⟨lb,3,none⟩),.int .i64 (L:Nat),.bool false,.pointer (some ⟨lb,0,none⟩),.pointer (some ⟨lb,0,none⟩),.pointer (some ⟨lb,0,none⟩),.pointer (some ⟨lb,0,none⟩),.pointer (some ⟨cb,0,none⟩),.int .i64 (T:Nat),.slice (some ⟨w.heap.size,0,none⟩) 0 T,.slice (some ⟨bm,om,none⟩) L cm,.pointer (some ⟨lb,0,none⟩),.pointer (some ⟨lb,0,none⟩),.pointer (some ⟨lb,4,none⟩),.int .i64 (r:Nat),.func (.func 64) #[] #[.pointer (some ⟨w.heap.size+1+1,0,none⟩),.pointer (some ⟨w.heap.size+1+1+1,0,none⟩)],.slice (some ⟨bm,om+x * r,none⟩) (min r (L - x * r)) (min r (L - x * r)),undef,undef,undef,undef,undef,undef,undef,undef,undef,undef,undef,undef,undef,undef,undef],defers:=[] })
  (fun x=>{ tmps:=#[.pointer (some ⟨lb,0,none⟩),.slice (some ⟨bm,om,none⟩) L cm,undef,undef,.slice none 0 0,.int .i64 0,.pointer (some ⟨w.heap.size+1,0,none⟩),.slice (some ⟨bm,om+x * r,none⟩) (min r (L - x * r)) (min r (L - x * r)),.bool false,.pointer (some ⟨lb,0,none⟩),.bool false,.bool false,.slice (some ⟨bm,om,none⟩) L cm,.int .i64 (L:Nat),.pointer (some ⟨lb,0,none⟩),.pointer (some ⟨lb,0,none⟩),.pointer (some ⟨lb,3,none⟩),.int .i64 (L:Nat),.bool false,.pointer (some ⟨lb,0,none⟩),.pointer (some ⟨lb,0,none⟩),.pointer (some ⟨lb,0,none⟩),.pointer (some ⟨lb,0,none⟩),.pointer (some ⟨cb,0,none⟩),.int .i64 (T:Nat),.slice (some ⟨w.heap.size,0,none⟩) 0 T,.slice (some ⟨bm,om,none⟩) L cm,.pointer (some ⟨lb,0,none⟩),.pointer (some ⟨lb,0,none⟩),.pointer (some ⟨lb,4,none⟩),.int .i64 (r:Nat),.func (.func 64) #[] #[.pointer (some ⟨w.heap.size+1+1,0,none⟩),.pointer (some ⟨w.heap.size+1+1+1,0,none⟩)],.slice (some ⟨bm,om+x * r,none⟩) (min r (L - x * r)) (min r (L - x * r)),undef,undef,undef,undef,undef,undef,undef,undef,undef,undef,undef,undef,undef,undef,undef],defers:=[] })
  (fun x=>by kernel_rfl) ?assign ?body ?done ?stop
 case assign =>
  intro l x W1 K hK
  generalize min r (L - x * r)=q at hK ⊢
  gi_wp2
  exact hK
 case body =>
  intro lv pre j W1 hI hsp hlen hsz
  obtain ⟨hpre,hplen⟩:=hsp
  obtain rfl:j=pre.length:=by
   have h1:(pre ++ [j])[pre.length]? = some j:=by simp
   rw [hpre,List.getElem?_range (by simp)] at h1
   exact (Option.some.inj h1).symm
  obtain ⟨P,hP⟩:∃ P,pre.length=P:=⟨_,rfl⟩
  have hPl:(pre ++ [pre.length]).length=P+1:=by simp [hP]
  have HPL:=Lib.hid hPl
  have HPP:=Lib.hid hP
  rw [hP] at hlen ⊢
  have hPD:P < L / r:=by rw [← HCN.out];exact hlen
  have hPr:(P+1) * r≤L:=by
   have h1:=Nat.mul_le_mul_right r (show P+1≤L / r from hPD)
   have h2:=HDR.out
   omega
  have hq:min r (L - P * r)=r:=by rw [Nat.add_mul] at hPr;omega
  rw [hq]
  obtain ⟨V',hbx,hV',hVb⟩:=hI.ex
  rw [hP] at hV'
  obtain ⟨a1,c1,rfl,hc1⟩:=hV'.form
  have hPT:(polyL r P m).length=P * (r+1) - 1:=polyL_len _ _ _
  have hPb:P * (r+1)≤255 * 255:=Nat.mul_le_mul (by have:=Nat.div_le_self L r;omega) (by omega)
  obtain ⟨L1,hL1⟩:∃ L1,(polyL r P m).length=L1:=⟨_,rfl⟩
  rw [hL1] at hbx hV' hVb hc1 hPT
  have y1:=cell_of_heap hbx (j:=0) rfl
  have g1:=lt_of_heap hbx
  have hW1:=hI.kp.size
  have hmsg:∀ X S,Kp S W1 X→(∀ x ∈ S,w.heap.size≤x)→GRd X (.slice (some ⟨bm,om+P * r,none⟩) r r) (partL r P m):=fun X S hX hS =>
   part_rd ((HM.out.kp hI.kp (fun b hb hm=>by simp [Value.ownBlock] at hb hm;omega)).kp hX (fun b hb hm=>by
    simp [Value.ownBlock] at hb
    have:=hS _ hm
    omega)) hPr (by omega)
  have hnb:∀ (a':Option Addr) (n' c':Nat),(∀ b,(Value.slice a' n' c').ownBlock=some b→b=w.heap.size ∨ w2.heap.size+0+2≤b)→(w.heap.size+1) ∉ (Value.slice a' n' c').ownBlock.toList:=fun a' n' c' h hm=>by
   rcases h _ (by simpa using hm) with h | h <;> omega
  have hnf:∀ (a':Option Addr) (n' c':Nat),(∀ b,(Value.slice a' n' c').ownBlock=some b→b=w.heap.size ∨ w2.heap.size+0+2≤b)→fb ∉ (Value.slice a' n' c').ownBlock.toList:=fun a' n' c' h hm=>by
   rcases h _ (by simpa using hm) with h | h <;> omega
  have hfin:∀ (X:World) (a':Option Addr) (n' c':Nat) (S:List Nat),Kp S W1 X→(∀ x ∈ S,x=w.heap.size+1 ∨ x=w.heap.size ∨ w2.heap.size+0+2≤x)→X.heap[w.heap.size+1]? = some (.cells #[.slice a' n' c'] 36 (0,0))→OwnG X w.heap.size (.slice a' n' c') (polyL r (P+1) m)→(∀ b,(Value.slice a' n' c').ownBlock=some b→b=w.heap.size ∨ w2.heap.size+0+2≤b) →
    KS ([w.heap.size+1+1,w.heap.size+1+1+1] ++ List.range' w2.heap.size (0+2)) W1 X∧W1.heap.size≤X.heap.size∧EncI fb (w.heap.size+1) w.heap.size (w2.heap.size+0+2) r m w (pre ++ [pre.length]) X:=fun X a' n' c' S hk hS hb ho hv=>by
   refine ⟨fun b hb=>hk.block b ?_ fun hm=>?_,hk.size,hI.ok.kp hk (fun hm=>by have:=hS _ hm;omega),⟨_,hb,by rw [HPL.out];exact ho,hv⟩,hI.kp.step hk fun x hx=>.inr (by have:=hS x hx;omega)⟩
   ·rcases List.mem_append.1 hb with h | h
    ·simp only [List.mem_cons,List.not_mem_nil,or_false] at h
     rcases h with rfl | rfl <;> omega
    ·have:=List.mem_range'_1.1 h
     omega
   ·have h2:=hS b hm
    rcases List.mem_append.1 hb with h | h
    ·simp only [List.mem_cons,List.not_mem_nil,or_false] at h
     rcases h with rfl | rfl <;> omega
    ·have:=List.mem_range'_1.1 h
     omega
  have HFIN:=Lib.hid hfin
  have HVB:=Lib.hid hVb
  by_cases hP0:P=0
  ·have hL10:L1=0:=by rw [hPT,hP0];simp
   have hL1n:¬ (L1:Int) > 0:=by omega
   obtain ⟨v3,w3,hap,ho3,hk3,hb3,hat⟩:=app_rowsK hV' (hmsg W1 [] (Kp.refl _ _) (by simp)) (by omega) (by rw [partL,rowF_len];omega) (by omega)
   have e0:polyL r P m ++ partL r P m=polyL r (P+1) m:=by
    rw [hP0,Nat.zero_add,polyL_zero _ _ (by omega)]
    simp [polyL,rowF]
   rw [e0] at ho3
   obtain ⟨a3,c3,rfl,-⟩:=ho3.form
   obtain ⟨L3,hL3⟩:∃ L3,(polyL r (P+1) m).length=L3:=⟨_,rfl⟩
   rw [hL3] at hap ho3 hat
   have hv3:∀ b,(Value.slice a3 L3 c3).ownBlock=some b→b=w.heap.size ∨ w2.heap.size+0+2≤b:=fun b hb=>by
    rcases hat with h | h
    ·exact hVb b (by rw [← h];exact hb)
    ·rw [h] at hb;cases hb;exact .inr (by omega)
   have hbx3:=hk3.heap hbx (hnb _ _ _ hVb)
   have y3:=cell_of_heap hbx3 (j:=0) rfl
   have z3:=free_of_heap hbx3 0
   have g3:=lt_of_heap hbx3
   have hk4:Kp [w.heap.size+1] w3 (w3.setCell ⟨w.heap.size+1,0,none⟩ (.slice a3 L3 c3)):=(Kp.refl _ _).setCell (.inl (by simp)) _
   have hbx4:=heap_set_same hbx3 0 (.slice a3 L3 c3)
   have HF:=Lib.hid (hfin _ a3 L3 c3 _ (((hk3.mono (T:=(w.heap.size+1) :: (Value.slice a1 L1 c1).ownBlock.toList) (fun x hx=>List.mem_cons_of_mem _ hx))).trans (hk4.mono (fun x hx=>by obtain rfl:=List.mem_singleton.1 hx;simp))) (fun x hx=>by
    rcases List.mem_cons.1 hx with h | h
    ·exact .inl h
    ·exact .inr (hVb x (by simpa using h))) (by simpa using hbx4) (ho3.kp hk4 (fun b hb hm=>by
    obtain rfl:=List.mem_singleton.1 hm
    rcases hv3 _ hb with h | h <;> omega)) hv3)
   clear hI hV' hVb hk3 hb3 hat hbx3 hk4 hbx4 hv3 ho3 hnb hnf hbx hfin HFIN hmsg hL3 hq hPr hPD hP hPl hpre hplen e0 hPT hPb hL1 hP0 hL10
   gi_wp2_with (gi_at_builtin;refine wpListIn_append rfl _ _ _ rfl rfl rfl hap ?_)
   have hf:=HF.out
   rw [HPP.out] at hf
   exact ⟨hf.1,by simpa using hf.2.1,hf.2.2⟩
  ·have hL1p:(L1:Int) > 0:=by
    have:1 * (r+1)≤P * (r+1):=Nat.mul_le_mul_right _ (by omega)
    omega
   obtain ⟨v3,w3,hap,ho3,hk3,hb3,hat⟩:=app_byte (W:=W1) (0:GF) hV' (by omega) (by omega) (n:=0) rfl (ad:=W1.heap.size) rfl
   rw [show (((0:Nat):Nat):Int)=0 from rfl] at hap
   obtain ⟨a3,c3,rfl,-⟩:=ho3.form
   obtain ⟨L3,hL3⟩:∃ L3,(polyL r P m ++ [0]).length=L3:=⟨_,rfl⟩
   rw [hL3] at hap ho3 hat
   have hL3b:L3≤100000:=by rw [← hL3,List.length_append,hL1];simp;omega
   have hv3:∀ b,(Value.slice a3 L3 c3).ownBlock=some b→b=w.heap.size ∨ w2.heap.size+0+2≤b:=fun b hb=>by
    rcases hat with h | h
    ·exact hVb b (by rw [← h];exact hb)
    ·rw [h] at hb;cases hb;exact .inr (by omega)
   have hbx3:=hk3.heap hbx (hnb _ _ _ hVb)
   have y3:=cell_of_heap hbx3 (j:=0) rfl
   have z3:=free_of_heap hbx3 0
   have g3:=lt_of_heap hbx3
   have hk4:Kp [w.heap.size+1] w3 (w3.setCell ⟨w.heap.size+1,0,none⟩ (.slice a3 L3 c3)):=(Kp.refl _ _).setCell (.inl (by simp)) _
   have hbx4:=heap_set_same hbx3 0 (.slice a3 L3 c3)
   have ho4:=ho3.kp hk4 (fun b hb hm=>by
    obtain rfl:=List.mem_singleton.1 hm
    rcases hv3 _ hb with h | h <;> omega)
   have hk14:Kp ((w.heap.size+1) :: (Value.slice a1 L1 c1).ownBlock.toList) W1 (w3.setCell ⟨w.heap.size+1,0,none⟩ (.slice a3 L3 c3)):=(hk3.mono (fun x hx=>List.mem_cons_of_mem _ hx)).trans (hk4.mono (fun x hx=>by obtain rfl:=List.mem_singleton.1 hx;simp))
   have hs4:=hk14.size
   obtain ⟨v5,w5,hap5,ho5,hk5,hb5,hat5⟩:=app_rowsK ho4 (hmsg _ _ hk14 (fun x hx=>by
    rcases List.mem_cons.1 hx with h | h
    ·omega
    ·rcases hVb x (by simpa using h) with h | h <;> omega)) (by rw [hL3];omega) (by rw [partL,rowF_len];omega) (by omega)
   rw [← polyL_succ _ _ _ (by omega)] at ho5
   obtain ⟨a5,c5,rfl,-⟩:=ho5.form
   obtain ⟨L5,hL5⟩:∃ L5,(polyL r (P+1) m).length=L5:=⟨_,rfl⟩
   rw [hL5] at hap5 ho5 hat5
   have hv5:∀ b,(Value.slice a5 L5 c5).ownBlock=some b→b=w.heap.size ∨ w2.heap.size+0+2≤b:=fun b hb=>by
    rcases hat5 with h | h
    ·exact hv3 b (by rw [← h];exact hb)
    ·rw [h] at hb;cases hb;exact .inr (by omega)
   have hbx5:=hk5.heap (by simpa using hbx4) (hnb _ _ _ hv3)
   have y5:=cell_of_heap hbx5 (j:=0) rfl
   have z5:=free_of_heap hbx5 0
   have g5:=lt_of_heap hbx5
   have hk6:Kp [w.heap.size+1] w5 (w5.setCell ⟨w.heap.size+1,0,none⟩ (.slice a5 L5 c5)):=(Kp.refl _ _).setCell (.inl (by simp)) _
   have hbx6:=heap_set_same hbx5 0 (.slice a5 L5 c5)
   have HF:=Lib.hid (hfin _ a5 L5 c5 ((w.heap.size+1) :: ((Value.slice a1 L1 c1).ownBlock.toList ++ (Value.slice a3 L3 c3).ownBlock.toList)) (((hk14.mono (fun x hx=>by
    rcases List.mem_cons.1 hx with h | h
    ·rw [h];simp
    ·exact List.mem_cons_of_mem _ (List.mem_append_left _ h))).trans (hk5.mono (fun x hx=>List.mem_cons_of_mem _ (List.mem_append_right _ hx)))).trans (hk6.mono (fun x hx=>by obtain rfl:=List.mem_singleton.1 hx;simp))) (fun x hx=>by
    rcases List.mem_cons.1 hx with h | h
    ·exact .inl h
    ·rcases List.mem_append.1 h with h | h
     ·exact .inr (hVb x (by simpa using h))
     ·exact .inr (hv3 x (by simpa using h))) (by simpa using hbx6) (ho5.kp hk6 (fun b hb hm=>by
    obtain rfl:=List.mem_singleton.1 hm
    rcases hv5 _ hb with h | h <;> omega)) hv5)
   clear hI hV' hVb hk3 hb3 hat hbx3 hk4 hbx4 hv3 ho3 hnb hnf hbx hfin HFIN hmsg hL3 hq hPr hPD hP hPl hpre hplen hPT hPb hL1 hP0 hL3b ho4 hk14 hs4 ho5 hk5 hb5 hat5 hL5 hv5 hbx5 hk6 hbx6
   gi_wp2_with (gi_at_builtin;first | refine wpListIn_append rfl _ _ _ rfl rfl rfl hap ?_ | refine wpListIn_append rfl _ _ _ rfl rfl rfl hap5 ?_)
   have hf:=HF.out
   rw [HPP.out] at hf
   exact ⟨hf.1,by simpa using hf.2.1,hf.2.2⟩
 case done =>
  rintro D0 xs' W1 hD rfl hI hK
  rw [HCN.out] at hI
  obtain ⟨V',hbx,hV',hVb⟩:=hI.ex
  rw [List.length_range] at hV'
  obtain ⟨a1,c1,rfl,hc1⟩:=hV'.form
  have hPT:(polyL r (L / r) m).length=T:=by rw [polyL_len];have h1:=HT.out;have h2:=HTL.out;omega
  rw [hPT] at hbx hV' hVb hc1
  have hW1:=hI.kp.size
  have HWB:Hid (∀ e w',WordPost fb (.slice a1 T c1) (polyL r (L / r) m) xs w W1.drew e w'→∃ g,e=.returned (.slice (some ⟨g,0,none⟩) n n)∧Kp (fb :: (Value.slice a1 T c1).ownBlock.toList) W1 w'∧w.heap.size≤g∧View w' g n (fun i=>ev (polyL r (L / r) m) (xs.getD i 0))∧Kp [fb] w w'∧FOk w' fb∧g ≠ D0):=Lib.hid fun e w' h=>by
   obtain ⟨g,h1,h2,h3,h4,h5,h6⟩:=h
   rw [HX.out] at h1 h3
   have h2':W1.heap.size≤g:=h2
   have:=lt_of_heap hK
   exact ⟨g,h1,((Kp.refl _ _).drew).trans h6,by omega,h3,h4,h5,by omega⟩
  have hVm:∀ b,b ∈ (Value.slice a1 T c1).ownBlock.toList→b=w.heap.size ∨ w2.heap.size+0+2≤b:=fun b hb=>hVb b (by simpa using hb)
  have HW:=Lib.hid (lword_any w W1.drew cb fb T cv (.slice a1 T c1) xs (polyL r (L / r) m) H.out.code hI.kp.drew (hI.ok.below ((Below.refl _ _).drew)) hV' (by rw [hPT];exact Nat.le_refl _) (by omega) (by rw [HX.out];omega) (by rw [HX.out];omega))
  have y1:=cell_of_heap hbx (j:=0) rfl
  have g1:=lt_of_heap hbx
  have q0:W1.cell? ⟨lb,0,none⟩=some (.pointer (some ⟨cb,0,none⟩)):=(hI.kp.cell (p:=⟨lb,0,none⟩) hll (by simpa using H.out.ne)).trans y0
  have hne:=H.out.ne
  have HI:=Lib.hid hI
  have HD:=Lib.hid hD
  have HK:=Lib.hid hK
  obtain ⟨kp,hkp⟩:∃ kp:Nat→Bool,∀ k,kp k=true↔k < W1.heap.size∧k ∉ fb :: (Value.slice a1 T c1).ownBlock.toList:=⟨fun k=>decide (k < W1.heap.size∧k ∉ fb :: (Value.slice a1 T c1).ownBlock.toList),by simp⟩
  have k1:kp lb=true:=(hkp _).2 ⟨by omega,fun hm=>by
   rcases List.mem_cons.1 hm with h | h
   ·exact hne h
   ·have:=hVm _ h;omega⟩
  have k2:kp (w.heap.size+1)=true:=(hkp _).2 ⟨by omega,fun hm=>by
   rcases List.mem_cons.1 hm with h | h
   ·omega
   ·have:=hVm _ h;omega⟩
  have HVM:=Lib.hid hVm
  have HKP:=Lib.hid hkp
  clear hI hV' hVb hD hK hbx hkp hPT hVm
  go_upto_region 11 with fail
  have hgr:=fun (w0 W:World) (p:Addr) (hp:(fun k=>kp k=true) p.block)=>graft_cell (w0:=w0) (keep:=(fun k=>kp k=true)) W hp
  refine wp_region_tree (fun k=>kp k=true) [5] (.sq [0,1,2,3,4,5,6,7] .done) (by kernel_rfl) (by kernel_rfl) ?_
  simp only [Tr.sq,List.foldr_cons,List.foldr_nil,slimTr,slimStep,Oper.slim,List.contains_cons,List.contains_nil,Option.map_none,Option.map_some,List.getElem?_toArray,List.getElem?_cons_zero,List.getElem?_cons_succ,Option.bind_some,beq_self_eq_true,Bool.or_false,Nat.reduceBEq,Nat.reduceAdd,Nat.zero_add]
  repeat' first | ((with_reducible refine wpSlimT_id ?_);first | (with_reducible refine wpSlimT_done ?_) | ((with_reducible refine wpSlimT_step (fun K hK=>?_));go_simp;first | (refine hK _ _ ?_;clear hK K) | (refine ⟨by (intro kk hkk;first | (simp (disch:=(simp;omega)) only [hp_drew,hp_drewN,hp_alloc,hp_set];done) | (simp [hp_drew,hp_drewN,hp_alloc_if,hkk];done) | fail),hK _ _ ?_⟩;clear hK K) | (go_at_call 42;(with_reducible refine (HW.out).mono ?_);intro e w7 h7;obtain ⟨g,rfl,hk7,hg7,hv7,hkw7,hf7,hgD⟩:=HWB.out _ _ h7;have HK7:=Lib.hid hk7;have HV7:=Lib.hid hv7;have HKW:=Lib.hid hkw7;have HF7:=Lib.hid hf7;clear h7 hk7 hv7 hkw7 hf7;refine ⟨_,rfl,(fun kk hkk=>HK7.out.block kk ((HKP.out kk).1 hkk).1 ((HKP.out kk).1 hkk).2),hK _ _ ?_⟩;clear hK K))) | fail
  clear hgr
  go_wp2
  have hDD:=HD.out
  have hkd:=HK7.out.heap HK.out (fun hm=>by
   rcases List.mem_cons.1 hm with h | h
   ·omega
   ·have:=HVM.out _ h;omega)
  refine leaves_marks (B:=w.heap.size) [D0] w7 (Marks.cons (Marks.nil _ _) (by omega) hkd (by simp)) fun w' hk=>⟨.tuple #[.slice (some ⟨g,0,none⟩) n n,.int .i64 0],?_,?_⟩
  ·simp [results,Tryz.results18,go_sem]
  ·exact ⟨HKW.out.step hk (fun x hx=>.inr (by obtain rfl:=List.mem_singleton.1 hx;omega)),HF7.out.kp hk (by simp;omega),.inl ⟨HL.out,g,rfl,hg7,HV7.out.kp hk (by simpa using hgD)⟩⟩
 case stop =>
  intro D pre W1 hD hpre hX
  exact hX.elim
end Go.Proofs.YtbiaoohodjoojaaGreat
