import Derived.Deep.Upon
import Derived.Test.YtcclhhjcejmepaaGreatZPlainM
import Derived.Test.YtcclhhjcejmepaaGreatZRanges
set_option linter.all false
set_option maxRecDepth 100000
set_option maxHeartbeats 4000000
namespace Go.Proofs.YtcclhhjcejmepaaGreat
open Go.RowKit Fld
theorem zxg {W:World} {b o K n c:Nat} {a:Option Addr} {l m:List GF} (h:GRd W (.slice (some ⟨b,o,none⟩) K K) l) (hx:GRd W (.slice a n c) m) (hl:K+n≤1000000) :
  ∃v w3,(Builtin.append_ #[22,22] 22 #[.slice (some ⟨b,o,none⟩) K K,.slice a n c]).run Tryz.prog W=.ok v w3∧GRd w3 v (l++m)∧Below W.heap.size W w3∧∃b' o' c',v=.slice (some ⟨b',o',none⟩) (K+n) c'∧(b'=b∨b'=W.heap.size):=by
 obtain⟨i0,hi,hz0,hz1,hz2⟩:=info_parts zbi;have hlK:=h.len.1;have hmn:=hx.len.1;subst hlK;subst hmn;by_cases h0:m.length=0
 ·have hm:m=[]:=Zbc h0;subst hm;have hs:Src Tryz.prog i0.size 22 (.slice a 0 c) 0 [] W:=by
   cases a with
   | none=>exact Src.ofNil W Tryz.underlying22 c
   | some A=>exact Src.ofSlice W Tryz.underlying22 A 0 c [] (by simp) (fun j u hj=>by cases hj) (fun u hu=>by cases hu)
  exact⟨_,_,run_append_nothing (P:=Tryz.prog) W 22 22 22 5 i0 Tryz.underlying22 hi (some ⟨b,o,none⟩) l.length l.length (zE3 _) (.slice a 0 c) hs,by rw[Zal];exact h,Zaa _ _,b,o,l.length,rfl,.inl rfl⟩
 ·obtain⟨A,rfl⟩:∃A,a=some A:=by
   cases a with
   | none=>exact absurd (by rw[hx.nil_of];rfl) h0
   | some A=>exact⟨A,rfl⟩
  have hr:=run_append_grow (P:=Tryz.prog) (w:=W) 22 22 5 i0 (.int .u8 0) Tryz.underlying22 hi hz0 ⟨b,o,none⟩ l.length l.length (gv l) (by rw[hz1];simp[gv]) (fun j u hj=>h.news j u hj)
   A m.length c (gv m) (by rw[hz1];simp[gv]) (fun j u hj=>hx.news j u hj) (by omega) (by omega) (by
    exact growslice_fits (by omega) (by rw[hz2];omega))
  refine⟨_,_,hr,?_,((Zaa _ _).drew).alloc (zE3 _) _,W.heap.size,0,_,rfl,.inr rfl⟩;have hh:=nwA W.drew (.cells ((gv l).toArray++(gv m).toArray++Builtin.zeroCells (Value.int IntKind.u8 0).cells (grownCap W (l.length+m.length) l.length 5-(l.length+m.length))) 5);obtain⟨gc,hgc⟩:=zE4 (grownCap W (l.length+m.length) l.length 5);rw[hgc] at hh ⊢;have hcap:l.length+m.length≤gc:=by rw[←hgc];exact grownCap_ge W _ _ _
  have e1:(l++m).length=l.length+m.length:=Zak;refine zag.list (N:=l.length+m.length) ⟨lOH hh,fun j hj=>⟨cOH hh ?_,fOH hh j⟩⟩ e1 hcap;have hj2:j<(l++m).length:=by omega
  have e2:(gv l).toArray++(gv m).toArray=(gv (l++m)).toArray:=by simp[gv]
  rw[e2,Array.getElem?_append_left (by simp[gv];omega)];show _=some (Value.int IntKind.u8 ((((l++m).getD j 0).n:Nat):Int));rw[zE2,zE1 hj2,List.getElem?_toArray,gv,Zae,zE1 hj2];rfl
theorem zdt {W:World} {base:Nat} {V:Value} {l m:List GF} {A:Addr} {n cap:Nat} (h:zao W base V l) (hs:GRd W (.slice (some A) n cap) m) (hl:l.length≤1000000) (hm:m.length≤1000000) (hb:base≤W.heap.size) :
  ∃v1 w3,(Builtin.append_ #[22,22] 22 #[V,.slice (some A) n cap]).run Tryz.prog W=.ok v1 w3∧zao w3 base v1 (l++m)∧Kp V.ownBlock.toList W w3∧Below base W w3∧(v1.ownBlock=V.ownBlock∨v1.ownBlock=some W.heap.size):=by
 obtain⟨i0,hi,hz0,hz1,hz2⟩:=info_parts zbi;have hn:n=m.length:=by obtain⟨_,_,e,_⟩:=hs.form;cases e;rfl
 subst hn;obtain⟨v1,w3,hap,hown1,hgrow1,-,hat1⟩:=run_append_own_at (P:=Tryz.prog) (w:=W) base 22 22 5 i0 (.int .u8 0) 1 1 Tryz.underlying22 hi hz0 hz1 hz2 rfl (by decide) V l.length _ h A m.length cap (gv m) (by simp[gv]) (fun j u hj=>hs.news j u hj) zwp (by unfold maxLen;omega) (by omega) hb;refine⟨v1,w3,hap,?_,(Kp.refl _ W).grown hgrow1 (fun b hb=>.inl (by rw[hb];simp)),(Zaa base W).grown hgrow1 hb (fun b hb=>(h.lt b hb).1),hat1⟩;unfold zao;rw[znv,Zak];exact hown1
theorem zcv {F:Fence} {n:Nat} {P:Program} {ops:Array Oper} {rest:List Oper} {o:Oper} {a:Act} {w:World} {Q:Exit→Act→World→Prop} (hgd:o.guard=none) (s x:Operand) (t:TypeId)
  (ho:o.op=.call { callee:=.builtin .append,args:=#[s,x],argTypes:=#[t,t] }) {V X v:Value} {w3:World} (hs:a.eval s=V) (hx:a.eval x=X)
  (hr:(Builtin.append_ #[t,t] o.type #[V,X]).run P w=.ok v w3) (h:wpListIn F n P ops Q rest (a.put o.dst v) w3):wpListIn F n P ops Q (o :: rest) a w:=by
 refine wpListIn_plain hgd fun K hK=>?_;unfold Oper.wpIn;refine⟨by simp[Oper.about,ho,resolve,Target.leads,Sem.run_pure],?_⟩;rw[Oper.semAt_plain F _ _ (by rw[ho];intro c hc';cases hc')];simp[execOp,ho,resolve,invoke,builtin,hs,hx,hr,Result.andThen];exact hK _ _ h
end Go.Proofs.YtcclhhjcejmepaaGreat
namespace Go.Proofs.YtcclhhjcejmepaaGreat
theorem zmk (p:Prop):∃b:Bool,b=true↔p:=⟨@decide p (Classical.propDecidable p),by simp⟩
open Go.RowKit Fld
theorem zcz.bool {p:Prop} {b:Bool} {w w':World} {e:Ending} (hb:b=true↔p) (h:zcz p w e w'):e=.returned (.bool b)∧Below w.heap.size w w':=by
 obtain⟨c,rfl,h1,h2⟩:=h;refine⟨?_,h1⟩;have:c=b:=by cases c<;>cases b<;>simp_all
 rw[this]
end Go.Proofs.YtcclhhjcejmepaaGreat
namespace Go.Proofs.YtcclhhjcejmepaaGreat
open Go.RowKit
theorem zcc {P:Program} {c:Code} {K K1:Act→World→Prop} {R:Exit→Act→World→Prop} {a:Act} {w:World} (h:c.wp P (Exit.then K1 R) a w) (hk:∀a w,K1 a w→K a w):c.wp P (Exit.then K R) a w :=
 wp_mono h fun e a w h=>by
  cases e
  case normal=>exact hk _ _ h
  all_goals exact h
open Fld
theorem zd0 (g n C:Nat) (hC:0<C) (hn:n≤C):∀W:World,(Instr.slice 22 (.slice (some ⟨g,0,none⟩) C C) none (some (.int .i64 (n:Nat))) none).run Tryz.prog W=.ok (.slice (some ⟨g,0,none⟩) n C) W:=fun W=>by rw[run_slice_h (P:=Tryz.prog) (w:=W) 22 (some ⟨g,0,none⟩) C C (by kernel_rfl) .i64 (n:Int) (by omega) (by omega),zcw];simp only[Result.andThen_ok,sliced,Zam];rw[if_neg (by omega)];simp[Addr.add_lit]
theorem znb (g n L C:Nat) (hC:0<C) (hL:L≤C) (hn:n≤C):∀W:World,(Instr.slice 22 (.slice (some ⟨g,0,none⟩) L C) none (some (.int .i64 (n:Nat))) none).run Tryz.prog W=.ok (.slice (some ⟨g,0,none⟩) n C) W:=fun W=>by rw[run_slice_h (P:=Tryz.prog) (w:=W) 22 (some ⟨g,0,none⟩) L C (by kernel_rfl) .i64 (n:Int) (by omega) (by omega),zcw];simp only[Result.andThen_ok,sliced,Zam];rw[if_neg (by omega)];simp[Addr.add_lit]
theorem zos (x:Int):∃b:Nat,IntKind.u8.wrap x=(b:Int)∧b<256:=by have h:IntKind.u8.wrap x=x % 256:=rfl;exact⟨(x % 256).toNat,by rw[h];omega,by omega⟩
theorem zrv {x q:Int} {m:Int} (hm:0<m) (h:Int.tmod x m=q):-m<q∧q<m:=by rw[←h];exact⟨Int.lt_tmod_of_pos _ hm,Int.tmod_lt_of_pos _ hm⟩
theorem GRd.frontK {w:World} {a:Option Addr} {n cap k:Nat} {l:List GF} (h:GRd w (.slice a n cap) l) (hk:k≤n):GRd w (.slice a k cap) (l.take k):=by obtain⟨h0,a',cap',h1,h2,h3⟩:=h;cases h1;rw[Zag] at h2 hk;refine⟨fun x hx=>h0 x (by rw[List.map_take] at hx;exact List.mem_of_mem_take hx),a,cap,by rw[Zag,Zan,Zbn hk],by rw[Zag,Zan];omega,fun hne=>?_⟩;obtain⟨b,o,h4,h5,h6⟩:=h3 (fun e=>hne (by rw[List.map_eq_nil_iff] at e ⊢;rw[e,List.take_nil]));refine⟨b,o,h4,h5,fun i hi=>?_⟩;rw[Zag,Zan,Zbn hk] at hi;rw[h6 i (by rw[Zag];omega)];congr 2;rw[List.map_take,zE2,zE2,List.getElem?_take,if_pos hi]
theorem zpv (u v:Value) (l m:List Nat) (w:World) (hu:zat w u l) (hv:zat w v m) :
  Calls Tryz.prog 64 #[u,v] w fun e w'=>e=.returned (.bool (decide (l=m)))∧w=w':=by
 have cu:=hu.conv
 have cv:=hv.conv
 have hd:decide (l=m)=decide (za1 l=za1 m):=by rw[decide_eq_decide];exact (zdk hu.1 hv.1).symm
 rw[hd];clear hd hu hv;go_enter Tryz.func64,Tryz.ntmps64;go_wp2;go_ret;refine⟨?_,rfl⟩;rw[ByteArray.toList_eq,ByteArray.toList_eq];by_cases h:za1 l=za1 m
 ·rw[decide_eq_true h,h];simp
 ·rw[decide_eq_false h];have:(za1 l).data.toList≠(za1 m).data.toList:=fun e=>h (by
   have e2:(za1 l).data=(za1 m).data:=Array.toList_inj.1 e;cases h1:za1 l;cases h2:za1 m;rw[h1,h2] at e2;simp only at e2;rw[e2])
  rw[beq_false_of_ne this];rfl
theorem zxd (u v:Value) (l m:List GF) (w:World) (hu:GRd w u l) (hv:GRd w v m) :
  Calls Tryz.prog 64 #[u,v] w fun e w'=>e=.returned (.bool (decide (l=m)))∧w=w':=by
 have:=zpv u v _ _ w hu hv
 rwa[decide_eq_decide.2 (⟨zeu,fun h=>by rw[h]⟩:l.map GF.n=m.map GF.n↔l=m)] at this
structure zoj (w:World) (B:Nat) (v:Value) (D:List (List GF)) (S:List Ro):Prop where
 all:zdv w v S
 eq:S.map Ro.d=D
 new:∀s∈S,∀A,s.a=some A→B≤A.block
 own:∀b,v.ownBlock=some b→B≤b
def yer (fb:Nat) (D:List (List GF)) (w:World) (e:Ending) (w':World):Prop:=Kp [fb] w w'∧FOk w' fb∧∃v S,e=.returned (.tuple #[v,.int .i64 0])∧zoj w' w.heap.size v D S
theorem zea (g o n L C:Nat) (hL:L≤C) (hn:n≤C):∀W:World,(Instr.slice 22 (.slice (some ⟨g,o,none⟩) L C) none (some (.int .i64 (n:Nat))) none).run Tryz.prog W=.ok (.slice (some ⟨g,o,none⟩) n C) W:=fun W=>by
 rw[run_slice_h (P:=Tryz.prog) (w:=W) 22 (some ⟨g,o,none⟩) L C (by kernel_rfl) .i64 (n:Int) (by omega) (by omega),zcw];simp only[Result.andThen_ok,sliced,Zam];by_cases h:C-0=0
 ·rw[if_pos (by omega)];simp
 ·rw[if_neg (by omega)];simp[Addr.add_lit]
theorem GRd.none0 {w:World} {a:Option Addr} {cap:Nat}:GRd w (.slice a 0 cap) []:=⟨(fun x hx=>by cases hx),a,cap,rfl,Zbp _,(fun h=>absurd rfl h)⟩
theorem zqm {w:World} {b o n cap P E cp:Nat} {l:List GF} (h:GRd w (.slice (some ⟨b,o,none⟩) n cap) l) (hp:P+E≤n) (hc:E≤cp):GRd w (.slice (some ⟨b,o+P,none⟩) E cp) (rowF (fun e=>l.getD (P+e) 0) E):=by
 obtain⟨h0,a,cap',h1,h2,h3⟩:=h;cases h1;rw[Zag] at hp;refine⟨fun x hx=>by obtain⟨y,_,rfl⟩:=Zau.1 hx;exact y.lt,_,cp,by rw[Zag,zaa],by rw[Zag,zaa];exact hc,fun hne=>?_⟩;have hE:0<E:=Nat.pos_of_ne_zero fun e=>hne (by subst e;rfl);obtain⟨b',o',h4,h5,h6⟩:=h3 (fun e=>by
  have:=congrArg List.length e
  simp at this;subst this;simp at hp;omega)
 cases h4;refine⟨b,o+P,rfl,h5,fun i hi=>?_⟩;rw[Zag,zaa] at hi;have:=h6 (P+i) (by rw[Zag];omega)
 rw[←Nat.add_assoc] at this;rw[this];have e1:(l.map GF.n).getD (P+i) 0=(l.getD (P+i) 0).n:=by rw[zE2,zE2,Zae,zE1 (show P+i<l.length by omega)];rfl
 have e2:((rowF (fun e=>l.getD (P+e) 0) E).map GF.n).getD i 0=(l.getD (P+i) 0).n:=by rw[zE2,Zae,rowF,Zae,Zax hi];rfl
 rw[e1,e2]
theorem zuk (g p q C n:Nat) (hn:0<n) (hpq:p+n=q) (hq:q≤C):∀W:World,(Instr.slice 22 (.slice (some ⟨g,0,none⟩) C C) (some (.int .i64 (p:Nat))) (some (.int .i64 (q:Nat))) (some (.int .i64 (q:Nat)))).run Tryz.prog W=.ok (.slice (some ⟨g,p,none⟩) n n) W:=fun W=>by rw[run_slice_lhm (P:=Tryz.prog) (w:=W) 22 (some ⟨g,0,none⟩) C C (by kernel_rfl) .i64 .i64 .i64 (p:Int) (q:Int) (q:Int) (by omega) (by omega) (by omega) (by omega),zcw];simp only[Result.andThen_ok,sliced,Zam];rw[if_neg (by omega)];simp[Addr.add_lit];omega
theorem zgt (g o n L C:Nat) (hn:n≤L) (hL:L≤C):∃o2,(∀W:World,(Instr.slice 22 (.slice (some ⟨g,o,none⟩) L C) (some (.int .i64 (n:Nat))) none none).run Tryz.prog W=.ok (.slice (some ⟨g,o2,none⟩) (L-n) (C-n)) W)∧(n<C→o2=o+n):=by
 refine⟨if C=n then o else o+n,fun W=>?_,fun h=>by rw[if_neg (by omega)]⟩;rw[run_slice_l (P:=Tryz.prog) (w:=W) 22 (some ⟨g,o,none⟩) L C (by kernel_rfl) .i64 (n:Int) (by omega) (by omega),zcw];simp only[Result.andThen_ok,sliced,Zam];by_cases h1:C=n
 ·subst h1;simp
 ·simp[h1,Addr.add_lit]
theorem zlq {w:World} {sb:Nat} {a b c x y z:Value} {t:TypeId} (h:w.heap[sb]? = some (.cells #[a,b,c] t (0,0))):(((w.setCell ⟨sb,0,none⟩ x).setCell ⟨sb,1,none⟩ y).setCell ⟨sb,2,none⟩ z).heap[sb]? = some (.cells #[x,y,z] t (0,0)):=by
 have:=hSS (hSS (hSS h 0 x) 1 y) 2 z
 simpa using this
theorem zaq (w:World) (sb:Nat) (x y z:Value):Kp [sb] w (((w.setCell ⟨sb,0,none⟩ x).setCell ⟨sb,1,none⟩ y).setCell ⟨sb,2,none⟩ z) :=
 (((Kp.refl _ _).setCell (.inl (by simp)) _).setCell (.inl (by simp)) _).setCell (.inl (by simp)) _
theorem zh3 (f:Nat→GF) (K:Nat):∀E,rowF f (K+E)=rowF f K++rowF (fun e=>f (K+e)) E
 | 0=>by simp[rowF]
 | E+1=>by rw[←Nat.add_assoc,zbq,zbq,zh3 f K E,List.append_assoc]
theorem zd1 {f g:Nat→GF} {n:Nat} (h:∀i,i<n→f i=g i):rowF f n=rowF g n:=Zbu fun i hi=>h i (Zaj.1 hi)
theorem zqh (f:Nat→GF) {n i:Nat} (h:i<n):(rowF f n)[i]? = some (f i):=by rw[rowF,Zae,Zax h];rfl
theorem ydw {K D T E I:Nat} {m:List GF} (hI:I<K) (hKD:K≤D) (hT:tri K K=T) (hE:D-K=E):rowF (fun c=>(m.take T).getD (sI K I c) 0) K++rowF (fun e=>m.getD (T+I*E+e) 0) E=rowF (mM K D m I) D:=by
 obtain rfl:D=K+E:=by omega
 rw[zh3];congr 1
 ·refine zd1 fun c hc=>?_;have:=ybi hI hc;rw[zwc _ hI hc,zE2,zE2,List.getElem?_take,if_pos (by omega)]
 ·refine zd1 fun e he=>?_;rw[zwb _ hI (by omega) (by omega),tI,hE,hT,Zbi,Nat.add_assoc]
attribute [local go_sem] Oper.semAt_some
def zpt (b o L n:Nat) (j:Nat):Array Value:=#[.slice (some ⟨b,o+j*n,none⟩) (min n (L-j*n)) (min n (L-j*n))]
def chN (L n:Nat):Nat:=(L+n-1) / n
theorem yaw {L n j:Nat} (hn:0<n):j<chN L n↔j*n<L:=by unfold chN;rw[Nat.lt_iff_add_one_le,Nat.le_div_iff_mul_le hn,Zcc,Zbw];omega
theorem zxc (a:Option Addr) (L cap n:Nat) (w:World) (hn:0<n) :
  Calls Tryz.prog 43 #[.slice a L cap,.int .i64 n] w fun e w'=>e=.returned (.func (.func 83) #[] #[.pointer (some ⟨w.heap.size,0,none⟩),.pointer (some ⟨w.heap.size+1,0,none⟩)]) ∧
   Below w.heap.size w w'∧w'.heap[w.heap.size]? = some (.cells #[.slice a L cap] 22 (0,0))∧w'.heap[w.heap.size+1]? = some (.cells #[.int .i64 n] 3 (0,0)):=by
 have hmf:∀(fn:Fn) (first cap:Array Value) (w:World),(Instr.makeFunc fn first cap).run Tryz.prog w=.ok (.func fn first cap) w:=fun _ _ _ _=>rfl;have h1:¬(n:Int)<1:=by omega
 go_enter Tryz.func43,Tryz.ntmps43;go_wp2;go_ret;refine⟨rfl,by (repeat' (first|with_reducible (first|exact Zaa _ _|assumption|refine Zac ?_|refine Zab ?_ ?_ _)|omega|(simp;done)|(simp;omega))),?_,?_⟩
 ·exact zaw (nwA _ _) _
 ·exact nwE _ _ _ (by simp)
theorem zth (Bs Bn fb b o L cap n:Nat) (a:Option Addr) (w0:World) (hs:w0.heap[Bs]? = some (.cells #[.slice a L cap] 22 (0,0))) (hnb:w0.heap[Bn]? = some (.cells #[.int .i64 n] 3 (0,0)))
  (ha:0<L→a=some ⟨b,o,none⟩) (hc:L≤cap) (hn:0<n) (hb:L≤1000000∧n≤1000000) :
  yes fb Tryz.prog 83 #[.pointer (some ⟨Bs,0,none⟩),.pointer (some ⟨Bn,0,none⟩)] (zpt b o L n) [Bs,Bn] 0 (fun xs=>xs=List.range (chN L n)) (fun pre=>pre=List.range pre.length∧pre.length≤chN L n) (some (chN L n)) w0:=by
 intro lv N J Jx W hW hJ hJx hOk hN1 hN2 hY h0;obtain rfl:=hN1 _ rfl;have HBs:Hid (W.heap[Bs]? = some (.cells #[.slice a L cap] 22 (0,0))):=Hd (zad hW hs);have HBn:Hid (W.heap[Bn]? = some (.cells #[.int .i64 n] 3 (0,0))):=Hd (zad hW hnb);refine callsIn_of_wp Tryz.func83 rfl trivial ?_ rfl;simp only[Tryz.ntmps83,TR,Nat.reduceAdd,Nat.reduceSub];have HJ0:=Hd h0;have HYY:=Hd hY;have HOK:=Hd hOk;have HA:=Hd ha;have HJJ:=Hd hJ;clear hs hnb hW h0 hJ hJx hY hOk hN1 hN2 ha;gi_wp2;gi_loopw [4] (fun i wr=>∃(j I:Nat),i=.int .i64 (I:Nat)∧I=j*n∧j≤chN L n∧Hid (J (List.range j) wr)∧Hid (wr.heap[Bs]? = some (.cells #[.slice a L cap] 22 (0,0)))∧Hid (wr.heap[Bn]? = some (.cells #[.int .i64 n] 3 (0,0))))
  (fun i _=>((L:Int)-intOf i).toNat)
 case atStart=>exact⟨0,0,rfl,by simp,Zbp _,HJ0,HBs,HBn⟩
 case round =>
  clear HJ0 HBs HBn;obtain⟨j,I,rfl,hI,hj,HJ,HBs,HBn⟩:=hrel;have cs:=cOH HBs.out (j:=0) rfl;have cn:=cOH HBn.out (j:=0) rfl;have g1:=lOH HBs.out;have g2:=lOH HBn.out;have HI:=Hd hI;by_cases hlt:I<L
  ·obtain rfl:=HA.out (by omega);have hjc:j<chN L n:=(yaw hn).2 (by rw[←hI];exact hlt);have HJC:=Hd hjc;obtain⟨sa,sc,hsl,-,-⟩:=zul (some ⟨b,o,none⟩) L cap I (by omega) hc;obtain⟨D,hD⟩:=zE4 (L-I);obtain⟨m,hm⟩:=zE4 (min n D);obtain⟨E,hE⟩:=zE4 (I+m);rw[hD] at hsl;have hmI:min (n:Int) (D:Int)=(m:Int):=by omega
   have e1:(I:Int)+(m:Int)=(E:Int):=by omega
   have e2:=zE6 (E:Int) (by omega);have e3:(0:Int)≤(I:Int)∧(I:Int)<(E:Int)∧(E:Int)≤(cap:Int):=by omega
   have hIE:I<E:=by omega
   have hIE2:¬E=I:=by omega
   have hIE3:¬E≤I:=by omega
   have hIE4:¬E-I=0:=by omega
   have hEc:E≤cap:=by omega
   have hIc:I<cap:=by omega
   have HM:Hid (min n (L-j*n)=E-I):=Hd (by rw[←hI,hD,hm];omega);obtain⟨I2,hI2⟩:=zE4 (I+n);have f1:(I:Int)+(n:Int)=(I2:Int):=by omega
   have f2:=zE6 (I2:Int) (by omega);have HI2:=Hd hI2;have HST:Hid (J (List.range j) wr.drew):=Hd (HJJ.out _ _ _ HJ.out ⟨(Kp.refl _ _).drew,fun h=>h.below ((Zaa _ _).drew)⟩);clear hI hjc hD hm hE hI2;gi_wp2;refine wpIn_wide.2 ?_;have hgr:=hgK (fun k=>k<wr.heap.size);refine w_T (fun k=>k<wr.heap.size) [] (.sq [0,1,2,3,4,5,6] .done) (by kernel_rfl) (by kernel_rfl) ?_;simp only[TQ,Oper.slim,Nat.reduceBEq,Nat.reduceAdd]
   repeat' first|((with_reducible refine w_I ?_);first|(with_reducible refine w_D ?_)|((with_reducible refine w_S (fun K hK=>?_));go_simp;(refine hK _ _ ?_;clear hK K)))|fail
   clear hgr;obtain⟨fn,tmps,assign,body,hy,hR5⟩:=HYY.out (List.range j) j wr.drew HST.out ⟨by simp[Zbh],by simp;exact HJC.out⟩ (by simpa using HJC.out) (HOK.out _ _ HST.out).2;have HR5:=Hd hR5;simp only[zpt,HM.out] at hy;rw[←HI.out] at hy;have HPRE:Hid (List.range j++[j]=List.range (j+1)):=Hd (by rw[Zbh]);rw[HPRE.out] at HR5;clear hR5;gi_wp2;refine HR5.out.mono ?_;rintro e W3 ⟨hks,hsz,⟨rfl,hJ3⟩|⟨rfl,hJ3⟩⟩
   ·have HB3s:Hid (W3.heap[Bs]? = some (.cells #[.slice (some ⟨b,o,none⟩) L cap] 22 (0,0))):=Hd ((hks Bs (by simp)).trans HBs.out);have HB3n:Hid (W3.heap[Bn]? = some (.cells #[.int .i64 n] 3 (0,0))):=Hd ((hks Bn (by simp)).trans HBn.out);have c3:=cOH HB3n.out (j:=0) rfl;have HJ3:=Hd hJ3;clear hJ3 hks hsz cs cn;gi_wp2;go_roundw
    case rel=>exact⟨j+1,I2,rfl,by rw[←HI2.out,HI.out,Zcc,Zbw],HJC.out,HJ3,HB3s,HB3n⟩
    case measure=>have:=HI2.out;simp[intOf]<;>omega
   ·have HX:=Hd hJ3;clear hJ3 hks hsz;gi_wp2;refine bodyPost_ret (results_none rfl _ _ _) rfl ?_;exact⟨⟨_,rfl⟩,.inr ⟨_,⟨by simp,by rw[Zbg];exact HJC.out⟩,HX.out⟩⟩
  ·have hje:j=chN L n:=by
    rcases Zcf j (chN L n) with h|h
    ·exact absurd ((yaw hn).1 h) (by rw[←hI];exact hlt)
    ·omega
   subst hje;clear hI;gi_wp2;go_end0;exact⟨⟨_,rfl⟩,.inl ⟨_,rfl,HJ.out⟩⟩
noncomputable def roC (b n:Nat) (F:Nat→GF) (j:Nat):Ro:=⟨some ⟨b,j*n,none⟩,n,rowF (fun c=>F (j*n+c)) n⟩
theorem zu1 (b n:Nat) (F:Nat→GF) (j:Nat):(roC b n F j).d.length=n:=zaa _ _
theorem ye2 (b n:Nat) (F:Nat→GF) (j:Nat):(roC b n F j).v=.slice (some ⟨b,j*n,none⟩) n n:=by unfold Ro.v;rw[zu1];rfl
structure yfk (fb Bb M b L n:Nat) (F:Nat→GF) (w:World) (pre:List Nat) (A:World):Prop where
 ok:FOk A fb
 ex:∃V',A.heap[Bb]? = some (.cells #[V'] 33 (0,0))∧zgq A w.heap.size V' (pre.map (roC b n F))∧(∀k,V'.ownBlock=some k→M≤k)
 v:zag A b L F
 kp:Kp [fb] w A
def zmt (fb b L n N:Nat) (F:Nat→GF) (w:World) (e:Ending) (w':World):Prop :=
 ∃v,e=.returned v∧zgq w' w.heap.size v ((List.range N).map (roC b n F))∧zag w' b L F∧Kp [fb] w w'∧FOk w' fb
theorem zgq.form {w:World} {B:Nat} {v:Value} {l:List Ro} (h:zgq w B v l):∃a cap,v=.slice a l.length cap:=by
 rcases h.2 with ⟨h1,h2⟩|⟨g,cap,cur,rfl,h2⟩
 ·exact⟨none,0,by rw[h1,h2]⟩
 ·exact⟨_,_,rfl⟩
theorem ycy (fb Bs Bn b L n N cap:Nat) (F:Nat→GF) (w:World) (hs:w.heap[Bs]? = some (.cells #[.slice (some ⟨b,0,none⟩) L cap] 22 (0,0))) (hnb:w.heap[Bn]? = some (.cells #[.int .i64 n] 3 (0,0)))
  (hV:zag w b L F) (hF:FOk w fb) (hbf:b≠fb) (hc:L≤cap) (hL:L=N*n) (hn:0<n∧n≤1000) (hN:N≤1000) (hne:Bs≠fb∧Bn≠fb) :
  Calls Tryz.prog 82 #[.slice none 0 0,.func (.func 83) #[] #[.pointer (some ⟨Bs,0,none⟩),.pointer (some ⟨Bn,0,none⟩)]] w (zmt fb b L n N F w):=by
 have hLm:L≤1000*1000:=by rw[hL];exact Zai hN hn.2
 have hcn:chN L n=N:=by unfold chN;rw[hL,show N*n+n-1=(n-1)+N*n by omega,Nat.add_mul_div_right _ _ hn.1,Nat.div_eq_of_lt (by omega),Zbe]
 have hseq:=zth Bs Bn fb b 0 L cap n (some ⟨b,0,none⟩) w hs hnb (fun _=>rfl) hc hn.1 (by omega);rw[hcn] at hseq;have HS:=Hd hseq;have HV:=Hd hV;have HF:=Hd hF;have HLE:=Hd hL;have hfl:=hF.lt;have hbl:=hV.1;have l1:=lOH hs;have l2:=lOH hnb;have hen:∀j,j<N→zpt b 0 L n j=#[.slice (some ⟨b,j*n,none⟩) n n]:=fun j hj=>by
  have h1:j*n+n≤L:=by rw[hL];have:=Zar n (show j+1≤N from hj);rwa[Zcc,Zbw] at this
  unfold zpt;rw[Zbn (by omega),Zbe]
 have HEN:=Hd hen;clear hseq hs hnb hV hF hL hen hcn;refine zav Tryz.func82 rfl ?_;simp only[Tryz.ntmps82,TR,Nat.reduceAdd,Nat.reduceSub];go_wp2;obtain⟨w1,hw1⟩:=zE5 (w.alloc (.cells #[.slice none 0 0] 33));have hs1:w1.heap.size=w.heap.size+1:=by rw[hw1];simp
 have hb1:Below w.heap.size w w1:=by rw[hw1];(repeat' (first|with_reducible (first|exact Zaa _ _|assumption|refine Zac ?_|refine Zab ?_ ?_ _)|omega|(simp;done)|(simp;omega)))
 have h1:w1.heap[w.heap.size]? = some (.cells #[.slice none 0 0] 33 (0,0)):=by rw[hw1];exact nwA _ _
 have HI0:Hid (yfk fb w.heap.size (w1.heap.size+2) b L n F w [] w1):=Hd ⟨HF.out.below hb1,⟨_,h1,zgq.nil _ _,fun k hk=>by simp[Value.ownBlock] at hk⟩,HV.out.below hb1,Kp.of_below hb1⟩;rw[←hw1];clear h1 hw1;refine zdg (gf:=83) (lb:=#[.pointer (some ⟨Bs,0,none⟩),.pointer (some ⟨Bn,0,none⟩)]) (by kernel_rfl) (enters_of Tryz.func83 (by kernel_rfl) rfl)
  HS.out hb1 (fun _=>rfl) (by omega) N (fun m h=>by cases h;rfl)
  (yfk fb w.heap.size (w1.heap.size+2) b L n F w) (fun _ _=>False)
  (fun pre A A' h hst=>by
   obtain⟨V',h1,h2,h3⟩:=h.ex;refine⟨hst.ok h.ok,⟨V',(hst.kp.block _ (lOH h1) (zdd (by omega) (.inl (by omega)))).trans h1,h2.kp hst.kp (fun k hk=>zdd (by have:=h3 k hk;omega) (.inr (by have:=h3 k hk;omega))),h3⟩,h.v.kp hst.kp (zdd hbf (.inl (by omega))),h.kp.step hst.kp fun x hx=>?_⟩;rcases Zbf.1 hx with rfl|hx
   ·exact .inl (by simp)
   ·have:=(Zbb.1 hx).1
    exact .inr (by omega))
  (fun pre A A' h hst=>h) (fun pre A h=>h.ok) HI0.out (fun h=>by cases h) (fun k hk=>by simp only[Zbf,List.not_mem_nil,or_false] at hk;rcases hk with rfl|rfl<;>omega)
  (fun j=>{ tmps:=#[.slice none 0 0,.func (.func 83) #[] #[.pointer (some ⟨Bs,0,none⟩),.pointer (some ⟨Bn,0,none⟩)],.pointer (some ⟨w.heap.size,0,none⟩),undef,.slice none 0 0,undef,.func (.func 83) #[] #[.pointer (some ⟨Bs,0,none⟩),.pointer (some ⟨Bn,0,none⟩)],(zpt b 0 L n j)[0]!,undef,undef,undef,undef,undef],defers:=[] })
  (fun j=>{ tmps:=#[.slice none 0 0,.func (.func 83) #[] #[.pointer (some ⟨Bs,0,none⟩),.pointer (some ⟨Bn,0,none⟩)],.pointer (some ⟨w.heap.size,0,none⟩),undef,.slice none 0 0,(zpt b 0 L n j)[0]!,.func (.func 83) #[] #[.pointer (some ⟨Bs,0,none⟩),.pointer (some ⟨Bn,0,none⟩)],(zpt b 0 L n j)[0]!,undef,undef,undef,undef,undef],defers:=[] })
  (fun x=>by kernel_rfl) ?assign ?body ?done ?stop
 case assign =>
  intro l x W1 K hK;gi_wp2;exact hK
 case stop=>intro D pre W hD hp hx;exact hx.elim
 case body =>
  intro lv pre j W1 hI hsp hlen hsz;have hj:j<N:=by
   have h1:=congrArg (fun l=>l[pre.length]?) hsp.1;have h2:j=pre.length:=by simpa[Zax] using h1
   omega
  have hej:=HEN.out j hj;rw[hej]
  try dsimp only
  simp only[List.getElem!_toArray,List.getElem!_cons_zero];obtain⟨V',hbx,hV',hVb⟩:=hI.ex;obtain⟨a1,c1,rfl⟩:=hV'.form;obtain⟨L1,hL1⟩:=zE4 ((pre.map (roC b n F)).length);rw[hL1] at hbx hV' hVb;obtain⟨v1,w3,hap,ho3,hk3,hb3,hat⟩:=yay (W:=W1) (s:=roC b n F j) hV' (by simp;omega) (by have:=hb1.size;omega) (ad:=W1.heap.size) rfl;rw[zu1] at hap;simp only[roC] at hap;obtain⟨a3,c3,rfl⟩:=ho3.form;obtain⟨L3,hL3⟩:=zE4 ((pre.map (roC b n F)++[roC b n F j]).length);rw[hL3] at hap ho3 hat;have y1:=cOH hbx (j:=0) rfl;have g1:=lOH hbx;have hnb:w.heap.size∉(Value.slice a1 L1 c1).ownBlock.toList:=fun hm=>by
   have:=hVb _ (by simpa using hm)
   omega
  have hbx3:=hk3.heap hbx hnb;have y3:=cOH hbx3 (j:=0) rfl;have z3:=fOH hbx3 0;have g3:=lOH hbx3;have hk4:Kp [w.heap.size] w3 (w3.setCell ⟨w.heap.size,0,none⟩ (.slice a3 L3 c3)):=(Kp.refl _ _).setCell (.inl (by simp)) _;have hbx4:=hSS hbx3 0 (.slice a3 L3 c3);have hVb3:∀k,(Value.slice a3 L3 c3).ownBlock=some k→w1.heap.size+2≤k:=fun k hk=>by
   rcases hat with h|h
   ·exact hVb k (by rw[←h];exact hk)
   ·rw[h] at hk;cases hk;omega
  have hsz4:W1.heap.size≤(w3.setCell ⟨w.heap.size,0,none⟩ (.slice a3 L3 c3)).heap.size:=Zat hk3.size hk4.size;have HFIN:Hid (KS ([Bs,Bn]++List.range' w1.heap.size (0+2)) W1 (w3.setCell ⟨w.heap.size,0,none⟩ (.slice a3 L3 c3))∧W1.heap.size≤(w3.setCell ⟨w.heap.size,0,none⟩ (.slice a3 L3 c3)).heap.size∧yfk fb w.heap.size (w1.heap.size+2) b L n F w (pre++[j]) (w3.setCell ⟨w.heap.size,0,none⟩ (.slice a3 L3 c3))):=Hd (by
   have hno:∀k,k<w1.heap.size+2→k∉(Value.slice a1 L1 c1).ownBlock.toList:=fun k hk hm=>by
    have:=hVb k (by simpa using hm)
    omega
   refine⟨fun k hk=>?_,hsz4,⟨?_,⟨.slice a3 L3 c3,by simpa using hbx4,?_,hVb3⟩,?_,?_⟩⟩
   ·have hbW:k<W1.heap.size∧k≠w.heap.size∧k<w1.heap.size+2:=by
     rcases Zba.1 hk with h|h
     ·simp only[Zbf,List.not_mem_nil,or_false] at h;rcases h with rfl|rfl<;>omega
     ·have h1:=Zbb.1 h;omega
    exact (hk4.block k (Zaf hbW.1 hk3.size) (by simpa using hbW.2.1)).trans (hk3.block k hbW.1 (hno k hbW.2.2))
   ·exact (hI.ok.kp hk3 (hno fb (by omega))).kp hk4 (by simp;omega)
   ·rw[Zaw,List.map_cons,List.map_nil];refine ho3.kp hk4 fun k hk hm=>?_;obtain rfl:=Zaq.1 hm;have:=hVb3 _ hk;omega
   ·exact (hI.v.kp hk3 (hno b (by omega))).kp hk4 (by simp;omega)
   ·refine (hI.kp.step hk3 fun x hx=>?_).step hk4 fun x hx=>.inr (by obtain rfl:=Zaq.1 hx;omega);have:=hVb x (by simpa using hx);exact .inr (by omega))
  clear hI hV' hVb hk3 hb3 hat hbx3 hk4 hbx4 hVb3 hsz4 ho3 hnb hbx hsp hej;gi_wp2_with (gi_at_builtin;refine zcv rfl _ _ _ rfl rfl rfl hap ?_);refine⟨by have:=HFIN.out.1;rwa[hs1] at this,by simpa using HFIN.out.2.1,?_⟩
  first
   | exact HFIN.out.2.2
   | (have:=HFIN.out.2.2;rwa[hs1] at this)
   | exact .inl ⟨rfl,HFIN.out.2.2⟩
   | (have:=HFIN.out.2.2;rw[hs1] at this;exact .inl ⟨rfl,this⟩)
 case done =>
  rintro D xs W1 hD rfl hI hK;obtain⟨V',hbx,hV',hVb⟩:=hI.ex;obtain⟨a1,c1,rfl⟩:=hV'.form;obtain⟨L1,hL1⟩:=zE4 (((List.range N).map (roC b n F)).length);rw[hL1] at hbx hV' hVb;have y1:=cOH hbx (j:=0) rfl;have g1:=lOH hbx;have HBX:=Hd hbx;have HV':=Hd hV';have HVB:=Hd hVb;have HI:=Hd hI;have HD:=Hd hD;have HK:=Hd hK;clear hI hV' hVb hD hK hL1 hbx;go_wp2;have hD:=HD.out;have hD2:=lOH HK.out;refine zal (B:=w.heap.size) [D] W1 (zbf.cons (zbf.nil _ _) (by omega) HK.out (by simp)) fun w' hk=>⟨.slice a1 L1 c1,?_,.slice a1 L1 c1,rfl,?_,?_,?_,?_⟩
  ·simp[results,Tryz.results82,go_sem]
  ·refine HV'.out.kp hk fun k hk2 hm=>?_;obtain rfl:=Zaq.1 hm;have:=HVB.out _ hk2;omega
  ·exact HI.out.v.kp hk (by simp;omega)
  ·exact HI.out.kp.step hk fun x hx=>.inr (by obtain rfl:=Zaq.1 hx;omega)
  ·exact HI.out.ok.kp hk (by simp;omega)
theorem zzv (fb Bs Bn b L n N cap:Nat) (F:Nat→GF) (w:World) (hs:w.heap[Bs]? = some (.cells #[.slice (some ⟨b,0,none⟩) L cap] 22 (0,0))) (hnb:w.heap[Bn]? = some (.cells #[.int .i64 n] 3 (0,0)))
  (hV:zag w b L F) (hF:FOk w fb) (hbf:b≠fb) (hc:L≤cap) (hL:L=N*n) (hn:0<n∧n≤1000) (hN:N≤1000) (hne:Bs≠fb∧Bn≠fb) :
  Calls Tryz.prog 42 #[.func (.func 83) #[] #[.pointer (some ⟨Bs,0,none⟩),.pointer (some ⟨Bn,0,none⟩)]] w (zmt fb b L n N F w):=by
 have H:=Hd (ycy fb Bs Bn b L n N cap F w hs hnb hV hF hbf hc hL hn hN hne);clear hs hnb hV hF hbf hc hL hn hN hne;go_enter Tryz.func42,Tryz.ntmps42;go_wp2_with fail;refine H.out.mono ?_;intro e w1 h1;obtain⟨v,rfl,h2⟩:=h1;have HP:Hid (zmt fb b L n N F w (.returned v) w1):=Hd ⟨v,rfl,h2⟩;clear h2;go_wp2;go_ret;exact HP.out
end Go.Proofs.YtcclhhjcejmepaaGreat
