import Derived.Lib.AppendZeros
import Derived.Test.YtcclhhjcejmepaaGreatZAppG
import Derived.Test.YtcclhhjcejmepaaGreatZDivG
import Derived.Test.YtcclhhjcejmepaaGreatZWeD
set_option linter.all false
set_option maxRecDepth 100000
set_option maxHeartbeats 4000000
namespace Go.Proofs.YtcclhhjcejmepaaGreat
open Go.RowKit Fld Go.Lib
theorem zdx (z:Value) (m:Nat):Builtin.zeroCells #[z] m=(List.replicate m z).toArray:=by
 unfold Builtin.zeroCells;apply Array.ext
 ·simp
 ·intro i h1 h2;simp;have:i % 1=0:=Nat.mod_one i;simp[this]
theorem zhs {P:Program} (w:World) (base:Nat) (t tn ty e:TypeId) (i:TypeInfo) (z:Value) (bytes:Nat) (kn k:IntKind) (ht:P.underlying t=some (.slice e)) (htn:P.underlying tn=some (.int kn)) (hi:P.info? e=some i) (hz:i.zero=some z)
  (hsize:i.size=1) (hby:i.bytes=bytes) (hzs:z.cells=#[z]) (h1:z.oneCell'=true)
  (v:Value) (n:Nat) (xs:List Value) (hown:w.ownsRow base e 1 v n xs) (m:Nat) (h63:n+m≤maxLen) (hbytes:(n+m)*bytes≤140737488355328) (hbase:base≤w.heap.size) :
  ∃v' w',(Builtin.append_ #[t,tn] ty #[v,.int k m]).run P w=.ok v' w'∧w'.ownsRow base e 1 v' (n+m) (xs++List.replicate m z)∧w.grownBy w' v.ownBlock∧(v'.ownBlock=v.ownBlock∨v'.ownBlock=some w.heap.size):=by
 subst hby;have hsmall:n+m≤9223372036854775807:=by simp only[maxLen] at h63;omega
 have hxl:xs.length=n:=by have:=hown.1;omega
 have hlen:(xs++List.replicate m z).length=(n+m)*1:=by rw[Zak,hxl,List.length_replicate,Nat.mul_one]
 have hw:IntKind.i64.wrap (m:Int)=m:=by rw[IntKind.wrap_i64];omega
 have hneg:¬((m:Int)<0):=by omega
 have hm48:m*i.bytes≤281474976710656:=by
  have:m*i.bytes≤(n+m)*i.bytes:=Zar _ (by omega)
  omega
 have h48i:¬(281474976710656<(m:Int)*(i.bytes:Int)):=by rw[←Int.natCast_mul];omega
 by_cases hm:m=0
 ·subst hm;have h0:xs++List.replicate 0 z=xs:=by simp
  have hw0:IntKind.i64.wrap 0=0:=by rw[IntKind.wrap_i64];omega
  rw[h0];rcases hown.2 with ⟨rfl,rfl⟩|⟨g,cap,cur,rfl,hbg,hg,hnc,hcm,hcs,htake⟩
  ·refine⟨.slice none 0 0,w,?_,hown,⟨rfl,rfl,rfl,zE3 _,fun _ _ _=>rfl⟩,Or.inl rfl⟩;simp[Builtin.append_,run_underlying ht,run_underlying htn,sizeOf,typeInfo,hi,asInt,asIntOf,hw,hw0,hneg,h48i]
  ·refine⟨.slice (some ⟨g,0,none⟩) n cap,w,?_,hown,⟨rfl,rfl,rfl,zE3 _,fun _ _ _=>rfl⟩,Or.inl rfl⟩;simp[Builtin.append_,run_underlying ht,run_underlying htn,sizeOf,typeInfo,hi,asInt,asIntOf,hw,hw0,hneg,h48i,hnc,storeCells]
 ·have hns:¬(m*i.size=0):=by rw[hsize];omega
  have grown:∀(old:Nat),old<n+m→∀(row:Option Nat),
    (w.drew.alloc (.cells (xs.toArray++Builtin.zeroCells z.cells m++Builtin.zeroCells z.cells (grownCap w (n+m) old e-(n+m))) e)).ownsRow base e 1
     (.slice (some ⟨w.heap.size,0,none⟩) (n+m) (grownCap w (n+m) old e)) (n+m) (xs++List.replicate m z) ∧
    w.grownBy (w.drew.alloc (.cells (xs.toArray++Builtin.zeroCells z.cells m++Builtin.zeroCells z.cells (grownCap w (n+m) old e-(n+m))) e)) row:=by
   intro old ho row;have hge:=grownCap_ge w (n+m) old e;have hcm:grownCap w (n+m) old e≤maxLen:=grownCap_le_maxLen w (n+m) old e h63;refine⟨⟨hlen,.inr ⟨w.heap.size,_,_,rfl,hbase,heap_alloc_new w.drew _,hge,hcm,?_,?_⟩⟩,⟨rfl,rfl,rfl,by simp,fun k hk _=>Below.heap_alloc w.drew _ k hk⟩⟩
   ·simp only[Array.size_append,List.size_toArray,size_zeroCells,hzs,hxl];simp;omega
   ·rw[hzs,zdx,zdx];simp only[Array.toList_append,List.append_assoc];rw[←List.append_assoc,←hlen];exact List.take_left
  rcases hown.2 with ⟨rfl,rfl⟩|⟨g,cap,cur,rfl,hbg,hg,hnc,hcm,hcs,htake⟩
  ·have hx:xs=[]:=Zbc hxl;subst hx;have hr:=run_append_nil_zeros (P:=P) w t tn ty e i z k kn ht htn hi hz m (by omega) (by omega) (by omega) hm48;have hgr:=grown 0 (by omega) (Value.ownBlock (.slice none 0 0));simp only[Zbe,Zav,Array.empty_append] at hgr ⊢;exact⟨_,_,hr,hgr.1,hgr.2,Or.inr rfl⟩
  ·by_cases hroom:n+m≤cap
   ·have hfit:n*1+(List.replicate m z).length≤cur.size:=by rw[List.length_replicate,hcs];omega
    have hst:=run_storeCells_at P g (n*1) e (List.replicate m z) 0 cur w hg (by simpa using hfit) (fun u hu=>by rw[(List.mem_replicate.1 hu).2];exact h1);simp only[Nat.add_zero] at hst;have hr:(Builtin.append_ #[t,tn] ty #[.slice (some ⟨g,0,none⟩) n cap,.int k m]).run P w=.ok (.slice (some ⟨g,0,none⟩) (n+m) cap) (w.setRow g (cur.toList.take (n*1)++List.replicate m z++cur.toList.drop (n*1+(List.replicate m z).length)).toArray):=by have hzc:=zdx z m;simp[Builtin.append_,run_underlying ht,run_underlying htn,sizeOf,typeInfo,zeroValue,hi,hz,hsize,hzs,hzc,asInt,asIntOf,hw,hneg,h48i,hroom,hm,Addr.add_lit];have hst':=hst;simp at hst';rw[hst'];rfl
    refine⟨_,_,hr,⟨hlen,.inr ⟨g,cap,_,rfl,hbg,setRow_heap w g cur _ e _ hg,hroom,hcm,?_,?_⟩⟩,⟨rfl,rfl,rfl,by simp,fun k hk hk'=>setRow_other w g k _ (fun e=>hk' (by simp[Value.ownBlock,e]))⟩,Or.inl rfl⟩
    ·simp only[List.size_toArray,Zak,Zan,List.length_drop,Array.length_toList];omega
    ·rw[htake,←hlen];exact List.take_left
   ·have holds:∀j u,xs[j]? = some u→w.cell? ((⟨g,0,none⟩:Addr).add j)=some u:=hown.cells (g:=g) rfl;have hgr:=grown cap (by omega) (Value.ownBlock (.slice (some ⟨g,0,none⟩) n cap));have hn:¬(n+m≤cap):=by omega
    have h63':¬(9223372036854775807<((n:Int)+(m:Int))):=by omega
    have hf48:=growslice_fits (need:=n+m) (old:=cap) (bytes:=i.bytes) (by omega) hbytes;have h48':¬(281474976710656<Builtin.nextslicecap (n+m) cap*i.bytes):=by omega
    have hfo:=run_firstCells_some (P:=P) w.drew i.size n ⟨g,0,none⟩ n cap xs (by rw[hsize];exact hown.1) (by simpa using holds);have hr:(Builtin.append_ #[t,tn] ty #[.slice (some ⟨g,0,none⟩) n cap,.int k m]).run P w=.ok (.slice (some ⟨w.heap.size,0,none⟩) (n+m) (grownCap w (n+m) cap e))
      (w.drew.alloc (.cells (xs.toArray++Builtin.zeroCells z.cells m++Builtin.zeroCells z.cells (grownCap w (n+m) cap e-(n+m))) e)):=by
     rw[hsize] at hfo;simp[Builtin.append_,run_underlying ht,run_underlying htn,sizeOf,typeInfo,zeroValue,hi,hz,hsize,asInt,asIntOf,hw,hneg,h48i,hn,hm,h63',h48',Question.forced,hfo,newRow,grownCap]
    exact⟨_,_,hr,hgr.1,hgr.2,Or.inr rfl⟩
end Go.Proofs.YtcclhhjcejmepaaGreat
namespace Go.Proofs.YtcclhhjcejmepaaGreat
open Go.RowKit Fld
theorem zr1 (g n v C:Nat) (hC:0<C) (h:n+v=C):∃so,(∀W:World,(Instr.slice 22 (.slice (some ⟨g,0,none⟩) C C) (some (.int .i64 (n:Nat))) (some (.int .i64 (C:Nat))) (some (.int .i64 (C:Nat)))).run Tryz.prog W=.ok (.slice (some ⟨g,so,none⟩) v v) W)∧(0<v→so=n):=by
 by_cases h0:v=0
 ·refine⟨0,fun W=>?_,by omega⟩;rw[run_slice_lhm (P:=Tryz.prog) (w:=W) 22 (some ⟨g,0,none⟩) C C (by kernel_rfl) .i64 .i64 .i64 (n:Int) (C:Int) (C:Int) (by omega) (by omega) (by omega) (by omega),zcw];simp only[Result.andThen_ok,sliced,Zam];rw[if_pos (by omega),show C-n=v by omega]
 ·refine⟨n,fun W=>?_,fun _=>rfl⟩;rw[run_slice_lhm (P:=Tryz.prog) (w:=W) 22 (some ⟨g,0,none⟩) C C (by kernel_rfl) .i64 .i64 .i64 (n:Int) (C:Int) (C:Int) (by omega) (by omega) (by omega) (by omega),zcw];simp only[Result.andThen_ok,sliced,Zam];rw[if_neg (by omega),show C-n=v by omega];simp[Addr.add_lit]
theorem zz1 {W:World} {g so v:Nat} {r:Nat→GF} (hr:∀j,j<v→W.cell? ⟨g,so+j,none⟩=some (.int .u8 ((r j).n:Nat))) (hg:g<W.heap.size) (hv:v≤1000000) (x:GF) {nn:Nat} (hx:x.n=nn) {ad:Nat} (had:ad=W.heap.size) :
  ∃c1 m1 a1 w3,(Builtin.append_ #[22,22] 22 #[.slice (some ⟨g,so,none⟩) v v,.slice (some ⟨ad,0,none⟩) 1 1]).run Tryz.prog (W.alloc (.cells #[.int .u8 (nn:Int)] 5))=.ok (.slice a1 m1 c1) w3∧Below W.heap.size W w3∧zao w3 W.heap.size (.slice a1 m1 c1) (rowF r v++[x])∧m1=v+1:=by
 subst had;subst hx;obtain⟨i0,hi,hz0,hz1,hz2⟩:=info_parts zbi;obtain⟨v1,w3,hap,hown,hgrow⟩:=run_append_arg_grows (P:=Tryz.prog) (w:=W.alloc (.cells #[.int .u8 (x.n:Int)] 5)) 22 22 5 i0 (.int .u8 0) 1 1 Tryz.underlying22 hi hz0 hz1 hz2 rfl (by decide)
  ⟨g,so,none⟩ v v (gv (rowF r v)) (by simp[gv,zaa]) (fun j u hj=>by
   have hjv:j<v:=by
    have:=(Zah.1 hj).1
    simpa[gv,zaa] using this
   have e:u=.int .u8 ((r j).n:Nat):=by rw[gv,Zae,rowF,Zae,Zax hjv] at hj;simpa using hj.symm
   rw[e,Addr.add_lit];exact (((Zaa _ W).alloc (zE3 _) _).cell (p:=⟨g,so+j,none⟩) hg).trans (hr j hjv))
  ⟨W.heap.size,0,none⟩ 1 1 [.int .u8 (x.n:Int)] rfl (cell_one_new _ _ _) (by omega) (by unfold maxLen;omega) (by omega)
 have hown':zao w3 W.heap.size v1 (rowF r v++[x]):=by refine zao.mono (B:=(W.alloc (.cells #[.int .u8 (x.n:Int)] 5)).heap.size) ?_ (by simp);unfold zao;rw[zpl,Zak,zaa];exact hown
 obtain⟨a1,c1,rfl,-⟩:=hown'.form;refine⟨c1,_,a1,w3,hap,?_,hown',by rw[Zak,zaa];rfl⟩;exact ((Zaa W.heap.size W).alloc (zE3 _) _).grown hgrow (by simp) (fun b hb=>by cases hb)
theorem zof {W:World} {base:Nat} {V:Value} {l:List GF} (h:zao W base V l) (hl:l.length≤1000000) (hb:base≤W.heap.size) (m:Nat) (hm:m≤1000000) :
  ∃v1 w3,(Builtin.append_ #[22,3] 22 #[V,.int .i64 (m:Int)]).run Tryz.prog W=.ok v1 w3∧zao w3 base v1 (l++List.replicate m 0)∧Kp V.ownBlock.toList W w3∧Below base W w3:=by
 obtain⟨i0,hi,hz0,hz1,hz2⟩:=info_parts zbi;obtain⟨v1,w3,hap,hown,hgrow,hat⟩:=zhs (P:=Tryz.prog) W base 22 3 22 5 i0 (.int .u8 0) 1 .i64 .i64 Tryz.underlying22 Tryz.underlying3 hi hz0 hz1 hz2 rfl (by simp[Value.oneCell']) V l.length (gv l) h m (by unfold maxLen;omega) (by omega) hb;refine⟨v1,w3,hap,?_,(Kp.refl _ W).grown hgrow (fun b hb=>.inl (by rw[hb];simp)),(Zaa base W).grown hgrow hb (fun b hb=>(h.lt b hb).1)⟩;unfold zao;have e:gv (l++List.replicate m 0)=gv l++List.replicate m (.int .u8 0):=by simp[gv];exact .inr rfl
 rw[e,Zak,List.length_replicate];exact hown
structure ExI (fb A0 B1 base k L C Y:Nat) (ax:Option Addr) (cx:Nat) (ay:Option Addr) (cy:Nat) (w:World) (V R:Value) (a b:List GF) (W:World):Prop where
 ok:FOk W fb
 hA:W.heap[A0]? = some (.cells #[.pointer (some ⟨fb,0,none⟩),.int .i64 k,.slice ax L cx,.slice ay Y cy] 149 (0,0))
 hM:W.heap[B1]? = some (.cells #[.int .i64 L,.int .i64 C,V] 66 (0,0))
 ov:zao W base V a
 orr:zao W base R b
 ap:za0 R V.ownBlock.toList
 kp:Kp [fb] w W
 sz:base≤W.heap.size
section
variable {fb A0 B1 base k L C Y:Nat} {ax:Option Addr} {cx:Nat} {ay:Option Addr} {cy:Nat} {w W:World} {V R:Value} {a b:List GF}
theorem ExI.call {W5:World} (h:ExI fb A0 B1 base k L C Y ax cx ay cy w V R a b W) (ho:fb<A0∧A0<B1∧B1<base∧w.heap.size≤A0) (hk:Kp [fb] W W5) (hf:FOk W5 fb):ExI fb A0 B1 base k L C Y ax cx ay cy w V R a b W5 :=
 ⟨hf,hk.heap h.hA (by simp;omega),hk.heap h.hM (by simp;omega),h.ov.kp hk (fun c hc hm=>by have:=(h.ov.lt c hc).1;simp at hm;omega),h.orr.kp hk (fun c hc hm=>by have:=(h.orr.lt c hc).1;simp at hm;omega),h.ap,h.kp.trans hk,Zat h.sz hk.size⟩
theorem ExI.drew (h:ExI fb A0 B1 base k L C Y ax cx ay cy w V R a b W):ExI fb A0 B1 base k L C Y ax cx ay cy w V R a b W.drew :=
 ⟨h.ok.below ((Zaa _ _).drew),h.hA,h.hM,h.ov,h.orr,h.ap,h.kp.drew,h.sz⟩
theorem ExI.push (h:ExI fb A0 B1 base k L C Y ax cx ay cy w V R a b W) (ho:fb<A0∧A0<B1∧B1<base∧w.heap.size≤A0) (x:GF) {n:Nat} (hn:x.n=n) (hl:a.length≤1000000) :
  ∃a1 m1 c1 w6,(Builtin.append_ #[22,22] 22 #[V,.slice (some ⟨W.heap.size,0,none⟩) 1 1]).run Tryz.prog (W.alloc (.cells #[.int .u8 (n:Int)] 5))=.ok (.slice a1 m1 c1) w6∧m1=a.length+1 ∧
   (∀kk,kk<base→w6.heap[kk]? = W.heap[kk]?)∧ExI fb A0 B1 base k L C Y ax cx ay cy w (.slice a1 m1 c1) R (a++[x]) b (w6.setCell ⟨B1,2,none⟩ (.slice a1 m1 c1)):=by
 obtain⟨v1,w6,hap,ho6,hk6,hb6,hat⟩:=zcb x h.ov hl h.sz hn (ad:=W.heap.size) rfl;obtain⟨a1,c1,rfl,-⟩:=ho6.form;have hV:∀y,y∈V.ownBlock.toList→base≤y:=fun y hy=>(h.ov.lt y (by simpa using hy)).1;have hk7:Kp [B1] w6 (w6.setCell ⟨B1,2,none⟩ (.slice a1 (a++[x]).length c1)):=(Kp.refl _ _).setCell (.inl (by simp)) _;refine⟨a1,(a++[x]).length,c1,w6,hap,by simp,fun kk hkk=>hb6.block kk hkk,?_⟩;refine⟨(h.ok.kp hk6 (fun hm=>by have:=hV _ hm;omega)).kp hk7 (by simp;omega),hk7.heap (hk6.heap h.hA (fun hm=>by have:=hV _ hm;omega)) (by simp;omega),?_,ho6.kp hk7 (fun c hc hm=>by have:=(ho6.lt c hc).1;simp at hm;omega),
  (h.orr.kp hk6 h.ap).kp hk7 (fun c hc hm=>by have:=(h.orr.lt c hc).1;simp at hm;omega),zcu h.ap (fun c hc=>(h.orr.lt c hc).2) hat,(h.kp.step hk6 (fun y hy=>.inr (by have:=hV y hy;omega))).step hk7 (fun y hy=>by simp at hy;right;omega),?_⟩
 ·have:=hSS (hk6.heap h.hM (fun hm=>by have:=hV _ hm;omega)) 2 (.slice a1 (a++[x]).length c1)
  simpa using this
 ·have h1:=hk6.size;have h2:=hk7.size;have:=h.sz;omega
theorem ExI.pushR (h:ExI fb A0 B1 base k L C Y ax cx ay cy w V R a b W) (ho:fb<A0∧A0<B1∧B1<base∧w.heap.size≤A0) (x:GF) {n:Nat} (hn:x.n=n) (hl:b.length≤1000000) :
  ∃a1 m1 c1 w6,(Builtin.append_ #[22,22] 22 #[R,.slice (some ⟨W.heap.size,0,none⟩) 1 1]).run Tryz.prog (W.alloc (.cells #[.int .u8 (n:Int)] 5))=.ok (.slice a1 m1 c1) w6∧m1=b.length+1 ∧
   (∀kk,kk<base→w6.heap[kk]? = W.heap[kk]?)∧ExI fb A0 B1 base k L C Y ax cx ay cy w V (.slice a1 m1 c1) a (b++[x]) w6:=by
 obtain⟨v1,w6,hap,ho6,hk6,hb6,hat⟩:=zcb x h.orr hl h.sz hn (ad:=W.heap.size) rfl;obtain⟨a1,c1,rfl,-⟩:=ho6.form;have hR:∀y,y∈R.ownBlock.toList→base≤y:=fun y hy=>(h.orr.lt y (by simpa using hy)).1;refine⟨a1,(b++[x]).length,c1,w6,hap,by simp,fun kk hkk=>hb6.block kk hkk,?_⟩;refine⟨h.ok.kp hk6 (fun hm=>by have:=hR _ hm;omega),hk6.heap h.hA (fun hm=>by have:=hR _ hm;omega),hk6.heap h.hM (fun hm=>by have:=hR _ hm;omega),h.ov.kp hk6 (zca h.ap),ho6,
  zca (zcu (zca h.ap) (fun c hc=>(h.ov.lt c hc).2) hat),h.kp.step hk6 (fun y hy=>.inr (by have:=hR y hy;omega)),?_⟩
 have h1:=hk6.size;have:=h.sz;omega
end
def zxp (fb k v:Nat) (X ys:List GF) (w:World) (e:Ending) (w':World):Prop :=
 Kp [fb] w w'∧FOk w' fb∧((e=.returned (.tuple #[.slice none 0 0,.bool false])∧∀m0:List GF,m0.length=k→(wrI X ys m0).length=v→k+2*v≤X.length→False) ∨
  ∃u m,e=.returned (.tuple #[u,.bool true])∧m.length=k∧zao w' w.heap.size u m∧∀m0:List GF,m0.length=k→(wrI X ys m0).length=v→k+2*v≤X.length→m=m0)
theorem zpn (fb k v:Nat) (xv yv:Value) (X ys:List GF) (w:World) (hF:FOk w fb) (hx:GRd w xv X) (hy:GRd w yv ys) (hxa:za0 xv [fb]) (hya:za0 yv [fb]) (hk0:0<k) (hL:0<X.length) (hyl:X.length≤ys.length) (hXl:X.length≤256) (hkl:k≤256) (hvl:v≤256) (hnd:X.Nodup) :
  Calls Tryz.prog 92 #[.agg #[.pointer (some ⟨fb,0,none⟩),.int .i64 k,xv,yv],.int .i64 v] w (zxp fb k v X ys w):=by
 obtain⟨ax,cx,rfl,hcx⟩:=hx.form;obtain⟨ay,cy,rfl,hcy⟩:=hy.form;obtain⟨L,hLe⟩:=zE4 X.length;obtain⟨Y,hYe⟩:=zE4 ys.length;obtain⟨n,hn⟩:=zE4 (k+v);obtain⟨C,hC⟩:=zE4 (n+v);have HLE:=Hd hLe;have HYE:=Hd hYe;have HN:=Hd hn;have HC:=Hd hC;have hfw:=hF.lt;have HF:=Hd hF;rw[hLe] at hx hcx hXl hL hyl ⊢;rw[hYe] at hy hcy hyl ⊢;have HX:=Hd hx;have HY:=Hd hy;have HXA:=Hd hxa;have HYA:=Hd hya;have HND:=Hd hnd;have x1:(k:Int)+(v:Int)=(n:Int):=by omega
 have x2:=zE6 (n:Int) (by omega);have x3:(n:Int)+(v:Int)=(C:Int):=by omega
 have x4:=zE6 (C:Int) (by omega);have hn2:n≤512:=by omega
 have hC2:C≤768:=by omega
 clear hF hx hy hxa hya hnd hLe hYe hn hC hcx hcy;go_enter Tryz.func92,Tryz.ntmps92;go_wp2;have ho:fb<w.heap.size∧w.heap.size<w.heap.size+1∧w.heap.size+1<w.heap.size+1+1∧w.heap.size≤w.heap.size:=⟨hfw,by omega,by omega,zE3 _⟩;have HO:=Hd ho;have HE0:Hid (ExI fb w.heap.size (w.heap.size+1) (w.heap.size+1+1) k L C Y ax cx ay cy w (.slice none 0 0) (.slice none 0 0) (rowF (flat C (zgr X ys n)) (0*C)) (rowF (zj2 X ys v) 0) ((w.alloc (.cells #[.pointer (some ⟨fb,0,none⟩),.int .i64 k,.slice ax L cx,.slice ay Y cy] 149)).alloc (.cells #[.int .i64 L,.int .i64 C,.slice none 0 0] 66))):=Hd (by
  have hb:Below w.heap.size w ((w.alloc (.cells #[.pointer (some ⟨fb,0,none⟩),.int .i64 k,.slice ax L cx,.slice ay Y cy] 149)).alloc (.cells #[.int .i64 L,.int .i64 C,.slice none 0 0] 66)):=by (repeat' (first|with_reducible (first|exact Zaa _ _|assumption|refine Zac ?_|refine Zab ?_ ?_ _)|omega|(simp;done)|(simp;omega)))
  rw[Nat.zero_mul];exact⟨HF.out.below hb,zaw (nwA _ _) _,nwE _ _ _ (by simp),zao.nil _ _,zao.nil _ _,fun k _ hm=>by simp[Value.ownBlock] at hm,Kp.of_below hb,by simp⟩)
 clear ho x1 x2 x3 x4;go_loopg [8,31] L (fun gk r i wr=>∃(ar:Option Addr) (mr cr:Nat) (av:Option Addr) (mv cv I:Nat),r=.slice ar mr cr∧I≤L∧gk=L-I∧i=.int .i64 I∧Hid (ExI fb w.heap.size (w.heap.size+1) (w.heap.size+1+1) k L C Y ax cx ay cy w (.slice av mv cv) (.slice ar mr cr) (rowF (flat C (zgr X ys n)) (I*C)) (rowF (zj2 X ys v) I) wr))
 case atStart=>exact⟨none,0,0,none,0,0,0,rfl,by omega,rfl,rfl,HE0⟩
 case round =>
  clear HE0;obtain⟨ar,mr,cr,av,mv,cv,I,rfl,hI,rfl,rfl,HE⟩:=hrel;by_cases hlt:I<L
  ·obtain⟨c,hc,hcd⟩:=zbt (l:=X) (i:=I) (by rw[HLE.out];exact hlt);obtain⟨y,hy,hyd⟩:=zbt (l:=ys) (i:=I) (by rw[HYE.out];omega);obtain⟨b1,o1,rfl,hb1,-⟩:=HX.out.at hc;obtain⟨b2,o2,rfl,hb2,-⟩:=HY.out.at hy;have hb1f:b1≠fb:=by have:=HXA.out b1 rfl;simpa using this
   have hb2f:b2≠fb:=by have:=HYA.out b2 rfl;simpa using this
   obtain⟨cN,hcN⟩:∃t,c.n=t:=⟨_,rfl⟩;obtain⟨yN,hyN⟩:∃t,y.n=t:=⟨_,rfl⟩;have HCX:Hid (∀W,Kp [fb] w W→W.cell? ⟨b1,o1+I,none⟩=some (.int .u8 (cN:Nat))):=Hd fun W hk=>by obtain⟨_,_,e,-,h⟩:=(HX.out.kp hk HXA.out).at hc;cases e;rw[←hcN];exact h
   have HCY:Hid (∀W,Kp [fb] w W→W.cell? ⟨b2,o2+I,none⟩=some (.int .u8 (yN:Nat))):=Hd fun W hk=>by obtain⟨_,_,e,-,h⟩:=(HY.out.kp hk HYA.out).at hy;cases e;rw[←hyN];exact h
   have HPOW:Hid (∀p:Nat,p≤1000→∀W,FOk W fb→Calls Tryz.prog 73 #[.pointer (some ⟨fb,0,none⟩),.int .u8 (cN:Nat),.int .i64 (p:Nat)] W (fun e w'=>e=.returned (.int .u8 ((pw c p).n:Nat))∧Kp [fb] W w'∧FOk w' fb)):=Hd fun p hp W h=>by rw[←hcN];exact zq3 c p fb W h (by omega)
   have HMUL:Hid (∀z:GF,∀W,FOk W fb→Calls Tryz.prog 48 #[.pointer (some ⟨fb,0,none⟩),.int .u8 (yN:Nat),.int .u8 (z.n:Nat)] W (fun e w'=>e=.returned (.int .u8 ((y*z).n:Nat))∧Kp [fb] W w'∧FOk w' fb)):=Hd fun z W h=>by rw[←hyN];exact zd3 y z fb W h
   have HBD:Hid (I*C+C≤200000):=Hd (by
    have:=Zai (show I+1≤256 by omega) hC2
    rw[Nat.succ_mul] at this;omega)
   have HVA:Hid (∀p,p<n→flat C (zgr X ys n) (I*C+p)=pw c p):=Hd fun p hp=>by rw[zab (by have:=HC.out;omega) _ _ _ (by have:=HC.out;omega),zgr,if_pos hp,hcd]
   have HVB:Hid (∀p,p<v→flat C (zgr X ys n) (I*C+(n+p))=y*pw c p):=Hd fun p hp=>by rw[zab (by have:=HC.out;omega) _ _ _ (by have:=HC.out;omega),zgr,if_neg (by omega),hcd,hyd,show n+p-n=p by omega]
   have HVR:Hid (zj2 X ys v I=y*pw c v):=Hd (by rw[zj2,hcd,hyd]);have cx0:=HCX.out wr HE.out.kp;have i1:(0:Int)≤(I:Int)∧(I:Int)<(L:Int):=by omega
   have i2:(0:Int)≤(I:Int)∧(I:Int)<(Y:Int):=by omega
   clear hc hcd hy hyd hcN hyN;go_wp2;clear cx0;go_loopg [37] n (fun gk s wr=>∃(P J:Nat) (av:Option Addr) (mv cv:Nat),P≤n∧gk=n-P∧s=.int .i64 P∧Hid (J=I*C+P)∧Hid (ExI fb w.heap.size (w.heap.size+1) (w.heap.size+1+1) k L C Y (some ⟨b1,o1,none⟩) cx (some ⟨b2,o2,none⟩) cy w (.slice av mv cv) (.slice ar mr cr) (rowF (flat C (zgr X ys n)) J) (rowF (zj2 X ys v) I) wr))
   case atStart=>exact⟨0,_,av,mv,cv,by omega,rfl,rfl,Hd rfl,HE⟩
   case round =>
    clear HE;obtain⟨P,J,av,mv,cv,hP,rfl,rfl,HJ,HE⟩:=hrel;by_cases hlt2:P<n
    ·have HVX:Hid (flat C (zgr X ys n) J=pw c P):=Hd (by rw[HJ.out];exact HVA.out P hlt2);have HJL:Hid ((rowF (flat C (zgr X ys n)) J).length≤1000000):=Hd (by rw[zaa,HJ.out];have:=HBD.out;have:=HC.out;omega);obtain⟨pN,hpN⟩:∃t,(pw c P).n=t:=⟨_,rfl⟩;have HPW:Hid (∀W,FOk W fb→Calls Tryz.prog 73 #[.pointer (some ⟨fb,0,none⟩),.int .u8 (cN:Nat),.int .i64 (P:Nat)] W (fun e w'=>e=.returned (.int .u8 (pN:Nat))∧Kp [fb] W w'∧FOk w' fb)):=Hd (by
      have:=HPOW.out P (by omega)
      rwa[hpN] at this)
     have HPN:=Hd hpN;have HED:=Hd HE.out.drew;have y0:=cOH HE.out.hA (j:=0) rfl;have m2:=cOH HE.out.hM (j:=2) rfl;have g1:=lOH HE.out.hA;have g2:=lOH HE.out.hM;obtain⟨kp,hkp⟩:∃kp:Nat→Bool,∀j,kp j=true↔j<w.heap.size+1∧j≠fb:=⟨fun j=>decide (j<w.heap.size+1∧j≠fb),by simp⟩;have k1:kp w.heap.size=true:=(hkp _).2 ⟨by omega,by omega⟩;have HKP:=Hd hkp;clear hkp hpN;go_upto_region 10 with fail
     have hgr:=hgK (fun j=>kp j=true);refine w_T (fun j=>kp j=true) [1,6,7,8,10] (.sq [0,2,3,4,5] (.fork 1 (.sq [6,7,8,9,10] .done) 6 (.fork 1 (.sq [7,8,9,10] .done) 7 (.sq [1,8,9,10] .done)))) (by kernel_rfl) (by kernel_rfl) ?_;simp only[TQ,Oper.slim,Nat.reduceBEq,Nat.reduceAdd]
     repeat' first|((with_reducible refine w_I ?_);first|(with_reducible refine w_D ?_)|(with_reducible refine zaf ?_ ?_)|(refine zai _ _ _ rfl rfl rfl rfl rfl hap (fun kk hkk=>HKE.out kk ((HKP.out kk).1 hkk).1 ((HKP.out kk).1 hkk).2) ?_)|((with_reducible refine w_S (fun K hK=>?_));go_simp;first|(refine hK _ _ ?_;clear hK K)|(refine⟨by (intro kk hkk;first|(simp (disch:=(simp;omega)) only[h_D,h_N,h_A,h_S];done)|(simp[h_D,h_N,h_I,hkk];done)|(have hkk2:=(HKP.out kk).1 hkk;first|exact HKC.out kk hkk2.1 hkk2.2|exact HKC4.out kk hkk2.1 hkk2.2|exact (h_A _ _ _ (by first|omega|(simp;omega))).trans (HKC.out kk hkk2.1 hkk2.2)|exact (h_S _ _ _ _ (by simp;omega)).trans (HKE.out kk hkk2.1 hkk2.2)|exact h_A _ _ _ (by first|omega|(simp;omega)))),hK _ _ ?_⟩;clear hK K)|(go_at_call 73;(with_reducible refine (HPW.out _ HED.out.ok).mono ?_);rintro e w5 ⟨rfl,hk5,hf5⟩;have he5:=HED.out.call HO.out hk5 hf5;obtain⟨a1,m1,c1,w6,hap,hm1,hke,he7⟩:=he5.push HO.out _ HPN.out HJL.out;have m25:=cOH he5.hM (j:=2) rfl;have m26:=cOH ((hke _ (by omega)).trans he5.hM) (j:=2) rfl;have z26:=fOH ((hke _ (by omega)).trans he5.hM) 2;have g25:=lOH he5.hM;have g26:=lOH ((hke _ (by omega)).trans he5.hM);have HKC:Hid (∀kk,kk<w.heap.size+1→kk≠fb→w5.heap[kk]? = wr.heap[kk]?):=Hd (fun kk h1 h2=>hk5.block kk (by have:=HE.out.sz;show kk<wr.heap.size;omega) (by simpa using h2));have HKE:Hid (∀kk,kk<w.heap.size+1→kk≠fb→w6.heap[kk]? = wr.heap[kk]?):=Hd (fun kk h1 h2=>(hke kk (by omega)).trans (HKC.out kk h1 h2));have HE7:=Hd he7;clear hk5 hf5 he5 hm1 hke he7;refine⟨_,rfl,(fun kk hkk=>HKC.out kk ((HKP.out kk).1 hkk).1 ((HKP.out kk).1 hkk).2),hK _ _ ?_⟩;clear hK K)))|fail
     all_goals clear hgr
     all_goals
      have HE8:Hid (ExI fb w.heap.size (w.heap.size+1) (w.heap.size+1+1) k L C Y (some ⟨b1,o1,none⟩) cx (some ⟨b2,o2,none⟩) cy w (.slice a1 m1 c1) (.slice ar mr cr) (rowF (flat C (zgr X ys n)) (J+1)) (rowF (zj2 X ys v) I) (w6.setCell ⟨w.heap.size+1,2,none⟩ (.slice a1 m1 c1))):=Hd (by rw[zbq,HVX.out];exact HE7.out);go_wp2;go_roundg (n-(P+1))
      case measure=>omega
      case rel=>exact⟨P+1,J+1,a1,m1,c1,by omega,rfl,by go_num,Hd (by rw[HJ.out];rfl),HE8⟩
    ·obtain rfl:P=n:=by omega
     go_wp2;go_loopg [52] v (fun gk s wr=>∃(P2 J:Nat) (av:Option Addr) (mv cv:Nat),P2≤v∧gk=v-P2∧s=.int .i64 P2∧Hid (J=I*C+(P+P2))∧Hid (ExI fb w.heap.size (w.heap.size+1) (w.heap.size+1+1) k L C Y (some ⟨b1,o1,none⟩) cx (some ⟨b2,o2,none⟩) cy w (.slice av mv cv) (.slice ar mr cr) (rowF (flat C (zgr X ys P)) J) (rowF (zj2 X ys v) I) wr))
     case atStart=>exact⟨0,_,av,mv,cv,by omega,rfl,rfl,HJ,HE⟩
     case round =>
      clear HE HJ;obtain⟨P2,J,av,mv,cv,hP2,rfl,rfl,HJ,HE⟩:=hrel;by_cases hlt3:P2<v
      ·have HVX:Hid (flat C (zgr X ys P) J=y*pw c P2):=Hd (by rw[HJ.out];exact HVB.out P2 hlt3);have HJL:Hid ((rowF (flat C (zgr X ys P)) J).length≤1000000):=Hd (by rw[zaa,HJ.out];have:=HBD.out;have:=HC.out;omega);obtain⟨pN,hpN⟩:∃t,(pw c P2).n=t:=⟨_,rfl⟩;obtain⟨qN,hqN⟩:∃t,(y*pw c P2).n=t:=⟨_,rfl⟩;have HPW:Hid (∀W,FOk W fb→Calls Tryz.prog 73 #[.pointer (some ⟨fb,0,none⟩),.int .u8 (cN:Nat),.int .i64 (P2:Nat)] W (fun e w'=>e=.returned (.int .u8 (pN:Nat))∧Kp [fb] W w'∧FOk w' fb)):=Hd (by
        have:=HPOW.out P2 (by omega)
        rwa[hpN] at this)
       have HMU:Hid (∀W,FOk W fb→Calls Tryz.prog 48 #[.pointer (some ⟨fb,0,none⟩),.int .u8 (yN:Nat),.int .u8 (pN:Nat)] W (fun e w'=>e=.returned (.int .u8 (qN:Nat))∧Kp [fb] W w'∧FOk w' fb)):=Hd (by
        have:=HMUL.out (pw c P2)
        rwa[hpN,hqN] at this)
       have HQN:=Hd hqN;have HED:=Hd HE.out.drew;have y0:=cOH HE.out.hA (j:=0) rfl;have y3:=cOH HE.out.hA (j:=3) rfl;have m2:=cOH HE.out.hM (j:=2) rfl;have cy0:=HCY.out wr HE.out.kp;have g1:=lOH HE.out.hA;have g2:=lOH HE.out.hM;obtain⟨kp,hkp⟩:∃kp:Nat→Bool,∀j,kp j=true↔j<w.heap.size+1∧j≠fb:=⟨fun j=>decide (j<w.heap.size+1∧j≠fb),by simp⟩;have k1:kp w.heap.size=true:=(hkp _).2 ⟨by omega,by omega⟩;have k2:kp b2=true:=(hkp _).2 ⟨by omega,by omega⟩;have HKP:=Hd hkp;clear hkp hpN hqN;go_upto_region 15 with fail
       have hgr:=hgK (fun j=>kp j=true);refine w_T (fun j=>kp j=true) [1,13,14,15,16,18] (.sq [0,2,3,4,5,6,7,8,9,10,11,12] (.fork 1 (.sq [13,14,15,16,17,18] .done) 13 (.fork 1 (.sq [14,15,16,17,18] .done) 14 (.fork 1 (.sq [15,16,17,18] .done) 15 (.sq [1,16,17,18] .done))))) (by kernel_rfl) (by kernel_rfl) ?_;simp only[TQ,Oper.slim,Nat.reduceBEq,Nat.reduceAdd]
       repeat' first|((with_reducible refine w_I ?_);first|(with_reducible refine w_D ?_)|(with_reducible refine zaf ?_ ?_)|(refine zai _ _ _ rfl rfl rfl rfl rfl hap (fun kk hkk=>HKE.out kk ((HKP.out kk).1 hkk).1 ((HKP.out kk).1 hkk).2) ?_)|((with_reducible refine w_S (fun K hK=>?_));go_simp;first|(refine hK _ _ ?_;clear hK K)|(refine⟨by (intro kk hkk;first|(simp (disch:=(simp;omega)) only[h_D,h_N,h_A,h_S];done)|(simp[h_D,h_N,h_I,hkk];done)|(have hkk2:=(HKP.out kk).1 hkk;first|exact HKC.out kk hkk2.1 hkk2.2|exact HKC4.out kk hkk2.1 hkk2.2|exact (h_A _ _ _ (by first|omega|(simp;omega))).trans (HKC.out kk hkk2.1 hkk2.2)|exact (h_S _ _ _ _ (by simp;omega)).trans (HKE.out kk hkk2.1 hkk2.2)|exact h_A _ _ _ (by first|omega|(simp;omega)))),hK _ _ ?_⟩;clear hK K)|(go_at_call 73;(with_reducible refine (HPW.out _ HED.out.ok).mono ?_);rintro e w4 ⟨rfl,hk4,hf4⟩;have he4:=HED.out.call HO.out hk4 hf4;have m24:=cOH he4.hM (j:=2) rfl;have g24:=lOH he4.hM;have HKC4:Hid (∀kk,kk<w.heap.size+1→kk≠fb→w4.heap[kk]? = wr.heap[kk]?):=Hd (fun kk h1 h2=>hk4.block kk (by have:=HE.out.sz;show kk<wr.heap.size;omega) (by simpa using h2));have HE4:=Hd he4;clear hk4 hf4 he4;refine⟨_,rfl,(fun kk hkk=>HKC4.out kk ((HKP.out kk).1 hkk).1 ((HKP.out kk).1 hkk).2),hK _ _ ?_⟩;clear hK K)|(go_at_call 48;(with_reducible refine (HMU.out _ HE4.out.ok).mono ?_);rintro e w5 ⟨rfl,hk5,hf5⟩;have he5:=HE4.out.call HO.out hk5 hf5;obtain⟨a1,m1,c1,w6,hap,hm1,hke,he7⟩:=he5.push HO.out _ HQN.out HJL.out;have m25:=cOH he5.hM (j:=2) rfl;have m26:=cOH ((hke _ (by omega)).trans he5.hM) (j:=2) rfl;have z26:=fOH ((hke _ (by omega)).trans he5.hM) 2;have g25:=lOH he5.hM;have g26:=lOH ((hke _ (by omega)).trans he5.hM);have HKC:Hid (∀kk,kk<w.heap.size+1→kk≠fb→w5.heap[kk]? = wr.heap[kk]?):=Hd (fun kk h1 h2=>(hk5.block kk (by have:=HE4.out.sz;omega) (by simpa using h2)).trans (HKC4.out kk h1 h2));have HKE:Hid (∀kk,kk<w.heap.size+1→kk≠fb→w6.heap[kk]? = wr.heap[kk]?):=Hd (fun kk h1 h2=>(hke kk (by omega)).trans (HKC.out kk h1 h2));have HE7:=Hd he7;clear hk5 hf5 he5 hm1 hke he7;refine⟨_,rfl,(fun kk hkk=>HKC.out kk ((HKP.out kk).1 hkk).1 ((HKP.out kk).1 hkk).2),hK _ _ ?_⟩;clear hK K)))|fail
       all_goals clear hgr
       all_goals
        have HE8:Hid (ExI fb w.heap.size (w.heap.size+1) (w.heap.size+1+1) k L C Y (some ⟨b1,o1,none⟩) cx (some ⟨b2,o2,none⟩) cy w (.slice a1 m1 c1) (.slice ar mr cr) (rowF (flat C (zgr X ys P)) (J+1)) (rowF (zj2 X ys v) I) (w6.setCell ⟨w.heap.size+1,2,none⟩ (.slice a1 m1 c1))):=Hd (by rw[zbq,HVX.out];exact HE7.out);go_wp2;go_roundg (v-(P2+1))
        case measure=>omega
        case rel=>exact⟨P2+1,J+1,a1,m1,c1,by omega,rfl,by go_num,Hd (by rw[HJ.out];rfl),HE8⟩
      ·obtain rfl:P2=v:=by omega
       have HJL:Hid ((rowF (zj2 X ys P2) I).length≤1000000):=Hd (by rw[zaa];omega);obtain⟨pN,hpN⟩:∃t,(pw c P2).n=t:=⟨_,rfl⟩;obtain⟨qN,hqN⟩:∃t,(y*pw c P2).n=t:=⟨_,rfl⟩;have HPW:Hid (∀W,FOk W fb→Calls Tryz.prog 73 #[.pointer (some ⟨fb,0,none⟩),.int .u8 (cN:Nat),.int .i64 (P2:Nat)] W (fun e w'=>e=.returned (.int .u8 (pN:Nat))∧Kp [fb] W w'∧FOk w' fb)):=Hd (by
        have:=HPOW.out P2 (by omega)
        rwa[hpN] at this)
       have HMU:Hid (∀W,FOk W fb→Calls Tryz.prog 48 #[.pointer (some ⟨fb,0,none⟩),.int .u8 (yN:Nat),.int .u8 (pN:Nat)] W (fun e w'=>e=.returned (.int .u8 (qN:Nat))∧Kp [fb] W w'∧FOk w' fb)):=Hd (by
        have:=HMUL.out (pw c P2)
        rwa[hpN,hqN] at this)
       have HQN:=Hd hqN;have HED:=Hd HE.out.drew;have y0:=cOH HE.out.hA (j:=0) rfl;have y3:=cOH HE.out.hA (j:=3) rfl;have m2:=cOH HE.out.hM (j:=2) rfl;have cy0:=HCY.out wr HE.out.kp;have g1:=lOH HE.out.hA;have g2:=lOH HE.out.hM;obtain⟨kp,hkp⟩:∃kp:Nat→Bool,∀j,kp j=true↔j<w.heap.size+1∧j≠fb:=⟨fun j=>decide (j<w.heap.size+1∧j≠fb),by simp⟩;have k1:kp w.heap.size=true:=(hkp _).2 ⟨by omega,by omega⟩;have k2:kp b2=true:=(hkp _).2 ⟨by omega,by omega⟩;have HKP:=Hd hkp;clear hkp hpN hqN;go_upto_region 17 with fail
       have hgr:=hgK (fun j=>kp j=true);refine w_T (fun j=>kp j=true) [12,13,14,15] (.sq [0,1,2,3,4,5,6,7,8,9,10,11,12,13,14,15,16] .done) (by kernel_rfl) (by kernel_rfl) ?_;simp only[TQ,Oper.slim,Nat.reduceBEq,Nat.reduceAdd]
       repeat' first|((with_reducible refine w_I ?_);first|(with_reducible refine w_D ?_)|(refine zai _ _ _ rfl rfl rfl rfl rfl hap (fun kk hkk=>HKE.out kk ((HKP.out kk).1 hkk).1 ((HKP.out kk).1 hkk).2) ?_)|((with_reducible refine w_S (fun K hK=>?_));go_simp;first|(refine hK _ _ ?_;clear hK K)|(refine⟨by (intro kk hkk;first|(simp (disch:=(simp;omega)) only[h_D,h_N,h_A,h_S];done)|(simp[h_D,h_N,h_I,hkk];done)|(have hkk2:=(HKP.out kk).1 hkk;first|exact HKC.out kk hkk2.1 hkk2.2|exact HKC4.out kk hkk2.1 hkk2.2|exact (h_A _ _ _ (by first|omega|(simp;omega))).trans (HKC.out kk hkk2.1 hkk2.2)|exact (h_S _ _ _ _ (by simp;omega)).trans (HKE.out kk hkk2.1 hkk2.2)|exact h_A _ _ _ (by first|omega|(simp;omega)))),hK _ _ ?_⟩;clear hK K)|(go_at_call 73;(with_reducible refine (HPW.out _ HED.out.ok).mono ?_);rintro e w4 ⟨rfl,hk4,hf4⟩;have he4:=HED.out.call HO.out hk4 hf4;have m24:=cOH he4.hM (j:=2) rfl;have g24:=lOH he4.hM;have HKC4:Hid (∀kk,kk<w.heap.size+1→kk≠fb→w4.heap[kk]? = wr.heap[kk]?):=Hd (fun kk h1 h2=>hk4.block kk (by have:=HE.out.sz;show kk<wr.heap.size;omega) (by simpa using h2));have HE4:=Hd he4;clear hk4 hf4 he4;refine⟨_,rfl,(fun kk hkk=>HKC4.out kk ((HKP.out kk).1 hkk).1 ((HKP.out kk).1 hkk).2),hK _ _ ?_⟩;clear hK K)|(go_at_call 48;(with_reducible refine (HMU.out _ HE4.out.ok).mono ?_);rintro e w5 ⟨rfl,hk5,hf5⟩;have he5:=HE4.out.call HO.out hk5 hf5;obtain⟨a1,m1,c1,w6,hap,hm1,hke,he7⟩:=he5.pushR HO.out _ HQN.out HJL.out;have g25:=lOH he5.hM;have HKC:Hid (∀kk,kk<w.heap.size+1→kk≠fb→w5.heap[kk]? = wr.heap[kk]?):=Hd (fun kk h1 h2=>(hk5.block kk (by have:=HE4.out.sz;omega) (by simpa using h2)).trans (HKC4.out kk h1 h2));have HKE:Hid (∀kk,kk<w.heap.size+1→kk≠fb→w6.heap[kk]? = wr.heap[kk]?):=Hd (fun kk h1 h2=>(hke kk (by omega)).trans (HKC.out kk h1 h2));have HE7:=Hd he7;clear hk5 hf5 he5 hm1 hke he7;refine⟨_,rfl,(fun kk hkk=>HKC.out kk ((HKP.out kk).1 hkk).1 ((HKP.out kk).1 hkk).2),hK _ _ ?_⟩;clear hK K)))|fail
       clear hgr
       all_goals
        have HE8:Hid (ExI fb w.heap.size (w.heap.size+1) (w.heap.size+1+1) k L C Y (some ⟨b1,o1,none⟩) cx (some ⟨b2,o2,none⟩) cy w (.slice av mv cv) (.slice a1 m1 c1) (rowF (flat C (zgr X ys P)) ((I+1)*C)) (rowF (zj2 X ys P2) (I+1)) w6):=Hd (by
         have h1:=HE7.out;rw[←HVR.out,←zbq,HJ.out,HC.out] at h1;rw[Nat.succ_mul];exact h1)
        go_wp2;go_roundg (L-(I+1))
        case measure=>omega
        case rel=>exact⟨a1,m1,c1,av,mv,cv,I+1,rfl,by omega,rfl,by go_num,HE8⟩
  ·obtain rfl:I=L:=by omega
   have hlv:=(GRd.len HE.out.ov.rd).1;have hlr:=(GRd.len HE.out.orr.rd).1;rw[zaa] at hlv hlr;obtain rfl:I=mr:=hlr;have hmv2:mv≤200000:=by
    have:=Zai hXl hC2
    omega
   have HSOL:=Hd (((zm7 fb I C 1 mv I av ar cv cr _ _ (zgr X ys n) (fun i _=>zj2 X ys v i) wr HE.out.ok HE.out.ov.rd HE.out.orr.rd hlv (Nat.mul_one _)
    (fun j hj=>zam _ (by omega))
    (fun j hj=>by
     rw[zam _ hj];have:=zab (by omega:0<1) (fun i (_:Nat)=>zj2 X ys v i) j 0 (by omega);simpa using this.symm) (by omega) (by have:=HC.out;have:=HN.out;omega) (by omega) (by omega) (by omega) (by omega) (by omega) (by omega)).mono fun e w' h=>zuh h))
   have a0:=cOH HE.out.hA (j:=0) rfl;have a2:=cOH HE.out.hA (j:=2) rfl;have m0:=cOH HE.out.hM (j:=0) rfl;have m1:=cOH HE.out.hM (j:=1) rfl;have m2:=cOH HE.out.hM (j:=2) rfl;clear hlv;go_wp2_with fail;refine HSOL.out.mono ?_;rintro e w7 ⟨p,q,sa,sn,sc,ec,rfl,hk7,hf7,hs7⟩;have HK7:=Hd (HE.out.kp.trans hk7);have HA7:=Hd (hk7.heap HE.out.hA (by simp;omega));have HF7:=Hd hf7;have hs37:=hk7.size;have hszE:=HE.out.sz;have gA7:=lOH HA7.out;clear a0 a2 m0 m1 m2 HSOL hk7 hf7;rcases hs7 with ⟨rfl,g,Xs,h2,h3,h4,h5⟩|⟨rfl,h6⟩
   ·obtain⟨rfl,rfl,rfl⟩:=(Value.slice.injEq ..).mp h2;have hC0:0<sc:=by have:=HC.out;have:=HN.out;omega
    have hnC:n≤sc:=by have:=HC.out;omega
    have HV7:=Hd h4;have HSYS:Hid (∀i,i<X.length→sm (k+v+v) (fun p=>zgr X ys (k+v) i p*Xs p)=zj2 X ys v i):=Hd fun i hi=>by
     have:=(zde _ _ _ _ _ _ i).1 (h5 i (by rw[←HLE.out];exact hi))
     rw[zm8 (by omega:0<1) (fun _=>zj2 X ys v i)] at this;rw[HN.out,HC.out];exact this
    have hsf:=zd0 g n sc hC0 hnC;obtain⟨so,hsb,hso⟩:=zr1 g n v sc hC0 HC.out;obtain⟨w8,hw8⟩:=zE5 (w7.alloc (.cells #[.int .i64 p,.int .i64 q,.slice (some ⟨g,0,none⟩) sc sc] 66));have hb78:Below w7.heap.size w7 w8:=by rw[hw8];exact (Zaa _ _).alloc (zE3 _) _
    have HBOX:Hid (w8.heap[w7.heap.size]? = some (.cells #[.int .i64 p,.int .i64 q,.slice (some ⟨g,0,none⟩) sc sc] 66 (0,0))):=Hd (by rw[hw8];exact nwA _ _);have HA8:=Hd (zad hb78 HA7.out);have HV8:=Hd (HV7.out.below hb78);have hs78:=hb78.size;obtain⟨c1,mE,aE,w10,hap,hb10,ho10,hm10⟩:=zz1 (W:=w8.drew) (g:=g) (so:=so) (v:=v) (r:=fun j=>Xs (n+j)) (fun j hj=>by
     rw[hso (by omega)];exact (HV8.out.2 (n+j) (by have:=HC.out;omega)).1) HV8.out.1 (by omega) 1 (nn:=1) rfl (ad:=w8.heap.size) rfl
    have hb810:Below w8.heap.size w8 w10:=((Zaa _ _).drew).trans (hb10.mono (zE3 _));have hb710:Below w7.heap.size w7 w10:=hb78.trans (hb810.mono hs78);have HB710:=Hd hb710;have HB810:=Hd hb810;have HDIV:Hid (Calls Tryz.prog 116 #[.pointer (some ⟨fb,0,none⟩),.slice (some ⟨g,0,none⟩) n sc,.slice aE mE c1] w10 (zrn fb (rowF Xs n) (eOf Xs n v) v w10)):=Hd (by
     have h1:=(HV7.out.below hb710).rd (o:=0) (m:=n) (cap:=sc) (by omega) hnC;have e1:((List.range n).map fun j=>Xs (0+j))=rowF Xs n:=by simp[rowF]
     rw[e1] at h1;refine zyl fb _ _ _ _ v w10 (HF7.out.below hb710) h1 ho10.rd (zg5 _ _ _) ?_ (by rw[zaa];omega) (by omega);have:(eOf Xs n v).getD v 0=1:=by rw[eOf,zE2,Zch (by rw[zaa];exact zE3 _),zaa];simp
     rw[this];exact zed)
    have HW8:=Hd hw8;have HKE:Hid (∀kk,kk<w8.heap.size→kk≠fb→w10.heap[kk]? = w8.heap[kk]?):=Hd fun kk h1 _=>hb810.block kk h1;have gA8:=lOH HA8.out;have gB8:=lOH HBOX.out;have y0:=cOH HA8.out (j:=0) rfl;have y1:=cOH HA8.out (j:=1) rfl;have b2:=cOH HBOX.out (j:=2) rfl;obtain⟨kp,hkp⟩:∃kp:Nat→Bool,∀j,kp j=true↔j<w8.heap.size∧j≠fb:=⟨fun j=>decide (j<w8.heap.size∧j≠fb),by simp⟩;have k1:kp w.heap.size=true:=(hkp _).2 ⟨gA8,by omega⟩;have k2:kp w7.heap.size=true:=(hkp _).2 ⟨gB8,by omega⟩;have HKP:=Hd hkp;have hsc2:sc≤768:=by omega
    have j1:(0:Int)≤(n:Int)∧(n:Int)≤(sc:Int):=by omega
    clear hkp hw8 hb78 hb10 ho10 hm10 hb810 hb710 h2 h3 h4 h5;go_upto_region 22 with fail
    rw[←HW8.out];have hgr:=hgK (fun j=>kp j=true);refine w_T (fun j=>kp j=true) [16,17,18] (.sq [0,1,2,3,4,5,6,7,8,9,10,11,12,13,14,15,16,17,18,19,20,21,22,23,24,25] .done) (by kernel_rfl) (by kernel_rfl) ?_;simp only[TQ,Oper.slim,Nat.reduceBEq,Nat.reduceAdd]
    repeat' first|((with_reducible refine w_I ?_);first|(with_reducible refine w_D ?_)|(refine zai _ _ _ rfl rfl rfl rfl rfl hap (fun kk hkk=>HKE.out kk ((HKP.out kk).1 hkk).1 ((HKP.out kk).1 hkk).2) ?_)|((with_reducible refine w_S (fun K hK=>?_));go_simp;first|(refine hK _ _ ?_;clear hK K)|(refine⟨by (intro kk hkk;first|(simp (disch:=(simp;omega)) only[h_D,h_N,h_A,h_S];done)|(simp[h_D,h_N,h_I,hkk];done)|(have hkk2:=(HKP.out kk).1 hkk;first|exact HKC.out kk hkk2.1 hkk2.2|exact HKC4.out kk hkk2.1 hkk2.2|exact (h_A _ _ _ (by first|omega|(simp;omega))).trans (HKC.out kk hkk2.1 hkk2.2)|exact (h_S _ _ _ _ (by simp;omega)).trans (HKE.out kk hkk2.1 hkk2.2)|exact h_A _ _ _ (by first|omega|(simp;omega)))),hK _ _ ?_⟩;clear hK K)|(go_at_call 116;(with_reducible refine HDIV.out.mono ?_);rintro e w11 ⟨u,v',Qp,Rp,rfl,hoq,hor,htq,htr,hev,hrl,hql,hk11,hf11⟩;obtain⟨au,cu,rfl,-⟩:=hoq.form;obtain⟨avr,cvr,rfl,-⟩:=hor.form;have HOQ:=Hd hoq;have HTR:=Hd htr;have HEV:=Hd hev;have HRL:=Hd hrl;have HQL:=Hd hql;have HK11:=Hd hk11;have HF11:=Hd hf11;clear hoq hor htq htr hev hrl hql hk11 hf11;refine⟨_,rfl,(fun kk hkk=>(HK11.out.block kk (Zaf ((HKP.out kk).1 hkk).1 HB810.out.size) (by simpa using ((HKP.out kk).1 hkk).2)).trans (HKE.out kk ((HKP.out kk).1 hkk).1 ((HKP.out kk).1 hkk).2)),hK _ _ ?_⟩;clear hK K)))|fail
    clear hgr
    all_goals
     have hqk:Qp.length≤k:=by have h1:=HQL.out;rw[zaa] at h1;have:=HN.out;omega
     have HDT:Hid (∀m0:List GF,m0.length=k→(wrI X ys m0).length=v→k+2*v≤X.length→Rp=[]∧zcf Qp k=m0):=Hd fun m0 hm hv hk=>by have h1:=HEV.out;have h2:=HN.out;rw[←h2] at h1;exact zw3 HND.out hm hv hk HSYS.out h1 HRL.out HTR.out hqk
     have HK12:Hid (Kp [fb] w w11):=Hd ((HK7.out.below_step HB710.out).trans HK11.out);have y1:=cOH (HK11.out.heap (zad HB810.out HA8.out) (by simp;omega)) (j:=1) rfl;obtain⟨rl,hrl⟩:=zE4 Rp.length;obtain⟨ql,hql⟩:=zE4 Qp.length;have HRLE:=Hd hrl;have HQLE:=Hd hql;rw[hql] at hqk;have HOQ2:=HOQ;rw[hql] at HOQ2;rw[hrl,hql];have hs10:=HB710.out.size;have hsQ:=HK11.out.size;clear hrl hql b2 y0 hap;by_cases hr0:rl=0
     ·subst hr0;have hqk':¬(k:Int)<(ql:Int):=by omega
      obtain⟨Z,hZ⟩:=zE4 (k-ql);have z1:(k:Int)-(ql:Int)=(Z:Int):=by omega
      have z2:=zE6 (Z:Int) (by omega);obtain⟨v1,w12,hapz,ho12,hk12,hb12⟩:=zof (W:=w11) HOQ2.out (by rw[HQLE.out];omega) hsQ Z (by omega);have hpad:Qp++List.replicate Z 0=zcf Qp k:=by unfold zcf;rw[HQLE.out,hZ]
      rw[hpad] at ho12;have hVB:∀y,y∈(Value.slice au ql cu).ownBlock.toList→w10.heap.size≤y:=fun y hy=>(HOQ2.out.lt y (by simpa using hy)).1;have HFIN:Hid (zxp fb k v X ys w (.returned (.tuple #[v1,.bool true])) w12):=Hd
       ⟨HK12.out.step hk12 (fun y hy=>.inr (by have:=hVB y hy;omega)),HF11.out.kp hk12 (fun hm=>by have:=hVB _ hm;omega),.inr ⟨v1,_,rfl,zce _ (by rw[HQLE.out];exact hqk),ho12.mono (by omega),fun m0 h1 h2 h3=>(HDT.out m0 h1 h2 h3).2⟩⟩
      clear hZ ho12 hk12 hb12 hpad hVB;go_wp2_with (at_builtin;refine Lib.wpList_append_run _ rfl _ _ _ _ rfl _ _ rfl rfl _ _ hapz ?_);go_ret2;exact HFIN.out
     ·have hr1:(0:Int)<(rl:Int):=by omega
      have HFIN:Hid (zxp fb k v X ys w (.returned (.tuple #[.slice none 0 0,.bool false])) w11):=Hd
       ⟨HK12.out,HF11.out,.inl ⟨rfl,fun m0 h1 h2 h3=>by
        have:=(HDT.out m0 h1 h2 h3).1
        have h4:=HRLE.out;rw[this] at h4;exact hr0 h4.symm⟩⟩
      clear hr0;go_wp2;go_ret2;exact HFIN.out
   ·have HNO:Hid (∀m0:List GF,m0.length=k→(wrI X ys m0).length=v→k+2*v≤X.length→False):=Hd fun m0 hm hv hk=>by
     have hN:=HN.out;have hCC:=HC.out;rw[←HLE.out] at h6;subst hN;subst hCC;rcases h6 with ⟨x,⟨c,hc,hne⟩,hz⟩|h
     ·exact hne (ybd HND.out hm hv hk hz c hc)
     ·obtain⟨s,hs⟩:=yag HND.out hm hv hk;refine h s fun i hi=>(zde _ _ _ _ _ _ i).2 ?_;rw[zm8 (by omega:0<1) (fun _=>zj2 X ys v i)];exact hs i hi
    have hb78:Below w7.heap.size w7 (w7.alloc (.cells #[.int .i64 p,.int .i64 q,.slice sa sn sc] 66)):=(Zaa _ _).alloc (zE3 _) _;have HFIN:=Hd (Zao (HK7.out.below_step hb78) (HF7.out.below hb78));clear h6 hb78;go_wp2;go_ret2;exact⟨HFIN.out.1,HFIN.out.2,.inl ⟨rfl,HNO.out⟩⟩
structure yab (fb A0 k:Nat) (yv:Value) (w:World) (V:Value) (a:List GF) (W:World):Prop where
 hA:W.heap[A0]? = some (.cells #[.pointer (some ⟨fb,0,none⟩),.int .i64 k,V,yv] 149 (0,0))
 ov:zao W (A0+1) V a
 bel:Below w.heap.size w W
 sz:A0+1≤W.heap.size
theorem yab.drew {fb A0 k:Nat} {yv:Value} {w W:World} {V:Value} {a:List GF} (h:yab fb A0 k yv w V a W):yab fb A0 k yv w V a W.drew:=⟨h.hA,h.ov,h.bel.drew,h.sz⟩
theorem yab.push {fb A0 k:Nat} {yv:Value} {w W:World} {V:Value} {a:List GF} (h:yab fb A0 k yv w V a W) (ho:w.heap.size≤A0) (x:GF) {n:Nat} (hn:x.n=n) (hl:a.length≤1000000) :
  ∃a1 m1 c1 w6,(Builtin.append_ #[22,22] 22 #[V,.slice (some ⟨W.heap.size,0,none⟩) 1 1]).run Tryz.prog (W.alloc (.cells #[.int .u8 (n:Int)] 5))=.ok (.slice a1 m1 c1) w6 ∧
   (∀kk,kk<A0+1→w6.heap[kk]? = W.heap[kk]?)∧yab fb A0 k yv w (.slice a1 m1 c1) (a++[x]) (w6.setCell ⟨A0,2,none⟩ (.slice a1 m1 c1)):=by
 obtain⟨v1,w6,hap,ho6,hk6,hb6,hat⟩:=zcb x h.ov hl h.sz hn (ad:=W.heap.size) rfl;obtain⟨a1,c1,rfl,-⟩:=ho6.form;have hk7:Kp [A0] w6 (w6.setCell ⟨A0,2,none⟩ (.slice a1 (a++[x]).length c1)):=(Kp.refl _ _).setCell (.inl (by simp)) _;have hbw:w.heap.size≤W.heap.size:=h.bel.size;refine⟨a1,(a++[x]).length,c1,w6,hap,fun kk hkk=>hb6.block kk hkk,?_,ho6.kp hk7 (fun c hc hm=>by have:=(ho6.lt c hc).1;simp at hm;omega),?_,?_⟩
 ·have:=hSS ((hb6.block A0 (by omega)).trans h.hA) 2 (.slice a1 (a++[x]).length c1)
  simpa using this
 ·exact (h.bel.trans (hb6.mono (by omega))).trans (hk7.below (by have:=hb6.size;omega) (by simp;omega))
 ·have h1:=hk7.size;have h2:=hb6.size;have:=h.sz;omega
theorem yfc {fb k:Nat} {xs ys:List GF} {ps:List Int} {w w1:World} {e:Ending} (h:zxr fb xs k ps ys w e w1) :
  ∃va ec,e=.returned (.tuple #[va,.int .i64 ec])∧((ec=2∧¬(zbc xs.length ps∧ps.length=ys.length))∨((ec == 1)=false∧(ec == 2)=false)∧zbc xs.length ps∧ps.length=ys.length):=by
 obtain⟨-,-,⟨h1,rfl⟩|⟨⟨h1,h2⟩,⟨-,rfl⟩|⟨-,⟨g,m,rfl,-⟩|⟨rfl,-⟩⟩⟩⟩:=h
 ·exact⟨_,2,rfl,.inl ⟨rfl,fun h=>h1 h.2 h.1⟩⟩
 ·exact⟨_,70,rfl,.inr ⟨by decide,h2,h1⟩⟩
 ·exact⟨_,0,rfl,.inr ⟨by decide,h2,h1⟩⟩
 ·exact⟨_,71,rfl,.inr ⟨by decide,h2,h1⟩⟩
def zz6 (fb:Nat) (xs:List GF) (k:Nat) (ps:List Int) (ys:List GF) (t:Int) (w:World) (e:Ending) (w':World):Prop:=Kp [fb] w w'∧FOk w' fb∧zoh w.heap.size xs k ps ys t e w'
theorem zp1 (w:World) (cb fb k:Nat) (v pv yv:Value) (xs:List GF) (ps:List Int) (ys:List GF) (t:Int) (h:zbw w cb fb k v xs) (hn:xs.Nodup) (hk0:0<k) (hkn:k≤xs.length) (hxl:xs.length≤256)
  (hp:IRd w pv ps) (hy:GRd w yv ys) (hpa:ps=[]∨za0 pv [fb]) (hya:ys=[]∨za0 yv [fb]) (hpl:ps.length≤256) (hyl:ys.length≤1000000000) (ht:-9223372036854775808≤t∧t≤9223372036854775807) :
  Calls Tryz.prog 53 #[.pointer (some ⟨cb,0,none⟩),pv,yv,.int .i64 t] w (zz6 fb xs k ps ys t w):=by
 have HDEC:=Hd (ztb w cb fb k v pv yv xs ps ys h hn hk0 hkn hxl hp hy hpa hya hpl hyl);obtain⟨ay,cy,rfl,hcy⟩:=hy.form;obtain⟨ap,cp,rfl⟩:=hp.form;have hcw:=lOH h.box;have hfw:=h.ok.lt;have HC:=Hd h;have HP:=Hd hp;have HY:=Hd hy;have HPA:=Hd hpa;have HYA:=Hd hya;have HND:=Hd hn;obtain⟨Q,hQ⟩:=zE4 ps.length;obtain⟨N,hN⟩:=zE4 xs.length;obtain⟨Y,hY⟩:=zE4 ys.length;have HQ:=Hd hQ;have HNN:=Hd hN;have HYY:=Hd hY;rw[hQ] at HDEC HP HPA hpl ⊢;rw[hN] at hxl hkn;rw[hY] at HDEC HY HYA hyl ⊢;clear h hp hy hpa hya hn hcy hQ hN hY;have hnil:∀(W:World) (a:Option Addr) (n c:Nat),(binOp .eql 22 (.slice a n c) (.slice none 0 0)).run Tryz.prog W=.ok (.bool a.isNone) W:=fun W a n c=>Lib.run_eql_slice_nil W _ _ a n c 0 0 Tryz.underlying22;go_enter Tryz.func53,Tryz.ntmps53;go_wp2;go_step3;go_wp2_with fail;refine HDEC.out.mono ?_;intro e w1 hpost;have hk1:=hpost.1;have hf1:=hpost.2.1;obtain⟨va,ec,rfl,hcs⟩:=yfc hpost;have HK1:=Hd hk1;have HF1:=Hd hf1;clear hk1 hf1 hpost HDEC;rcases hcs with ⟨rfl,hbad⟩|⟨⟨hec1,hec2⟩,hgd⟩
 ·have HBAD:=Hd hbad;clear hbad;go_wp2;rw[Exit.noGoto_ret];go_ret3;exact⟨HK1.out,HF1.out,.inl ⟨.inl HBAD.out,rfl⟩⟩
 have HGD:=Hd hgd;obtain rfl:Q=Y:=by rw[←HQ.out,←HYY.out];exact hgd.2
 clear hgd;by_cases ht0:t<0
 ·go_wp2;rw[Exit.noGoto_ret];go_ret3;exact⟨HK1.out,HF1.out,.inl ⟨.inr ht0,rfl⟩⟩
 obtain⟨T,rfl⟩:∃T:Nat,t=(T:Int):=⟨t.toNat,by omega⟩;have HGA:Hid ((zbc xs.length ps∧ps.length=ys.length)∧(0:Int)≤(T:Int)):=Hd ⟨HGD.out,by omega⟩;by_cases hf:(Q:Int)<(T:Int)
 ·go_wp2;rw[Exit.noGoto_ret];go_ret3;exact⟨HK1.out,HF1.out,.inr ⟨HGA.out,.inl ⟨by rw[HQ.out];omega,rfl⟩⟩⟩
 obtain⟨T2,hT2⟩:=zE4 (2*T);obtain⟨U,hU⟩:=zE4 (k+T2);have x1:(2:Int)*(T:Int)=(T2:Int):=by omega
 have x2:=zE6 (T2:Int) (by omega);have x3:(k:Int)+(T2:Int)=(U:Int):=by omega
 have x4:=zE6 (U:Int) (by omega);have HC1:=Hd (HC.out.step HK1.out HF1.out);have HKK:=Hd (zoc w1 cb fb k v xs HC1.out);by_cases hfew:Q<U
 ·have hfew':(Q:Int)<(U:Int):=by omega
  have HF:Hid (((ps.length:Nat):Int)<(k:Int)+2*(T:Int)):=Hd (by rw[HQ.out];omega);clear hfew hT2 hU;go_wp2_with fail;refine HKK.out.mono ?_;rintro e w' ⟨rfl,rfl⟩;go_wp2;rw[Exit.noGoto_ret];go_ret3;exact⟨HK1.out,HF1.out,.inr ⟨HGA.out,.inl ⟨HF.out,rfl⟩⟩⟩
 have hfew':¬(Q:Int)<(U:Int):=by omega
 have HFW:Hid (k+2*T≤Q):=Hd (by omega);have hkQ:k≤Q:=by omega
 have hTQ:T≤Q:=by omega
 have HFZ:Hid ((k:Int)+2*(T:Int)≤((ps.length:Nat):Int)):=Hd (by rw[HQ.out];omega);have HPT:=Hd (zxa w1 cb fb k v xs HC1.out (by rw[HNN.out];omega));have hd1:decide (Q<T)=false:=by simp;omega
 have hd2:decide (Q<U)=false:=by simp;omega
 have hd3:decide (T<0)=false:=by simp
 have hs1:=HK1.out.size;clear hfew hT2 hU ht;go_wp2_with fail;refine HKK.out.mono ?_;rintro e w' ⟨rfl,rfl⟩;go_wp2_with fail;refine HPT.out.mono ?_;rintro e w2 ⟨v2,rfl,ho2,hb2⟩;obtain⟨gp,capp,rfl,hgp1,hgp2,hgv⟩:=ho2.view (fun e=>by have:=HNN.out;rw[e] at this;simp at this;omega);rw[HNN.out] at hgv hgp2 ⊢;have HB2:=Hd hb2;have HGV:=Hd hgv;have HC2:=Hd (HC1.out.below hb2);have HKF:=Hd (zxb w2 cb fb k v xs HC2.out);have HKK2:=Hd (zoc w2 cb fb k v xs HC2.out);have hs2:=hb2.size;clear ho2 hb2 hgv HKK HPT;go_wp2_with fail;refine HKF.out.mono ?_;rintro e w' ⟨rfl,rfl⟩;go_wp2_with fail;refine HKK2.out.mono ?_;rintro e w' ⟨rfl,rfl⟩;clear HKF HKK2;go_wp2;have HK2:Hid (Kp [fb] w w2):=Hd (HK1.out.below_step HB2.out);obtain⟨f,hfe⟩:∃f:Nat→GF,f=fun i=>xs.getD (ps.getD i 0).toNat 0:=⟨_,rfl⟩;have HFE:=Hd hfe;have HA0:Hid (yab fb w2.heap.size k (.slice ay Q cy) w2 (.slice none 0 0) (rowF f 0) (w2.alloc (.cells #[.pointer (some ⟨fb,0,none⟩),.int .i64 k,.slice none 0 0,.slice ay Q cy] 149))):=Hd
  ⟨nwA _ _,zao.nil _ _,(Zaa _ _).alloc (zE3 _) _,by simp⟩
 clear hfe x1 x2 x3 x4 hfew' hf ht0 hec1 hec2 hd1 hd2 hd3;go_loopg [65] Q (fun gk i wr=>∃(av:Option Addr) (mv cv I:Nat),I≤Q∧gk=Q-I∧i=.int .i64 I∧Hid (yab fb w2.heap.size k (.slice ay Q cy) w2 (.slice av mv cv) (rowF f I) wr))
 case atStart=>exact⟨none,0,0,0,by omega,rfl,rfl,HA0⟩
 case round =>
  clear HA0;obtain⟨av,mv,cv,I,hI,rfl,rfl,HA⟩:=hrel;have hsz:=HA.out.sz;by_cases hlt:I<Q
  ·obtain⟨x,hx⟩:∃x,ps[I]? = some x:=⟨_,zE1 (by rw[HQ.out];exact hlt)⟩;have hxr:=HGD.out.1.1 x (Zad hx);obtain⟨p,rfl⟩:∃p:Nat,x=(p:Int):=⟨x.toNat,by omega⟩;rw[HNN.out] at hxr;have hpN:p<N:=by omega
   have hpa2:za0 (.slice ap Q cp) [fb]:=by
    rcases HPA.out with e|e
    ·rw[e] at hx;cases hx
    ·exact e
   have hpr:=IRd.kp HP.out (HK2.out.below_step HA.out.bel) hpa2;obtain⟨-,-,b0,o0,rfl,hb0,-⟩:=IRd.cell HP.out hx;have c0:=IRd.cells hpr I p hx;have cg:=((HGV.out.below HA.out.bel).2 p hpN).1;obtain⟨z,hz⟩:=zE4 ((xs.getD p 0).n);rw[hz] at cg;have hfz:f I=xs.getD p 0:=by rw[HFE.out];show xs.getD (ps.getD I 0).toNat 0=_;rw[zE2 (l:=ps),hx];rfl
   have hzf:(f I).n=z:=by rw[hfz,hz]
   have y2:=cOH HA.out.hA (j:=2) rfl;have z2:=fOH HA.out.hA 2;have g2:=lOH HA.out.hA;obtain⟨a1,m1,c1,w6,hap,hke,ha6⟩:=HA.out.drew.push (zE3 _) (f I) hzf (by rw[zaa];omega);have m26:=cOH ((hke _ (by omega)).trans HA.out.hA) (j:=2) rfl;have z26:=fOH ((hke _ (by omega)).trans HA.out.hA) 2;have g26:=lOH ((hke _ (by omega)).trans HA.out.hA);have HKE:Hid (∀kk,kk<w2.heap.size→w6.heap[kk]? = wr.heap[kk]?):=Hd fun kk hkk=>hke kk (by omega);have HA6:Hid (yab fb w2.heap.size k (.slice ay Q cy) w2 (.slice a1 m1 c1) (rowF f (I+1)) (w6.setCell ⟨w2.heap.size,2,none⟩ (.slice a1 m1 c1))):=Hd (by rw[zbq];exact ha6);obtain⟨kp,hkp⟩:∃kp:Nat→Bool,∀j,kp j=true↔j<w2.heap.size:=⟨fun j=>decide (j<w2.heap.size),by simp⟩;have k1:kp b0=true:=(hkp _).2 (by omega);have k2:kp gp=true:=(hkp _).2 HGV.out.1;have HKP:=Hd hkp;have i1:(0:Int)≤(I:Int)∧(I:Int)<(Q:Int):=by omega
   have i2:(0:Int)≤(p:Int)∧(p:Int)<(N:Int):=by omega
   clear hkp hke ha6 hx hxr hpr hz hfz hzf;go_upto_region 13 with fail
   have hgr:=hgK (fun j=>kp j=true);refine w_T (fun j=>kp j=true) [1,6,7,9] (.sq [0,2,3,4,5] (.fork 1 (.sq [6,7,8,9] .done) 6 (.sq [1,7,8,9] .done))) (by kernel_rfl) (by kernel_rfl) ?_;simp only[TQ,Oper.slim,Nat.reduceBEq,Nat.reduceAdd]
   repeat' first|((with_reducible refine w_I ?_);first|(with_reducible refine w_D ?_)|(with_reducible refine zaf ?_ ?_)|(refine zai _ _ _ rfl rfl rfl rfl rfl hap (fun kk hkk=>HKE.out kk ((HKP.out kk).1 hkk)) ?_)|((with_reducible refine w_S (fun K hK=>?_));go_simp;first|(refine hK _ _ ?_;clear hK K)|(refine⟨by (intro kk hkk;first|(simp (disch:=(simp;omega)) only[h_D,h_N,h_A,h_S];done)|(simp[h_D,h_N,h_I,hkk];done)|(have hkk2:=(HKP.out kk).1 hkk;first|exact (h_A _ _ _ (by first|omega|(simp;omega)))|exact (h_S _ _ _ _ (by simp;omega)).trans (HKE.out kk hkk2))),hK _ _ ?_⟩;clear hK K)))|fail
   all_goals clear hgr
   all_goals
    go_wp2;go_roundg (Q-(I+1))
    case measure=>omega
    case rel=>exact⟨a1,m1,c1,I+1,by omega,rfl,by go_num,HA6⟩
  ·obtain rfl:I=Q:=by omega
   obtain⟨w3,rfl⟩:=zE5 (wr:World);have hfX:rowF f I=zcj xs ps:=by rw[HFE.out,←HQ.out];exact ydt xs ps
   rw[hfX] at HA;have hlv:=(GRd.len HA.out.ov.rd).1;rw[zci,HQ.out] at hlv;obtain rfl:I=mv:=hlv;have hXN:=zdn HND.out HGD.out.1;obtain⟨X,hX⟩:=zE4 (zcj xs ps);have HXE:=Hd hX;have HXL:Hid (X.length=I):=Hd (by rw[←hX,zci,HQ.out]);rw[hX] at HA hXN;have HXN:=Hd hXN;have HK3:Hid (Kp [fb] w w3):=Hd (HK2.out.below_step HA.out.bel);have HC3:=Hd (HC2.out.below HA.out.bel);have HXA:Hid (za0 (.slice av I cv) [fb]):=Hd fun c hc hm=>by
    have:=(HA.out.ov.lt c hc).1
    simp at hm;omega
   have HPA2:Hid (za0 (.slice ap I cp) [fb]):=Hd (by
    rcases HPA.out with e|e
    ·have:=HQ.out
     rw[e] at this;simp at this;omega
    ·exact e)
   have HYA2:Hid (za0 (.slice ay I cy) [fb]):=Hd (by
    rcases HYA.out with e|e
    ·have:=HYY.out
     rw[e] at this;simp at this;omega
    ·exact e)
   obtain⟨T1,hT1⟩:=zE4 (T+1);have x5:(T:Int)+1=(T1:Int):=by omega
   have x6:=zE6 (T1:Int) (by omega);have HT1:=Hd hT1;have hs3:=HK3.out.size;clear hfX hX hXN hlt hI hT1;go_wp2;go_step3;go_wp2;clear x5 x6;go_loopg [8,9,81] T1 (fun gk p q i wr=>∃J:Nat,p=.slice none 0 0∧q=.slice none 0 0∧J≤T1∧gk=T1-J∧i=.int .i64 J∧Hid (Kp [fb] w3 wr)∧Hid (FOk wr fb)∧Hid (∀m0:List GF,m0.length=k→(wrI X ys m0).length<J→False))
   case atStart=>exact⟨0,rfl,rfl,by omega,rfl,rfl,Hd (Kp.refl _ _),Hd HC3.out.ok,Hd (fun m0 _ h=>by omega)⟩
   case round =>
    obtain⟨J,rfl,rfl,hJ,rfl,rfl,HKR,HFR,HT⟩:=hrel;have hsr:=HKR.out.size;by_cases hlt2:J<T1
    ·have hJT:J≤T:=by have:=HT1.out;omega
     have hA4:=HKR.out.heap HA.out.hA (by simp;omega);have a0:=cOH hA4 (j:=0) rfl;have a1:=cOH hA4 (j:=1) rfl;have a2:=cOH hA4 (j:=2) rfl;have a3:=cOH hA4 (j:=3) rfl;have HEX:=Hd (zpn fb k J (.slice av I cv) (.slice ay I cy) X ys wr HFR.out (HA.out.ov.rd.kp HKR.out HXA.out) ((HY.out.kp HK3.out HYA2.out).kp HKR.out HYA2.out) HXA.out HYA2.out hk0 (by rw[HXL.out];omega) (by rw[HXL.out,HYY.out];exact zE3 _) (by rw[HXL.out];omega) (by omega) (by omega) HXN.out);clear hA4;go_wp2_with fail;refine HEX.out.mono ?_;rintro e w5 ⟨hk5,hf5,h5⟩;have HK5:=Hd (HKR.out.trans hk5);have HF5:=Hd hf5;have hs5:=hk5.size;clear a0 a1 a2 a3 hk5 hf5 HEX;rcases h5 with ⟨rfl,hno⟩|⟨u,m,rfl,hml,hou,hm0⟩
     ·have HT5:Hid (∀m0:List GF,m0.length=k→(wrI X ys m0).length<J+1→False):=Hd fun m0 h1 h2=>by
       by_cases e:(wrI X ys m0).length=J
       ·exact hno m0 h1 e (by rw[HXL.out];have:=HFW.out;omega)
       ·exact HT.out m0 h1 (by omega)
      clear hno;go_wp2;go_roundg (T1-(J+1))
      case measure=>omega
      case rel=>exact⟨J+1,rfl,rfl,by omega,rfl,by go_num,HK5,HF5,HT5⟩
     ·obtain⟨gu,cu,rfl,hgu,hcu,hguv⟩:=hou.view (fun e=>by rw[e] at hml;simp at hml;omega);have HENC:=Hd (zs8 w5 cb fb v (.slice (some ⟨gu,0,none⟩) m.length cu) xs m (by rw[hml];exact HC3.out.step HK5.out HF5.out) hou.rd (fun c hc hm=>by have:=(hou.lt c hc).1;simp at hm;omega) (by rw[HNN.out];omega) (by rw[HNN.out];omega) (by omega));have HOU:=Hd hou;have HML:=Hd hml;have HM0:=Hd hm0;rw[hml] at HENC HOU ⊢;clear hou hml hm0 hgu hcu hguv;go_wp2_with fail;refine HENC.out.mono ?_;rintro e w6 ⟨g,rfl,hg6,hv6,hk6,hf6⟩;rw[HNN.out] at hv6 ⊢;have hGW:GRd w6 (.slice (some ⟨g,0,none⟩) N N) (xs.map (ev m)):=zag.list (hv6.congr fun i hi=>(zqz m (by rw[HNN.out];exact hi)).symm) (by rw[Zag,HNN.out]) (zE3 _);have HK6:Hid (Kp [fb] w3 w6):=Hd (HK5.out.trans hk6);have HF6:=Hd hf6;have hKW:=HK3.out.trans HK6.out;have HDIF:=Hd (zs9 (.slice (some ⟨g,0,none⟩) N N) (.slice ap I cp) (.slice ay I cy) (xs.map (ev m)) ys ps w6 hGW (IRd.kp HP.out hKW HPA2.out) (HY.out.kp hKW HYA2.out) (by rw[Zag];exact HGD.out.1.1) (by rw[HQ.out,HYY.out];exact zE3 _) (by rw[HQ.out];omega));have HOU6:=Hd (HOU.out.kp hk6 (fun c hc hm=>by have:=(HOU.out.lt c hc).1;simp at hm;omega));have hs6:=hk6.size;clear hGW hv6 hk6 hf6 hKW HENC HOU hg6;go_wp2_with fail;refine HDIF.out.mono ?_;rintro e w7 ⟨v7,rfl,hr7,hb7⟩;rw[zzq ys m HGD.out.1.1] at hr7;have hr8:RdZ w7 w6.heap.size v7 (wrS xs ps ys m):=hr7;obtain⟨a7,c7,rfl⟩:=hr8.rd.form;obtain⟨L,hL⟩:=zE4 ((wrS xs ps ys m).length);have HL:=Hd hL;have HR8:Hid (RdZ w7 w6.heap.size (.slice a7 L c7) (wrS xs ps ys m)):=Hd (by rw[←hL];exact hr8);rw[hL];have HK7:Hid (Kp [fb] w3 w7):=Hd (HK6.out.below_step hb7);have HF7:=Hd (HF6.out.below hb7);have HOU7:=Hd (zao.below HOU6.out hb7);clear hr7 hr8 hL hb7 HDIF;by_cases hLT:L≤T
      ·have hLT':(L:Int)≤(T:Int):=by omega
       have HLT:=Hd hLT;clear hLT;go_wp2;rw[Exit.noGoto_ret];go_ret3;exact⟨HK3.out.trans HK7.out,HF7.out,.inr ⟨HGA.out,.inr ⟨HFZ.out,.inl ⟨m,_,_,rfl,⟨HML.out,by rw[HL.out,Zam];exact HLT.out⟩,HOU7.out.mono (by omega),HR8.out.mono (by omega)⟩⟩⟩⟩
      ·have hLT':¬(L:Int)≤(T:Int):=by omega
       have HT5:Hid (∀m0:List GF,m0.length=k→(wrI X ys m0).length<J+1→False):=Hd fun m0 h1 h2=>by
        by_cases e:(wrI X ys m0).length=J
        ·have e2:=HM0.out m0 h1 e (by rw[HXL.out];have:=HFW.out;omega);have e3:=zif xs ps ys m;rw[HL.out,HXE.out,e2,e] at e3;omega
        ·exact HT.out m0 h1 (by omega)
       clear hLT;go_wp2;go_roundg (T1-(J+1))
       case measure=>omega
       case rel=>exact⟨J+1,rfl,rfl,by omega,rfl,by go_num,HK7,HF7,HT5⟩
    ·obtain rfl:J=T1:=by omega
     go_wp2;rw[Exit.noGoto_ret];go_ret3;refine⟨HK3.out.trans HKR.out,HFR.out,.inr ⟨HGA.out,.inr ⟨HFZ.out,.inr ⟨rfl,?_⟩⟩⟩⟩;rw[Zam];intro m hm hle;rw[zif,HXE.out] at hle;exact HT.out m hm (by have:=HT1.out;omega)
end Go.Proofs.YtcclhhjcejmepaaGreat
