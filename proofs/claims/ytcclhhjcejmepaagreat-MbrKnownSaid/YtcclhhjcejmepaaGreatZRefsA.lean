import Derived.Test.YtcclhhjcejmepaaGreatZPlains
set_option linter.all false
set_option maxRecDepth 100000
set_option maxHeartbeats 4000000
namespace Go.Proofs.YtcclhhjcejmepaaGreat
open Go.RowKit
theorem zu4 (M j:Nat) (h1:8≤j) (h2:j≤14):zkp M (14-(j-1))=if (zkp M (14-j)).testBit j then zkp M (14-j) ^^^ (285*2 ^ (j-8)) else zkp M (14-j):=by rw[show 14-(j-1)=(14-j)+1 by omega,zkp,show 14-(14-j)=j by omega,show 6-(14-j)=j-8 by omega]
theorem zg1 (a b:Nat) (w:World) (ha:a<256) (hb:b<256) :
  Calls Tryz.prog 49 #[.int .u8 a,.int .u8 b] w fun e w'=>e=.returned (.int .u8 (zb9 a b:Nat))∧w=w':=by
 go_enter Tryz.func49,Tryz.ntmps49;go_wp2;go_loop [5,6] (fun n i=>∃k:Nat,k≤8∧i=.int .i64 k∧n=.int .i64 (mulA a b k:Nat)) (fun _ i=>8-(intOf i).toNat)
 case atStart=>exact⟨0,by omega,rfl,rfl⟩
 case round =>
  obtain⟨k,hk,rfl,rfl⟩:=hrel;have hm:=zvq (b:=b) ha k;have hm2:(2:Nat) ^ (8+k)≤2 ^ 16:=Nat.pow_le_pow_right (by omega) (by omega);have hm3:mulA a b k<65536:=by omega
  clear hm hm2;by_cases hlt:k<8
  ·have hbit:=ydh b k hb;have hp:a*2 ^ k<65536:=by
    have h1:(2:Nat) ^ k≤2 ^ 7:=Nat.pow_le_pow_right (by omega) (by omega);have:=Zai (Nat.le_of_lt_succ ha) h1;omega
   have hw:wrap64 ((a:Int)*2 ^ k)=((a*2 ^ k:Nat):Int):=by rw[show ((a:Int)*2 ^ k)=((a*2 ^ k:Nat):Int) by simp];exact IntWalk.wrap64_in _ (by omega)
   have hx:=zfl (mulA a b k) (a*2 ^ k) (by omega) (by omega);have HX:Hid (bits .xor .i64 ((mulA a b k:Nat):Int) (wrap64 ((a:Int)*2 ^ k))=((mulA a b k ^^^ (a*2 ^ k):Nat):Int)):=by rw[hw];exact hx
   clear hw hx hp;cases ht:b.testBit k
   all_goals
    rw[ht] at hbit;have HT:=Hd ht;clear ht;go_wp2;go_round
    case rel=>exact⟨k+1,by omega,by go_num,by first|rw[HX.out,mulA,if_pos HT.out]|rw[mulA,HT.out,if_neg (by simp)]⟩
    case measure=>simp[intOf];omega
  ·obtain rfl:k=8:=by omega
   go_wp2;go_loop [5,7] (fun n i=>∃j:Nat,7≤j∧j≤14∧i=.int .i64 j∧n=.int .i64 (zkp (mulA a b 8) (14-j):Nat)) (fun _ i=>(intOf i).toNat)
   case atStart=>exact⟨14,by omega,by omega,rfl,rfl⟩
   case round =>
    obtain⟨j,hj,hj2,rfl,rfl⟩:=hrel;have hr:=zu5 hm3 (14-j) (by omega);obtain⟨m,hm⟩:=zE5 (zkp (mulA a b 8) (14-j));rw[←hm] at hr ⊢;by_cases h8:8≤j
    ·have hbit:=ycg m j hr;have HB:=Hd hm;clear hm;have hw:wrap64 (285*2 ^ (j-8))=((285*2 ^ (j-8):Nat):Int):=by
      rw[show ((285:Int)*2 ^ (j-8))=((285*2 ^ (j-8):Nat):Int) by simp];have h1:(2:Nat) ^ (j-8)≤2 ^ 6:=Nat.pow_le_pow_right (by omega) (by omega);exact IntWalk.wrap64_in _ (by omega)
     have hp:285*2 ^ (j-8)<65536:=by have h1:(2:Nat) ^ (j-8)≤2 ^ 6:=Nat.pow_le_pow_right (by omega) (by omega);omega
     have HX:Hid (bits .xor .i64 (m:Int) (wrap64 (285*2 ^ (j-8)))=((m ^^^ (285*2 ^ (j-8)):Nat):Int)):=by rw[hw];exact zfl m _ (by omega) (by omega)
     clear hw hp;cases ht:m.testBit j
     all_goals
      rw[ht] at hbit;have HT:=Hd ht;clear ht;go_wp2;go_round
      case rel=>exact⟨j-1,by omega,by omega,by rw[show ((j-1:Nat):Int)=(j:Int)-1 by omega],by rw[zu4 _ _ h8 hj2,←HB.out];first|rw[HX.out,if_pos HT.out]|rw[HT.out,if_neg (by simp)]⟩
      case measure=>simp[intOf];omega
    ·obtain rfl:j=7:=by omega
     have hg:zb9 a b=m % 256:=by rw[zb9,hm]
     have HG:=Hd hg;clear hm hg;go_wp2;go_ret;exact⟨by rw[HG.out];simp,rfl⟩
open Fld
theorem zkn (a b:GF) (w:World):Calls Tryz.prog 49 #[.int .u8 (a.n:Nat),.int .u8 (b.n:Nat)] w fun e w'=>e=.returned (.int .u8 ((a*b).n:Nat))∧w=w' :=
 zg1 a.n b.n w a.lt b.lt
theorem ycj {l:List GF} {i:Nat} {c:GF} (h:l[i]? = some c):l.getD i 0=c:=by rw[zE2,h];rfl
theorem zbt {l:List GF} {i:Nat} (h:i<l.length):∃c,l[i]? = some c∧l.getD i 0=c:=⟨_,zE1 h,ycj (zE1 h)⟩
theorem zu6 (v:Value) (l:List GF) (x:GF) (w:World) (h:GRd w v l) (hl:l.length≤1000000000) :
  Calls Tryz.prog 98 #[v,.int .u8 (x.n:Nat)] w fun e w'=>e=.returned (.int .u8 ((ev l x).n:Nat))∧w=w':=by
 obtain⟨a,cap,rfl,hcap⟩:=h.form;obtain⟨L,hL⟩:=zE4 l.length;have H:=Hd h;have HL:=Hd hL;rw[hL] at hl ⊢;obtain⟨xn,hxn⟩:∃t,x.n=t:=⟨_,rfl⟩;rw[hxn];have HXN:=Hd hxn;clear h hL hcap hxn;go_enter Tryz.func98,Tryz.ntmps98;go_wp2;go_loopg [5,6,7] L (fun gk y p i wr=>∃(J:Nat) (yv pv:GF),J≤L∧gk=L-J∧i=.int .i64 J∧y=.int .u8 (yv.n:Nat)∧p=.int .u8 (pv.n:Nat)∧Hid (yv=ev (l.take J) x∧pv=pw x J)∧w=wr)
 case atStart=>exact⟨0,0,1,by omega,rfl,rfl,rfl,rfl,Hd ⟨by simp[ev],rfl⟩,rfl⟩
 case round =>
  obtain⟨J,yv,pv,hJ,rfl,rfl,rfl,rfl,HYP,rfl⟩:=hrel;by_cases hlt:J<L
  ·obtain⟨c,hc,hd⟩:=zbt (l:=l) (i:=J) (by rw[HL.out];exact hlt);have hat:=H.out;rw[HL.out] at hat;obtain⟨b,o,rfl,hb,cx⟩:=hat.at hc;have HM1:=Hd (fun W=>zkn c pv W);have HM2:=Hd (fun W=>zkn pv x W);have hxo:=GF.u8_xor yv (c*pv);have HN:Hid (yv+c*pv=ev (l.take (J+1)) x∧pv*x=pw x (J+1)):=Hd (by
    obtain⟨h1,h2⟩:=HYP.out;refine⟨?_,by rw[h2];rfl⟩;rw[zt7 l (by rw[HL.out];exact hlt),←h1,hd,h2,mulC c])
   obtain⟨cn,hcn⟩:∃t,c.n=t:=⟨_,rfl⟩;obtain⟨mn,hmn⟩:∃t,(c*pv).n=t:=⟨_,rfl⟩;obtain⟨qn,hqn⟩:∃t,(pv*x).n=t:=⟨_,rfl⟩;obtain⟨pn,hpn⟩:∃t,pv.n=t:=⟨_,rfl⟩;obtain⟨yn,hyn⟩:∃t,yv.n=t:=⟨_,rfl⟩;obtain⟨sn,hsn⟩:∃t,(yv+c*pv).n=t:=⟨_,rfl⟩;rw[hcn] at cx HM1;rw[hmn] at HM1 hxo;rw[hqn] at HM2;rw[hpn] at HM1 HM2 ⊢;rw[HXN.out] at HM2;rw[hyn] at hxo ⊢;rw[hsn] at hxo;have HQ:=Hd (Zao hqn hsn);clear hat hc hd hcn hmn hqn hpn hyn hsn;go_wp2_with fail;refine (HM1.out _).mono ?_;rintro e w1 ⟨rfl,rfl⟩;go_wp2_with fail;refine (HM2.out _).mono ?_;rintro e w1 ⟨rfl,rfl⟩;go_wp2;go_roundg (L-(J+1))
   case measure=>omega
   case rel=>exact⟨J+1,yv+c*pv,pv*x,by omega,rfl,by go_num,by rw[HQ.out.2],by rw[HQ.out.1],HN,rfl⟩
  ·obtain rfl:J=L:=by omega
   have hy:yv=ev l x:=by
    have:=HYP.out.1
    rwa[Zca (by rw[HL.out];exact zE3 _)] at this
   have HY:=Hd hy;clear hy;go_wp2;go_ret;exact⟨by rw[HY.out];rfl,rfl⟩
theorem zs6 {a b:GF} (h:a*b=1):a≠0∧b=Fld.inv a:=by have ha:a≠0:=fun e=>zed (F:=GF) (by rw[←h,e,zmul]);exact⟨ha,zku ha (by rw[h,zsz a ha])⟩
def gfn (n:Nat):GF:=⟨n % 256,Zck _ (by omega)⟩
theorem zqj (a:GF) (w:World) :
  Calls Tryz.prog 118 #[.int .u8 (a.n:Nat)] w fun e w'=>e=.returned (.tuple #[.int .u8 ((Fld.inv a).n:Nat),.bool (decide (a≠0))])∧w=w':=by
 go_enter Tryz.func118,Tryz.ntmps118;go_wp2;go_loopg [4] 255 (fun gk i wr=>∃J:Nat,1≤J∧J≤256∧gk=256-J∧i=.int .i64 J∧Hid (∀j,j<J→a*gfn j≠1)∧w=wr)
 case atStart=>exact⟨1,by omega,by omega,rfl,rfl,Hd (fun j hj e=>by
  obtain rfl:j=0:=by omega
  exact zed (F:=GF) (by rw[←e];exact mzero a)),rfl⟩
 case round =>
  obtain⟨J,hJ1,hJ,rfl,rfl,HNO,rfl⟩:=hrel;by_cases hlt:J<256
  ·have hmod:J % 256=J:=Zbl hlt;have hgn:(gfn J).n=J:=hmod;have HM:Hid (∀W,Calls Tryz.prog 49 #[.int .u8 (a.n:Nat),.int .u8 (J:Nat)] W fun e w'=>e=.returned (.int .u8 ((a*gfn J).n:Nat))∧W=w'):=Hd fun W=>by
    have:=zkn a (gfn J) W
    rwa[hgn] at this
   have hwr:IntKind.u8.wrap (J:Int)=(J:Int):=by
    have:((J:Int) % 256)=J:=by omega
    first|exact this|(unfold IntKind.wrap;simp;omega)
   by_cases h1:a*gfn J=1
   ·obtain⟨ha,hi⟩:=zs6 h1;have hm1:(a*gfn J).n=1:=by rw[h1];rfl
    have hin:(Fld.inv a).n=J:=by rw[←hi,hgn]
    rw[hm1] at HM;have HIN:=Hd (Zao hin ha);clear hm1 hin h1 ha hi hgn hmod;go_wp2_with fail;refine (HM.out _).mono ?_;rintro e w1 ⟨rfl,rfl⟩;go_wp2;go_ret2;exact⟨by rw[HIN.out.1,decide_eq_true HIN.out.2];rfl,rfl⟩
   ·obtain⟨m,hm⟩:∃t,(a*gfn J).n=t:=⟨_,rfl⟩;have hm1:¬(m:Int)=1:=fun e=>h1 (GF.ext' (by rw[hm,GF.n_one];omega));have HNO2:Hid (∀j,j<J+1→a*gfn j≠1):=Hd fun j hj=>by
     by_cases e:j=J
     ·rw[e];exact h1
     ·exact HNO.out j (by omega)
    rw[hm] at HM;clear hm h1 hgn hmod;go_wp2_with fail;refine (HM.out _).mono ?_;rintro e w1 ⟨rfl,rfl⟩;go_wp2;go_roundg (256-(J+1))
    case measure=>omega
    case rel=>exact⟨J+1,by omega,by omega,rfl,by go_num,HNO2,rfl⟩
  ·obtain rfl:J=256:=by omega
   have ha:a=0:=by refine Decidable.byContradiction fun ha=>HNO.out (Fld.inv a).n (Fld.inv a).lt ?_;rw[show gfn (Fld.inv a).n=Fld.inv a from GF.ext' (Zbl (Fld.inv a).lt)];exact zsz a ha
   have HA:=Hd ha;clear ha;go_wp2;go_ret2;exact⟨by rw[show decide (a≠0)=false from by simp[HA.out],HA.out,zmd];rfl,rfl⟩
theorem zyf (a b:GF) (w:World) :
  Calls Tryz.prog 97 #[.int .u8 (a.n:Nat),.int .u8 (b.n:Nat)] w fun e w'=>e=.returned (.tuple #[.int .u8 ((a*Fld.inv b).n:Nat),.bool (decide (b≠0))])∧w=w':=by
 have HI:=Hd (fun W=>zqj b W);have HM:=Hd (fun W=>zkn a (Fld.inv b) W);by_cases hb:b=0
 ·have hz:(a*Fld.inv b).n=0:=by rw[hb,zmd,mzero];rfl
  rw[hz];rw[show decide (b≠0)=false from by simp[hb]] at HI ⊢;clear hz hb;go_enter Tryz.func97,Tryz.ntmps97;go_wp2_with fail;refine (HI.out _).mono ?_;rintro e w1 ⟨rfl,rfl⟩;go_wp2;go_ret2;exact⟨rfl,rfl⟩
 ·rw[show decide (b≠0)=true from by simp[hb]] at HI ⊢;clear hb;go_enter Tryz.func97,Tryz.ntmps97;go_wp2_with fail;refine (HI.out _).mono ?_;rintro e w1 ⟨rfl,rfl⟩;go_wp2_with fail;refine (HM.out _).mono ?_;rintro e w1 ⟨rfl,rfl⟩;go_wp2;go_ret2;exact⟨rfl,rfl⟩
theorem zcw:∀w,(sizeOf (Tryz.prog.elem 22)).run Tryz.prog w=.ok 1 w:=by
 have:Tryz.prog.elem 22=5:=by kernel_rfl
 rw[this];obtain⟨i0,hi,hz0,hz1,hz2⟩:=info_parts zbi;intro w;simp[sizeOf,typeInfo,hi,hz1]
theorem zoy (a:Option Addr) (n cap J:Nat) (hJ:J≤cap):∃sa sc,(∀W,(Instr.slice 22 (.slice a n cap) none (some (.int .i64 (J:Nat))) none).run Tryz.prog W=.ok (.slice sa J sc) W) ∧
  (∀W l,GRd W (.slice a n cap) l→J≤l.length→GRd W (.slice sa J sc) (l.take J))∧(a≠none→sa≠none):=by
 refine⟨if cap=0 then a else a.map (·.add (0*1)),cap-0,fun W=>?_,fun W l h hJl=>?_,?_⟩
 ·rw[run_slice_h (P:=Tryz.prog) (w:=W) 22 a n cap (by kernel_rfl) .i64 (J:Int) (by omega) (by omega),zcw];simp only[Result.andThen_ok,sliced,Zam];rfl
 ·obtain⟨hl,a',cap',h1,h2,h3⟩:=h;obtain⟨rfl,rfl,rfl⟩:=(Value.slice.injEq ..).mp h1;rw[Zag] at h2 h3;refine⟨fun x hx=>?_,_,_,by rw[Zag,Zan,Zbn hJl],by rw[Zag,Zan,Zbn hJl];omega,fun hne=>?_⟩
  ·obtain⟨y,_,rfl⟩:=Zau.1 hx;exact y.lt
  ·have hJ0:0<J:=Nat.pos_of_ne_zero fun e=>hne (by rw[e];rfl);obtain⟨b,o,rfl,h5,h6⟩:=h3 (fun e=>by
    have:=congrArg List.length e
    simp at this;rw[this] at hJl;simp at hJl;omega)
   refine⟨b,o,?_,h5,fun i hi=>?_⟩
   ·rw[if_neg (by omega)];simp[Addr.add]
   ·rw[Zag,Zan,Zbn hJl] at hi;rw[h6 i (by omega),zE2,zE2,Zae,Zae,List.getElem?_take,if_pos hi]
 ·intro ha;cases a with
  | none=>exact absurd rfl ha
  | some A=>split<;>simp
theorem zul (a:Option Addr) (n cap k:Nat) (hk:k≤n) (hn:n≤cap):∃sa sc,(∀W,(Instr.slice 22 (.slice a n cap) (some (.int .i64 (k:Nat))) none none).run Tryz.prog W=.ok (.slice sa (n-k) sc) W) ∧
  (∀W l,GRd W (.slice a n cap) l→GRd W (.slice sa (n-k) sc) (l.drop k))∧(a≠none→sa≠none):=by
 refine⟨if cap=k then a else a.map (·.add (k*1)),cap-k,fun W=>?_,fun W l h=>?_,?_⟩
 ·rw[run_slice_l (P:=Tryz.prog) (w:=W) 22 a n cap (by kernel_rfl) .i64 (k:Int) (by omega) (by omega),zcw];simp only[Result.andThen_ok,sliced,Zam]
 ·obtain⟨hl,a',cap',h1,h2,h3⟩:=h;obtain⟨rfl,rfl,rfl⟩:=(Value.slice.injEq ..).mp h1;rw[Zag] at h2 h3 hk hn ⊢;refine⟨fun x hx=>?_,_,_,by rw[Zag,List.length_drop],by rw[Zag,List.length_drop];omega,fun hne=>?_⟩
  ·obtain⟨y,_,rfl⟩:=Zau.1 hx;exact y.lt
  ·have hk0:k<l.length:=Nat.lt_of_not_le fun e=>hne (by rw[List.drop_eq_nil_of_le e];rfl);obtain⟨b,o,rfl,h5,h6⟩:=h3 (fun e=>by
    have:=congrArg List.length e
    simp at this;rw[this] at hk0;simp at hk0)
   refine⟨b,o+k,?_,h5,fun i hi=>?_⟩
   ·rw[if_neg (by omega)];simp only[Zbv,Nat.mul_one,Option.some.injEq];unfold Addr.add;split<;>simp_all
   ·rw[Zag,List.length_drop] at hi;have:=h6 (k+i) (by omega);rw[show o+(k+i)=o+k+i by omega] at this;rw[this,zE2,zE2,Zae,Zae,List.getElem?_drop]
 ·intro ha;cases a with
  | none=>exact absurd rfl ha
  | some A=>split<;>simp
theorem zrh {W:World} {base:Nat} {V:Value} {l m:List GF} {A:Addr} {n cap:Nat} (h:zao W base V l) (hs:GRd W (.slice (some A) n cap) m) (hl:l.length≤1000000000) (hm:m.length≤1000000000) (hb:base≤W.heap.size) :
  ∃v1 w3,(Builtin.append_ #[22,22] 22 #[V,.slice (some A) n cap]).run Tryz.prog W=.ok v1 w3∧zao w3 base v1 (l++m)∧Kp V.ownBlock.toList W w3∧Below base W w3:=by
 obtain⟨i0,hi,hz0,hz1,hz2⟩:=info_parts zbi;obtain⟨v1,w3,hap,hown1,hgrow1,-⟩:=run_append_own_at (P:=Tryz.prog) (w:=W) base 22 22 5 i0 (.int .u8 0) 1 1 Tryz.underlying22 hi hz0 hz1 hz2 rfl (by decide) V l.length _ h A m.length cap (gv m) (by rw[zji];omega) (by
  obtain⟨a',c',e,_⟩:=hs.form;exact hs.news) zwp (by unfold maxLen;omega) (by omega) hb
 obtain⟨a',c',e,_⟩:=hs.form;cases e;refine⟨v1,w3,hap,?_,zy7 hgrow1,(Zaa base W).grown hgrow1 hb (fun b hb=>(h.lt b hb).1)⟩;unfold zao;rw[znv,Zak];exact hown1
theorem GRd.nil_of {w:World} {n cap:Nat} {l:List GF} (h:GRd w (.slice none n cap) l):l=[]:=by refine Classical.byContradiction fun hne=>?_;obtain⟨x,hx⟩:∃x,l[0]? = some x:=⟨_,zE1 (List.length_pos_iff.2 hne)⟩;obtain⟨b,o,e,_⟩:=h.at hx;cases e
theorem zpw {W:World} {m:List GF} {a:Option Addr} {n cap:Nat} (hs:GRd W (.slice a n cap) m) (hm:m.length≤1000000000) :
  ∃v1 w3,(Builtin.append_ #[22,22] 22 #[.slice none 0 0,.slice a n cap]).run Tryz.prog W=.ok v1 w3∧zao w3 W.heap.size v1 m∧Below W.heap.size W w3:=by
 cases a with
 | none =>
  obtain rfl:=hs.nil_of;obtain⟨a',c',e,_⟩:=hs.form;cases e;obtain⟨i0,hi,hz0,hz1,hz2⟩:=info_parts zbi;refine⟨.slice none 0 0,W,?_,zao.nil _ _,Zaa _ _⟩;simp[Builtin.append_,run_underlying Tryz.underlying22,sizeOf,typeInfo,hi,Builtin.lenOf,Builtin.firstCells,loadCells,loadCellsFrom]
 | some A =>
  obtain⟨v1,w3,h1,h2,-,h3⟩:=zrh (zao.nil W W.heap.size) hs (by simp) hm (zE3 _);exact⟨v1,w3,h1,by simpa using h2,h3⟩
def zok (l:List GF) (w:World) (e:Ending) (w':World):Prop :=
 ∃v p,e=.returned v∧zda l p∧zao w' w.heap.size v p∧Below w.heap.size w w'
theorem zuv (v:Value) (l:List GF) (w:World) (h:GRd w v l) (hl:l.length≤1000000) :
  Calls Tryz.prog 119 #[v] w (zok l w):=by
 obtain⟨a,cap,rfl,hcap⟩:=h.form;obtain⟨L,hL⟩:=zE4 l.length;have HL:=Hd hL;rw[hL] at hl hcap h ⊢;have H:=Hd h;clear h hL;go_enter Tryz.func119,Tryz.ntmps119;go_wp2;go_loopg [3] L (fun gk n wr=>∃(J:Nat),J≤L∧J=gk∧n=.int .i64 J∧Hid (∀j,J≤j→l.getD j 0=0)∧w=wr)
 case atStart=>exact⟨L,by omega,rfl,rfl,Hd (fun j hj=>by rw[zE2,Zbm (by rw[HL.out];exact hj)];rfl),rfl⟩
 case round =>
  obtain⟨J,hJ,rfl,rfl,HZ,rfl⟩:=hrel;have hfin:∀(hT:J=0∨l.getD (J-1) 0≠0),∃sa sc v1 w3,(∀W,(Instr.slice 22 (.slice a L cap) none (some (.int .i64 (J:Nat))) none).run Tryz.prog W=.ok (.slice sa J sc) W) ∧
    (Builtin.append_ #[22,22] 22 #[.slice none 0 0,.slice sa J sc]).run Tryz.prog w=.ok v1 w3∧zok l w (.returned v1) w3:=fun hT=>by
   obtain⟨sa,sc,h1,h2,-⟩:=zoy a L cap J (by omega);obtain⟨v1,w3,h3,h4,h5⟩:=zpw (h2 w l H.out (by rw[HL.out];exact hJ)) (by rw[Zan];omega);exact⟨sa,sc,v1,w3,h1,h3,v1,_,rfl,⟨J,by rw[HL.out];exact hJ,rfl,zkg (by rw[HL.out];exact hJ) hT,HZ.out⟩,h4,h5⟩
  by_cases h0:J=0
  ·obtain⟨sa,sc,v1,w3,hsl,hap,hpost⟩:=hfin (.inl h0);have HP:=Hd hpost;have h0':¬(0:Int)<(J:Int):=by omega
   clear hfin hpost h0;go_wp2_with (at_builtin;refine zae rfl _ _ _ rfl rfl rfl hap ?_);go_ret;exact HP.out
  ·obtain⟨I,hIJ⟩:∃I,I+1=J:=⟨J-1,by omega⟩;obtain⟨c,hc,hd⟩:=zbt (l:=l) (i:=I) (by rw[HL.out];omega);obtain⟨b,o,rfl,hb,cx⟩:=H.out.at hc;have hw:wrap64 ((J:Int)-1)=(I:Int):=by
    rw[show ((J:Int)-1)=(I:Int) by omega];exact IntWalk.wrap64_in _ (by omega)
   have h0':(0:Int)<(J:Int):=by omega
   have q1:(0:Int)≤(I:Int)∧(I:Int)<(L:Int):=by omega
   have HIJ:=Hd hIJ;by_cases hc0:c.n=0
   ·have HZ2:Hid (∀j,I≤j→l.getD j 0=0):=Hd fun j hj=>by
     by_cases e:j=I
     ·rw[e,hd];exact GF.eq0.2 hc0
     ·exact HZ.out j (by omega)
    rw[hc0,show I=J-1 by omega] at cx;clear hfin hc hd hc0 h0 hIJ;go_wp2;go_roundg I
    case measure=>have:=HIJ.out;omega
    case rel=>exact⟨I,by have:=HIJ.out;omega,rfl,by have:=HIJ.out;first|go_num|(congr 1;omega),HZ2,rfl⟩
   ·obtain⟨sa,sc,v1,w3,hsl,hap,hpost⟩:=hfin (.inr (by rw[show J-1=I by omega,hd];exact GF.ne0.2 hc0));have HP:=Hd hpost;have hc0':¬(c.n:Int)=0:=by omega
    rw[show I=J-1 by omega] at cx;clear hfin hpost hc hd h0 hIJ hc0;go_wp2_with (at_builtin;refine zae rfl _ _ _ rfl rfl rfl hap ?_);go_ret;exact HP.out
def zrl (l m:List GF) (w:World) (e:Ending) (w':World):Prop :=
 ∃v p,e=.returned v∧zao w' w.heap.size v p∧zfp p∧(∀x,ev p x=ev l x+ev m x)∧p.length≤max l.length m.length∧Below w.heap.size w w'
theorem znx {l:List GF} {i:Nat} (h:l.length≤i):l.getD i 0=0:=by rw[zE2,Zbm h];rfl
theorem zql (u v:Value) (l m:List GF) (w:World) (hu:GRd w u l) (hv:GRd w v m) (hl:l.length≤100000) (hm:m.length≤100000) :
  Calls Tryz.prog 99 #[u,v] w (zrl l m w):=by
 obtain⟨a,cap,rfl,hcap⟩:=hu.form;obtain⟨b,capb,rfl,hcapb⟩:=hv.form;obtain⟨L,hL⟩:=zE4 l.length;obtain⟨M,hM⟩:=zE4 m.length;have HL:=Hd hL;have HM:=Hd hM;rw[hL] at hl hcap hu ⊢;rw[hM] at hm hcapb hv ⊢;have HU:=Hd hu;have HV:=Hd hv;obtain⟨T,hT⟩:=zE4 (max L M);have HT:=Hd hT;have hT1:L≤T∧M≤T∧(T=L∨T=M):=by omega
 clear hu hv hL hM hT;go_enter Tryz.func99,Tryz.ntmps99;go_wp2;go_loopg [5,6] T (fun gk y i wr=>∃(V:Value) (J:Nat),V=y∧J≤T∧gk=T-J∧i=.int .i64 J∧Hid (zao wr w.heap.size V (rowF (yaf l m) J))∧Hid (Below w.heap.size w wr))
 case atStart=>exact⟨_,0,rfl,by omega,rfl,rfl,Hd (zao.nil _ _),Hd (Zaa _ _)⟩
 case round =>
  obtain⟨V,J,rfl,hJ,rfl,rfl,HO,HB⟩:=hrel;have hs:=HB.out.size;by_cases hlt:J<T
  ·by_cases h1:J<L
   ·obtain⟨c,hc,hd⟩:=zbt (l:=l) (i:=J) (by rw[HL.out];omega);obtain⟨b1,o1,rfl,hb1,cx⟩:=(HU.out.below HB.out).at hc;by_cases h2:J<M
    ·obtain⟨c2,hc2,hd2⟩:=zbt (l:=m) (i:=J) (by rw[HM.out];omega);obtain⟨b2,o2,rfl,hb2,cx2⟩:=(HV.out.below HB.out).at hc2;have hxo:=GF.u8_xor c c2;obtain⟨s,hs2⟩:∃t,(c+c2).n=t:=⟨_,rfl⟩;have hs1:(yaf l m J).n=s:=by rw[yaf,hd,hd2,hs2]
     obtain⟨cn,hcn⟩:∃t,c.n=t:=⟨_,rfl⟩;obtain⟨dn,hdn⟩:∃t,c2.n=t:=⟨_,rfl⟩;rw[hcn] at cx hxo;rw[hdn] at cx2 hxo;rw[hs2] at hxo;clear hc hc2 hd hd2 hcn hdn hs2;obtain⟨v1,w6,hap,ho1,-,hb6,-⟩:=zjo (W:=wr) HO.out (by omega) (by omega) hs1 (ad:=wr.heap.size) rfl;have HO6:=Hd ho1;have HB6:=Hd (HB.out.trans hb6);clear ho1 hb6 hs1;go_wp2_with (at_builtin;refine zae rfl _ _ _ rfl rfl rfl hap ?_);go_roundg (T-(J+1))
     case measure=>omega
     case rel=>exact⟨v1,J+1,rfl,by omega,rfl,by go_num,HO6,HB6⟩
    ·have h2':¬(J:Int)<(M:Int):=by omega
     obtain⟨s,hs2⟩:∃t,c.n=t:=⟨_,rfl⟩;have hs1:(yaf l m J).n=s:=by rw[yaf,hd,znx (l:=m) (by rw[HM.out];omega),addz,hs2]
     rw[hs2] at cx;clear hc hd hs2;obtain⟨v1,w6,hap,ho1,-,hb6,-⟩:=zjo (W:=wr) HO.out (by omega) (by omega) hs1 (ad:=wr.heap.size) rfl;have HO6:=Hd ho1;have HB6:=Hd (HB.out.trans hb6);clear ho1 hb6 hs1;go_wp2_with (at_builtin;refine zae rfl _ _ _ rfl rfl rfl hap ?_);go_roundg (T-(J+1))
     case measure=>omega
     case rel=>exact⟨v1,J+1,rfl,by omega,rfl,by go_num,HO6,HB6⟩
   ·have h1':¬(J:Int)<(L:Int):=by omega
    have h2:J<M:=by omega
    obtain⟨c2,hc2,hd2⟩:=zbt (l:=m) (i:=J) (by rw[HM.out];omega);obtain⟨b2,o2,rfl,hb2,cx2⟩:=(HV.out.below HB.out).at hc2;have hxo:=GF.u8_xor 0 c2;obtain⟨s,hs2⟩:∃t,c2.n=t:=⟨_,rfl⟩;have hs1:(yaf l m J).n=s:=by rw[yaf,hd2,znx (l:=l) (by rw[HL.out];omega),zadd,hs2]
    rw[zadd,hs2,GF.n_zero] at hxo;simp only[Int.natCast_zero] at hxo;rw[hs2] at cx2;clear hc2 hd2 hs2;obtain⟨v1,w6,hap,ho1,-,hb6,-⟩:=zjo (W:=wr) HO.out (by omega) (by omega) hs1 (ad:=wr.heap.size) rfl;have HO6:=Hd ho1;have HB6:=Hd (HB.out.trans hb6);clear ho1 hb6 hs1;go_wp2_with (at_builtin;refine zae rfl _ _ _ rfl rfl rfl hap ?_);go_roundg (T-(J+1))
    case measure=>omega
    case rel=>exact⟨v1,J+1,rfl,by omega,rfl,by go_num,HO6,HB6⟩
  ·obtain rfl:J=T:=by omega
   have h1':¬(J:Int)<(L:Int):=by omega
   have h2':¬(J:Int)<(M:Int):=by omega
   have HTR:=Hd (zuv V _ wr HO.out.rd (by rw[zaa];omega));go_wp2_with fail;refine HTR.out.mono ?_;rintro e w9 ⟨v9,p,rfl,htr,ho9,hb9⟩;have HP:Hid (zrl l m w (.returned v9) w9):=Hd ⟨v9,p,rfl,ho9.mono hs,htr.trimd,fun x=>by rw[htr.ev,yba l m (by rw[HL.out];omega) (by rw[HM.out];omega)],by
    have:=htr.len
    rw[zaa] at this;rw[HL.out,HM.out];omega,HB.out.trans (hb9.mono hs)⟩
   clear htr ho9 hb9;go_wp2;go_ret;have:=HP.out;exact this
