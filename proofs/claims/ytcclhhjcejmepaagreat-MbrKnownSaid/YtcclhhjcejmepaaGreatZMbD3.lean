import Derived.Test.YtcclhhjcejmepaaGreatZMbDA
import Derived.Test.YtcclhhjcejmepaaGreatZMbEnc
set_option linter.all false
set_option maxRecDepth 100000
set_option maxHeartbeats 8000000
namespace Go.Proofs.YtcclhhjcejmepaaGreat
open Go.RowKit Fld
def zmc (k d:Nat) (m:List GF):Prop:=m.length=mbB k d
noncomputable def mbF (n k d:Nat) (m:List GF) (i:Nat):List GF:=zau k d m ((za9 n).getD i 0)
def zdb (B n k d:Nat) (l:List Sy) (tn:Nat) (e:Ending) (w':World):Prop :=
 (∃m v1 v2,e=.returned (.tuple #[v1,v2,.int .i64 0])∧zc2 (zmc k d) (mbF n k d) l tn (some m)∧zao w' B v1 m∧RdZ w' B v2 (wrD (mbF n k d m) l)) ∨
 e=.returned (.tuple #[.slice none 0 0,.slice none 0 0,.int .i64 80])∧zc2 (zmc k d) (mbF n k d) l tn none
theorem yc0 {W:World} {B rb k ad:Nat} {s:Ro} {L:List Ro} (hs:W.heap[ad]? = some (.cells #[.slice s.a s.d.length s.cp] 22 (0,0))) (hB:B≤ad) (hrows:∀(j:Nat) (u:Value),(L.map Ro.v)[j]? = some u→W.cell? ⟨rb,j,none⟩=some u) (hL:L.length=k) (hk0:0<k) (hk:k≤1000) :
  ∃v1 w3,(Builtin.append_ #[33,33] 33 #[.slice (some ⟨ad,0,none⟩) 1 1,.slice (some ⟨rb,0,none⟩) k k]).run Tryz.prog W=.ok v1 w3∧zgq w3 B v1 (s :: L)∧Kp [ad] W w3:=by
 obtain⟨i0,hi,hz0,hz1,hz2⟩:=info_parts zlw;have hown:W.ownsRow B 22 1 (.slice (some ⟨ad,0,none⟩) 1 1) 1 [s.v]:=⟨rfl,.inr ⟨ad,1,_,rfl,hB,hs,by omega,by unfold maxLen;omega,rfl,rfl⟩⟩;have hsz:=lOH hs;obtain⟨v1,w3,hap,hown1,hgrow1,-,-⟩:=run_append_own_at (P:=Tryz.prog) (w:=W) B 33 33 22 i0 (.slice none 0 0) 1 24 Tryz.underlying33 hi hz0 hz1 hz2 rfl (by decide) (.slice (some ⟨ad,0,none⟩) 1 1) 1 _ hown ⟨rb,0,none⟩ k k (L.map Ro.v) (by simp[hL])
  (fun j u hj=>by
   have:=hrows j u hj
   simpa[Addr.add_lit] using this) (by
   intro u hu;obtain⟨t,_,rfl⟩:=Zau.1 hu;rfl) (by unfold maxLen;omega) (by omega) (by omega)
 refine⟨v1,w3,hap,?_,(Kp.refl _ W).grown hgrow1 (fun b hb=>.inl (by simp[Value.ownBlock] at hb;simp[hb]))⟩;unfold zgq;rw[List.map_cons,Zbt,hL,Nat.add_comm];exact hown1
def yau (s0 ob ib qb:Nat) (u:Nat→Value):Array Value:=#[u 0,u 1,u 2,.pointer (some ⟨s0,0,none⟩),.pointer (some ⟨s0+1,0,none⟩),.pointer (some ⟨s0+1+1,0,none⟩),u 6,u 7,u 8,.pointer (some ⟨ob,0,none⟩),.pointer (some ⟨ib,0,none⟩),.slice none 0 0,u 12,u 13,.pointer (some ⟨qb,0,none⟩),u 15,u 16,u 17,u 18,u 19,u 20,u 21,u 22,u 23,u 24,u 25,u 26,u 27,u 28,u 29,u 30,u 31,u 32,u 33,u 34,u 35,u 36,u 37,u 38,u 39,u 40,u 41,u 42,u 43,u 44,u 45,u 46,u 47,u 48,u 49,u 50,u 51,u 52,u 53,u 54,u 55,u 56,u 57,u 58,u 59,u 60,u 61,u 62,u 63,u 64,u 65,u 66,u 67,u 68,u 69,u 70,u 71,u 72,u 73,u 74,u 75,u 76,u 77,u 78,u 79,u 80,u 81,u 82,u 83,u 84,u 85,u 86,u 87,u 88,u 89,u 90,u 91,u 92,u 93,u 94,u 95,u 96,u 97,u 98,u 99,u 100,u 101,u 102,u 103,u 104,u 105,u 106,u 107,u 108,u 109,u 110,u 111,u 112,u 113,u 114,u 115,u 116,u 117,u 118,u 119,u 120,u 121,u 122,u 123,u 124,u 125,u 126,u 127,u 128,u 129,u 130,u 131,u 132,u 133,u 134,u 135,u 136,u 137,u 138,u 139,u 140,u 141,u 142,u 143,u 144,u 145,u 146,u 147,u 148,u 149,u 150,u 151,u 152,u 153,u 154,u 155,u 156,u 157,u 158,u 159,u 160,u 161,u 162,u 163,u 164,u 165,u 166,u 167,u 168,u 169,u 170,u 171,u 172,u 173,u 174,u 175,u 176,u 177,u 178,u 179,u 180,u 181,u 182,u 183,u 184,u 185,u 186,u 187,u 188,u 189,u 190,u 191,u 192,u 193,u 194,u 195,u 196,u 197,u 198,u 199,u 200,u 201,u 202,u 203,u 204,u 205,u 206,u 207,u 208,u 209,u 210,u 211,u 212,u 213,u 214,u 215,u 216,u 217,u 218,u 219,u 220,u 221,u 222,u 223,u 224,u 225,u 226,u 227,u 228,u 229,u 230,u 231]
theorem zgc {K D:Nat} {a:Nat→Nat→GF} (hKD:K≤D) (i c:Nat) (hc:c<K):zh7 (D-K) D a i c=a i c:=by unfold zh7;rw[if_pos (by omega)]
theorem zsp {K:Nat} {a b:Nat→Nat→GF} (h:∀i c,i<K→c<K→a i c=b i c):zqo K a=zqo K b:=by
 unfold zqo;have key:∀L:List Nat,(∀i∈L,i<K)→L.flatMap (fun i=>rowF (fun e=>a i (i+e)) (K-i))=L.flatMap (fun i=>rowF (fun e=>b i (i+e)) (K-i)):=by
  intro L
  induction L with
  | nil=>intro _;rfl
  | cons i L ih =>
   intro hL;rw[Zbr,Zbr,ih fun x hx=>hL x (Zcb _ hx)];congr 1;have hi:=hL i List.mem_cons_self;exact zd1 fun e he=>h i (i+e) hi (by omega)
 exact key _ fun i hi=>Zaj.1 hi
def roV (v:Value) (l:List GF):Ro:=match v with
 | .slice a _ c=>⟨a,c,l⟩
 | _=>⟨none,0,l⟩
theorem ydp {W:World} {B:Nat} {v:Value} {l:List GF} (h:zao W B v l):(roV v l).v=v∧(roV v l).d=l:=by obtain⟨a,c,rfl,-⟩:=h.form;exact⟨rfl,rfl⟩
theorem ybk (v:Value) (l:List GF):(roV v l).d=l:=by unfold roV;split<;>rfl
theorem zn4 {l:List Sy} {I:Nat} {s:Sy} (p:Sy→Bool) (h:l[I]? = some s):Sy.nodes ((l.take (I+1)).filter p)=Sy.nodes ((l.take I).filter p)++(if p s then [s.node] else []):=by rw[Zaz,h,Zcj];unfold Sy.nodes;rw[Zaw];congr 1;cases hp:p s<;>simp[hp]
theorem zsx (w0:World) (lb t1 t2 fb pb n k d ob rb ib gb qb Bc K2 L ch c1 B0 tn:Nat) (v1 v2:Value) (ah a1:Option Addr) (l:List Sy) (h:MbC w0 lb t1 t2 fb pb n k d v1 v2) (hn:1≤k∧k≤d∧d<n∧n≤255) (hnd:(za9 n).Nodup)
  (hl:zby w0 (.slice ah L ch) l) (hla:zjq (.slice ah L ch) l [fb]) (hLl:l.length=L) (hLb:L≤256) (hg:zar n (-1) d l) (hfew:k+2*tn≤L) (hK2:k*k=K2) (hd30:d≤30)
  (W:World) (hI:yda w0 lb fb k ob rb ib gb qb Bc K2 L ch c1 B0 tn d ah a1 (za9 n) l d W) (u:Nat→Value) (ds:List Deferred) (QQ:Exit→Act→World→Prop)
  (hfin:∀(a':Act) (W':World) (p1 p2:Value) (c:Int),a'.tmps.getD 6 undef=p1→a'.tmps.getD 7 undef=p2→a'.tmps.getD 8 undef=.int .i64 c→a'.tmps.size=232→a'.defers=ds→Kp [fb] W W'→FOk W' fb→zdb w0.heap.size n k d l tn (.returned (.tuple #[p1,p2,.int .i64 c])) W'→QQ .ret a' W')
  (hgo:∀(a':Act) (W':World),a'.tmps.size=232→a'.defers=ds→Kp [fb] W W'→FOk W' fb→zc2 (zmc k d) (mbF n k d) l tn none→QQ (.goto 0) a' W') :
  (cGo [1,2,1,1,1,1,1,1,1,1,1] (zti Tryz.f27)).wp Tryz.prog QQ { tmps:=yau w0.heap.size ob ib qb u,defers:=ds } W:=by
 obtain⟨hS,a,vs,hO,hV,hC⟩:=hI;obtain⟨s0,hs0⟩:=zE4 w0.heap.size;obtain⟨z1,z2,z3,z4,z5,z6,z7,z8,z9,z10⟩:=hS.lt;rw[hs0] at z1 z2 ⊢;have hk2b:K2≤255*255:=by rw[←hK2];exact Zai (by omega) (by omega)
 have hlbf:lb≠fb:=h.ne.1;have hlb0:lb<s0:=by rw[←hs0];exact lOH h.box
 have hgb:=hV.1;have hcols:=zw9 hC hn.1 hn.2.1;have hsymE:(∀i c,i<k→c<k→zh7 (d-k) d a i c=zh7 (d-k) d a c i)↔∀i c,i<k→c<k→a i c=a c i :=
  ⟨fun h i c hi hc=>by rw[←zgc (a:=a) hn.2.1 i c hc,h i c hi hc,zgc hn.2.1 c i hi],fun h i c hi hc=>by rw[zgc hn.2.1 i c hc,zgc hn.2.1 c i hi,h i c hi hc]⟩
 have hpk:=zvv fb k gb K2 (zh7 (d-k) d a) W hS.ok (by omega) (by rw[hK2];exact hV) (by rw[hK2];exact zE3 _) (by omega);unfold zrm at hpk;rw[hK2,hsymE] at hpk;have HPK:=Hd hpk;have HT:Hid (∀o:Option (List GF),((∀i c,i<k→c<k→a i c=a c i)∧(l.filter (zfq (mbF n k d (mkM k d a)))).length≤tn)∧o=some (mkM k d a)∨¬((∀i c,i<k→c<k→a i c=a c i)∧(l.filter (zfq (mbF n k d (mkM k d a)))).length≤tn)∧o=none→zc2 (zmc k d) (mbF n k d) l tn o):=Hd fun o ho=>zw7 (N:=n) ho hn.2.1 hnd (zbd n) hg.1 (by rw[hLl];exact hfew) hcols;have b10:=hS.b10;have y0:W.cell? ⟨ib,0,none⟩=some (.int .i64 k):=cOH b10 rfl;have y1:W.cell? ⟨ib,1,none⟩=some (.int .i64 k):=cOH b10 rfl;have y2:W.cell? ⟨ib,2,none⟩=some (.slice (some ⟨gb,0,none⟩) K2 K2):=cOH b10 rfl;have g10:=lOH b10;have H:=Hd h;have HL0:=Hd hl;have HLA:=Hd hla;have HLL:=Hd hLl;have HG:=Hd hg;have HS:=Hd hS;have HO:=Hd hO;have HS0:=Hd hs0;have HFIN:=Hd hfin;have HGO:=Hd hgo;clear h hl hla hLl hg hnd hS hO hV hC hpk hcols hsymE b10 hs0 hfin hgo;refine zvf rfl ?_
 try dsimp only
 unfold yau;go_wp2_with fail;refine HPK.out.mono ?_;rintro e w2 ⟨hk2,hf2,hans⟩;have HK2:=Hd hk2;have HF2:=Hd hf2;have HS2:=Hd (HS.out.step hk2 (fun x hx=>.inl (by simpa using hx)) hf2);have HO2:=Hd (HO.out.kp hk2 (by simp;omega) (fun x hx=>.inl (by simp at hx;omega)));have hs2:=hk2.size;clear hk2 hf2 HPK y0 y1 y2 g10;rcases hans with ⟨hsym,pv,rfl,hown⟩|⟨hns,rfl⟩
 case inr =>
  have HX:Hid (zc2 (zmc k d) (mbF n k d) l tn none):=Hd (HT.out none (.inr ⟨fun h=>hns h.1,rfl⟩));clear hns;go_wp2;refine wp_goto ?_;refine HGO.out _ _ ?_ ?_ HK2.out HF2.out HX.out<;>rfl
 obtain⟨ap,cp,rfl,-⟩:=hown.form;obtain⟨PL,hPL⟩:=zE4 ((zqo k (zh7 (d-k) d a)).length);rw[hPL] at hown ⊢;have HSYM:=Hd hsym;obtain⟨E,hE⟩:=zE4 (d-k);have hPb:PL≤465:=by rw[←hPL,(zgz k _).1,zhy];have h1:k*(k+1)≤30*31:=Zai (by omega) (by omega);omega
 obtain⟨w3,hw3⟩:=zE5 (w2.alloc (.cells #[.slice ap PL cp] 22));have hb3:Below w2.heap.size w2 w3:=by rw[hw3];exact (Zaa _ _).alloc (zE3 _) _
 have hh3:w3.heap[w2.heap.size]? = some (.cells #[.slice ap (zqo k (zh7 (d-k) d a)).length cp] 22 (0,0)):=by rw[hw3,hPL];exact nwA _ _
 obtain⟨RL,hRL⟩:∃RL:List Ro,RL=(List.range k).map fun i=>roV (vs i) (zhk k (d-k) d a i):=⟨_,rfl⟩;have hRLl:RL.length=k:=by rw[hRL];simp
 have hrows:∀(j:Nat) (u:Value),(RL.map Ro.v)[j]? = some u→w3.cell? ⟨rb,j,none⟩=some u:=fun j u hj=>by
  have hjk:j<k:=by
   have:=(Zah.1 hj).1
   simpa[hRLl] using this
  rw[hRL,List.map_map,Zae,Zax hjk] at hj;simp only[Zbv,Function.comp,(ydp (HO2.out.own j hjk)).1,Option.some.injEq] at hj;rw[←hj];exact (hb3.cell (p:=⟨rb,j,none⟩) HO2.out.lt.2).trans (HO2.out.cell j hjk)
 obtain⟨v4,w4,hap,hoR,hk4⟩:=yc0 (B:=w2.heap.size) (s:=⟨ap,cp,zqo k (zh7 (d-k) d a)⟩) hh3 (zE3 _) hrows hRLl (by omega) (by omega);have hk24:Kp [] w2 w4:=(Kp.of_below hb3).step hk4 (fun x hx=>.inr (by simp at hx;omega));have hall:zdv w4 v4 (⟨ap,cp,zqo k (zh7 (d-k) d a)⟩ :: RL):=hoR.all fun t ht=>by
  rcases Zbf.1 ht with rfl|ht
  ·show GRd w4 (.slice ap (zqo k (zh7 (d-k) d a)).length cp) _;rw[hPL];exact hown.rd.kp hk24 (fun _ _=>by simp)
  ·rw[hRL] at ht;obtain⟨i,hi,rfl⟩:=Zau.1 ht;have hi:=Zaj.1 hi;rw[(ydp (HO2.out.own i hi)).1,ybk];exact (HO2.out.own i hi).rd.kp hk24 (fun _ _=>by simp)
 have hfl:(Ro.mk ap cp (zqo k (zh7 (d-k) d a)) :: RL).flatMap Ro.d=mkM k d a:=by
  rw[Zbr];unfold mkM;congr 1
  ·exact zsp fun i c hi hc=>zgc hn.2.1 i c hc
  ·rw[hRL,List.flatMap_map];unfold yev;refine congrArg (fun f=>(List.range k).flatMap f) (funext fun i=>?_);rw[ybk];unfold zhk;rw[Nat.min_eq_right (by omega)]
 have HCON:=Hd (zte v4 _ w4 hall (by rw[Zbt,hRLl];omega) (fun t ht=>by
  rcases Zbf.1 ht with rfl|ht
  ·show (zqo k (zh7 (d-k) d a)).length≤1000;omega
  ·rw[hRL] at ht;obtain⟨i,hi,rfl⟩:=Zau.1 ht;rw[ybk,zf5];omega))
 unfold zlg at HCON;rw[hfl] at HCON;obtain⟨a4,c4,hv4⟩:=hoR.form;rw[Zbt,hRLl] at hv4;subst hv4;have b9:=HS2.out.b9;have y9:w2.cell? ⟨ob,0,none⟩=some (.slice (some ⟨rb,0,none⟩) k k):=cOH b9 rfl;have g9:=lOH b9;have HK4:Hid (Kp [fb] W w4):=Hd (HK2.out.trans (hk24.mono (by simp)));have HF4:=Hd (HF2.out.kp hk24 (by simp));have HS4:=Hd (HS2.out.step hk24 (by simp) HF4.out);have hs24:=hk24.size;have hap':(Builtin.append_ #[33,33] 33 #[.slice (some ⟨w2.heap.size,0,none⟩) 1 1,.slice (some ⟨rb,0,none⟩) k k]).run Tryz.prog (w2.alloc (.cells #[.slice ap PL cp] 22))=.ok (.slice a4 (k+1) c4) w4:=by rw[←hw3];exact hap
 clear hw3 hb3 hh3 hRL hRLl hrows hap hoR hk4 hk24 hall hfl b9 hown hPL hsym;go_wp2_with (at_builtin;refine zae rfl _ _ _ rfl rfl rfl hap' ?_);refine HCON.out.mono ?_;rintro e w5 ⟨mv,rfl,hom,hb5⟩;obtain⟨m,hm⟩:=zE4 (mkM k d a);rw[hm] at hom HT;have hml:m.length=mbB k d:=by rw[←hm];exact zja _ _ _
 have hmb:mbB k d≤1000:=by rw[zhl hn.2.1];have:k*d≤30*30:=Zai (by omega) hd30;omega
 have HK5:Hid (Kp [fb] W w5):=Hd (HK4.out.below_step hb5);have HF5:=Hd (HF4.out.below hb5);have hs5:=HS4.out.step (Kp.of_below (S:=[]) hb5) (by simp) HF5.out;have HS5:=Hd hs5;have hM5:=H.out.step hs5.kp HF5.out;have hsz45:=hb5.size;have HENC:=Hd (zef w5 lb t1 t2 fb pb n k d v1 v2 mv m hM5 hn hom.rd (by omega) (fun b hb hm2=>by have:=(hom.lt b hb).1;simp at hm2;omega));obtain⟨am,cm,rfl,-⟩:=hom.form;obtain⟨ML,hML⟩:=zE4 m.length;rw[hML] at hom HENC ⊢;have HOM:=Hd hom;have HML:=Hd (Zao hML hml);have b3:=hs5.b3;rw[HS0.out] at b3;have y3:w5.cell? ⟨s0,0,none⟩=some (.pointer (some ⟨lb,0,none⟩)):=cOH b3 rfl;have g3:=lOH b3;clear hom hb5 hs5 hM5 hml hML hm b3 HCON y9 g9 hap';go_wp2_with fail;refine HENC.out.mono ?_;rintro e w6 (⟨hbad,-⟩|⟨-,hk6,hf6,sv,S,rfl,hsh⟩)
 case inl=>exact absurd HML.out.2 hbad
 have HK6:Hid (Kp [fb] W w6):=Hd (HK5.out.trans hk6);have HF6:=Hd hf6;have HS6:=Hd (HS5.out.step hk6 (fun x hx=>.inl (by simpa using hx)) hf6);have HOM6:=Hd (HOM.out.kp hk6 (fun b hb hm2=>by have:=(HOM.out.lt b hb).1;simp at hm2;omega));have hSl:S.length=n:=by
  have:=congrArg List.length hsh.eq
  simpa[znp] using this
 have HSH:=Hd hsh;have HSL:=Hd hSl;obtain⟨as_,cs_,rfl⟩:=hsh.all.rd.form;rw[hSl] at HSH ⊢;have hs6:=HK6.out.size;have b4:=HS6.out.b4;rw[HS0.out] at b4;have y4:w6.cell? ⟨s0+1,0,none⟩=some (.slice ah L ch):=cOH b4 rfl;have g4:=lOH b4;clear hk6 hf6 hsh hSl HENC y3 g3 b4;go_wp2;go_loopg [11,205] L (fun gk p i wr=>∃(I:Nat) (av:Option Addr) (nv cv:Nat),p=.slice av nv cv∧I≤L∧gk=L-I∧i=.int .i64 I∧Hid (za4 wr w6.heap.size (.slice av nv cv) (Sy.nodes ((l.take I).filter (zfq (mbF n k d m)))))∧Hid (Below w6.heap.size w6 wr))
 case atStart=>exact⟨0,_,_,_,rfl,Zbp _,rfl,rfl,by rw[List.take_zero];exact Hd (za4.nil _ _),Hd (Zaa _ _)⟩
 case round =>
  clear y4 g4;obtain⟨I,av,nv,cv,rfl,hI,rfl,rfl,HOW,HBR⟩:=hrel;have hsr:=HBR.out.size;have HSr:Hid (ztq w0 lb fb k ob rb ib gb qb Bc K2 L ch c1 B0 tn ah a1 (Sy.nodes l) wr):=Hd (HS6.out.step (Kp.of_below (S:=[]) HBR.out) (by simp) (HF6.out.below HBR.out));by_cases hlt:I<L
  ·obtain⟨s,hs⟩:∃s,l[I]? = some s:=⟨_,zE1 (by rw[HLL.out];exact hlt)⟩;have hA:=HL0.out.kp HSr.out.kp HLA.out;obtain⟨-,hcap,b,o,rfl,hb,hat⟩:=SRd.at hA.rd hs;have c0:wr.cell? ⟨b,o+I*2,none⟩=some (.int .i64 s.node):=hat 0 _ rfl;have c1':wr.cell? ⟨b,o+I*2+1,none⟩=some (.slice s.a s.d.length s.cp):=hat 1 _ rfl;obtain⟨⟨hs0',hsn⟩,-,hsd⟩:=HG.out.at hs;obtain⟨X,hX⟩:∃X:Nat,s.node=(X:Int):=⟨s.node.toNat,by omega⟩;rw[hX] at c0 hsn;rw[hsd] at c1';have hXn:X<n:=by omega
   have hsrd:=hA.each s (Zad hs);unfold Sy.rd at hsrd;rw[hsd] at hsrd;obtain⟨sa,sd,hsa⟩:∃sa sd,sa=s.a∧sd=s.cp:=⟨_,_,rfl,rfl⟩;rw[←hsa.1,←hsa.2] at hsrd c1';obtain⟨r,hr⟩:∃r,S[X]? = some r:=⟨_,zE1 (by rw[HSL.out];exact hXn)⟩;have hrd:r.d=mbF n k d m X:=by have h1:=congrArg (fun D=>D[X]?) HSH.out.eq;simp only[znp,Zae,hr,Zax hXn,Zbv,Option.some.injEq] at h1;exact h1
   have hSA:=HSH.out.all.below HBR.out;obtain⟨-,-,bS,oS,hbS,hbSl,hatS⟩:=SRd.at hSA.rd hr;subst hbS;have cS:wr.cell? ⟨bS,oS+X,none⟩=some r.v:=by have:=hatS 0 _ rfl;rwa[Nat.mul_one] at this
   have hrr:=hSA.each r (Zad hr);obtain⟨ar,cr,hrv,-⟩:=hrr.form;rw[hrv] at cS hrr;have hrdl:r.d.length=d:=by rw[hrd];exact za5 _ _ _ _
   rw[hrdl] at cS hrr;obtain⟨w7,hw7⟩:=zE5 (wr.alloc (.cells #[.int .i64 X,.slice sa d sd] 59));have hb7:Below wr.heap.size wr w7:=by rw[hw7];exact (Zaa _ _).alloc (zE3 _) _
   have hs7:wr.heap.size<w7.heap.size:=by rw[hw7];simp
   have d0:w7.cell? ⟨wr.heap.size,0,none⟩=some (.int .i64 X):=by rw[hw7];exact cOH (nwA _ _) (j:=0) rfl
   have d1:w7.cell? ⟨wr.heap.size,1,none⟩=some (.slice sa d sd):=by rw[hw7];exact cOH (nwA _ _) (j:=1) rfl
   have cS7:=(hb7.cell (p:=⟨bS,oS+X,none⟩) hbSl).trans cS;have hbS7:bS<w7.heap.size:=by omega
   obtain⟨q,hq⟩:=zE4 (zfq (mbF n k d m) s);have hqd:decide (s.d=r.d)=!q:=by rw[←hq];unfold zfq;rw[hrd,hX,Zam];by_cases e:s.d=mbF n k d m X<;>simp[e]
   have HEQ:Hid (∀W,Below w7.heap.size w7 W→Calls Tryz.prog 64 #[.slice sa d sd,.slice ar d cr] W fun e w'=>e=.returned (.bool (!q))∧W=w'):=Hd fun W hW=>by
    have:=zxd _ _ _ _ W ((hsrd.below hb7).below hW) ((hrr.below hb7).below hW)
    rwa[hqd] at this
   have i1:(0:Int)≤(I:Int)∧(I:Int)<(L:Int):=by omega
   have i2:(0:Int)≤(X:Int)∧(X:Int)<(n:Int):=by omega
   have HX:=Hd (Zao hs (Zao hX hq));have HB7:Hid (Below w6.heap.size w6 w7.drew):=Hd (HBR.out.trans ((hb7.mono hsr).drew));have HOW7:=Hd (HOW.out.below ((hb7).drew));clear hA hat hs hX hsd hsrd hsa hr hrd hSA hatS hrr hrv hrdl hb7 hq hqd hs0' hsn HOW;go_upto_region 45 with fail
   rw[←hw7];clear hw7;have hgr:=hgK (fun kk=>kk<w7.heap.size);refine w_T (fun kk=>kk<w7.heap.size) [7] (.sq [0,1,2,3,4,5,6,7,8] .done) (by kernel_rfl) (by kernel_rfl) ?_;simp only[TQ,Oper.slim,Nat.reduceBEq,Nat.reduceAdd]
   repeat' first|((with_reducible refine w_I ?_);first|(with_reducible refine w_D ?_)|((with_reducible refine w_S (fun K hK=>?_));go_simp;first|(refine hK _ _ ?_;clear hK K)|(refine⟨by (intro kk hkk;first|(simp (disch:=(simp;omega)) only[h_D,h_N,h_A,h_S];done)|(simp[h_D,h_N,h_I,hkk];done)|fail),hK _ _ ?_⟩;clear hK K)|(go_at_call 64;(with_reducible refine (HEQ.out _ (by (repeat' (first|with_reducible (first|exact Zaa _ _|assumption|refine Zac ?_|refine Zab ?_ ?_ _)|omega|(simp;done)|(simp;omega))))).mono ?_);rintro e wc ⟨rfl,rfl⟩;refine⟨_,rfl,(fun kk hkk=>rfl),hK _ _ ?_⟩;clear hK K)))|fail
   clear hgr
   all_goals
    obtain⟨w8,hw8⟩:=zE5 w7.drew;have d8:w8.cell? ⟨wr.heap.size,0,none⟩=some (.int .i64 X):=by rw[hw8];exact d0
    have hs8:wr.heap.size<w8.heap.size:=by rw[hw8];exact hs7
    rw[←hw8] at HB7 HOW7 ⊢;clear hw8 d0 d1 cS7 cS c0 c1';have hs68:=HB7.out.size
   cases q
   case false =>
    have HN:Hid (za4 w8 w6.heap.size (.slice av nv cv) (Sy.nodes ((l.take (I+1)).filter (zfq (mbF n k d m))))):=Hd (by
     rw[zn4 _ HX.out.1,HX.out.2.2];simpa using HOW7.out)
    clear d8;go_wp2;go_roundg (L-(I+1))
    case measure=>omega
    case rel=>exact⟨I+1,av,nv,cv,rfl,by omega,rfl,by go_num,HN,HB7⟩
   case true =>
    obtain⟨v9,w9,hap,ho9,hk9,hb9,-⟩:=zdf (W:=w8) (X:Int) HOW7.out (by have h1:=Zce (zfq (mbF n k d m)) (l.take I);rw[Zan] at h1;simp[Sy.nodes];omega) hs68 (ad:=w8.heap.size) rfl;have HN:Hid (za4 w9 w6.heap.size v9 (Sy.nodes ((l.take (I+1)).filter (zfq (mbF n k d m))))):=Hd (by
     rw[zn4 _ HX.out.1,HX.out.2.2,HX.out.2.1];simpa using ho9)
    have HB9:=Hd (HB7.out.trans hb9);obtain⟨a9,c9,hv9⟩:=ho9.rd.form;obtain⟨n9,hn9⟩:=zE4 ((Sy.nodes ((l.take I).filter (zfq (mbF n k d m)))++[(X:Int)]).length);rw[hn9] at hv9;subst hv9;clear ho9 hk9 hb9 hn9;go_wp2_with (at_builtin;refine zae rfl _ _ _ rfl rfl rfl hap ?_);go_roundg (L-(I+1))
    case measure=>omega
    case rel=>exact⟨I+1,a9,n9,c9,rfl,by omega,rfl,by go_num,HN,HB9⟩
  ·obtain rfl:I=L:=by omega
   have hLt:l.take I=l:=by rw[←HLL.out,Zbs]
   rw[hLt] at HOW;obtain⟨FL,hFL⟩:=zE4 ((l.filter (zfq (mbF n k d m))).length);have hFLb:FL≤I:=by rw[←hFL,←HLL.out];exact Zce _ _
   have hnl:(Sy.nodes (l.filter (zfq (mbF n k d m)))).length=FL:=by simp[Sy.nodes,hFL]
   have hnv:nv=FL:=by obtain⟨a',c',e⟩:=HOW.out.rd.form;cases e;exact hnl
   subst hnv;have HST:=Hd (zm6 w6.heap.size _ _ wr HOW.out hsr (by rw[hnl];omega));have HFL:=Hd hFL;have hdm:∃mm,mm=m:=⟨m,rfl⟩;clear hLt hnl;go_wp2_with fail;refine HST.out.mono ?_;rintro e w7 ⟨rfl,hb7,hrz⟩;have hb67:=HBR.out.trans hb7;have HKE:Hid (Kp [fb] W w7):=Hd (HK6.out.below_step hb67);have HFE:=Hd (HF6.out.below hb67);have hsw:w0.heap.size≤w6.heap.size∧w0.heap.size≤w4.heap.size:=⟨by have:=HS6.out.kp.size;omega,by have:=HS4.out.kp.size;omega⟩;have HOM7:=Hd ((HOM6.out.below hb67).mono hsw.2);have HRZ:=Hd (hrz.mono hsw.1);have b5:=zad hb67 HS6.out.b5;rw[HS0.out] at b5;have y5:w7.cell? ⟨s0+1+1,0,none⟩=some (.int .i64 tn):=cOH b5 rfl;have g5:=lOH b5;clear b5;by_cases hle:nv≤tn
   ·have hle':(nv:Int)≤(tn:Int):=by omega
    have HAN:Hid (zdb w0.heap.size n k d l tn (.returned (.tuple #[.slice am ML cm,.slice av nv cv,.int .i64 0])) w7):=Hd (.inl ⟨m,_,_,rfl,HT.out (some m) (.inl ⟨⟨HSYM.out,by rw[HFL.out];exact hle⟩,rfl⟩),HOM7.out,HRZ.out⟩);clear hb7 hrz hb67 hle hdm HST HT;go_wp2;refine HFIN.out _ _ (.slice am ML cm) (.slice av nv cv) 0 ?_ ?_ ?_ ?_ ?_ HKE.out HFE.out HAN.out<;>rfl
   ·have hle':¬(nv:Int)≤(tn:Int):=by omega
    have HAN:Hid (zdb w0.heap.size n k d l tn (.returned (.tuple #[.slice none 0 0,.slice none 0 0,.int .i64 80])) w7):=Hd (.inr ⟨rfl,HT.out none (.inr ⟨fun h=>hle (by rw[←HFL.out];exact h.2),rfl⟩)⟩);clear hb7 hrz hb67 hle hdm HST HT;go_wp2;go_step3;go_wp2;refine HFIN.out _ _ (.slice none 0 0) (.slice none 0 0) 80 ?_ ?_ ?_ ?_ ?_ HKE.out HFE.out HAN.out<;>rfl
