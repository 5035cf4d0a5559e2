import Derived.Test.YtcclhhjcejmepaaGreatZMbD2
import Derived.Test.YtcclhhjcejmepaaGreatZMbD3
set_option linter.all false
set_option maxRecDepth 100000
set_option maxHeartbeats 8000000
namespace Go.Proofs.YtcclhhjcejmepaaGreat
open Go.RowKit Fld
attribute [local go_sem] Oper.semAt_some
def zdc (B n k d:Nat) (l:List Sy) (t:Int) (e:Ending) (w':World):Prop :=
 ¬(0≤t∧zar n (-1) d l)∧e=.returned (.tuple #[.slice none 0 0,.slice none 0 0,.int .i64 2]) ∨
 (0≤t∧zar n (-1) d l)∧((l.length:Int)<(k:Int)+2*t∧e=.returned (.tuple #[.slice none 0 0,.slice none 0 0,.int .i64 70]) ∨
  (k:Int)+2*t≤(l.length:Int)∧zdb B n k d l t.toNat e w')
def zju (fb n k d:Nat) (l:List Sy) (t:Int) (w:World) (e:Ending) (w':World):Prop:=Kp [fb] w w'∧FOk w' fb∧zdc w.heap.size n k d l t e w'
def zn8 (u:Nat→Value):Array Value:=#[u 0,u 1,u 2,u 3,u 4,u 5,u 6,u 7,u 8,u 9,u 10,u 11,u 12,u 13,u 14,u 15,u 16,u 17,u 18,u 19,u 20,u 21,u 22,u 23,u 24,u 25,u 26,u 27,u 28,u 29,u 30,u 31,u 32,u 33,u 34,u 35,u 36,u 37,u 38,u 39,u 40,u 41,u 42,u 43,u 44,u 45,u 46,u 47,u 48,u 49,u 50,u 51,u 52,u 53,u 54,u 55,u 56,u 57,u 58,u 59,u 60,u 61,u 62,u 63,u 64,u 65,u 66,u 67,u 68,u 69,u 70,u 71,u 72,u 73,u 74,u 75,u 76,u 77,u 78,u 79,u 80,u 81,u 82,u 83,u 84,u 85,u 86,u 87,u 88,u 89,u 90,u 91,u 92,u 93,u 94,u 95,u 96,u 97,u 98,u 99,u 100,u 101,u 102,u 103,u 104,u 105,u 106,u 107,u 108,u 109,u 110,u 111,u 112,u 113,u 114,u 115,u 116,u 117,u 118,u 119,u 120,u 121,u 122,u 123,u 124,u 125,u 126,u 127,u 128,u 129,u 130,u 131,u 132,u 133,u 134,u 135,u 136,u 137,u 138,u 139,u 140,u 141,u 142,u 143,u 144,u 145,u 146,u 147,u 148,u 149,u 150,u 151,u 152,u 153,u 154,u 155,u 156,u 157,u 158,u 159,u 160,u 161,u 162,u 163,u 164,u 165,u 166,u 167,u 168,u 169,u 170,u 171,u 172,u 173,u 174,u 175,u 176,u 177,u 178,u 179,u 180,u 181,u 182,u 183,u 184,u 185,u 186,u 187,u 188,u 189,u 190,u 191,u 192,u 193,u 194,u 195,u 196,u 197,u 198,u 199,u 200,u 201,u 202,u 203,u 204,u 205,u 206,u 207,u 208,u 209,u 210,u 211,u 212,u 213,u 214,u 215,u 216,u 217,u 218,u 219,u 220,u 221,u 222,u 223,u 224,u 225,u 226,u 227,u 228,u 229,u 230,u 231]
theorem zn7 (u:Nat→Value):zn8 u=((List.range 232).map u).toArray:=by kernel_rfl
theorem yax (T:Array Value) {n:Nat} (h:T.size=n):T=((List.range n).map fun i=>T.getD i undef).toArray:=by
 subst h;apply Array.ext
 ·simp
 ·intro i h1 h2;simp[Array.getD,h1]
theorem zao.offD {W w':World} {B D:Nat} {v:Value} {m:List GF} (h:zao W B v m) (hK:W.heap[D]? = some (.deferred (some []))) (hk:Kp [D] W w'):zao w' B v m :=
 h.kp hk fun b hb hm=>by
  simp at hm;subst hm;rcases h.2 with ⟨h1,_⟩|⟨g,cap,cur,rfl,h2,h3,_⟩
  ·rw[h1] at hb;simp[Value.ownBlock] at hb
  ·simp[Value.ownBlock] at hb;subst hb;rw[hK] at h3;cases h3
theorem RdZ.offD {W w':World} {B D:Nat} {v:Value} {l:List Int} (h:RdZ W B v l) (hK:W.heap[D]? = some (.deferred (some []))) (hk:Kp [D] W w'):RdZ w' B v l:=by
 have hap:l=[]∨za0 v [D]:=by
  by_cases e:l=[]
  ·exact .inl e
  ·refine .inr fun b hb hm=>?_;simp at hm;subst hm;obtain⟨x,hx⟩:∃x,l[0]? = some x:=⟨_,zE1 (Nat.pos_of_ne_zero fun h0=>e (Zbc h0))⟩;obtain⟨a,cap,rfl⟩:=h.rd.form;obtain⟨-,-,b',o',e1,_,e3⟩:=h.rd.at hx;subst e1;have hc:=e3 0 _ rfl;simp[Value.ownBlock] at hb;subst hb;simp[World.cell?,hK] at hc
 exact⟨h.rd.kp0 hk hap,fun k hk2=>⟨(h.lo k hk2).1,Zaf (h.lo k hk2).2 hk.size⟩⟩
theorem zdb.offD {W w':World} {B n k d tn D:Nat} {l:List Sy} {e:Ending} (h:zdb B n k d l tn e W) (hK:W.heap[D]? = some (.deferred (some []))) (hk:Kp [D] W w'):zdb B n k d l tn e w':=by
 rcases h with ⟨m,v1,v2,h1,h2,h3,h4⟩|h
 ·exact .inl ⟨m,v1,v2,h1,h2,h3.offD hK hk,h4.offD hK hk⟩
 ·exact .inr h
def zw5 (s0 ob ib:Nat) (u:Nat→Value):Array Value:=#[u 0,u 1,u 2,.pointer (some ⟨s0,0,none⟩),.pointer (some ⟨s0+1,0,none⟩),.pointer (some ⟨s0+1+1,0,none⟩),u 6,u 7,u 8,.pointer (some ⟨ob,0,none⟩),.pointer (some ⟨ib,0,none⟩),u 11,u 12,u 13,u 14,u 15,u 16,u 17,u 18,u 19,u 20,u 21,u 22,u 23,u 24,u 25,u 26,u 27,u 28,u 29,u 30,u 31,u 32,u 33,u 34,u 35,u 36,u 37,u 38,u 39,u 40,u 41,u 42,u 43,u 44,u 45,u 46,u 47,u 48,u 49,u 50,u 51,u 52,u 53,u 54,u 55,u 56,u 57,u 58,u 59,u 60,u 61,u 62,u 63,u 64,u 65,u 66,u 67,u 68,u 69,u 70,u 71,u 72,u 73,u 74,u 75,u 76,u 77,u 78,u 79,u 80,u 81,u 82,u 83,u 84,u 85,u 86,u 87,u 88,u 89,u 90,u 91,u 92,u 93,u 94,u 95,u 96,u 97,u 98,u 99,u 100,u 101,u 102,u 103,u 104,u 105,u 106,u 107,u 108,u 109,u 110,u 111,u 112,u 113,u 114,u 115,u 116,u 117,u 118,u 119,u 120,u 121,u 122,u 123,u 124,u 125,u 126,u 127,u 128,u 129,u 130,u 131,u 132,u 133,u 134,u 135,u 136,u 137,u 138,u 139,u 140,u 141,u 142,u 143,u 144,u 145,u 146,u 147,u 148,u 149,u 150,u 151,u 152,u 153,u 154,u 155,u 156,u 157,u 158,u 159,u 160,u 161,u 162,u 163,u 164,u 165,u 166,u 167,u 168,u 169,u 170,u 171,u 172,u 173,u 174,u 175,u 176,u 177,u 178,u 179,u 180,u 181,u 182,u 183,u 184,u 185,u 186,u 187,u 188,u 189,u 190,u 191,u 192,u 193,u 194,u 195,u 196,u 197,u 198,u 199,u 200,u 201,u 202,u 203,u 204,u 205,u 206,u 207,u 208,u 209,u 210,u 211,u 212,u 213,u 214,u 215,u 216,u 217,u 218,u 219,u 220,u 221,u 222,u 223,u 224,u 225,u 226,u 227,u 228,u 229,u 230,u 231]
def yfj (s0 ob k K2:Nat) (w7:World) (a:Act) (W:World):Prop:=∃ib gb,a={ tmps:=zw5 s0 ob ib (fun i=>a.tmps.getD i undef),defers:=[] }∧Below w7.heap.size w7 W∧(w7.heap.size≤ib∧w7.heap.size≤gb∧ib≠gb)∧W.heap[ib]? = some (.cells #[.int .i64 k,.int .i64 k,.slice (some ⟨gb,0,none⟩) K2 K2] 66 (0,0))∧W.heap[gb]? = some (.cells (Array.replicate K2 (.int .u8 0)) 5 (0,0))
def zn9 (s0 ob ib qb:Nat) (u:Nat→Value):Array Value:=#[u 0,u 1,u 2,.pointer (some ⟨s0,0,none⟩),.pointer (some ⟨s0+1,0,none⟩),.pointer (some ⟨s0+1+1,0,none⟩),u 6,u 7,u 8,.pointer (some ⟨ob,0,none⟩),.pointer (some ⟨ib,0,none⟩),.slice none 0 0,u 12,u 13,.pointer (some ⟨qb,0,none⟩),u 15,u 16,u 17,u 18,u 19,u 20,u 21,u 22,u 23,u 24,u 25,u 26,u 27,u 28,u 29,u 30,u 31,u 32,u 33,u 34,u 35,u 36,u 37,u 38,u 39,u 40,u 41,u 42,u 43,u 44,u 45,u 46,u 47,u 48,u 49,u 50,u 51,u 52,u 53,u 54,u 55,u 56,u 57,u 58,u 59,u 60,u 61,u 62,u 63,u 64,u 65,u 66,u 67,u 68,u 69,u 70,u 71,u 72,u 73,u 74,u 75,u 76,u 77,u 78,u 79,u 80,u 81,u 82,u 83,u 84,u 85,u 86,u 87,u 88,u 89,u 90,u 91,u 92,u 93,u 94,u 95,u 96,u 97,u 98,u 99,u 100,u 101,u 102,u 103,u 104,u 105,u 106,u 107,u 108,u 109,u 110,u 111,u 112,u 113,u 114,u 115,u 116,u 117,u 118,u 119,u 120,u 121,u 122,u 123,u 124,u 125,u 126,u 127,u 128,u 129,u 130,u 131,u 132,u 133,u 134,u 135,u 136,u 137,u 138,u 139,u 140,u 141,u 142,u 143,u 144,u 145,u 146,u 147,u 148,u 149,u 150,u 151,u 152,u 153,u 154,u 155,u 156,u 157,u 158,u 159,u 160,u 161,u 162,u 163,u 164,u 165,u 166,u 167,u 168,u 169,u 170,u 171,u 172,u 173,u 174,u 175,u 176,u 177,u 178,u 179,u 180,u 181,u 182,u 183,u 184,u 185,u 186,u 187,u 188,u 189,u 190,u 191,u 192,u 193,u 194,u 195,u 196,u 197,u 198,u 199,u 200,u 201,u 202,u 203,u 204,u 205,u 206,u 207,u 208,u 209,u 210,u 211,u 212,u 213,u 214,u 215,u 216,u 217,u 218,u 219,u 220,u 221,u 222,u 223,u 224,u 225,u 226,u 227,u 228,u 229,u 230,u 231]
theorem zjd (w:World) (lb t1 t2 fb pb n k d:Nat) (v1 v2 hv:Value) (l:List Sy) (t:Int) (h:MbC w lb t1 t2 fb pb n k d v1 v2) (hn:1≤k∧k≤d∧d<n∧n≤255) (hd30:d≤30) (hnd:(za9 n).Nodup) (hl:zby w hv l) (hla:zjq hv l [fb]) (hll:l.length≤256) (ht:-9223372036854775808≤t∧t≤9223372036854775807) :
  Calls Tryz.prog 27 #[.pointer (some ⟨lb,0,none⟩),hv,.int .i64 t] w (zju fb n k d l t w):=by
 obtain⟨ah,ch,rfl⟩:=hl.rd.form;obtain⟨L,hL⟩:=zE4 l.length;obtain⟨K2,hK2⟩:=zE4 (k*k);have hk2b:K2≤255*255:=by rw[←hK2];exact Zai (by omega) (by omega)
 have hlb:=lOH h.box;have hfl:=h.tells.ok.lt;obtain⟨w1,hw1⟩:=zE5 (((w.alloc (.cells #[.pointer (some ⟨lb,0,none⟩)] 25)).alloc (.cells #[.slice ah L ch] 41)).alloc (.cells #[.int .i64 t] 3));have hb1:Below w.heap.size w w1:=by rw[hw1];(repeat' (first|with_reducible (first|exact Zaa _ _|assumption|refine Zac ?_|refine Zab ?_ ?_ _)|omega|(simp;done)|(simp;omega)))
 have e3:w1.heap[w.heap.size]? = some (.cells #[.pointer (some ⟨lb,0,none⟩)] 25 (0,0)):=by rw[hw1];exact zaw (zaw (nwA _ _) _) _
 have e4:w1.heap[w.heap.size+1]? = some (.cells #[.slice ah L ch] 41 (0,0)):=by rw[hw1];exact zaw (nwE _ _ _ (by simp)) _
 have e5:w1.heap[w.heap.size+1+1]? = some (.cells #[.int .i64 t] 3 (0,0)):=by rw[hw1];exact nwE _ _ _ (by simp)
 have y3:w1.cell? ⟨w.heap.size,0,none⟩=some (.pointer (some ⟨lb,0,none⟩)):=cOH e3 rfl;have y4:w1.cell? ⟨w.heap.size+1,0,none⟩=some (.slice ah L ch):=cOH e4 rfl;have y5:w1.cell? ⟨w.heap.size+1+1,0,none⟩=some (.int .i64 t):=cOH e5 rfl;have g5:=lOH e5;have g3:w.heap.size<w1.heap.size:=by omega
 have g4:w.heap.size+1<w1.heap.size:=by omega
 have hM1:=h.below hb1;have yn:w1.cell? ⟨lb,1,none⟩=some (.int .i64 n):=cOH hM1.box rfl;have yd:w1.cell? ⟨lb,3,none⟩=some (.int .i64 d):=cOH hM1.box rfl;have glb:=lOH hM1.box;obtain⟨b2,hbb2⟩:=zmk (zar n (-1) d l);obtain⟨b4,hbb4⟩:=zE4 (decide (t<0));have HFIT0:=(znn w1.drew lb n d _ l yn glb ((hl.below hb1).below (Zaa _ _).drew) (by omega) (by omega)).mono fun e w' h=>h.bool hbb2;rw[hL] at HFIT0;have HFIT:Hid (Calls Tryz.prog 50 #[.pointer (some ⟨lb,0,none⟩),.slice ah L ch,.int .i64 d] w1.drew fun e w'=>e=.returned (.bool b2)∧Below w1.heap.size w1.drew w'):=Hd HFIT0;have HQ:Hid ((b4 || !b2)=false↔(0≤t∧zar n (-1) d l)):=Hd (by
  rw[←hbb4,Bool.or_eq_false_iff,Bool.not_eq_false',hbb2,decide_eq_false_iff_not];exact and_congr_left fun _=>by omega)
 have HS:=Hd hl;have HSA:=Hd hla;have HL:=Hd hL;have H:=Hd h;have HND:=Hd hnd;have HK2:=Hd hK2;have HB1:=Hd hb1;have HE345:=Hd (Zao e3 (Zao e4 e5));rw[hL] at HS HSA hll ⊢;clear h hl hla hL hnd hK2 hb1 e3 e4 e5 hM1 HFIT0;refine zav Tryz.func27 rfl ?_;simp only[Tryz.ntmps27,TR,Nat.reduceAdd,Nat.reduceSub];go_wp2;refine wp_scope_jumps 0 (fun a' W'=>a'.tmps.size=232∧(∃D0,a'.defers=[yb4 D0]∧w.heap.size≤D0∧D0≠fb∧W'.heap[D0]? = some (.deferred (some [])))∧Kp [fb] w W'∧FOk W' fb∧zdc w.heap.size n k d l t (.returned (.tuple #[.slice none 0 0,.slice none 0 0,.int .i64 80])) W') (fun _ _=>0) rfl ?first ?pass
 case pass =>
  rintro a' W' ⟨hsz,⟨D0,hd,hD,hDf,hK⟩,hk,hf,hans⟩;obtain⟨u,hu⟩:∃u,a'={ tmps:=zn8 u,defers:=[yb4 D0] }:=⟨fun i=>a'.tmps.getD i undef,by
   rw[zn7,←yax a'.tmps hsz,←hd]⟩
  subst hu;clear hsz hd;have HP:Hid (∀W2,Kp [D0] W' W2→zju fb n k d l t w (.returned (.tuple #[.slice none 0 0,.slice none 0 0,.int .i64 80])) W2):=Hd fun W2 hk2=>⟨hk.step hk2 (fun x hx=>.inr (by simp at hx;omega)),hf.kp hk2 (by simp;omega),by
   unfold zdc zdb at hans ⊢;rcases hans with ⟨h1,h2⟩|⟨h1,⟨h2,h3⟩|⟨h2,⟨m,u1,u2,h3,-⟩|h3⟩⟩
   ·simp at h2
   ·simp at h3
   ·simp at h3
   ·exact .inr ⟨h1,.inr ⟨h2,.inr h3⟩⟩⟩
  have HKD:=Hd hK;unfold zn8;clear hans hk hf y3 y4 y5 yn yd hw1 hK;go_wp2;have hD2:=lOH HKD.out;refine zal (B:=w.heap.size) [D0] W' (zbf.cons (zbf.nil _ _) hD HKD.out (by simp)) fun w' hk=>⟨.tuple #[.slice none 0 0,.slice none 0 0,.int .i64 80],?_,?_⟩
  ·simp[results,Tryz.results27,go_sem]
  ·exact HP.out w' hk
 case first =>
  go_upto_region 3 with fail
  rw[←hw1];clear hw1;have hgr:=hgK (fun k=>k<w1.heap.size);refine za7 (fun k=>k<w1.heap.size) [9] (.sq [0,1,2,3,4,5,6,7,8,9,10,11,12] .done) (.step 0 (.step 1 (.step 2 (.unit 2 false (.step 3 (.step 4 (.step 5 (.step 6 (.step 7 (.step 8 (.step 9 (.step 10 .done)))))))) 11 10 (.step 12 .done))))) (by kernel_rfl) (by kernel_rfl) (by kernel_rfl) (by kernel_rfl) ?_;simp only[zkc,zgg,ztv,Oper.slim,List.contains_cons,List.contains_nil,Option.map_none,Zbv,List.getElem?_toArray,Zbj,List.getElem?_cons_succ,Option.bind_some,beq_self_eq_true,Bool.or_false,Nat.reduceBEq,Nat.reduceAdd,Zbe,Option.getD_some,Option.isSome_some,Option.isSome_none,Bool.false_and,Bool.true_and,Bool.false_eq_true,if_false,if_true,Option.some_beq_some,Option.some_beq_none,Option.none_beq_some,reduceCtorEq,ite_true,ite_false]
  repeat ((with_reducible refine zac (fun K hK=>?_));go_simp;first|(refine hK _ _ ?_;clear hK K)|(refine⟨by (intro kk hkk;first|exact hkk.elim|(simp (disch:=(simp;omega)) only[h_D,h_N,h_A,h_S];done)|(simp[h_D,h_N,h_I,hkk];done)|fail),hK _ _ ?_⟩;clear hK K)| (go_at_call 50;(with_reducible refine HFIT.out.mono ?_);rintro e wc ⟨rfl,hbc⟩;refine⟨_,rfl,(fun kk hkk=>hbc.block kk hkk),hK _ _ ?_⟩;clear hK K))
  refine zap (x:=?_) (by rfl) ?_ ?_;rotate_left
  ·intro hgd
   repeat ((with_reducible refine zac (fun K hK=>?_));go_simp;first|(refine hK _ _ ?_;clear hK K)|(refine⟨by (intro kk hkk;first|exact hkk.elim|(simp (disch:=(simp;omega)) only[h_D,h_N,h_A,h_S];done)|(simp[h_D,h_N,h_I,hkk];done)|fail),hK _ _ ?_⟩;clear hK K)| (go_at_call 50;(with_reducible refine HFIT.out.mono ?_);rintro e wc ⟨rfl,hbc⟩;refine⟨_,rfl,(fun kk hkk=>hbc.block kk hkk),hK _ _ ?_⟩;clear hK K))
   exact zah ⟨by rfl,by (repeat' (first|with_reducible (first|exact Zaa _ _|assumption|refine Zac ?_|refine Zab ?_ ?_ _)|omega|(simp;done)|(simp;omega)))⟩
  intro js wu hbu;simp only[UT.dsts,zct,SOp.dst,Option.toList_some,Option.toList_none,Zas,Zav,Zal,cond_true,cond_false]
  repeat ((with_reducible refine zac (fun K hK=>?_));go_simp;first|(refine hK _ _ ?_;clear hK K)|(refine⟨by (intro kk hkk;first|exact hkk.elim|(simp (disch:=(simp;omega)) only[h_D,h_N,h_A,h_S];done)|(simp[h_D,h_N,h_I,hkk];done)|fail),hK _ _ ?_⟩;clear hK K)| (go_at_call 50;(with_reducible refine HFIT.out.mono ?_);rintro e wc ⟨rfl,hbc⟩;refine⟨_,rfl,(fun kk hkk=>hbc.block kk hkk),hK _ _ ?_⟩;clear hK K))
  refine zah ?_;clear hgr;have hb1u:Below w1.heap.size w1 wu:=((Zaa w1.heap.size w1).drew).trans hbu;have HBU:Hid (Below w.heap.size w wu):=Hd (HB1.out.trans (hb1u.mono HB1.out.size));have HEU:Hid (wu.heap[w.heap.size]? = some (.cells #[.pointer (some ⟨lb,0,none⟩)] 25 (0,0))∧wu.heap[w.heap.size+1]? = some (.cells #[.slice ah L ch] 41 (0,0))∧wu.heap[w.heap.size+1+1]? = some (.cells #[.int .i64 t] 3 (0,0))):=Hd ⟨zad hb1u HE345.out.1,zad hb1u HE345.out.2.1,zad hb1u HE345.out.2.2⟩;have hqq:=HQ.out;generalize hq:(b4 || !b2)=q at *;have HQQ:=Hd hqq;clear hqq hq hbu hb1u HQ HFIT HB1 HE345 y3 y4 y5 yn yd glb hbb2 hbb4;cases q
  case true =>
   have HNG:Hid (¬(0≤t∧zar n (-1) d l)):=Hd fun hg=>by have:=HQQ.out.2 hg;cases this
   go_wp2;refine zal (B:=w.heap.size) [] _ (zbf.nil _ _) fun w' hk=>⟨.tuple #[.slice none 0 0,.slice none 0 0,.int .i64 2],?_,?_⟩
   ·simp[results,Tryz.results27,go_sem]
   ·exact⟨(Kp.of_below HBU.out).trans (hk.mono (by simp)),(H.out.tells.ok.below HBU.out).kp hk (by simp),.inl ⟨HNG.out,rfl⟩⟩
  case false =>
  have hg:=HQQ.out.1 (by trivial);obtain⟨tn,rfl⟩:∃tn:Nat,t=(tn:Int):=⟨t.toNat,by omega⟩;have HG:=Hd hg;clear hg HQQ;have e3:=HEU.out.1;have y3:wu.cell? ⟨w.heap.size,0,none⟩=some (.pointer (some ⟨lb,0,none⟩)):=cOH e3 rfl;have y4:wu.cell? ⟨w.heap.size+1,0,none⟩=some (.slice ah L ch):=cOH HEU.out.2.1 rfl;have y5:wu.cell? ⟨w.heap.size+1+1,0,none⟩=some (.int .i64 tn):=cOH HEU.out.2.2 rfl;have g3:=lOH e3;have g4:=lOH HEU.out.2.1;have g5:=lOH HEU.out.2.2;have hMu:=H.out.below HBU.out;have yk:wu.cell? ⟨lb,2,none⟩=some (.int .i64 k):=cOH hMu.box rfl;have glb:=lOH hMu.box;have hfw:=hMu.tells.ok.lt;have HMU:=Hd hMu;clear e3 hMu;by_cases hbig:L<tn
  ·have hb1:(tn:Int)>(L:Int):=by omega
   have hb2:(L:Int)<(tn:Int):=by omega
   have HFEW:Hid ((l.length:Int)<(k:Int)+2*(tn:Int)):=Hd (by rw[HL.out];omega);go_upto_region 5 with fail
   have hgr:=hgK (fun kk=>kk<wu.heap.size);refine w_T (fun kk=>kk<wu.heap.size) [] (.sq [0,1,2,3,4,5,6,7,8,9,10,11,12,13,14,15,16] .done) (by kernel_rfl) (by kernel_rfl) ?_;simp only[TQ,Oper.slim,Nat.reduceBEq,Nat.reduceAdd]
   repeat' first|((with_reducible refine w_I ?_);first|(with_reducible refine w_D ?_)|((with_reducible refine w_S (fun K hK=>?_));go_simp;(refine hK _ _ ?_;clear hK K)))|fail
   clear hgr;clear y3 y4 y5 yk;go_wp2;refine zal (B:=w.heap.size) [] _ (zbf.nil _ _) fun w' hk=>⟨.tuple #[.slice none 0 0,.slice none 0 0,.int .i64 70],?_,?_⟩
   ·simp[results,Tryz.results27,go_sem]
   ·have hbd:=(HBU.out).drew;exact⟨(Kp.of_below hbd).trans (hk.mono (by simp)),(H.out.tells.ok.below hbd).kp hk (by simp),.inr ⟨HG.out,.inl ⟨HFEW.out,rfl⟩⟩⟩
  obtain⟨X,hX⟩:=zE4 (2*tn);obtain⟨Y,hY⟩:=zE4 (k+X);have x1:2*(tn:Int)=(X:Int):=by omega
  have x2:=zE6 (X:Int) (by omega);have x3:(k:Int)+(X:Int)=(Y:Int):=by omega
  have x4:=zE6 (Y:Int) (by omega);have hb1:¬(tn:Int)>(L:Int):=by omega
  have hb2:¬(L:Int)<(tn:Int):=by omega
  by_cases hfew:L<Y
  ·have hf1:(L:Int)<(Y:Int):=by omega
   have HFEW:Hid ((l.length:Int)<(k:Int)+2*(tn:Int)):=Hd (by rw[HL.out];omega);clear hX hY;go_upto_region 5 with fail
   have hgr:=hgK (fun kk=>kk<wu.heap.size);refine w_T (fun kk=>kk<wu.heap.size) [] (.sq [0,1,2,3,4,5,6,7,8,9,10,11,12,13,14,15,16] .done) (by kernel_rfl) (by kernel_rfl) ?_;simp only[TQ,Oper.slim,Nat.reduceBEq,Nat.reduceAdd]
   repeat' first|((with_reducible refine w_I ?_);first|(with_reducible refine w_D ?_)|((with_reducible refine w_S (fun K hK=>?_));go_simp;(refine hK _ _ ?_;clear hK K)))|fail
   clear hgr;clear y3 y4 y5 yk;go_wp2;refine zal (B:=w.heap.size) [] _ (zbf.nil _ _) fun w' hk=>⟨.tuple #[.slice none 0 0,.slice none 0 0,.int .i64 70],?_,?_⟩
   ·simp[results,Tryz.results27,go_sem]
   ·have hbd:=(HBU.out).drew;exact⟨(Kp.of_below hbd).trans (hk.mono (by simp)),(H.out.tells.ok.below hbd).kp hk (by simp),.inr ⟨HG.out,.inl ⟨HFEW.out,rfl⟩⟩⟩
  have hf1:¬(L:Int)<(Y:Int):=by omega
  have hmany:k+2*tn≤L:=by omega
  have HMANY:=Hd hmany;clear hX hY;go_upto_region 5 with fail
  have hgr:=hgK (fun kk=>kk<wu.heap.size);refine w_T (fun kk=>kk<wu.heap.size) [] (.sq [0,1,2,3,4,5,6,7,8,9,10,11,12,13,14,15,16] .done) (by kernel_rfl) (by kernel_rfl) ?_;simp only[TQ,Oper.slim,Nat.reduceBEq,Nat.reduceAdd]
  repeat' first|((with_reducible refine w_I ?_);first|(with_reducible refine w_D ?_)|((with_reducible refine w_S (fun K hK=>?_));go_simp;(refine hK _ _ ?_;clear hK K)))|fail
  clear hgr;clear x1 x2 x3 x4 hb1 hb2 hf1;obtain⟨i0,hi,hz0,hz1,hz2⟩:=info_parts zlw;have hmkR:∀W,(Instr.makeSlice 33 (.int .i64 k) (.int .i64 k)).run Tryz.prog W=.ok (.slice (some ⟨W.heap.size,0,none⟩) k k) (W.alloc (.cells (Array.replicate k (.slice none 0 0)) 22)):=fun W =>
   zb4 W 33 22 i0 (.slice none 0 0) Tryz.underlying33 hi hz0 hz1 rfl k (by rw[hz2];omega) (by unfold maxLen;omega)
  obtain⟨wv,hwv⟩:=zE5 wu.drew;have hbv:Below wu.heap.size wu wv:=by rw[hwv];exact (Zaa _ _).drew
  rw[←hwv];clear hwv hi hz0 hz1 hz2;have HBV:=Hd hbv;have y3:wv.cell? ⟨w.heap.size,0,none⟩=some (.pointer (some ⟨lb,0,none⟩)):=(hbv.cell (p:=⟨w.heap.size,0,none⟩) g3).trans y3;have yk:wv.cell? ⟨lb,2,none⟩=some (.int .i64 k):=(hbv.cell (p:=⟨lb,2,none⟩) glb).trans yk;have hsv:=hbv.size;have g3:w.heap.size<wv.heap.size:=by omega
  have glb:lb<wv.heap.size:=by omega
  clear y4 y5 g4 g5 hbv;have x1:(k:Int)*(k:Int)=(K2:Int):=by rw[←HK2.out];simp
  have x2:=zE6 (K2:Int) (by omega);obtain⟨i1,hi,hz0,hz1,hz2⟩:=info_parts zbi;have hmk:∀W,(Instr.makeSlice 22 (.int .i64 K2) (.int .i64 K2)).run Tryz.prog W=.ok (.slice (some ⟨W.heap.size,0,none⟩) K2 K2) (W.alloc (.cells (Array.replicate K2 (.int .u8 0)) 5)):=fun W =>
   zb4 W 22 5 i1 (.int .u8 0) Tryz.underlying22 hi hz0 hz1 rfl K2 (by rw[hz2];omega) (by unfold maxLen;omega)
  clear hi hz0 hz1 hz2;obtain⟨w7,hw7⟩:=zE5 ((wv.alloc (.cells (Array.replicate k (.slice none 0 0)) 22)).alloc (.cells #[.slice (some ⟨wv.heap.size,0,none⟩) k k] 33));have hb7:Below wv.heap.size wv w7:=by rw[hw7];(repeat' (first|with_reducible (first|exact Zaa _ _|assumption|refine Zac ?_|refine Zab ?_ ?_ _)|omega|(simp;done)|(simp;omega)))
  have hrb7:w7.heap[wv.heap.size]? = some (.cells (Array.replicate k (.slice none 0 0)) 22 (0,0)):=by rw[hw7];exact zaw (nwA _ _) _
  have hob7:w7.heap[wv.heap.size+1]? = some (.cells #[.slice (some ⟨wv.heap.size,0,none⟩) k k] 33 (0,0)):=by rw[hw7];exact nwE _ _ _ (by simp)
  go_upto_region 8 with fail
  rw[←hw7];clear hw7 hmkR;have HRB:=Hd hrb7;have HOB:=Hd hob7;have y3:w7.cell? ⟨w.heap.size,0,none⟩=some (.pointer (some ⟨lb,0,none⟩)):=(hb7.cell (p:=⟨w.heap.size,0,none⟩) g3).trans y3;have yk:w7.cell? ⟨lb,2,none⟩=some (.int .i64 k):=(hb7.cell (p:=⟨lb,2,none⟩) glb).trans yk;have hs7:=hb7.size;have hsob:=lOH hob7;have g3:w.heap.size<w7.heap.size:=by omega
  have glb:lb<w7.heap.size:=by omega
  have HB7:Hid (Below wu.heap.size wu w7):=Hd (HBV.out.trans (hb7.mono hsv));have hord:w.heap.size+1+1<wv.heap.size:=by have:=lOH HEU.out.2.2;omega
  obtain⟨rb,hrb⟩:=zE4 wv.heap.size;rw[hrb] at HRB HOB hsob hord ⊢;clear hrb7 hob7 hb7 hrb HBV hsv;rename_i Qx hKx;refine zcc (K1:=yfj w.heap.size (rb+1) k K2 w7) ?reg ?rest
  case reg =>
   have hgr:=hgK (fun kk=>kk<w7.heap.size);refine w_T (fun kk=>kk<w7.heap.size) [17,19,20] (.sq [0,1,2,3,4,5,6,7,8,9,10,11,12,13,14,15,16] (.fork 17 (.sq [18,19,20] .done) 19 (.sq [17,18,20] .done))) (by kernel_rfl) (by kernel_rfl) ?_;simp only[TQ,Oper.slim,Nat.reduceBEq,Nat.reduceAdd]
   repeat' first|((with_reducible refine w_I ?_);first|(with_reducible refine w_D ?_)|(with_reducible refine zaf ?_ ?_)|((with_reducible refine w_S (fun K hK=>?_));go_simp;first|(refine hK _ _ ?_;clear hK K)|(refine⟨by (intro kk hkk;first|(simp (disch:=(simp;omega)) only[h_D,h_N,h_A,h_S];done)|(simp[h_D,h_N,h_I,hkk];done)|fail),hK _ _ ?_⟩;clear hK K)))|fail
   all_goals clear hgr
   ·exact⟨w7.heap.size+1,w7.heap.size,by kernel_rfl,by (repeat' (first|with_reducible (first|exact Zaa _ _|assumption|refine Zac ?_|refine Zab ?_ ?_ _)|omega|(simp;done)|(simp;omega))),⟨by omega,by omega,by omega⟩,nwE _ _ _ (by simp),zaw (nwA _ _) _⟩
   ·exact⟨w7.heap.size,w7.heap.size+1,by kernel_rfl,by (repeat' (first|with_reducible (first|exact Zaa _ _|assumption|refine Zac ?_|refine Zab ?_ ?_ _)|omega|(simp;done)|(simp;omega))),⟨by omega,by omega,by omega⟩,zaw (nwA _ _) _,nwE _ _ _ (by simp)⟩
  case rest =>
   intro a W h;obtain⟨ib,gb,ha,hbW,⟨hib,hgb,hne⟩,hm,hgz⟩:=h;refine hKx _ _ ?_;obtain⟨u,hu⟩:∃u,a={ tmps:=zw5 w.heap.size (rb+1) ib u,defers:=[] }:=⟨_,ha⟩;subst hu;clear ha hKx y3 yk;obtain⟨w8,rfl⟩:=zE5 (W:World);have hb8:Below wu.heap.size wu w8:=HB7.out.trans (hbW.mono HB7.out.size);have HB8:Hid (Below w.heap.size w w8):=Hd (HBU.out.trans (hb8.mono HBU.out.size));have HRB:=Hd (zad hbW HRB.out);have HOB:=Hd (zad hbW HOB.out);have HIB:=Hd hm;have HGB:=Hd hgz;have HE8:Hid (w8.heap[w.heap.size]? = some (.cells #[.pointer (some ⟨lb,0,none⟩)] 25 (0,0))∧w8.heap[w.heap.size+1]? = some (.cells #[.slice ah L ch] 41 (0,0))∧w8.heap[w.heap.size+1+1]? = some (.cells #[.int .i64 tn] 3 (0,0))):=Hd ⟨zad hb8 HEU.out.1,zad hb8 HEU.out.2.1,zad hb8 HEU.out.2.2⟩;have hl8:ib<w8.heap.size∧gb<w8.heap.size:=⟨lOH hm,lOH hgz⟩;have hord8:rb+1<ib∧rb+1<gb:=by omega
   have y4:w8.cell? ⟨w.heap.size+1,0,none⟩=some (.slice ah L ch):=cOH HE8.out.2.1 rfl;have g4:=lOH HE8.out.2.1;clear hbW hm hgz hb8 HB7 HEU HMU HBU hib hgb g3 glb hs7 hsob;obtain⟨qb,hqb⟩:=zE4 w8.heap.size;have HQB:=Hd hqb;unfold zw5;have hz14:(w8.alloc (.cells #[.slice none 0 0] 44)).heap[qb]? = some (.cells #[.slice none 0 0] 44 (0,0)):=by rw[←hqb];exact nwA _ _
   have HZ14:=Hd hz14;have HK14:Hid (Kp [] w8 (w8.alloc (.cells #[.slice none 0 0] 44))):=Hd ((Kp.refl _ _).alloc _);clear hz14 hqb;go_wp2;rw[HQB.out];go_loopg [90] L (fun gk i wr=>∃(I:Nat) (av:Option Addr) (nv cv:Nat),I≤L∧gk=L-I∧i=.int .i64 I∧Hid (wr.heap[qb]? = some (.cells #[.slice av nv cv] 44 (0,0)))∧Hid (za4 wr (qb+1) (.slice av nv cv) (Sy.nodes (l.take I)))∧Hid (Kp [] w8 wr))
   case atStart=>exact⟨0,none,0,0,Zbp _,rfl,rfl,HZ14,by rw[List.take_zero];exact Hd (za4.nil _ _),HK14⟩
   case round =>
    clear HZ14 HK14 y4 g4;obtain⟨I,av,nv,cv,hI,rfl,rfl,HBX,HOZ,HKR⟩:=hrel;have hqr:=lOH HBX.out;have hbr:Below w8.heap.size w8 wr:=HKR.out.below (zE3 _) (by simp);by_cases hlt:I<L
    ·obtain⟨s,hs⟩:∃s,l[I]? = some s:=⟨_,zE1 (by rw[HL.out];exact hlt)⟩;obtain⟨-,hcap,b,o,rfl,hb,hat⟩:=SRd.at (HS.out.below (HB8.out.trans (hbr.mono HB8.out.size))).rd hs;have c0:wr.cell? ⟨b,o+I*2,none⟩=some (.int .i64 s.node):=hat 0 _ rfl;have c1:wr.cell? ⟨b,o+I*2+1,none⟩=some (.slice s.a s.d.length s.cp):=hat 1 _ rfl;obtain⟨x,hx⟩:=zE4 s.node;obtain⟨sl,hsl⟩:=zE4 s.d.length;rw[hx] at c0;rw[hsl] at c1;obtain⟨w10,hw10⟩:=zE5 (wr.alloc (.cells #[.int .i64 x,.slice s.a sl s.cp] 59));have hb10:Below wr.heap.size wr w10:=by rw[hw10];exact (Zaa _ _).alloc (zE3 _) _
     have hs10:wr.heap.size<w10.heap.size:=by rw[hw10];simp
     obtain⟨v11,w11,hap,ho11,hk11,hb11,-⟩:=zdf (W:=w10) x (HOZ.out.below hb10) (by simp[Sy.nodes];omega) (by omega) (ad:=wr.heap.size+1) (by rw[hw10];simp);have hnq:∀z,z∈(Value.slice av nv cv).ownBlock.toList→qb<z:=fun z hz=>by have:=(HOZ.out.lt z (by simpa using hz)).1;omega
     have hbx11:=hk11.heap (zad hb10 HBX.out) (fun hm=>by have:=hnq _ hm;omega);obtain⟨a11,c11,hv11⟩:=ho11.rd.form;obtain⟨n11,hn11⟩:=zE4 ((Sy.nodes (l.take I)++[x]).length);rw[hn11] at hv11;subst hv11;have y11:w11.cell? ⟨qb,0,none⟩=some (.slice av nv cv):=cOH hbx11 rfl;have z11:=fOH hbx11 0;have g11:=lOH hbx11;have y14:wr.cell? ⟨qb,0,none⟩=some (.slice av nv cv):=cOH HBX.out rfl;have hks:Kp [qb] w11 (w11.setCell ⟨qb,0,none⟩ (.slice a11 n11 c11)):=(Kp.refl _ _).setCell (.inl (by simp)) _;have HBN:Hid ((w11.setCell ⟨qb,0,none⟩ (.slice a11 n11 c11)).heap[qb]? = some (.cells #[.slice a11 n11 c11] 44 (0,0))):=Hd (by simpa using hSS hbx11 0 (.slice a11 n11 c11));have hnt:Sy.nodes (l.take (I+1))=Sy.nodes (l.take I)++[x]:=by rw[Zaz,hs];simp[Sy.nodes,hx]
     have HON:Hid (za4 (w11.setCell ⟨qb,0,none⟩ (.slice a11 n11 c11)) (qb+1) (.slice a11 n11 c11) (Sy.nodes (l.take (I+1)))):=Hd (by
      rw[hnt];exact ho11.kp hks (fun z hz hm=>by have:=(ho11.lt z hz).1;simp at hm;omega))
     have HKN:Hid (Kp [] w8 (w11.setCell ⟨qb,0,none⟩ (.slice a11 n11 c11))):=Hd (((HKR.out.below_step hb10).step hk11 (fun z hz=>.inr (by have:=hnq z hz;have:=HQB.out;omega))).step hks (fun z hz=>.inr (by simp at hz;have:=HQB.out;omega)));have i1:(0:Int)≤(I:Int)∧(I:Int)<(L:Int):=by omega
     rw[hw10] at hap;clear hat hs hx hsl hw10 hb10 hs10 ho11 hk11 hb11 hnq hbx11 hn11 hks hnt HOZ HKR HBX hbr;go_wp2_with (at_builtin;refine zae rfl _ _ _ rfl rfl rfl hap ?_);go_roundg (L-(I+1))
     case measure=>omega
     case rel=>exact⟨I+1,a11,n11,c11,by omega,rfl,by go_num,HBN,HON,HKN⟩
    ·obtain rfl:I=L:=by omega
     have hLt:l.take I=l:=by rw[←HL.out,Zbs]
     rw[hLt] at HOZ;have hnv:nv=I:=by obtain⟨a',c',e⟩:=HOZ.out.rd.form;cases e;simp[Sy.nodes,HL.out]
     subst hnv;have y3:wr.cell? ⟨w.heap.size,0,none⟩=some (.pointer (some ⟨lb,0,none⟩)):=cOH (zad hbr HE8.out.1) rfl;have g3:=lOH (zad hbr HE8.out.1);have HCL:=Hd (zps lb wr);clear hLt;go_wp2_with fail;refine HCL.out.mono ?_;rintro e w12 ⟨rfl,hb12,hbc⟩;have hqc:qb<wr.heap.size:=hqr;obtain⟨Bc,hBc⟩:=zE4 wr.heap.size;have h812:Below w8.heap.size w8 w12:=hbr.trans (hb12.mono hbr.size);have hw12:Below w.heap.size w w12:=HB8.out.trans (h812.mono HB8.out.size);have hlt12:=lOH hbc;have hM12:=H.out.below hw12;have hozl:∀z,(Value.slice av nv cv).ownBlock=some z→qb<z∧z<w12.heap.size:=fun z hz=>by have:=HOZ.out.lt z hz;omega
     rw[hBc] at hbc hlt12 hqc;have HDS:Hid (ztq w lb fb k (rb+1) rb ib gb qb Bc K2 nv ch cv w12.heap.size tn ah av (Sy.nodes l) w12):=Hd ⟨hM12.tells.ok,zad h812 HE8.out.1,zad h812 HE8.out.2.1,zad h812 HE8.out.2.2,zad h812 HOB.out,zad h812 HIB.out,zad hb12 HBX.out,HOZ.out.rd.kp (S:=[]) (Kp.of_below hb12) (fun _ _=>by simp),Kp.of_below hw12,⟨hfl,hord,by omega,hord8.1,hord8.2,hne,by have:=HQB.out;omega,by have:=HQB.out;omega,hqc,hlt12⟩,hozl⟩;have HOR:Hid (zpz w12 (w12.heap.size+0+2) rb k (fun _=>.slice none 0 0) (zhk k (d-k) 0 (fun _ _=>0))):=Hd ⟨fun i hi=>by
       rw[cell_of_row _ _ _ _ _ (0,0) (zad h812 HRB.out)];simp[hi],fun i hi=>fOH (zad h812 HRB.out) i,fun i hi=>by
       have e:zhk k (d-k) 0 (fun _ _=>(0:GF)) i=[]:=by unfold zhk;rw[Nat.zero_min];rfl
       rw[e];exact zao.nil _ _,fun i j hi hj hne b hb=>by simp[Value.ownBlock] at hb,by have:=h812.size;omega,by have:=h812.size;omega⟩
     have HVW:Hid (zag w12 gb K2 (flat k (zh7 (d-k) 0 (fun _ _=>0)))):=Hd ⟨lOH (zad h812 HGB.out),fun j hj=>⟨by
      have e:flat k (zh7 (d-k) 0 (fun _ _=>(0:GF))) j=0:=by unfold flat zh7;rw[if_neg (by omega)]
      rw[e,cell_of_row _ _ _ _ _ (0,0) (zad h812 HGB.out)];simp[hj];rfl,fOH (zad h812 HGB.out) j⟩⟩
     have HDI:Hid (yda w lb fb k (rb+1) rb ib gb qb Bc K2 nv ch cv w12.heap.size tn d ah av (za9 n) l 0 w12):=Hd ⟨HDS.out,_,_,HOR.out,HVW.out,fun c hc=>by unfold zt4 at hc;omega⟩;have hcs:=zzt Bc lb fb k d w12 hbc (lOH hM12.box) (cOH hM12.box rfl) (cOH hM12.box rfl) (by omega);have HCS:=Hd hcs;have HBcn:=Hd hBc;have hlb12:=lOH hM12.box;have hfb12:=hM12.tells.ok.lt;have hww:w.heap.size≤w12.heap.size:=hw12.size;clear hb12 hbc h812 hw12 hM12 hozl hbr y3 g3 HCL HOZ HKR HBX hqr hcs;go_wp2;rename_i Kr hKr;clear hBc;refine zc3 (zn9 w.heap.size (rb+1) ib qb) _ (by kernel_rfl) 101 (.func (.func 101) #[] #[.pointer (some ⟨Bc,0,none⟩)]) (by simp) ?_;intro u2 hu2;have HU:=Hd hu2;clear hu2;refine zrs (tg:=0) (gf:=101) (lb:=#[.pointer (some ⟨Bc,0,none⟩)]) (show u2 101=_ from HU.out) (enters_of Tryz.func101 (by kernel_rfl) rfl) HCS.out (Zaa _ _) (fun _=>rfl) hfb12 d (fun n h=>by cases h;rfl)
      (fun pre W=>yda w lb fb k (rb+1) rb ib gb qb Bc K2 nv ch cv w12.heap.size tn d ah av (za9 n) l pre.length W) (fun _ W=>ydd w fb k d tn (za9 n) l W)
      (fun pre W W' h hk=>h.stp hk) (fun pre W W' h hk=>h.stp hk hww) (fun pre W h=>h.1.ok) HDI.out (fun h=>by cases h) (fun b hb=>by simp only[Zbf,List.not_mem_nil,or_false] at hb;rcases hb with rfl|rfl<;>omega)
      (fun j=>{ tmps:=yav w.heap.size (rb+1) ib qb (zc1 k d j) (fun i=>(zn9 w.heap.size (rb+1) ib qb u2).getD i undef),defers:=[] })
      (fun j=>{ tmps:=ycu w.heap.size (rb+1) ib qb (zc1 k d j) (fun i=>(zn9 w.heap.size (rb+1) ib qb u2).getD i undef),defers:=[] }) (fun x=>by kernel_rfl) ?assign ?body ?done ?stop
     case assign =>
      intro lv x W K hK;unfold yav;gi_wp2;exact hK
     case body =>
      rintro lv pre j W hI ⟨hsp,hsl⟩ hlen hsz;have hi:j=pre.length:=by
       have:=congrArg (fun l=>l[pre.length]?) hsp
       simpa[Zax] using this
      subst hi;obtain⟨hS,a,vs,hO,hV,hC⟩:=hI;have hbody:=zsy w lb t1 t2 fb pb n k d (rb+1) rb ib gb qb Bc K2 nv ch cv w12.heap.size tn v1 v2 ah av l H.out hn HND.out HS.out HSA.out HL.out hll HG.out.2 HMANY.out HK2.out lv W pre.length hlen hS a vs hO hV hC hsz (fun i=>(zn9 w.heap.size (rb+1) ib qb u2).getD i undef);refine wpIn_mono hbody ?_;rintro e a' W' ⟨h1,h2,h3⟩;refine⟨h1,h2,?_⟩;rw[Zak,List.length_singleton];exact h3
     case done =>
      rintro D xs W hD rfl hI hK;rw[Zbg] at hI;have hDw:w.heap.size≤D:=by omega
      have hDf:D≠fb:=by omega
      refine hKr _ _ ?_;have htail:=zsx w lb t1 t2 fb pb n k d (rb+1) rb ib gb qb Bc K2 nv ch cv w12.heap.size tn v1 v2 ah av l H.out hn HND.out HS.out HSA.out HL.out hll HG.out.2 HMANY.out HK2.out hd30 W hI (fun i=>(zn9 w.heap.size (rb+1) ib qb u2).getD i undef) [yb4 D];refine htail _ ?fin ?go
      case fin =>
       intro a' W' p1 p2 c h6 h7 h8 hsz hds hkp hfo hend;obtain⟨u3,hu3,h6',h7',h8'⟩:∃u3,a'={ tmps:=zn8 u3,defers:=[yb4 D] }∧u3 6=p1∧u3 7=p2∧u3 8=.int .i64 c:=⟨fun i=>a'.tmps.getD i undef,by rw[zn7,←yax a'.tmps hsz,←hds],h6,h7,h8⟩;subst hu3;have hKD:=hkp.heap hK (by simpa using hDf);have hwk:=hI.1.kp.trans hkp;have hmn:=HMANY.out;unfold zn8;clear h6 h7 h8 hsz hds;refine zal (B:=w.heap.size) [D] W' (zbf.cons (zbf.nil _ _) hDw hKD (by simp)) fun w' hk=>⟨.tuple #[p1,p2,.int .i64 c],?_,?_⟩
       ·simp[results,Tryz.results27,go_sem,h6',h7',h8']
       ·refine⟨hwk.step hk (fun x hx=>.inr (by simp at hx;omega)),hfo.kp hk (by simp;omega),.inr ⟨HG.out,.inr ⟨by rw[HL.out];omega,?_⟩⟩⟩;rw[Zam];exact hend.offD hKD hk
      case go =>
       intro a' W' hsz hds hkp hfo htell;refine⟨rfl,hsz,⟨D,hds,hDw,hDf,hkp.heap hK (by simpa using hDf)⟩,hI.1.kp.trans hkp,hfo,.inr ⟨HG.out,.inr ⟨?_,.inr ⟨rfl,?_⟩⟩⟩⟩
       ·rw[HL.out];have:=HMANY.out;omega
       ·rw[Zam];exact htell
     case stop =>
      intro D pre W hD hp hx hK;have hDw:w.heap.size≤D:=by omega
      have hDf:D≠fb:=by omega
      refine wp_goto ?_;refine⟨rfl,rfl,⟨D,rfl,hDw,hDf,hK⟩,hx.1,hx.2.1,.inr ⟨HG.out,.inr ⟨?_,.inr ⟨rfl,?_⟩⟩⟩⟩
      ·rw[HL.out];have:=HMANY.out;omega
      ·rw[Zam];exact hx.2.2
