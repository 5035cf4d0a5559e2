import Derived.Test.YtcclhhjcejmepaaGreatZR05d
import Derived.Test.YtcclhhjcejmepaaGreatZWk
set_option linter.all false
set_option maxRecDepth 100000
set_option maxHeartbeats 16000000
namespace Go.Proofs.YtcclhhjcejmepaaGreat
open Go.RowKit Fld
namespace Fld
variable {F:Type} [Fld F]
theorem Ech.le {R c a:Nat} {A:Nat→Nat→F} {p:Nat→Nat} (h:Ech R c a A p):a≤c:=by
 have h1:∀r,r<a→r≤p r:=fun r=>by
  induction r with
  | zero=>intro _;omega
  | succ r ih=>intro hr;have:=ih (by omega);have:=h.mono r (r+1) (by omega) hr;omega
 cases a with
 | zero=>omega
 | succ a=>have:=h1 a (by omega);have:=h.lt a (by omega);omega
end Fld
def zbx (R C:Nat) (A:Nat→Nat→GF) (Y:Nat→GF) (x:Nat→GF):Prop:=∀i,i<R→sm C (fun k=>A i k*x k)=Y i
theorem zg2 {R C:Nat} {N:Nat→Nat→GF} {x:Nat→GF}:zd5 R C 1 N (zdp C N) x (fun _=>1)↔zbx R C N (fun i=>N i C) x:=by
 unfold zd5 zbx;have h:∀i,eqn C 1 N (zdp C N) x (fun _=>1) i=0↔sm C (fun k=>N i k*x k)=N i C:=fun i=>by
  rw[zde];have:sm 1 (fun l=>zdp C N i l*(1:GF))=N i C:=by show (0:GF)+N i C*1=N i C;rw[Fld.zadd,Fld.mone]
  rw[this]
 exact⟨fun hh i hi=>(h i).1 (hh i hi),fun hh i hi=>(h i).2 (hh i hi)⟩
theorem zkw {R C:Nat} {N:Nat→Nat→GF} {x:Nat→GF}:zd5 R C 1 N (zdp C N) x (fun _=>0)↔zbx R C N (fun _=>0) x:=by
 unfold zd5 zbx;have h:∀i,eqn C 1 N (zdp C N) x (fun _=>0) i=0↔sm C (fun k=>N i k*x k)=0:=fun i=>by
  rw[zde];have:sm 1 (fun l=>zdp C N i l*(0:GF))=0:=by show (0:GF)+N i C*0=0;rw[Fld.mzero,Fld.addz]
  rw[this]
 exact⟨fun hh i hi=>(h i).1 (hh i hi),fun hh i hi=>(h i).2 (hh i hi)⟩
theorem zki {R C:Nat} {A:Nat→Nat→GF} {Y x:Nat→GF}:zbx R C (zjw C A Y) (fun i=>zjw C A Y i C) x↔zbx R C A Y x:=by
 unfold zbx;have h:∀i,sm C (fun k=>zjw C A Y i k*x k)=sm C (fun k=>A i k*x k):=fun i=>zaj fun k hk=>by unfold zjw;rw[if_pos hk]
 have h2:∀i,zjw C A Y i C=Y i:=fun i=>by unfold zjw;rw[if_neg (by omega)]
 exact⟨fun hh i hi=>((h i).symm.trans (hh i hi)).trans (h2 i),fun hh i hi=>((h i).trans (hh i hi)).trans (h2 i).symm⟩
theorem zov {R C:Nat} {A:Nat→Nat→GF} {Y x:Nat→GF}:zbx R C (zjw C A Y) (fun _=>0) x↔zbx R C A (fun _=>0) x:=by
 unfold zbx;have h:∀i,sm C (fun k=>zjw C A Y i k*x k)=sm C (fun k=>A i k*x k):=fun i=>zaj fun k hk=>by unfold zjw;rw[if_pos hk]
 exact⟨fun hh i hi=>by rw[←h i,hh i hi],fun hh i hi=>by rw[h i,hh i hi]⟩
def zem (R C:Nat) (A:Nat→Nat→GF) (Y:Nat→GF) (w:World) (e:Ending) (w':World):Prop:=Below w.heap.size w w' ∧
 ((∃v x,e=.returned (.tuple #[.agg #[.int .i64 C,.int .i64 1,v],.int .i64 0])∧zao w' w.heap.size v x∧x.length=C∧∀x',zbx R C A Y x'↔∀k,k<C→x' k=x.getD k 0) ∨
  (e=.returned (.tuple #[.agg #[.int .i64 0,.int .i64 0,.slice none 0 0],.int .i64 51])∧((∃x,(∃k,k<C∧x k≠0)∧zbx R C A (fun _=>0) x)∨∀x,¬zbx R C A Y x)))
def ybe (x0 x1 x2 x3 x4 x5 x6 x7:Value) (u:Nat→Value):Array Value:=#[x0,x1,x2,x3,x4,x5,x6,x7,u 8,u 9,u 10,u 11,u 12,u 13,u 14,u 15,u 16,u 17,u 18,u 19,u 20,u 21,u 22,u 23,u 24,u 25,u 26,u 27,u 28,u 29,u 30,u 31,u 32,u 33,u 34,u 35,u 36,u 37,u 38,u 39,u 40,u 41,u 42,u 43,u 44,u 45,u 46,u 47,u 48,u 49,u 50,u 51,u 52,u 53,u 54,u 55,u 56,u 57,u 58,u 59,u 60,u 61,u 62,u 63,u 64,u 65,u 66,u 67,u 68,u 69,u 70,u 71,u 72,u 73,u 74,u 75,u 76,u 77,u 78,u 79,u 80,u 81,u 82,u 83,u 84,u 85,u 86,u 87,u 88,u 89,u 90,u 91,u 92]
def yfy (R C C1 P1:Nat) (M:Nat→Nat→GF) (x0 x1 x2 x3 x4:Value) (w2:World) (a:Act) (W:World):Prop:=∃mb b v zs p N,a={ tmps:=ybe x0 x1 x2 x3 x4 (.int .i64 0) (.pointer (some ⟨mb,0,none⟩)) v (fun i=>a.tmps.getD i undef),defers:=[] }∧Below w2.heap.size w2 W∧(w2.heap.size≤mb∧w2.heap.size≤b∧mb≠b) ∧
 W.heap[mb]? = some (.cells #[.int .i64 R,.int .i64 C1,.slice (some ⟨b,0,none⟩) P1 P1] 96 (0,0))∧zag W b P1 (flat C1 N)∧za4 W w2.heap.size v zs∧Ech R C zs.length N p∧(∀x z,zd5 R C 1 N (zdp C N) x z↔zd5 R C 1 M (zdp C M) x z)
theorem zo6 (R C P g cap gb ob cb:Nat) (A:Nat→Nat→GF) (y:List GF) (w:World) (hP:R*C=P) (hR:1≤R∧R≤500) (hC:1≤C∧C≤500) (hcap:P≤cap) (hv:zag w g P (flat C A)) (hy:GRd w (.slice (some ⟨gb,ob,none⟩) R cb) y) :
  Calls Tryz.prog 107 #[.agg #[.int .i64 R,.int .i64 C,.slice (some ⟨g,0,none⟩) P cap],.agg #[.int .i64 R,.int .i64 1,.slice (some ⟨gb,ob,none⟩) R cb]] w (zem R C A (fun i=>y.getD i 0) w):=by
 have hPm:P≤500*500:=by rw[←hP];exact Zai hR.2 hC.2
 obtain⟨C1,hC1⟩:=zE4 (C+1);obtain⟨P1,hP1⟩:=zE4 (R*C1);have hP1m:P1≤500*501:=by rw[←hP1];exact Zai hR.2 (by omega)
 obtain⟨M,hM⟩:∃M,zjw C A (fun i=>y.getD i 0)=M:=⟨_,rfl⟩;have HRA:=Hd (fun W=>zc8 R C (some ⟨g,0,none⟩) P cap W (by omega) (by omega) hP.symm);have HRB:Hid (∀W,Calls Tryz.prog 84 #[.agg #[.int .i64 R,.int .i64 1,.slice (some ⟨gb,ob,none⟩) R cb]] W fun e w'=>e=.returned (.bool true)∧Below W.heap.size W w'):=Hd (fun W=>zc8 R 1 (some ⟨gb,ob,none⟩) R cb W (by omega) (by omega) (Nat.mul_one R).symm);obtain⟨w1,hw1⟩:=zE5 (((w.alloc (.cells #[.int .i64 R,.int .i64 C,.slice (some ⟨g,0,none⟩) P cap] 96)).alloc (.cells #[.int .i64 R,.int .i64 1,.slice (some ⟨gb,ob,none⟩) R cb] 96)).alloc (.cells #[.int .i64 0,.int .i64 0,.slice none 0 0] 96));have hb1:Below w.heap.size w w1:=by rw[hw1];exact (((Zaa _ _).alloc (zE3 _) _).alloc (by simp) _).alloc (by simp;omega) _
 have d2:w1.heap[w.heap.size]? = some (.cells #[.int .i64 R,.int .i64 C,.slice (some ⟨g,0,none⟩) P cap] 96 (0,0)):=by rw[hw1];exact zaw (zaw (nwA _ _) _) _
 have d3:w1.heap[w.heap.size+1]? = some (.cells #[.int .i64 R,.int .i64 1,.slice (some ⟨gb,ob,none⟩) R cb] 96 (0,0)):=by rw[hw1];exact zaw (nwE _ _ _ (by simp)) _
 have d4:w1.heap[w.heap.size+1+1]? = some (.cells #[.int .i64 0,.int .i64 0,.slice none 0 0] 96 (0,0)):=by rw[hw1];exact nwE _ _ _ (by simp)
 have l2:=lOH d2;have l3:=lOH d3;have l4:=lOH d4;have z20:=cOH d2 (j:=0) rfl;have z21:=cOH d2 (j:=1) rfl;have z22:=cOH d2 (j:=2) rfl;have z30:=cOH d3 (j:=0) rfl;have z31:=cOH d3 (j:=1) rfl;have z32:=cOH d3 (j:=2) rfl;have D2:=Hd d2;have D3:=Hd d3;have D4:=Hd d4;have HW:=Hd hb1;have hgl:=hv.1;have HA:=Hd hv;have HY:=Hd hy;have HP:=Hd (Zao hP (Zao hP1 hC1));have HM:=Hd hM;clear hP hP1 hC1 hv hy hb1 d2 d3 d4 hM;go_enter Tryz.func107,Tryz.ntmps107;go_upto_region 1 with fail
 rw[←hw1];obtain⟨rb,hrb⟩:=zE4 (w.heap.size+1+1);rw[hrb] at D4 l4 ⊢;clear hw1;refine zbk (.step 0 (.step 1 (.step 2 (.step 3 (.unit 3 false (.step 4 (.step 5 (.step 6 .done))) 7 6 (.step 8 (.unit 8 false (.step 9 (.step 10 (.step 11 (.step 12 (.step 13 .done))))) 14 13 .done))))))) (by kernel_rfl) (by kernel_rfl) ?_;simp only[zkc,zgg,ztv,Oper.slim,List.contains_cons,List.contains_nil,Option.map_none,Zbv,List.getElem?_toArray,Zbj,List.getElem?_cons_succ,Option.bind_some,beq_self_eq_true,Bool.or_false,Nat.reduceBEq,Nat.reduceAdd,Zbe,Option.getD_some,Option.isSome_some,Option.isSome_none,Bool.false_and,Bool.true_and,Bool.false_eq_true,if_false,if_true,Option.some_beq_some,Option.some_beq_none,Option.none_beq_some,reduceCtorEq,ite_true,ite_false]
 repeat ((with_reducible refine zac (fun K hK=>?_));go_simp;first|(refine hK _ _ ?_;clear hK K)|(refine⟨by (intro kk hkk;first|exact hkk.elim|(simp (disch:=(simp;omega)) only[h_D,h_N,h_A,h_S];done)|(simp[h_D,h_N,h_I,hkk];done)|(have hkk2:=(HKP.out kk).1 hkk;simp (disch:=(first|(simp;done)|(simp;omega)|omega)) only[h_D,h_N,h_A,h_S];first|done|exact hby.block kk hkk2|exact hbx.block kk hkk2)),hK _ _ ?_⟩;clear hK K)| (go_at_call 84;first|((with_reducible refine (HRA.out _).mono ?_);rintro e wx ⟨rfl,hbx⟩;have HBX:Hid (Below w1.heap.size w1 wx):=Hd hbx;have hG3:=zad HBX.out D3.out;have v30:=cOH hG3 (j:=0) rfl;have v31:=cOH hG3 (j:=1) rfl;have v32:=cOH hG3 (j:=2) rfl;refine⟨_,rfl,(fun kk hkk=>hkk.elim),hK _ _ ?_⟩;clear hbx hK K)|((with_reducible refine (HRB.out _).mono ?_);rintro e wy ⟨rfl,hby⟩;refine⟨_,rfl,(fun kk hkk=>hkk.elim),hK _ _ ?_⟩;clear hK K)))
 refine zap (x:=?_) (by rfl) ?_ ?_;rotate_left
 ·intro hgd
  repeat ((with_reducible refine zac (fun K hK=>?_));go_simp;first|(refine hK _ _ ?_;clear hK K)|(refine⟨by (intro kk hkk;first|exact hkk.elim|(simp (disch:=(simp;omega)) only[h_D,h_N,h_A,h_S];done)|(simp[h_D,h_N,h_I,hkk];done)|(have hkk2:=(HKP.out kk).1 hkk;simp (disch:=(first|(simp;done)|(simp;omega)|omega)) only[h_D,h_N,h_A,h_S];first|done|exact hby.block kk hkk2|exact hbx.block kk hkk2)),hK _ _ ?_⟩;clear hK K)| (go_at_call 84;first|((with_reducible refine (HRA.out _).mono ?_);rintro e wx ⟨rfl,hbx⟩;have HBX:Hid (Below w1.heap.size w1 wx):=Hd hbx;have hG3:=zad HBX.out D3.out;have v30:=cOH hG3 (j:=0) rfl;have v31:=cOH hG3 (j:=1) rfl;have v32:=cOH hG3 (j:=2) rfl;refine⟨_,rfl,(fun kk hkk=>hkk.elim),hK _ _ ?_⟩;clear hbx hK K)|((with_reducible refine (HRB.out _).mono ?_);rintro e wy ⟨rfl,hby⟩;refine⟨_,rfl,(fun kk hkk=>hkk.elim),hK _ _ ?_⟩;clear hK K)))
  exact zah ⟨by rfl,by (repeat' (first|with_reducible (first|exact Zaa _ _|assumption|refine Zac ?_|refine Zab ?_ ?_ _)|omega|(simp;done)|(simp;omega)))⟩
 intro js wu hbu;have HBU:Hid (Below w1.heap.size w1 wu):=Hd (HBX.out.trans (hbu.mono HBX.out.size));have hE2:=zad HBU.out D2.out;have hE3:=zad HBU.out D3.out;have y20:=cOH hE2 (j:=0) rfl;have y30:=cOH hE3 (j:=0) rfl;simp only[UT.dsts,zct,SOp.dst,Option.toList_some,Option.toList_none,Zas,Zav,Zal,cond_true,cond_false]
 repeat ((with_reducible refine zac (fun K hK=>?_));go_simp;first|(refine hK _ _ ?_;clear hK K)|(refine⟨by (intro kk hkk;first|exact hkk.elim|(simp (disch:=(simp;omega)) only[h_D,h_N,h_A,h_S];done)|(simp[h_D,h_N,h_I,hkk];done)|(have hkk2:=(HKP.out kk).1 hkk;simp (disch:=(first|(simp;done)|(simp;omega)|omega)) only[h_D,h_N,h_A,h_S];first|done|exact hby.block kk hkk2|exact hbx.block kk hkk2)),hK _ _ ?_⟩;clear hK K)| (go_at_call 84;first|((with_reducible refine (HRA.out _).mono ?_);rintro e wx ⟨rfl,hbx⟩;have HBX:Hid (Below w1.heap.size w1 wx):=Hd hbx;have hG3:=zad HBX.out D3.out;have v30:=cOH hG3 (j:=0) rfl;have v31:=cOH hG3 (j:=1) rfl;have v32:=cOH hG3 (j:=2) rfl;refine⟨_,rfl,(fun kk hkk=>hkk.elim),hK _ _ ?_⟩;clear hbx hK K)|((with_reducible refine (HRB.out _).mono ?_);rintro e wy ⟨rfl,hby⟩;refine⟨_,rfl,(fun kk hkk=>hkk.elim),hK _ _ ?_⟩;clear hK K)))
 refine zax (x:=?_) (by rfl) ?_ ?_;rotate_left
 ·intro hgd
  repeat ((with_reducible refine zac (fun K hK=>?_));go_simp;first|(refine hK _ _ ?_;clear hK K)|(refine⟨by (intro kk hkk;first|exact hkk.elim|(simp (disch:=(simp;omega)) only[h_D,h_N,h_A,h_S];done)|(simp[h_D,h_N,h_I,hkk];done)|(have hkk2:=(HKP.out kk).1 hkk;simp (disch:=(first|(simp;done)|(simp;omega)|omega)) only[h_D,h_N,h_A,h_S];first|done|exact hby.block kk hkk2|exact hbx.block kk hkk2)),hK _ _ ?_⟩;clear hK K)| (go_at_call 84;first|((with_reducible refine (HRA.out _).mono ?_);rintro e wx ⟨rfl,hbx⟩;have HBX:Hid (Below w1.heap.size w1 wx):=Hd hbx;have hG3:=zad HBX.out D3.out;have v30:=cOH hG3 (j:=0) rfl;have v31:=cOH hG3 (j:=1) rfl;have v32:=cOH hG3 (j:=2) rfl;refine⟨_,rfl,(fun kk hkk=>hkk.elim),hK _ _ ?_⟩;clear hbx hK K)|((with_reducible refine (HRB.out _).mono ?_);rintro e wy ⟨rfl,hby⟩;refine⟨_,rfl,(fun kk hkk=>hkk.elim),hK _ _ ?_⟩;clear hK K)))
  exact zah ⟨by rfl,rfl⟩
 intro js;simp only[UT.dsts,zct,SOp.dst,Option.toList_some,Option.toList_none,Zas,Zav,Zal,cond_true,cond_false]
 try go_simp
 refine zah ?_
 try go_simp
 obtain⟨w2,rfl⟩:=zE5 (wu:World);have HW2:Hid (Below w.heap.size w w2):=Hd (HW.out.trans (HBU.out.mono HW.out.size));have D2:=Hd (zad HBU.out D2.out);have D3:=Hd (zad HBU.out D3.out);have D4:=Hd (zad HBU.out D4.out);have hl2:=lOH D2.out;have hl3:=lOH D3.out;have hl4:=lOH D4.out;clear hbu y20 y30 v30 v31 v32 hE2 hE3 hG3 z20 z21 z22 z30 z31 z32 HBX;have y20:=cOH D2.out (j:=0) rfl;have y21:=cOH D2.out (j:=1) rfl;have y22:=cOH D2.out (j:=2) rfl;have y30:=cOH D3.out (j:=0) rfl;have y31:=cOH D3.out (j:=1) rfl;have y32:=cOH D3.out (j:=2) rfl;have hbes:∀W,Below w2.heap.size w2 W→Calls Tryz.prog 132 #[.agg #[.int .i64 R,.int .i64 C,.slice (some ⟨g,0,none⟩) P cap],.agg #[.int .i64 R,.int .i64 1,.slice (some ⟨gb,ob,none⟩) R cb]] W (zgn R C A (fun i=>y.getD i 0) W):=fun W hW =>
  zva R C P g cap gb ob cb A y W HP.out.1 (by omega) (by omega) (by omega) hcap (HA.out.below (HW2.out.trans (hW.mono HW2.out.size))) (HY.out.below (HW2.out.trans (hW.mono HW2.out.size)))
 unfold zgn at hbes;rw[HP.out.2.2,HP.out.2.1,HM.out] at hbes;have HBES:=Hd hbes;have hred:∀(W:World) (b1 cap1:Nat),zag W b1 P1 (flat C1 M)→Calls Tryz.prog 131 #[.agg #[.int .i64 R,.int .i64 C1,.slice (some ⟨b1,0,none⟩) P1 cap1],.int .i64 C] W (zgm R C1 C P1 M W):=fun W b1 cap1 hv =>
  zu7 R C1 C P1 b1 cap1 M W HP.out.2.1 (by omega) (by omega) (by have:=HP.out.2.2;omega) (by have:=HP.out.2.2;omega) hv
 unfold zgm at hred;have HRED:=Hd hred;obtain⟨kp,hkp⟩:∃kp:Nat→Bool,∀j,kp j=true↔j<w2.heap.size:=⟨fun j=>decide (j<w2.heap.size),by simp⟩;have k1:kp w.heap.size=true:=(hkp _).2 hl2;have k2:kp (w.heap.size+1)=true:=(hkp _).2 hl3;have HKP:=Hd hkp;clear hbes hred hkp;go_upto_region 3 with fail
 rename_i Qx hKx;refine zcc (K1:=yfy R C C1 P1 M (.agg #[.int .i64 R,.int .i64 C,.slice (some ⟨g,0,none⟩) P cap]) (.agg #[.int .i64 R,.int .i64 1,.slice (some ⟨gb,ob,none⟩) R cb]) (.pointer (some ⟨w.heap.size,0,none⟩)) (.pointer (some ⟨w.heap.size+1,0,none⟩)) (.pointer (some ⟨rb,0,none⟩)) w2) ?reg ?rest
 case reg =>
  have hgr:=hgK (fun kk=>kp kk=true);refine w_T (fun kk=>kp kk=true) [2,5,9,10] (.sq [0,1,3,4] (.fork 2 (.fork 5 (.sq [6,7,8,9,10,11] .done) 9 (.sq [5,6,7,8,10,11] .done)) 9 (.sq [2,5,6,7,8,10,11] .done))) (by kernel_rfl) (by kernel_rfl) ?_;simp only[TQ,Oper.slim,Nat.reduceBEq,Nat.reduceAdd]
  repeat' first|((with_reducible refine w_I ?_);first|(with_reducible refine w_D ?_)|(with_reducible refine zaf ?_ ?_)|((with_reducible refine w_S (fun K hK=>?_));go_simp;first|(refine hK _ _ ?_;clear hK K)|(refine⟨by (intro kk hkk;first|(simp (disch:=(simp;omega)) only[h_D,h_N,h_A,h_S];done)|(simp[h_D,h_N,h_I,hkk];done)|(have hkk2:=(HKP.out kk).1 hkk;simp (disch:=(first|(simp;done)|(simp;omega)|omega)) only[h_D,h_N,h_A,h_S];first|done|exact hby.block kk hkk2|exact hbx.block kk hkk2)),hK _ _ ?_⟩;clear hK K)|(go_at_call 132;(with_reducible refine (HBES.out _ (by (repeat' (first|with_reducible (first|exact Zaa _ _|assumption|refine Zac ?_|refine Zab ?_ ?_ _)|omega|(simp;done)|(simp;omega))))).mono ?_);rintro e wx ⟨b1,cap1,rfl,hb1,hv1,hbx0⟩;have hbx:Below w2.heap.size w2 wx:=zbh (by (repeat' (first|with_reducible (first|exact Zaa _ _|assumption|refine Zac ?_|refine Zab ?_ ?_ _)|omega|(simp;done)|(simp;omega)))) hbx0;have hsx:=hbx.size;have hbl1:w2.heap.size≤b1:=(by first|omega|(simp at hb1;omega));(try (have hz:wx.heap[w2.heap.size]? = some (.cells #[.int .i64 0,.int .i64 0,.slice none 0 0] 96 (0,0)):=zad hbx0 (nwA w2 _)));have HRX:=Hd (fun W (hW:Below wx.heap.size wx W)=>HRED.out W b1 cap1 (hv1.below hW));refine⟨_,rfl,(fun kk hkk=>hbx.block kk ((HKP.out kk).1 hkk)),hK _ _ ?_⟩;clear hbx0 hb1 hv1 hK K)|(go_at_call 131;(with_reducible refine (HRX.out _ (by (repeat' (first|with_reducible (first|exact Zaa _ _|assumption|refine Zac ?_|refine Zab ?_ ?_ _)|omega|(simp;done)|(simp;omega))))).mono ?_);rintro e wy ⟨b2,v2,zs,p,N,rfl,hb2,hv2,ho2,he2,hm2,hby0⟩;have hby:Below w2.heap.size w2 wy:=zbh (by (repeat' (first|with_reducible (first|exact Zaa _ _|assumption|refine Zac ?_|refine Zab ?_ ?_ _)|omega|(simp;done)|(simp;omega)))) hby0;have hsy:=hby.size;have hbl2:w2.heap.size≤b2∧wx.heap.size≤b2:=(by first|omega|(simp at hb2;omega));have ho3:za4 wy w2.heap.size v2 zs∧∀k,v2.ownBlock=some k→wx.heap.size≤k:=Zao (ho2.mono (by first|omega|(simp;omega))) (fun k hk=>by have:=(ho2.lt k hk).1;first|omega|(simp at this;omega));(first|(have hz2:wy.heap[w2.heap.size]? = some (.cells #[.int .i64 0,.int .i64 0,.slice none 0 0] 96 (0,0)):=zad hby0 hz;have q0:wy.cell? ⟨w2.heap.size,0,none⟩=some (.int .i64 0):=cOH hz2 rfl;have q1:wy.cell? ⟨w2.heap.size,1,none⟩=some (.int .i64 0):=cOH hz2 rfl;have q2:wy.cell? ⟨w2.heap.size,2,none⟩=some (.slice none 0 0):=cOH hz2 rfl;have q3:=fOH hz2 0;have q4:=fOH hz2 1;have q5:=fOH hz2 2;have q6:=lOH hz2)|(have hz2:wy.heap[wx.heap.size]? = some (.cells #[.int .i64 0,.int .i64 0,.slice none 0 0] 96 (0,0)):=zad hby0 (nwA wx _);have q0:wy.cell? ⟨wx.heap.size,0,none⟩=some (.int .i64 0):=cOH hz2 rfl;have q1:wy.cell? ⟨wx.heap.size,1,none⟩=some (.int .i64 0):=cOH hz2 rfl;have q2:wy.cell? ⟨wx.heap.size,2,none⟩=some (.slice none 0 0):=cOH hz2 rfl;have q3:=fOH hz2 0;have q4:=fOH hz2 1;have q5:=fOH hz2 2;have q6:=lOH hz2)|skip);refine⟨_,rfl,(fun kk hkk=>hby.block kk ((HKP.out kk).1 hkk)),hK _ _ ?_⟩;clear hby0 hK K)))|fail
  all_goals clear hgr
  ·exact⟨wy.heap.size,b2,v2,zs,p,N,by kernel_rfl,hby.alloc hsy _,⟨by omega,by omega,by have:=hv2.1;omega⟩,nwA _ _,hv2.below ((Zaa _ _).alloc (zE3 _) _),ho3.1.below ((Zaa _ _).alloc (zE3 _) _),he2,hm2⟩
  ·have hb3:wx.heap.size+1≤b2:=by simpa using hb2
   have hap:za0 v2 [wx.heap.size]:=fun k hk hm=>by have h1:=(ho2.lt k hk).1;simp at h1 hm;omega
   exact⟨wx.heap.size,b2,v2,zs,p,N,by kernel_rfl,hby.trans ((zaq wy wx.heap.size _ _ _).below hsy (by simp;omega)),⟨by omega,by omega,by omega⟩,zlq hz2,hv2.kp (zaq _ _ _ _ _) (by simp;omega),ho3.1.kp (zaq _ _ _ _ _) hap,he2,hm2⟩
  ·have hzl:=lOH hz;have hap:za0 v2 [w2.heap.size]:=fun k hk hm=>by
    have h1:=ho3.2 k hk;simp at hm;omega
   exact⟨w2.heap.size,b2,v2,zs,p,N,by kernel_rfl,hby.trans ((zaq wy w2.heap.size _ _ _).below hsy (by simp)),⟨by omega,by omega,by omega⟩,zlq hz2,hv2.kp (zaq _ _ _ _ _) (by simp;omega),ho3.1.kp (zaq _ _ _ _ _) hap,he2,hm2⟩
 case rest =>
  intro a W h;obtain⟨mb,b,V,zs,p,N,ha,hbW,⟨hmb,hb,hne⟩,hmx,hv,hz,he,hmet⟩:=h;refine hKx _ _ ?_;obtain⟨u,hu⟩:∃u,a={ tmps:=ybe (.agg #[.int .i64 R,.int .i64 C,.slice (some ⟨g,0,none⟩) P cap]) (.agg #[.int .i64 R,.int .i64 1,.slice (some ⟨gb,ob,none⟩) R cb]) (.pointer (some ⟨w.heap.size,0,none⟩)) (.pointer (some ⟨w.heap.size+1,0,none⟩)) (.pointer (some ⟨rb,0,none⟩)) (.int .i64 0) (.pointer (some ⟨mb,0,none⟩)) V u,defers:=[] }:=⟨_,ha⟩;subst hu;clear ha hKx y20 y21 y22 y30 y31 y32 k1 k2 HKP HBES HRED HRA HRB;obtain⟨w3,rfl⟩:=zE5 (W:World);obtain⟨L,hL⟩:=zE4 zs.length;obtain⟨av,cv,hVf⟩:∃av cv,V=.slice av L cv:=by
   have:=hz.rd.form
   rw[hL] at this;exact this
  subst hVf;rw[hL] at he;have hLC:=he.le;have hLR:=he.aR;have HE:=Hd he;have HV:=Hd hv;have HMET:=Hd hmet;have HW3:Hid (Below w.heap.size w w3):=Hd (HW2.out.trans (hbW.mono HW2.out.size));have D2:=Hd (zad hbW D2.out);have D3:=Hd (zad hbW D3.out);have D4:=Hd (zad hbW D4.out);have DM:=Hd hmx;have hbl:=hv.1;have hs2:=HW2.out.size;have hs3:=hbW.size;have l2:=lOH D2.out;have l4:=lOH D4.out;have lm:=lOH hmx;have l3:=lOH D3.out;clear he hv hz hmet hmx hL hl2 hl3 hl4 hbW;unfold ybe;have y21:=cOH D2.out (j:=1) rfl;have y31:=cOH D3.out (j:=1) rfl;by_cases hlt:L<C
  ·have HFAIL:Hid (∃x,(∃k,k<C∧x k≠0)∧zbx R C A (fun _=>0) x):=Hd (by
    obtain⟨x,h1,h2⟩:=HE.out.kernel (zE3 _) hlt (.inl rfl);refine⟨x,h1,?_⟩;have h3:=(HMET.out x (fun _=>0)).1 (zkw.2 h2);have h4:=zkw.1 h3;rw[←HM.out] at h4;exact zov.1 h4)
   have q0:=cOH D4.out (j:=0) rfl;have q1:=cOH D4.out (j:=1) rfl;have q2:=cOH D4.out (j:=2) rfl;have f0:=fOH D4.out 0;have f1:=fOH D4.out 1;have f2:=fOH D4.out 2;have h7:=zlq (x:=.int .i64 0) (y:=.int .i64 0) (z:=.slice none 0 0) D4.out;have c0:=cOH h7 (j:=0) rfl;have c1:=cOH h7 (j:=1) rfl;have c2:=cOH h7 (j:=2) rfl;have HPO:Hid (zem R C A (fun i=>y.getD i 0) w (.returned (.tuple #[.agg #[.int .i64 0,.int .i64 0,.slice none 0 0],.int .i64 51])) (((w3.setCell ⟨rb,0,none⟩ (.int .i64 0)).setCell ⟨rb,1,none⟩ (.int .i64 0)).setCell ⟨rb,2,none⟩ (.slice none 0 0))):=Hd
    ⟨HW3.out.trans ((zaq w3 rb _ _ _).below (by omega) (by simp;omega)),.inr ⟨rfl,.inl HFAIL.out⟩⟩
   clear h7;go_wp2;refine bodyPost_ret (v:=.tuple #[.agg #[.int .i64 0,.int .i64 0,.slice none 0 0],.int .i64 51]) ?_ rfl HPO.out;simp[results,Tryz.results107,go_sem,c0,c1,c2]
  ·obtain rfl:L=C:=by omega
   obtain⟨w4,hw4⟩:=zE5 (w3.alloc (.cells #[.int .i64 L,.int .i64 1,.slice none 0 0] 96));obtain⟨xb,hxb⟩:=zE4 w3.heap.size;have hb4:Below w3.heap.size w3 w4:=by rw[hw4];exact (Zaa _ _).alloc (zE3 _) _
   have dx:w4.heap[xb]? = some (.cells #[.int .i64 L,.int .i64 1,.slice none 0 0] 96 (0,0)):=by rw[hw4,←hxb];exact nwA _ _
   have hs4:w4.heap.size=xb+1:=by rw[hw4,←hxb];simp
   have DX:=Hd dx;have D2:=Hd (zad hb4 D2.out);have D4:=Hd (zad hb4 D4.out);have DM:=Hd (zad hb4 DM.out);have HV4:=Hd (HV.out.below hb4);have HW4:Hid (Below w.heap.size w w4):=Hd (HW3.out.trans (hb4.mono HW3.out.size));have HS4:=Hd hs4;have hbx:b<xb∧mb<xb∧rb<xb∧w.heap.size<xb:=by omega
   clear hb4 dx hlt HV HW3;go_wp2;rw[←hw4];clear hw4 hxb y21 y31 hs4;go_loopg [9] R (fun gk i wr=>∃(I:Nat) (V:Value),I≤R∧gk=R-I∧i=.int .i64 I∧Hid (wr.heap[xb]? = some (.cells #[.int .i64 L,.int .i64 1,V] 96 (0,0)))∧Hid (zao wr (xb+1) V (rowF (fun k=>N k L) (min I L)))∧Hid (Kp [xb] w4 wr)∧Hid (∀i,L≤i→i<I→N i L=0))
   case atStart=>exact⟨0,_,by omega,rfl,rfl,DX,Hd (by rw[Nat.zero_min];exact zao.nil _ _),Hd (Kp.refl _ _),Hd (fun i _ h=>by omega)⟩
   case round =>
    clear DX;obtain⟨I,V,hI,rfl,rfl,HD,HO,HK,HZ⟩:=hrel;have hsr:=HK.out.size;have hs4:=HS4.out;have hEM:=HK.out.heap DM.out (by simp;omega);have m0:=cOH hEM (j:=0) rfl;have m1:=cOH hEM (j:=1) rfl;have m2:=cOH hEM (j:=2) rfl;have hE2:=HK.out.heap D2.out (by simp;omega);have y21:=cOH hE2 (j:=1) rfl;clear hEM hE2;by_cases hlt:I<R
    ·obtain⟨p1,hp1⟩:=zE4 (I*C1);obtain⟨p2,hp2⟩:=zE4 (p1+L);obtain⟨p3,hp3⟩:=zE4 (p1+C1);have hCC:=HP.out.2.2;have hp3P:p3≤P1:=by
      rw[←hp3,←hp1,←HP.out.2.1];have:=Zar C1 hlt;rw[Nat.succ_mul] at this;exact this
     have x1:(I:Int)*(C1:Int)=(p1:Int):=by rw[←hp1];simp
     have x2:(p1:Int)+(L:Int)=(p2:Int):=by omega
     have x3:(p1:Int)+(C1:Int)=(p3:Int):=by omega
     have w1':IntKind.i64.wrap (p1:Int)=(p1:Int):=Zbd _ (by omega);have w2':IntKind.i64.wrap (p2:Int)=(p2:Int):=Zbd _ (by omega);have w3':IntKind.i64.wrap (p3:Int)=(p3:Int):=Zbd _ (by omega);have hsl:∀W:World,(Instr.slice 22 (.slice (some ⟨b,0,none⟩) P1 P1) (some (.int .i64 (p2:Nat))) (some (.int .i64 (p3:Nat))) none).run Tryz.prog W=.ok (.slice (some ⟨b,p2,none⟩) 1 (P1-p2)) W:=by
      have:=zgs b 0 p2 p3 1 P1 P1 (by omega) (by omega) hp3P
      rwa[Zbe] at this
     have hvr:zag wr b P1 (flat C1 N):=HV4.out.kp HK.out (by simp;omega);have hval:flat C1 N p2=N I L:=by rw[←hp2,←hp1];exact zab (by omega) _ _ _ (by omega)
     by_cases hIC:I<L
     ·have hrow:GRd wr (.slice (some ⟨b,p2,none⟩) 1 (P1-p2)) [N I L]:=by
       have h:=hvr.rd (o:=p2) (m:=1) (cap:=P1-p2) (by omega) (by omega);rw[←hval];exact h
      have hmin:min I L=I:=by omega
      have hmin2:min (I+1) L=I+1:=by omega
      have ho:=HO.out;rw[hmin] at ho;obtain⟨v1,w5,hap,ho1,hk1,hb5,-⟩:=zdt ho hrow (by rw[zaa];omega) (by simp) (by omega);obtain⟨a1,e1,hv1,-⟩:=ho1.form;have hVm:xb∉V.ownBlock.toList:=fun hm=>by
       have:=(HO.out.lt xb (by simpa using hm)).1
       omega
      have hd5:=hk1.heap HD.out hVm;have hs5:=hk1.size;have c2:=cOH hd5 (j:=2) rfl;have f2:=fOH hd5 2;have x22:=cOH HD.out (j:=2) rfl;have hlr:=lOH HD.out;have hl5:=lOH hd5;obtain⟨L1,hL1⟩:∃L1,(rowF (fun k=>N k L) I++[N I L]).length=L1:=⟨_,rfl⟩;rw[hL1] at hv1;have hk6:Kp [xb] w5 (w5.setCell ⟨xb,2,none⟩ v1):=(Kp.refl _ _).setCell (.inl (by simp)) _;have HD6:Hid ((w5.setCell ⟨xb,2,none⟩ v1).heap[xb]? = some (.cells #[.int .i64 L,.int .i64 1,v1] 96 (0,0))):=Hd (by
       have:=hSS hd5 2 v1
       simpa using this)
      have HO6:Hid (zao (w5.setCell ⟨xb,2,none⟩ v1) (xb+1) v1 (rowF (fun k=>N k L) (min (I+1) L))):=Hd (by
       rw[hmin2,zbq];exact ho1.kp hk6 (fun k hk hm=>by have:=(ho1.lt k hk).1;simp at hm;omega))
      have HK6:Hid (Kp [xb] w4 (w5.setCell ⟨xb,2,none⟩ v1)):=Hd ((HK.out.step hk1 (fun x hx=>.inr (by
       have:=(HO.out.lt x (by simpa using hx)).1
       omega))).trans hk6)
      have HZ6:Hid (∀i,L≤i→i<I+1→N i L=0):=Hd fun i h1 h2=>by omega
      clear hrow ho ho1 hk1 hb5 hd5 hVm hk6 hL1 hp1 hp2 hp3 hval hvr HO HK HD HZ hmin hmin2;subst hv1;go_wp2_with (at_builtin;refine zae rfl _ _ _ rfl rfl rfl hap ?_);go_roundg (R-(I+1))
      case measure=>omega
      case rel=>exact⟨I+1,_,by omega,rfl,by go_num,HD6,HO6,HK6,HZ6⟩
     ·obtain⟨wo,rfl⟩:=zE5 (wr:World);obtain⟨cc,-⟩:=hvr.2 p2 (by omega);rw[hval] at cc;have hml:min I L=L:=by omega
      have hml2:min (I+1) L=L:=by omega
      have HO2:Hid (zao wo (xb+1) V (rowF (fun k=>N k L) (min (I+1) L))):=Hd (by rw[hml2,←hml];have:=HO.out;rw[hml] at this ⊢;exact this);clear hp1 hp2 hp3 hval hvr hml hml2;go_wp2;go_loopg [11] 1 (fun gk k wr=>∃K:Nat,K≤1∧gk=1-K∧k=.int .i64 K∧wr=wo∧(K=1→N I L=0))
      case atStart=>exact⟨0,by omega,rfl,rfl,rfl,fun h=>by omega⟩
      case round =>
       obtain⟨K,hK1,rfl,rfl,rfl,hKz⟩:=hrel;by_cases hK2:K<1
       ·obtain rfl:K=0:=by omega
        by_cases hz0:N I L=0
        ·have hcz:wr.cell? ⟨b,p2,none⟩=some (.int .u8 0):=by
          rw[cc,hz0];rfl
         clear cc;go_wp2;go_roundg 0
         case measure=>omega
         case rel=>exact⟨1,by omega,rfl,by go_num,rfl,fun _=>hz0⟩
        ·have hnz:(((N I L).n:Int) != 0)=true:=by have:=GF.ne0.1 hz0;simpa using this
         have HNONE:Hid (∀x,¬zbx R L A (fun i=>y.getD i 0) x):=Hd fun x hx=>by have h1:=zki.2 hx;rw[HM.out] at h1;have h2:=zg2.1 ((HMET.out x (fun _=>1)).2 (zg2.2 h1)) I hlt;rw[zow (fun k hk=>by rw[HE.out.full (zE3 _) I hlt k hk,if_neg (by omega),Fld.zmul])] at h2;exact hz0 h2.symm
         obtain⟨nn,hnn⟩:=zE4 ((N I L).n);rw[hnn] at cc hnz;have hE4:=HK.out.heap D4.out (by simp;omega);have q0:=cOH hE4 (j:=0) rfl;have q1:=cOH hE4 (j:=1) rfl;have q2:=cOH hE4 (j:=2) rfl;have f0:=fOH hE4 0;have f1:=fOH hE4 1;have f2:=fOH hE4 2;have hl4:=lOH hE4;have h7:=zlq (x:=.int .i64 0) (y:=.int .i64 0) (z:=.slice none 0 0) hE4;have c0:=cOH h7 (j:=0) rfl;have c1:=cOH h7 (j:=1) rfl;have c2:=cOH h7 (j:=2) rfl;have hsw:=HW4.out.size;have HPO:Hid (zem R L A (fun i=>y.getD i 0) w (.returned (.tuple #[.agg #[.int .i64 0,.int .i64 0,.slice none 0 0],.int .i64 51])) (((wr.setCell ⟨rb,0,none⟩ (.int .i64 0)).setCell ⟨rb,1,none⟩ (.int .i64 0)).setCell ⟨rb,2,none⟩ (.slice none 0 0))):=Hd
          ⟨(HW4.out.trans (HK.out.below hsw (by simp;omega))).trans ((zaq wr rb _ _ _).below (by omega) (by simp;omega)),.inr ⟨rfl,.inr HNONE.out⟩⟩
         clear h7 hE4 hz0 hnn;go_wp2;refine bodyPost_ret (v:=.tuple #[.agg #[.int .i64 0,.int .i64 0,.slice none 0 0],.int .i64 51]) ?_ rfl HPO.out;simp[results,Tryz.results107,go_sem,c0,c1,c2]
       ·obtain rfl:K=1:=by omega
        have HZ2:Hid (∀i,L≤i→i<I+1→N i L=0):=Hd fun i h1 h2=>by
         by_cases e:i=I
         ·rw[e];exact hKz rfl
         ·exact HZ.out i h1 (by omega)
        clear cc;go_wp2;go_roundg (R-(I+1))
        case measure=>omega
        case rel=>exact⟨I+1,V,by omega,rfl,by go_num,HD,HO2,HK,HZ2⟩
    ·have hIR:R=I:=by omega
     have hmin:min I L=L:=by omega
     have ho:=HO.out;rw[hmin] at ho;obtain⟨a1,e1,hVf,-⟩:=ho.form;rw[zaa] at hVf;have hE4:=HK.out.heap D4.out (by simp;omega);have q0:=cOH hE4 (j:=0) rfl;have q1:=cOH hE4 (j:=1) rfl;have q2:=cOH hE4 (j:=2) rfl;have f0:=fOH hE4 0;have f1:=fOH hE4 1;have f2:=fOH hE4 2;have hl4:=lOH hE4;have x0:=cOH HD.out (j:=0) rfl;have x1:=cOH HD.out (j:=1) rfl;have x2:=cOH HD.out (j:=2) rfl;have hlx:=lOH HD.out;have h7:=zlq (x:=.int .i64 L) (y:=.int .i64 1) (z:=V) hE4;have c0:=cOH h7 (j:=0) rfl;have c1:=cOH h7 (j:=1) rfl;have c2:=cOH h7 (j:=2) rfl;have hsw:=HW4.out.size;have HPO:Hid (zem R L A (fun i=>y.getD i 0) w (.returned (.tuple #[.agg #[.int .i64 L,.int .i64 1,V],.int .i64 0])) (((wr.setCell ⟨rb,0,none⟩ (.int .i64 L)).setCell ⟨rb,1,none⟩ (.int .i64 1)).setCell ⟨rb,2,none⟩ V)):=Hd
      ⟨(HW4.out.trans (HK.out.below hsw (by simp;omega))).trans ((zaq wr rb _ _ _).below (by omega) (by simp;omega)),.inl ⟨V,_,rfl,(ho.kp (zaq wr rb _ _ _) (fun k hk hm=>by
       have:=(ho.lt k hk).1
       simp at hm;omega)).mono (by omega),zaa _ _,fun x'=>by
       have h1:zbx R L A (fun i=>y.getD i 0) x'↔zd5 R L 1 N (zdp L N) x' (fun _=>1):=by rw[HMET.out x' (fun _=>1),zg2,←HM.out];exact zki.symm
       have h2:=zqw (D:=1) (NB:=zdp L N) HE.out (zE3 _) (fun i h1 h2 l hl=>HZ.out i h1 (by omega)) x' (fun _=>1);rw[h1,h2];refine forall_congr' fun k=>forall_congr' fun hk=>?_;rw[zam _ hk];have:sm 1 (fun l=>zdp L N k l*(1:GF))=N k L:=by show (0:GF)+N k L*1=N k L;rw[Fld.zadd,Fld.mone]
       rw[this]⟩⟩
     subst hVf;clear h7 hE4 ho hmin;go_wp2;refine bodyPost_ret (v:=.tuple #[.agg #[.int .i64 L,.int .i64 1,.slice a1 L e1],.int .i64 0]) ?_ rfl HPO.out;simp[results,Tryz.results107,go_sem,c0,c1,c2]
noncomputable def ze5 (B i:Nat):List GF:=rowF (fun j=>if j=i then 1 else 0) B
theorem zm0 (B i:Nat):(ze5 B i).length=B:=zaa _ _
theorem zmg {B p:Nat} (m:List GF) (hp:p<B):m.getD p 0=sm B fun i=>(ze5 B i).getD p 0*m.getD i 0:=by
 have h:∀i,(ze5 B i).getD p 0=if p=i then 1 else 0:=fun i=>zam _ hp
 rw[zhh p hp (fun i _ hi=>by rw[h,if_neg (Ne.symm hi),zmul]),h,if_pos rfl,ztt]
theorem yd4 {K D:Nat} (m:List GF) (i k:Nat):mM K D m i k=sm (mbB K D) fun q=>mM K D (ze5 (mbB K D) q) i k*m.getD q 0:=by
 unfold mM;by_cases h1:i<K∧k<K
 ·simp only[if_pos h1];exact zmg m (znd h1.1 h1.2)
 ·simp only[if_neg h1];by_cases h2:i<K
  ·simp only[if_pos h2];by_cases h3:k<D
   ·simp only[if_pos h3];exact zmg m (ya8 h2 h3 (by omega))
   ·simp only[if_neg h3];exact (zow fun q _=>zmul _).symm
  ·simp only[if_neg h2];by_cases h3:k<K
   ·simp only[if_pos h3];by_cases h4:i<D
    ·simp only[if_pos h4];exact zmg m (ya8 h3 h4 (by omega))
    ·simp only[if_neg h4];exact (zow fun q _=>zmul _).symm
   ·simp only[if_neg h3];exact (zow fun q _=>zmul _).symm
theorem zwa {K D:Nat} (m:List GF) (x:GF) (c:Nat):mSh K D m x c=sm (mbB K D) fun q=>mSh K D (ze5 (mbB K D) q) x c*m.getD q 0:=by
 have h:∀m:List GF,mSh K D m x c=sm D fun a=>mM K D m a c*pw x a:=fun m=>by unfold mSh;rw[zg4,zaa];exact zaj fun a ha=>by rw[zam _ ha]
 rw[h];have e1:(sm D fun a=>mM K D m a c*pw x a)=sm D fun a=>sm (mbB K D) fun q=>mM K D (ze5 (mbB K D) q) a c*m.getD q 0*pw x a:=zaj fun a _=>by rw[yd4 m a c,zln]
 rw[e1,zui];refine zaj fun q _=>?_;rw[h,←zln];refine zaj fun a _=>?_;rw[Fld.mulA,Fld.mulA,Fld.mulC (m.getD q 0)]
noncomputable def yew (K D:Nat) (xs:Nat→GF):Nat→Nat→GF:=fun r q=>mSh K D (ze5 (mbB K D) q) (xs (r / D)) (r % D)
noncomputable def zlb (A:Nat→Nat→GF) (I r0:Nat):Nat→Nat→GF:=fun r q=>if q<I∨q=I∧r<r0 then A r q else 0
theorem zxi {A:Nat→Nat→GF} {I r0:Nat} (r q:Nat):zlb A I (r0+1) r q=if r=r0∧q=I then A r0 I else zlb A I r0 r q:=by
 unfold zlb;by_cases h:r=r0∧q=I
 ·obtain⟨rfl,rfl⟩:=h;rw[if_pos (by omega),if_pos ⟨rfl,rfl⟩]
 ·rw[if_neg h];by_cases h2:q<I∨q=I∧r<r0
  ·rw[if_pos h2,if_pos (by omega)]
  ·rw[if_neg h2,if_neg (by omega)]
theorem zxj {A:Nat→Nat→GF} {I R r q:Nat} (hr:r<R):zlb A I R r q=zlb A (I+1) 0 r q:=by
 unfold zlb;by_cases h2:q<I∨q=I∧r<R
 ·rw[if_pos h2,if_pos (by omega)]
 ·rw[if_neg h2,if_neg (by omega)]
theorem zz5 {A:Nat→Nat→GF} {B r q:Nat} (hq:q<B):zlb A B 0 r q=A r q:=by unfold zlb;rw[if_pos (.inl hq)]
theorem zl8 {K D:Nat} {xs:Nat→GF} {Y:Nat→GF} {m:List GF} (hD:0<D):(∀r,r<K*D→(sm (mbB K D) fun q=>yew K D xs r q*m.getD q 0)=Y r)↔∀j,j<K→zau K D m (xs j)=rowF (fun k=>Y (j*D+k)) D:=by
 have e:∀r,(sm (mbB K D) fun q=>yew K D xs r q*m.getD q 0)=mSh K D m (xs (r / D)) (r % D):=fun r=>(zwa m _ _).symm;constructor
 ·intro h j hj;unfold zau;refine Zbu fun k hk=>?_;have hk:=Zaj.1 hk;have h1:=h (j*D+k) (zaz hj hk);have e1:(j*D+k) / D=j:=by rw[Zci,Nat.mul_add_div hD,Nat.div_eq_of_lt hk,Nat.add_zero]
  have e2:(j*D+k) % D=k:=by rw[Zci,Nat.mul_add_mod,Zbl hk]
  rw[e,e1,e2] at h1;exact h1
 ·intro h r hr;obtain⟨j,k,hj,hk,rfl⟩:=za2 hD hr;have h1:=zc7 (h j hj) hk;have e1:(j*D+k) / D=j:=by rw[Zci,Nat.mul_add_div hD,Nat.div_eq_of_lt hk,Nat.add_zero]
  have e2:(j*D+k) % D=k:=by rw[Zci,Nat.mul_add_mod,Zbl hk]
  rw[e,e1,e2];exact h1
