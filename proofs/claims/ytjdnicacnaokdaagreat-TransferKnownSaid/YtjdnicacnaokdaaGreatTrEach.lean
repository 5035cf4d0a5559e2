/-
  What is done with each other node of a code of edges.
-/
import Derived.Test.YtjdnicacnaokdaaGreatTrPG
namespace Go.Proofs.YtjdnicacnaokdaaGreat
open Go.RowKit Fld
set_option linter.unusedVariables false
set_option linter.unusedSimpArgs false

structure TrB (W:World) (lb n mb:Nat):Prop where
 c0:W.cell? ⟨lb,0,none⟩=some (.int .i64 n)
 c2:W.cell? ⟨lb,2,none⟩=some (.map (some mb))
 tab:EdgeTab W mb n (eN n)
 lt:lb < W.heap.size
theorem TrC.b {w:World} {lb cb fb mb n k:Nat} {cv:Value} (h:TrC w lb cb fb mb n k cv):TrB w lb n mb :=
 ⟨cell_of_heap h.box (j:=0) rfl,cell_of_heap h.box (j:=2) rfl,h.tab,lt_of_heap h.box⟩
theorem TrB.kp {w w':World} {lb n mb:Nat} {S:List Nat} (h:TrB w lb n mb) (hk:Kp S w w') (hl:lb ∉ S) (hm:mb ∉ S):TrB w' lb n mb :=
 ⟨(hk.cell (p:=⟨lb,0,none⟩) h.lt hl).trans h.c0,(hk.cell (p:=⟨lb,2,none⟩) h.lt hl).trans h.c2,h.tab.kp hk hm,Nat.lt_of_lt_of_le h.lt hk.size⟩
def cntO (j o:Nat):Nat:=if o≤j then o else o - 1
theorem cntO_all {j n:Nat} (h:j < n):cntO j n=n - 1:=by unfold cntO;split <;> omega
theorem cntO_plc {j o:Nat} (h:o ≠ j):cntO j o=plcN j o:=by unfold cntO plcN;split <;> split <;> omega
theorem cntO_succ {j o:Nat} (h:o ≠ j):cntO j (o+1)=plcN j o+1:=by unfold cntO plcN;split <;> split <;> omega
theorem cntO_skip (j:Nat):cntO j (j+1)=cntO j j:=by unfold cntO;split <;> split <;> omega
set_option maxRecDepth 100000 in
set_option maxHeartbeats 4000000 in
theorem eachE_any (w:World) (lb n mb j:Nat) (x y z:Nat) (I:Nat→World→Prop) (hn:n≤23) (hj:j < n) (hk:∀ o W,I o W→TrB W lb n mb) (hs:∀ W,I j W→I (j+1) W)
  (hc:∀ o W,o < n→o ≠ j→I o W→Calls Tryz.prog 36 #[.int .i64 o,.int .i64 (plcN j o:Nat),.int .i64 (eE n j o:Nat),.pointer (some ⟨x,0,none⟩),.pointer (some ⟨y,0,none⟩),.pointer (some ⟨z,0,none⟩)] W fun e W'=>e=.returned (.tuple #[])∧I (o+1) W') (h0:I 0 w) :
  Calls Tryz.prog 35 #[.pointer (some ⟨lb,0,none⟩),.int .i64 j,.func (.func 36) #[] #[.pointer (some ⟨x,0,none⟩),.pointer (some ⟨y,0,none⟩),.pointer (some ⟨z,0,none⟩)]] w fun e W'=>e=.returned (.tuple #[])∧I n W':=by
 have c0:=(hk 0 w h0).c0
 have HK:=Lib.hid hk
 have HS:=Lib.hid hs
 have HC:=Lib.hid hc
 have H0:=Lib.hid h0
 clear hk hs hc h0
 go_enter Tryz.func35,Tryz.ntmps35
 go_wp2
 clear c0
 go_loopg [6,12] n (fun gk p i wr=>∃ (P O:Nat),p=.int .i64 P∧i=.int .i64 O∧O≤n∧gk=n - O∧P=cntO j O∧Hid (I O wr))
 case atStart=>exact ⟨0,0,rfl,rfl,by omega,rfl,by unfold cntO;split <;> omega,H0⟩
 case round =>
  clear H0
  obtain ⟨P,O,rfl,rfl,hO,rfl,hP,HI⟩:=hrel
  by_cases hlt:O < n
  ·have hb:=HK.out O wr HI.out
   by_cases he:O=j
   ·subst he
    have HI2:=Lib.hid (HS.out wr HI.out)
    have hP2:P=cntO O (O+1):=by rw [hP];unfold cntO;split <;> split <;> omega
    have HP2:=Lib.hid hP2
    clear HI hP hP2 hb
    go_wp2
    go_roundg (n - (O+1))
    case measure=>omega
    case rel=>exact ⟨P,O+1,rfl,by go_num,by omega,rfl,HP2.out,HI2⟩
   ·have he':¬ (O:Int)=(j:Int):=by omega
    have hP1:P=plcN j O:=by rw [hP];unfold cntO plcN;split <;> split <;> omega
    have HP2:Hid (P+1=cntO j (O+1)):=Lib.hid (by rw [hP1];unfold cntO plcN;split <;> split <;> omega)
    have HCL:=Lib.hid (HC.out O wr hlt he HI.out)
    rw [← hP1] at HCL
    have c2:=hb.c2
    have x1:(P:Int)+1=((P+1:Nat):Int):=by omega
    have x2:IntKind.i64.wrap ((P+1:Nat):Int)=((P+1:Nat):Int):=IntWalk.i64_in _ (by have:plcN j O≤O:=by { unfold plcN;split <;> omega };omega)
    generalize hPP:P+1=P1 at *
    rcases Nat.lt_or_ge O j with hoj | hoj
    ·have hlk:=hb.tab.look hn (Nat.le_refl _) O j hoj hj
     rw [eE_comm n O j] at hlk
     have m1:min (j:Int) (O:Int)=(O:Int):=by omega
     have m2:max (j:Int) (O:Int)=(j:Int):=by omega
     have m3:(O:Int) < (j:Int):=by omega
     have m4:¬ (j:Int) < (O:Int):=by omega
     clear hb hP hP1 hPP
     go_wp2_with fail
     refine HCL.out.mono ?_
     rintro e wc ⟨rfl,hi⟩
     have HI2:=Lib.hid hi
     clear hi HCL hlk HI
     go_wp2
     go_roundg (n - (O+1))
     case measure=>omega
     case rel=>exact ⟨P1,O+1,rfl,by go_num,by omega,rfl,HP2.out,HI2⟩
    ·have hoj':j < O:=by omega
     have hlk:=hb.tab.look hn (Nat.le_refl _) j O hoj' hlt
     have m1:min (j:Int) (O:Int)=(j:Int):=by omega
     have m2:max (j:Int) (O:Int)=(O:Int):=by omega
     have m3:(j:Int) < (O:Int):=by omega
     have m4:¬ (O:Int) < (j:Int):=by omega
     clear hb hP hP1 hPP
     go_wp2_with fail
     refine HCL.out.mono ?_
     rintro e wc ⟨rfl,hi⟩
     have HI2:=Lib.hid hi
     clear hi HCL hlk HI
     go_wp2
     go_roundg (n - (O+1))
     case measure=>omega
     case rel=>exact ⟨P1,O+1,rfl,by go_num,by omega,rfl,HP2.out,HI2⟩
  ·obtain rfl:O=n:=by omega
   have HI2:=HI
   go_wp2
   go_end0
   exact ⟨rfl,HI2.out⟩
set_option maxRecDepth 100000 in
set_option maxHeartbeats 4000000 in
theorem eachH_any (w:World) (lb n mb j:Nat) (x y z:Nat) (I:Nat→World→Prop) (hn:n≤23) (hj:j < n) (hk:∀ o W,I o W→TrB W lb n mb) (hs:∀ W,I j W→I (j+1) W)
  (hc:∀ o W,o < n→o ≠ j→I o W→Calls Tryz.prog 41 #[.int .i64 o,.int .i64 (plcN j o:Nat),.int .i64 (eE n j o:Nat),.pointer (some ⟨x,0,none⟩),.pointer (some ⟨y,0,none⟩),.pointer (some ⟨z,0,none⟩)] W fun e W'=>e=.returned (.tuple #[])∧I (o+1) W') (h0:I 0 w) :
  Calls Tryz.prog 35 #[.pointer (some ⟨lb,0,none⟩),.int .i64 j,.func (.func 41) #[] #[.pointer (some ⟨x,0,none⟩),.pointer (some ⟨y,0,none⟩),.pointer (some ⟨z,0,none⟩)]] w fun e W'=>e=.returned (.tuple #[])∧I n W':=by
 have c0:=(hk 0 w h0).c0
 have HK:=Lib.hid hk
 have HS:=Lib.hid hs
 have HC:=Lib.hid hc
 have H0:=Lib.hid h0
 clear hk hs hc h0
 go_enter Tryz.func35,Tryz.ntmps35
 go_wp2
 clear c0
 go_loopg [6,12] n (fun gk p i wr=>∃ (P O:Nat),p=.int .i64 P∧i=.int .i64 O∧O≤n∧gk=n - O∧P=cntO j O∧Hid (I O wr))
 case atStart=>exact ⟨0,0,rfl,rfl,by omega,rfl,by unfold cntO;split <;> omega,H0⟩
 case round =>
  clear H0
  obtain ⟨P,O,rfl,rfl,hO,rfl,hP,HI⟩:=hrel
  by_cases hlt:O < n
  ·have hb:=HK.out O wr HI.out
   by_cases he:O=j
   ·subst he
    have HI2:=Lib.hid (HS.out wr HI.out)
    have hP2:P=cntO O (O+1):=by rw [hP];unfold cntO;split <;> split <;> omega
    have HP2:=Lib.hid hP2
    clear HI hP hP2 hb
    go_wp2
    go_roundg (n - (O+1))
    case measure=>omega
    case rel=>exact ⟨P,O+1,rfl,by go_num,by omega,rfl,HP2.out,HI2⟩
   ·have he':¬ (O:Int)=(j:Int):=by omega
    have hP1:P=plcN j O:=by rw [hP];unfold cntO plcN;split <;> split <;> omega
    have HP2:Hid (P+1=cntO j (O+1)):=Lib.hid (by rw [hP1];unfold cntO plcN;split <;> split <;> omega)
    have HCL:=Lib.hid (HC.out O wr hlt he HI.out)
    rw [← hP1] at HCL
    have c2:=hb.c2
    have x1:(P:Int)+1=((P+1:Nat):Int):=by omega
    have x2:IntKind.i64.wrap ((P+1:Nat):Int)=((P+1:Nat):Int):=IntWalk.i64_in _ (by have:plcN j O≤O:=by { unfold plcN;split <;> omega };omega)
    generalize hPP:P+1=P1 at *
    rcases Nat.lt_or_ge O j with hoj | hoj
    ·have hlk:=hb.tab.look hn (Nat.le_refl _) O j hoj hj
     rw [eE_comm n O j] at hlk
     have m1:min (j:Int) (O:Int)=(O:Int):=by omega
     have m2:max (j:Int) (O:Int)=(j:Int):=by omega
     have m3:(O:Int) < (j:Int):=by omega
     have m4:¬ (j:Int) < (O:Int):=by omega
     clear hb hP hP1 hPP
     go_wp2_with fail
     refine HCL.out.mono ?_
     rintro e wc ⟨rfl,hi⟩
     have HI2:=Lib.hid hi
     clear hi HCL hlk HI
     go_wp2
     go_roundg (n - (O+1))
     case measure=>omega
     case rel=>exact ⟨P1,O+1,rfl,by go_num,by omega,rfl,HP2.out,HI2⟩
    ·have hoj':j < O:=by omega
     have hlk:=hb.tab.look hn (Nat.le_refl _) j O hoj' hlt
     have m1:min (j:Int) (O:Int)=(j:Int):=by omega
     have m2:max (j:Int) (O:Int)=(O:Int):=by omega
     have m3:(j:Int) < (O:Int):=by omega
     have m4:¬ (O:Int) < (j:Int):=by omega
     clear hb hP hP1 hPP
     go_wp2_with fail
     refine HCL.out.mono ?_
     rintro e wc ⟨rfl,hi⟩
     have HI2:=Lib.hid hi
     clear hi HCL hlk HI
     go_wp2
     go_roundg (n - (O+1))
     case measure=>omega
     case rel=>exact ⟨P1,O+1,rfl,by go_num,by omega,rfl,HP2.out,HI2⟩
  ·obtain rfl:O=n:=by omega
   have HI2:=HI
   go_wp2
   go_end0
   exact ⟨rfl,HI2.out⟩
set_option maxRecDepth 100000 in
set_option maxHeartbeats 4000000 in
theorem eachD_any (w:World) (lb n mb j:Nat) (x y z u v:Nat) (I:Nat→World→Prop) (hn:n≤23) (hj:j < n) (hk:∀ o W,I o W→TrB W lb n mb) (hs:∀ W,I j W→I (j+1) W)
  (hc:∀ o W,o < n→o ≠ j→I o W→Calls Tryz.prog 51 #[.int .i64 o,.int .i64 (plcN j o:Nat),.int .i64 (eE n j o:Nat),.pointer (some ⟨x,0,none⟩),.pointer (some ⟨y,0,none⟩),.pointer (some ⟨z,0,none⟩),.pointer (some ⟨u,0,none⟩),.pointer (some ⟨v,0,none⟩)] W fun e W'=>e=.returned (.tuple #[])∧I (o+1) W') (h0:I 0 w) :
  Calls Tryz.prog 35 #[.pointer (some ⟨lb,0,none⟩),.int .i64 j,.func (.func 51) #[] #[.pointer (some ⟨x,0,none⟩),.pointer (some ⟨y,0,none⟩),.pointer (some ⟨z,0,none⟩),.pointer (some ⟨u,0,none⟩),.pointer (some ⟨v,0,none⟩)]] w fun e W'=>e=.returned (.tuple #[])∧I n W':=by
 have c0:=(hk 0 w h0).c0
 have HK:=Lib.hid hk
 have HS:=Lib.hid hs
 have HC:=Lib.hid hc
 have H0:=Lib.hid h0
 clear hk hs hc h0
 go_enter Tryz.func35,Tryz.ntmps35
 go_wp2
 clear c0
 go_loopg [6,12] n (fun gk p i wr=>∃ (P O:Nat),p=.int .i64 P∧i=.int .i64 O∧O≤n∧gk=n - O∧P=cntO j O∧Hid (I O wr))
 case atStart=>exact ⟨0,0,rfl,rfl,by omega,rfl,by unfold cntO;split <;> omega,H0⟩
 case round =>
  clear H0
  obtain ⟨P,O,rfl,rfl,hO,rfl,hP,HI⟩:=hrel
  by_cases hlt:O < n
  ·have hb:=HK.out O wr HI.out
   by_cases he:O=j
   ·subst he
    have HI2:=Lib.hid (HS.out wr HI.out)
    have hP2:P=cntO O (O+1):=by rw [hP];unfold cntO;split <;> split <;> omega
    have HP2:=Lib.hid hP2
    clear HI hP hP2 hb
    go_wp2
    go_roundg (n - (O+1))
    case measure=>omega
    case rel=>exact ⟨P,O+1,rfl,by go_num,by omega,rfl,HP2.out,HI2⟩
   ·have he':¬ (O:Int)=(j:Int):=by omega
    have hP1:P=plcN j O:=by rw [hP];unfold cntO plcN;split <;> split <;> omega
    have HP2:Hid (P+1=cntO j (O+1)):=Lib.hid (by rw [hP1];unfold cntO plcN;split <;> split <;> omega)
    have HCL:=Lib.hid (HC.out O wr hlt he HI.out)
    rw [← hP1] at HCL
    have c2:=hb.c2
    have x1:(P:Int)+1=((P+1:Nat):Int):=by omega
    have x2:IntKind.i64.wrap ((P+1:Nat):Int)=((P+1:Nat):Int):=IntWalk.i64_in _ (by have:plcN j O≤O:=by { unfold plcN;split <;> omega };omega)
    generalize hPP:P+1=P1 at *
    rcases Nat.lt_or_ge O j with hoj | hoj
    ·have hlk:=hb.tab.look hn (Nat.le_refl _) O j hoj hj
     rw [eE_comm n O j] at hlk
     have m1:min (j:Int) (O:Int)=(O:Int):=by omega
     have m2:max (j:Int) (O:Int)=(j:Int):=by omega
     have m3:(O:Int) < (j:Int):=by omega
     have m4:¬ (j:Int) < (O:Int):=by omega
     clear hb hP hP1 hPP
     go_wp2_with fail
     refine HCL.out.mono ?_
     rintro e wc ⟨rfl,hi⟩
     have HI2:=Lib.hid hi
     clear hi HCL hlk HI
     go_wp2
     go_roundg (n - (O+1))
     case measure=>omega
     case rel=>exact ⟨P1,O+1,rfl,by go_num,by omega,rfl,HP2.out,HI2⟩
    ·have hoj':j < O:=by omega
     have hlk:=hb.tab.look hn (Nat.le_refl _) j O hoj' hlt
     have m1:min (j:Int) (O:Int)=(j:Int):=by omega
     have m2:max (j:Int) (O:Int)=(O:Int):=by omega
     have m3:(j:Int) < (O:Int):=by omega
     have m4:¬ (O:Int) < (j:Int):=by omega
     clear hb hP hP1 hPP
     go_wp2_with fail
     refine HCL.out.mono ?_
     rintro e wc ⟨rfl,hi⟩
     have HI2:=Lib.hid hi
     clear hi HCL hlk HI
     go_wp2
     go_roundg (n - (O+1))
     case measure=>omega
     case rel=>exact ⟨P1,O+1,rfl,by go_num,by omega,rfl,HP2.out,HI2⟩
  ·obtain rfl:O=n:=by omega
   have HI2:=HI
   go_wp2
   go_end0
   exact ⟨rfl,HI2.out⟩
end Go.Proofs.YtjdnicacnaokdaaGreat
