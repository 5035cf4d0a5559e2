/-
  Rows of numbers that are written; the reference's next.
  The message that is looked for through all rising rows: the plain laws.
  The contract of the sort of ints, laid at this dump by the kit's tool.
  Where symbols are not those of a word.
  What words that are wrong are answered with.
-/
import Derived.Test.YtbiaoohodjoojaaGreatPlains
import Derived.Ground.NamesProg
import Derived.Shelf.Sort.Plain
import Derived.Shelf.Slices.In.SortNone
import Derived.Test.YtbiaoohodjoojaaGreatProg
import Derived.Test.YtbiaoohodjoojaaGreatAts
import Derived.Test.YtbiaoohodjoojaaGreatRefsA
import Derived.Test.YtbiaoohodjoojaaGreatKit
import Derived.Lib.RowBridge
/- Rows of numbers that are written; the reference's next. -/
namespace Go.Proofs.YtbiaoohodjoojaaGreat
open Go.RowKit Fld
set_option linter.unusedVariables false
set_option linter.unusedSimpArgs false

def ViewZ (w:World) (b N:Nat) (g:Nat→Nat):Prop:=b < w.heap.size∧∀ j,j < N→w.cell? ⟨b,j,none⟩=some (.int .i64 ((g j:Nat):Int))∧w.frozen? ⟨b,j,none⟩=false
theorem ViewZ.kp {S:List Nat} {w w':World} {b N:Nat} {g:Nat→Nat} (h:ViewZ w b N g) (hk:Kp S w w') (hn:b ∉ S):ViewZ w' b N g :=
 ⟨Nat.lt_of_lt_of_le h.1 hk.size,fun j hj=>⟨(hk.cell (p:=⟨b,j,none⟩) h.1 hn).trans (h.2 j hj).1,(hk.frozen (p:=⟨b,j,none⟩) h.1 hn).trans (h.2 j hj).2⟩⟩
theorem ViewZ.below {w w':World} {b N:Nat} {g:Nat→Nat} (h:ViewZ w b N g) (hb:Below w.heap.size w w'):ViewZ w' b N g:=h.kp (S:=[]) (Kp.of_below hb) (by simp)
theorem ViewZ.congr {w:World} {b N:Nat} {g g':Nat→Nat} (h:ViewZ w b N g) (e:∀ j,j < N→g j=g' j):ViewZ w b N g':=⟨h.1,fun j hj=>by rw [← e j hj];exact h.2 j hj⟩
theorem ViewZ.set {w:World} {b N:Nat} {g:Nat→Nat} (h:ViewZ w b N g) {i:Nat} (hi:i < N) (x:Nat):ViewZ (w.setCell ⟨b,i,none⟩ (.int .i64 (x:Int))) b N (fun j=>if j=i then x else g j):=by
 refine ⟨by simpa [World.setCell] using h.1,fun j hj=>?_⟩
 by_cases e:j=i
 ·subst e
  dsimp only
  rw [if_pos rfl]
  exact ⟨World.cell?_setCell_same _ _ _ (h.2 j hj).1,by rw [World.frozen?_setCell];exact (h.2 j hj).2⟩
 ·dsimp only
  rw [if_neg e]
  exact ⟨(World.cell?_setCell_other _ ⟨b,i,none⟩ ⟨b,j,none⟩ _ (by simp <;> omega)).trans (h.2 j hj).1,by rw [World.frozen?_setCell];exact (h.2 j hj).2⟩
theorem ViewZ.rd {w:World} {b N cap:Nat} {g:Nat→Nat} (h:ViewZ w b N g) (hc:N≤cap):IRd w (.slice (some ⟨b,0,none⟩) N cap) (rowN N g):=by
 have:=IRd.mk (w:=w) (b:=b) (o:=0) (cap:=cap) (l:=rowN N g) (by rw [rowN_len];exact hc) h.1 fun i x hi=>by
  have hiN:i < N:=by
   have:=(List.getElem?_eq_some_iff.1 hi).1
   rwa [rowN_len] at this
  rw [rowN_get hiN] at hi
  cases hi
  rw [Nat.zero_add]
  exact (h.2 i hiN).1
 rwa [rowN_len] at this
theorem OwnZ.view {w:World} {B k:Nat} {v:Value} {g:Nat→Nat} (h:OwnZ w B v (rowN k g)) (hk:0 < k):∃ b cap,v=.slice (some ⟨b,0,none⟩) k cap∧B≤b∧k≤cap∧ViewZ w b k g:=by
 have hl:(rowN k g).length=k:=rowN_len k g
 unfold OwnZ at h
 rw [hl] at h
 rcases h.2 with ⟨_,h2⟩ | ⟨b,cap,cur,rfl,h2,h3,h4,h5,h6,h7⟩
 ·omega
 ·refine ⟨b,cap,rfl,h2,h4,lt_of_heap h3,fun j hj=>⟨?_,by simp [World.frozen?,h3]⟩⟩
  have:=h.cells (g:=b) rfl j (.int .i64 ((g j:Nat):Int)) (by rw [List.getElem?_map,rowN_get hj];rfl)
  have e:(⟨b,0,none⟩:Addr).add j=⟨b,j,none⟩:=by unfold Addr.add;split <;> simp_all
  rwa [e] at this
def NextPost (g k n:Nat) (r:Nat→Nat) (w:World) (e:Ending) (w':World):Prop :=
 Kp [g] w w'∧((∃ i,i < k∧r i+(k - i) < n∧(∀ j,i < j→j < k→n≤r j+(k - j))∧e=.returned (.bool true)∧ViewZ w' g k (nxt r i)) ∨
  ((∀ j,j < k→n≤r j+(k - j))∧e=.returned (.bool false)∧ViewZ w' g k r))
def nxtH (r:Nat→Nat) (i K:Nat):Nat→Nat:=fun j=>if j < i then r j else if j < K then r i+1+(j - i) else r j
set_option maxRecDepth 100000 in
set_option maxHeartbeats 4000000 in
theorem rnext_any (g cap k n:Nat) (r:Nat→Nat) (w:World) (hv:ViewZ w g k r) (hr:∀ j,j < k→r j < n) (hkn:k≤n) (hn:n≤100000) :
  Calls Tryz.prog 54 #[.slice (some ⟨g,0,none⟩) k cap,.int .i64 n] w (NextPost g k n r w):=by
 have HV:=Lib.hid hv
 have HRR:=Lib.hid hr
 have hg:=hv.1
 obtain ⟨M,hM⟩:∃ M,n - k=M:=⟨_,rfl⟩
 have x1:(n:Int) - (k:Int)=(M:Int):=by omega
 have x2:IntKind.i64.wrap (M:Int)=(M:Int):=IntWalk.i64_in _ (by omega)
 have x3:IntKind.i64.wrap ((k:Int) - 1)=(k:Int) - 1:=IntWalk.i64_in _ (by omega)
 have hM2:M≤100000:=by omega
 have HM:=Lib.hid hM
 clear hv hr hM
 go_enter Tryz.func54,Tryz.ntmps54
 go_wp2
 clear x3
 go_loopg [5] k (fun gk s wr=>∃ (J:Nat) (iv:Int),J≤k∧J=gk∧s=.int .i64 iv∧iv=(J:Int) - 1∧Hid (∀ j,J≤j→j < k→n≤r j+(k - j))∧Hid (ViewZ wr g k r)∧Hid (Kp [g] w wr))
 case atStart=>exact ⟨k,_,Nat.le_refl _,rfl,rfl,rfl,Lib.hid (fun j h1 h2=>by omega),HV,Lib.hid (Kp.refl _ _)⟩
 case round =>
  clear HV
  obtain ⟨J,iv,hJ,rfl,rfl,hiv,HT,HV,HK⟩:=hrel
  by_cases h0:J=0
  ·subst h0
   have hneg:¬ (0:Int)≤iv:=by omega
   clear hiv
   go_wp2
   go_ret
   exact ⟨HK.out,.inr ⟨fun j hj=>HT.out j (by omega) hj,rfl,HV.out⟩⟩
  ·obtain ⟨i,rfl⟩:∃ i,J=i+1:=⟨J - 1,by omega⟩
   obtain rfl:iv=(i:Int):=by omega
   have hik:i < k:=by omega
   obtain ⟨c1,f1⟩:=HV.out.2 i hik
   have hrn:=HRR.out i hik
   obtain ⟨x,hx⟩:∃ x,r i=x:=⟨_,rfl⟩
   rw [hx] at c1
   have hxn:x < n:=by omega
   obtain ⟨P,hP⟩:∃ P,M+i=P:=⟨_,rfl⟩
   have y1:(M:Int)+(i:Int)=(P:Int):=by omega
   have y2:IntKind.i64.wrap (P:Int)=(P:Int):=IntWalk.i64_in _ (by omega)
   have y3:(0:Int)≤(i:Int)∧(i:Int) < (k:Int):=by omega
   have HX:=Lib.hid hx
   have HP:=Lib.hid hP
   have hgr:=HV.out.1
   clear hx hP hiv hrn
   by_cases hlt:x < P
   ·obtain ⟨y,hy⟩:∃ y,x+1=y:=⟨_,rfl⟩
    have y4:(x:Int)+1=(y:Int):=by omega
    have y5:IntKind.i64.wrap (y:Int)=(y:Int):=IntWalk.i64_in _ (by omega)
    have hyn:y≤200000:=by omega
    have hVN:ViewZ (wr.setCell ⟨g,i,none⟩ (.int .i64 (y:Int))) g k (nxtH r i (i+1)):=(HV.out.set hik y).congr fun j hj=>by
     unfold nxtH
     by_cases e:j=i
     ·subst e
      rw [if_pos rfl,if_neg (by omega),if_pos (by omega),HX.out]
      omega
     ·rw [if_neg e]
      by_cases e2:j < i
      ·rw [if_pos e2]
      ·rw [if_neg e2,if_neg (by omega)]
    have hKN:Kp [g] w (wr.setCell ⟨g,i,none⟩ (.int .i64 (y:Int))):=HK.out.setCell (.inl (by simp)) _
    have HVN:=Lib.hid hVN
    have HKN:=Lib.hid hKN
    have HY:=Lib.hid hy
    clear hVN hKN hy
    go_wp2
    clear c1 f1 y1 y2 y4 y5
    go_loopg [6] (k - (i+1)) (fun gk s wr=>∃ (K:Nat),K≤k∧i < K∧gk=k - K∧s=.int .i64 K∧Hid (ViewZ wr g k (nxtH r i K))∧Hid (Kp [g] w wr))
    case atStart=>exact ⟨i+1,by omega,by omega,by omega,by go_num,HVN,HKN⟩
    case round =>
     clear HVN HKN HV HK
     obtain ⟨K,hK,hiK,rfl,rfl,HV,HK⟩:=hrel
     by_cases hKk:K < k
     ·obtain ⟨Q,rfl⟩:∃ Q,K=Q+1:=⟨K - 1,by omega⟩
      obtain ⟨c2,f2⟩:=HV.out.2 Q (by omega)
      obtain ⟨c3,f3⟩:=HV.out.2 (Q+1) hKk
      have hgr:=HV.out.1
      have e1:nxtH r i (Q+1) Q=y+(Q - i):=by
       unfold nxtH
       rw [if_neg (by omega),if_pos (by omega),HX.out,HY.out]
      rw [e1] at c2
      obtain ⟨Y,hY⟩:∃ Y,y+(Q - i)=Y:=⟨_,rfl⟩
      obtain ⟨Z,hZ⟩:∃ Z,Y+1=Z:=⟨_,rfl⟩
      obtain ⟨K,hKe⟩:∃ K,Q+1=K:=⟨_,rfl⟩
      obtain ⟨O,hO⟩:∃ O,nxtH r i (Q+1) (Q+1)=O:=⟨_,rfl⟩
      rw [hO] at c3
      rw [hY] at c2
      have z1:(K:Int) - 1=(Q:Int):=by omega
      have z2:IntKind.i64.wrap (Q:Int)=(Q:Int):=IntWalk.i64_in _ (by omega)
      have z3:(Y:Int)+1=(Z:Int):=by omega
      have z4:IntKind.i64.wrap (Z:Int)=(Z:Int):=IntWalk.i64_in _ (by omega)
      have z5:(0:Int)≤(Q:Int)∧(Q:Int) < (k:Int):=by omega
      have z6:(0:Int)≤(K:Int)∧(K:Int) < (k:Int):=by omega
      have hVN:ViewZ (wr.setCell ⟨g,K,none⟩ (.int .i64 (Z:Int))) g k (nxtH r i (K+1)):=by
       have:=HV.out.set hKk Z
       rw [hKe] at this
       refine this.congr fun j hj=>?_
       unfold nxtH
       by_cases e:j=K
       ·rw [if_pos e,if_neg (by omega),if_pos (by omega),HX.out]
        have:=HY.out
        omega
       ·rw [if_neg e]
        by_cases e2:j < i
        ·rw [if_pos e2,if_pos e2]
        ·rw [if_neg e2,if_neg e2]
         by_cases e3:j < K
         ·rw [if_pos e3,if_pos (by omega)]
         ·rw [if_neg e3,if_neg (by omega)]
      have hKN:Kp [g] w (wr.setCell ⟨g,K,none⟩ (.int .i64 (Z:Int))):=HK.out.setCell (.inl (by simp)) _
      have HVN:=Lib.hid hVN
      have HKN:=Lib.hid hKN
      rw [hKe] at c3 f3 ⊢
      have hKk2:K < k:=by omega
      have HQK:=Lib.hid hKe
      clear hVN hKN hY hZ hO hKe e1 HV HK
      go_wp2
      go_roundg (k - (K+1))
      case measure=>omega
      case rel=>exact ⟨K+1,by omega,by have:=HQK.out;omega,rfl,by go_num,HVN,HKN⟩
     ·obtain rfl:K=k:=by omega
      go_wp2
      go_ret
      refine ⟨HK.out,.inl ⟨i,hik,?_,fun j h1 h2=>HT.out j (by omega) h2,rfl,HV.out.congr fun j hj=>?_⟩⟩
      ·have:=HP.out
       have:=HM.out
       have:=HX.out
       omega
      ·unfold nxtH nxt
       by_cases e:j < i
       ·rw [if_pos e,if_pos e]
       ·rw [if_neg e,if_neg e,if_pos hj]
   ·have HT2:Hid (∀ j,i≤j→j < k→n≤r j+(k - j)):=Lib.hid fun j h1 h2=>by
     rcases Nat.lt_or_eq_of_le h1 with e | e
     ·exact HT.out j (by omega) h2
     ·subst e
      have:=HP.out
      have:=HM.out
      rw [HX.out]
      omega
    go_wp2
    go_roundg i
    case measure=>omega
    case rel=>exact ⟨i,_,by omega,rfl,rfl,by omega,HT2,HV,HK⟩
end Go.Proofs.YtbiaoohodjoojaaGreat
/- The message that is looked for through all rising rows: the plain laws. -/
namespace Go.Proofs.YtbiaoohodjoojaaGreat
open Go.RowKit Fld
set_option linter.unusedVariables false
set_option linter.unusedSimpArgs false

noncomputable def rowP (ps:List Int) (r:Nat→Nat) (J:Nat):List Int:=(List.range J).map fun j=>ps.getD (r j) 0
noncomputable def rowY (ys:List GF) (r:Nat→Nat) (J:Nat):List GF:=rowF (fun j=>ys.getD (r j) 0) J
theorem rowP_len (ps:List Int) (r:Nat→Nat) (J:Nat):(rowP ps r J).length=J:=by simp [rowP]
theorem rowP_get (ps:List Int) (r:Nat→Nat) {J i:Nat} (h:i < J):(rowP ps r J).getD i 0=ps.getD (r i) 0:=by
 rw [rowP,List.getD_eq_getElem?_getD,List.getElem?_map,List.getElem?_range h]
 rfl
theorem rowP_congr {ps:List Int} {r r':Nat→Nat} {J:Nat} (h:∀ j,j < J→r j=r' j):rowP ps r J=rowP ps r' J:=by
 unfold rowP
 exact List.map_congr_left fun i hi=>by rw [h i (List.mem_range.1 hi)]
theorem rowY_congr {ys:List GF} {r r':Nat→Nat} {J:Nat} (h:∀ j,j < J→r j=r' j):rowY ys r J=rowY ys r' J:=by
 unfold rowY rowF
 exact List.map_congr_left fun i hi=>by rw [h i (List.mem_range.1 hi)]
theorem ris_inj {k n:Nat} {r:Nat→Nat} (h:Ris k n r) {i j:Nat} (hi:i < k) (hj:j < k) (e:r i=r j):i=j:=by
 rcases Nat.lt_trichotomy i j with h1 | h1 | h1
 ·have:=ris_add h i (j - i) (by omega)
  rw [show i+(j - i)=j by omega] at this
  omega
 ·exact h1
 ·have:=ris_add h j (i - j) (by omega)
  rw [show j+(i - j)=i by omega] at this
  omega
section
variable {xs ys:List GF} {ps:List Int} {k t:Nat}
theorem ris_good {N:Nat} {r:Nat→Nat} (hg:GoodP N ps) (h:Ris k ps.length r):GoodP N (rowP ps r k):=by
 refine ⟨fun x hx=>?_,List.pairwise_map.2 (List.nodup_range.imp_of_mem fun {a b} ha hb hne e=>hne ?_)⟩
 ·obtain ⟨j,hj,rfl⟩:=List.mem_map.1 hx
  refine hg.1 _ ?_
  rw [List.getD_eq_getElem?_getD,List.getElem?_eq_getElem (h.1 j (List.mem_range.1 hj))]
  exact List.getElem_mem _
 ·have ha':=List.mem_range.1 ha
  have hb':=List.mem_range.1 hb
  exact ris_inj h ha' hb' (getI_inj hg.2 (h.1 a ha') (h.1 b hb') e)
theorem fits_rowP {r:Nat→Nat} {m:List GF}:Fits xs k (rowP ps r k) (rowY ys r k) m↔m.length=k∧∀ j,j < k→ev m (xs.getD (ps.getD (r j) 0).toNat 0)=ys.getD (r j) 0:=by
 unfold Fits
 rw [rowP_len]
 constructor
 ·rintro ⟨h1,h2⟩
  refine ⟨h1,fun j hj=>?_⟩
  have:=h2 j hj
  rw [rowP_get _ _ hj,rowY,rowF_get _ hj] at this
  exact this
 ·rintro ⟨h1,h2⟩
  refine ⟨h1,fun j hj=>?_⟩
  rw [rowP_get _ _ hj,rowY,rowF_get _ hj]
  exact h2 j hj
end
end Go.Proofs.YtbiaoohodjoojaaGreat
/- The contract of the sort of ints, laid at this dump by the kit's tool. -/
namespace Go.Proofs
open Go.Shelf
def Tryz.lays189_ren:Go.Shelf.Ren:=⟨fun | 189=>103 | 125=>87 | 257=>129 | 128=>114 | 129=>115 | 294=>143 | 295=>144 | 296=>145 | 297=>146 | 298=>147 | 299=>148 | 216=>149 | 300=>150 | 301=>151 | 328=>157 | 329=>131 | 330=>132 | 331=>158 | 332=>159 | 215=>160 | 343=>165 | n=>n,fun | 28=>32 | 3=>3 | 46=>141 | 0=>0 | 51=>76 | 53=>59 | 4=>4 | 183=>160 | 182=>159 | 131=>165 | 5=>5 | 9=>9 | 218=>183 | 222=>187 | 228=>200 | 229=>201 | n=>n,fun | n=>n⟩
theorem Tryz.lays189:Go.Proofs.Lays.n189 Tryz.prog Tryz.lays189_ren:={
 mixed:=by kernel_rfl
 f125:=Tryz.func87.trans (congrArg some (by kernel_rfl))
 f128:=Tryz.func114.trans (congrArg some (by kernel_rfl))
 f129:=Tryz.func115.trans (congrArg some (by kernel_rfl))
 f189:=Tryz.func103.trans (congrArg some (by kernel_rfl))
 f215:=Tryz.func160.trans (congrArg some (by kernel_rfl))
 f216:=Tryz.func149.trans (congrArg some (by kernel_rfl))
 f257:=Tryz.func129.trans (congrArg some (by kernel_rfl))
 f294:=Tryz.func143.trans (congrArg some (by kernel_rfl))
 f295:=Tryz.func144.trans (congrArg some (by kernel_rfl))
 f296:=Tryz.func145.trans (congrArg some (by kernel_rfl))
 f297:=Tryz.func146.trans (congrArg some (by kernel_rfl))
 f298:=Tryz.func147.trans (congrArg some (by kernel_rfl))
 f299:=Tryz.func148.trans (congrArg some (by kernel_rfl))
 f300:=Tryz.func150.trans (congrArg some (by kernel_rfl))
 f301:=Tryz.func151.trans (congrArg some (by kernel_rfl))
 f328:=Tryz.func157.trans (congrArg some (by kernel_rfl))
 f329:=Tryz.func131.trans (congrArg some (by kernel_rfl))
 f330:=Tryz.func132.trans (congrArg some (by kernel_rfl))
 f331:=Tryz.func158.trans (congrArg some (by kernel_rfl))
 f332:=Tryz.func159.trans (congrArg some (by kernel_rfl))
 f343:=Tryz.func165.trans (congrArg some (by kernel_rfl))
 t0:=Tryz.underlying0
 a0:=Tryz.isAgg0
 z0:=Tryz.sizeOf0
 v0:=Tryz.zeroValue0
 t3:=Tryz.underlying3
 a3:=Tryz.isAgg3
 z3:=Tryz.sizeOf3
 v3:=Tryz.zeroValue3
 t4:=Tryz.underlying4
 a4:=Tryz.isAgg4
 z4:=Tryz.sizeOf4
 v4:=Tryz.zeroValue4
 t5:=Tryz.underlying5
 a5:=Tryz.isAgg5
 z5:=Tryz.sizeOf5
 v5:=Tryz.zeroValue5
 t9:=Tryz.underlying9
 a9:=Tryz.isAgg9
 z9:=Tryz.sizeOf9
 v9:=Tryz.zeroValue9
 t28:=Tryz.underlying32
 a28:=Tryz.isAgg32
 z28:=Tryz.sizeOf32
 v28:=Tryz.zeroValue32
 t46:=Tryz.underlying141
 a46:=Tryz.isAgg141
 z46:=Tryz.sizeOf141
 v46:=Tryz.zeroValue141
 t51:=Tryz.underlying76
 a51:=Tryz.isAgg76
 z51:=Tryz.sizeOf76
 v51:=Tryz.zeroValue76
 t53:=Tryz.underlying59
 a53:=Tryz.isAgg59
 z53:=Tryz.sizeOf59
 v53:=Tryz.zeroValue59
 t131:=Tryz.underlying165
 a131:=Tryz.isAgg165
 z131:=Tryz.sizeOf165
 v131:=Tryz.zeroValue165
 t182:=Tryz.underlying159
 a182:=Tryz.isAgg159
 z182:=Tryz.sizeOf159
 v182:=Tryz.zeroValue159
 t183:=Tryz.underlying160
 a183:=Tryz.isAgg160
 z183:=Tryz.sizeOf160
 v183:=Tryz.zeroValue160
 t218:=Tryz.underlying183
 a218:=Tryz.isAgg183
 z218:=Tryz.sizeOf183
 v218:=Tryz.zeroValue183
 t222:=Tryz.underlying187
 a222:=Tryz.isAgg187
 z222:=Tryz.sizeOf187
 v222:=Tryz.zeroValue187
 t228:=Tryz.underlying200
 a228:=Tryz.isAgg200
 z228:=Tryz.sizeOf200
 v228:=Tryz.zeroValue200
 t229:=Tryz.underlying201
 a229:=Tryz.isAgg201
 z229:=Tryz.sizeOf201
 v229:=Tryz.zeroValue201 }
open Go.Sort Go.RowKit in
theorem Tryz.slices_Sort_int (blk off cap:Nat) (zs:List Int) (w:World) (hH:Holds (Value.int .i64) w blk off zs.toArray) (hblk:blk < w.heap.size) (hsz:zs.length < 4611686018427387904) :
  Calls Tryz.prog 103 #[.slice (some ⟨blk,off,none⟩) zs.length cap] w fun e w' =>
   e=.returned (.tuple #[])∧∃ n os,w'=grow (putRow (Value.int .i64) (Sort.ahead w n) blk off (zs.mergeSort fun x y=>decide (x≤y)).toArray) os:=Any.slices_Sort_int Tryz.lays189 blk off cap zs w hH hblk hsz
theorem Tryz.slices_Sort_int_none (p:Option Addr) (cap:Nat) (w:World) :
  Calls Tryz.prog 103 #[.slice p 0 cap] w fun e w'=>e=.returned (.tuple #[])∧w'=w:=Any.slices_Sort_int_none Tryz.lays189 p cap w
end Go.Proofs
/- Where symbols are not those of a word. -/
namespace Go.Proofs.YtbiaoohodjoojaaGreat
open Go.RowKit Fld Go.Shelf Go.Sort
set_option linter.unusedVariables false
set_option linter.unusedSimpArgs false

structure RdZ (w:World) (B:Nat) (v:Value) (l:List Int):Prop where
 rd:IRd w v l
 lo:∀ k,v.ownBlock=some k→B≤k∧k < w.heap.size
theorem RdZ.kp {S:List Nat} {w w':World} {B:Nat} {v:Value} {l:List Int} (h:RdZ w B v l) (hk:Kp S w w') (hS:∀ x ∈ S,x < B):RdZ w' B v l :=
 ⟨IRd.kp h.rd hk fun k hk' hm=>by have:=(h.lo k hk').1;have:=hS k hm;omega,fun k hk'=>⟨(h.lo k hk').1,Nat.lt_of_lt_of_le (h.lo k hk').2 hk.size⟩⟩
theorem RdZ.below {w w':World} {B:Nat} {v:Value} {l:List Int} (h:RdZ w B v l) (hb:Go.RowKit.Below w.heap.size w w'):RdZ w' B v l:=h.kp (S:=[]) (Kp.of_below hb) (by simp)
theorem RdZ.mono {w:World} {B B':Nat} {v:Value} {l:List Int} (h:RdZ w B v l) (hb:B'≤B):RdZ w B' v l:=⟨h.rd,fun k hk=>⟨Nat.le_trans hb (h.lo k hk).1,(h.lo k hk).2⟩⟩
theorem RdZ.of_own {w:World} {B:Nat} {v:Value} {l:List Int} (h:OwnZ w B v l):RdZ w B v l:=⟨h.rd,fun k hk=>⟨(h.lt k hk).1,(h.lt k hk).2⟩⟩
theorem RdZ.nil (w:World) (B:Nat):RdZ w B (.slice none 0 0) []:=RdZ.of_own (OwnZ.nil w B)
theorem kp_sortZ (w:World) (n g:Nat) (d:Array Int) (os:Array Obj):Kp [g] w (grow (putRow (Value.int .i64) (Sort.ahead w n) g 0 d) os) :=
 ⟨rfl,rfl,rfl,by simp,fun k hk hn=>by
  rw [heap_grow_old _ _ (by simpa using hk)]
  unfold putRow mapBlock
  simp only [Array.getElem?_modify]
  rw [if_neg (fun e=>hn (by simp [e]))]
  rfl⟩
theorem OwnZ.holds {w:World} {B g cap:Nat} {l:List Int} (h:OwnZ w B (.slice (some ⟨g,0,none⟩) l.length cap) l):Go.Sort.Holds (Value.int .i64) w g 0 l.toArray:=by
 intro j hj
 have hj':j < l.length:=by simpa using hj
 unfold OwnZ at h
 have hc:=h.cells (g:=g) rfl j (.int .i64 (l.getD j 0)) (by rw [List.getElem?_map,List.getElem?_eq_getElem hj',List.getD_eq_getElem?_getD,List.getElem?_eq_getElem hj'];rfl)
 rcases h.2 with ⟨h1,_⟩ | ⟨b,cap',cur,e,h2,h3,h4,h5,h6,h7⟩
 ·cases h1
 ·cases e
  have e:(⟨g,0,none⟩:Addr).add j=⟨g,j,none⟩:=by unfold Addr.add;split <;> simp_all
  rw [e] at hc
  rw [Nat.zero_add]
  refine ⟨hc.trans ?_,by simp [World.frozen?,h3]⟩
  rw [getElem!_pos l.toArray j hj,List.getD_eq_getElem?_getD,List.getElem?_eq_getElem hj']
  simp
theorem sortZ_any (B:Nat) (v:Value) (l:List Int) (w:World) (h:OwnZ w B v l) (hB:B≤w.heap.size) (hl:l.length≤1000000000) :
  Calls Tryz.prog 103 #[v] w fun e w'=>e=.returned (.tuple #[])∧Go.RowKit.Below B w w'∧RdZ w' B v (riseI l):=by
 have hlt:=h.lt
 have hrd:=h.rd
 have h':=h
 unfold OwnZ at h'
 rcases h'.2 with ⟨rfl,h2⟩ | ⟨g,cap,cur,rfl,h2,h3,h4,h5,h6,h7⟩
 ·have:l=[]:=List.eq_nil_of_length_eq_zero h2
  subst this
  refine (Tryz.slices_Sort_int_none none 0 w).mono ?_
  rintro e w' ⟨rfl,rfl⟩
  exact ⟨rfl,Go.RowKit.Below.refl _ _,by rw [show riseI []=[] from by simp [riseI]];exact RdZ.nil _ _⟩
 ·have hg:=hlt g rfl
  have hh:=OwnZ.holds h
  refine (Tryz.slices_Sort_int g 0 cap l w hh hg.2 (by omega)).mono ?_
  rintro e w' ⟨rfl,n,os,rfl⟩
  have hk:=kp_sortZ w n g (l.mergeSort fun x y=>decide (x≤y)).toArray os
  refine ⟨rfl,hk.below hB (by simpa using hg.1),?_,fun k hk'=>?_⟩
  ·have hH:Go.Sort.Holds (Value.int .i64) (grow (putRow (Value.int .i64) (Sort.ahead w n) g 0 (l.mergeSort fun x y=>decide (x≤y)).toArray) os) g 0 (l.mergeSort fun x y=>decide (x≤y)).toArray :=
    holds_grow _ _ _ _ _ _ (by simpa using hg.2) (holds_putRow _ _ _ _ l.toArray _ (holds_ahead _ _ _ _ _ _ hh) (by simp))
   have:=IRd.mk (o:=0) (cap:=cap) (l:=riseI l) (b:=g) (by rw [riseI_len];exact h4) (Nat.lt_of_lt_of_le hg.2 hk.size) fun i x hi=>by
    have hi':i < (riseI l).length:=(List.getElem?_eq_some_iff.1 hi).1
    have h8:=(hH i (by simpa [riseI] using hi')).1
    refine h8.trans ?_
    rw [getElem!_pos _ _ (by simpa [riseI] using hi')]
    rw [List.getElem?_eq_getElem hi'] at hi
    cases hi
    rfl
   rwa [riseI_len] at this
  ·have:k=g:=by simpa [Value.ownBlock] using hk'.symm
   subst this
   exact ⟨hg.1,Nat.lt_of_lt_of_le hg.2 hk.size⟩
noncomputable def difL (W:List GF) (ps:List Int) (ys:List GF) (n:Nat):List Int:=((List.range n).filter fun i=>decide (W.getD (ps.getD i 0).toNat 0 ≠ ys.getD i 0)).map fun i=>ps.getD i 0
theorem difL_yes {W:List GF} {ps:List Int} {ys:List GF} {n:Nat} (h:W.getD (ps.getD n 0).toNat 0 ≠ ys.getD n 0):difL W ps ys (n+1)=difL W ps ys n ++ [ps.getD n 0]:=by
 unfold difL
 rw [List.range_succ,List.filter_append,List.map_append,List.filter_cons_of_pos (p:=fun i=>decide (W.getD (ps.getD i 0).toNat 0 ≠ ys.getD i 0)) (decide_eq_true h)]
 rfl
theorem difL_no {W:List GF} {ps:List Int} {ys:List GF} {n:Nat} (h:W.getD (ps.getD n 0).toNat 0=ys.getD n 0):difL W ps ys (n+1)=difL W ps ys n:=by
 unfold difL
 rw [List.range_succ,List.filter_append,List.map_append,List.filter_cons_of_neg (p:=fun i=>decide (W.getD (ps.getD i 0).toNat 0 ≠ ys.getD i 0)) (by rw [decide_eq_true_eq];exact fun e=>e h)]
 simp
theorem difL_len (W:List GF) (ps:List Int) (ys:List GF) (n:Nat):(difL W ps ys n).length≤n:=by
 unfold difL
 rw [List.length_map]
 have:=List.length_filter_le (fun i=>decide (W.getD (ps.getD i 0).toNat 0 ≠ ys.getD i 0)) (List.range n)
 rwa [List.length_range] at this
theorem map_getD (m:List GF) {xs:List GF} {p:Nat} (hp:p < xs.length):(xs.map (ev m)).getD p 0=ev m (xs.getD p 0):=by
 rw [List.getD_eq_getElem?_getD,List.getElem?_map,List.getD_eq_getElem?_getD (l:=xs),List.getElem?_eq_getElem hp]
 rfl
theorem difL_wrP {xs:List GF} {ps:List Int} (ys m:List GF) (hg:∀ x ∈ ps,0≤x∧x < (xs.length:Int)):difL (xs.map (ev m)) ps ys ps.length=wrP xs ps ys m:=by
 unfold difL wrP wrI
 rw [pts_len]
 congr 1
 refine List.filter_congr fun i hi=>?_
 have hi':=List.mem_range.1 hi
 rw [pts_get xs hi',map_getD]
 have:=hg (ps.getD i 0) (by rw [List.getD_eq_getElem?_getD,List.getElem?_eq_getElem hi'];exact List.getElem_mem _)
 omega
def DifPost (W:List GF) (ps:List Int) (ys:List GF) (w:World) (e:Ending) (w':World):Prop:=∃ v,e=.returned v∧RdZ w' w.heap.size v (riseI (difL W ps ys ps.length))∧Go.RowKit.Below w.heap.size w w'
set_option maxRecDepth 100000 in
set_option maxHeartbeats 4000000 in
theorem differ_any (wv pv yv:Value) (W ys:List GF) (ps:List Int) (w:World) (hw:GRd w wv W) (hp:IRd w pv ps) (hy:GRd w yv ys) (hg:∀ x ∈ ps,0≤x∧x < (W.length:Int)) (hyl:ps.length≤ys.length) (hpl:ps.length≤100000) :
  Calls Tryz.prog 82 #[wv,pv,yv] w (DifPost W ps ys w):=by
 obtain ⟨aw,cw,rfl,hcw⟩:=hw.form
 obtain ⟨ap,cp,rfl⟩:=hp.form
 obtain ⟨ay,cy,rfl,hcy⟩:=hy.form
 unfold DifPost
 obtain ⟨N,hN⟩:∃ N,W.length=N:=⟨_,rfl⟩
 obtain ⟨Q,hQ⟩:∃ Q,ps.length=Q:=⟨_,rfl⟩
 obtain ⟨Y,hY⟩:∃ Y,ys.length=Y:=⟨_,rfl⟩
 have HN:=Lib.hid hN
 have HQ:=Lib.hid hQ
 have HY:=Lib.hid hY
 have HG:=Lib.hid hg
 rw [hN] at hw hcw ⊢
 rw [hQ] at hpl hyl hp ⊢
 rw [hY] at hyl hy ⊢
 have HW:=Lib.hid hw
 have HP:=Lib.hid hp
 have HYS:=Lib.hid hy
 clear hw hp hy hN hQ hY hcw hcy hg
 go_enter Tryz.func82,Tryz.ntmps82
 go_wp2
 go_loopg [7,12] Q (fun gk l i wr=>∃ (V:Value) (I:Nat),V=l∧I≤Q∧gk=Q - I∧i=.int .i64 I∧Hid (OwnZ wr w.heap.size V (difL W ps ys I))∧Hid (Go.RowKit.Below w.heap.size w wr))
 case atStart=>exact ⟨_,0,rfl,by omega,rfl,rfl,Lib.hid (OwnZ.nil _ _),Lib.hid (Go.RowKit.Below.refl _ _)⟩
 case round =>
  obtain ⟨V,I,rfl,hI,rfl,rfl,HO,HB⟩:=hrel
  have hs:=HB.out.size
  by_cases hlt:I < Q
  ·obtain ⟨x,hx⟩:∃ x,ps[I]? = some x:=⟨_,List.getElem?_eq_getElem (by rw [HQ.out];exact hlt)⟩
   have hxr:=HG.out x (List.mem_of_getElem? hx)
   obtain ⟨p,rfl⟩:∃ p:Nat,x=(p:Int):=⟨x.toNat,by omega⟩
   rw [HN.out] at hxr
   have hpN:p < N:=by omega
   obtain ⟨-,-,b0,o0,rfl,hb0,-⟩:=IRd.cell HP.out hx
   have c0:=IRd.cells (HP.out.below HB.out) I p hx
   have hxd:ps.getD I 0=(p:Int):=by rw [List.getD_eq_getElem?_getD,hx];rfl
   obtain ⟨c,hc,hcd⟩:=at_get (l:=W) (i:=p) (by rw [HN.out];exact hpN)
   obtain ⟨d,hd,hdd⟩:=at_get (l:=ys) (i:=I) (by rw [HY.out];omega)
   obtain ⟨b1,o1,rfl,hb1,-⟩:=HW.out.at hc
   obtain ⟨b2,o2,rfl,hb2,-⟩:=HYS.out.at hd
   obtain ⟨_,_,e,-,c1⟩:=(HW.out.below HB.out).at hc
   cases e
   obtain ⟨_,_,e,-,c2⟩:=(HYS.out.below HB.out).at hd
   cases e
   obtain ⟨cn,hcn⟩:∃ t,c.n=t:=⟨_,rfl⟩
   obtain ⟨dn,hdn⟩:∃ t,d.n=t:=⟨_,rfl⟩
   rw [hcn] at c1
   rw [hdn] at c2
   have hiff:W.getD (ps.getD I 0).toNat 0=ys.getD I 0↔cn=dn:=by
    rw [hxd,Int.toNat_natCast,hcd,hdd]
    exact ⟨fun e=>by rw [← hcn,← hdn,e],fun e=>GF.ext' (by omega)⟩
   have HIF:=Lib.hid hiff
   have HXD:=Lib.hid hxd
   have HBD:Hid (Go.RowKit.Below w.heap.size w wr.drew):=Lib.hid HB.out.drew
   obtain ⟨kp,hkp⟩:∃ kp:Nat→Bool,∀ j,kp j=true↔j < wr.heap.size:=⟨fun j=>decide (j < wr.heap.size),by simp⟩
   have hk1:kp b1=true:=(hkp _).2 (by omega)
   have hk2:kp b2=true:=(hkp _).2 (by omega)
   have HKP:=Lib.hid hkp
   have i0:(0:Int)≤(I:Int)∧(I:Int) < (Q:Int):=by omega
   have i1:(0:Int)≤(p:Int)∧(p:Int) < (N:Int):=by omega
   have i2:(0:Int)≤(I:Int)∧(I:Int) < (Y:Int):=by omega
   clear hkp hc hcd hd hdd hcn hdn hiff hx hxd hxr
   by_cases hcc:cn=dn
   ·subst hcc
    have HO2:Hid (OwnZ wr.drew w.heap.size V (difL W ps ys (I+1))):=Lib.hid (by
     rw [difL_no (HIF.out.2 rfl)]
     exact HO.out)
    go_upto_region 5 with fail
    have hgr:=fun (w0 W:World) (p:Addr) (hp:(fun j=>kp j=true) p.block)=>graft_cell (w0:=w0) (keep:=(fun j=>kp j=true)) W hp
    refine wp_region_tree (fun j=>kp j=true) [] (.sq [0,1,2,3,4,5,6,7,8] .done) (by kernel_rfl) (by kernel_rfl) ?_
    simp only [Tr.sq,List.foldr_cons,List.foldr_nil,slimTr,slimStep,Oper.slim,List.contains_cons,List.contains_nil,Option.map_none,Option.map_some,List.getElem?_toArray,List.getElem?_cons_zero,List.getElem?_cons_succ,Option.bind_some,beq_self_eq_true,Bool.or_false,Nat.reduceBEq,Nat.reduceAdd,Nat.zero_add]
    repeat' first | ((with_reducible refine wpSlimT_id ?_);first | (with_reducible refine wpSlimT_done ?_) | ((with_reducible refine wpSlimT_step (fun K hK=>?_));go_simp;(refine hK _ _ ?_;clear hK K))) | fail
    clear hgr
    go_wp2
    go_roundg (Q - (I+1))
    case measure=>omega
    case rel=>exact ⟨_,I+1,rfl,by omega,rfl,by go_num,HO2,HBD⟩
   ·have hne:¬ (cn:Int)=(dn:Int):=by omega
    obtain ⟨v1,w6,hap,ho1,-,hb6,-⟩:=app_int (W:=wr.drew) (p:Int) HO.out (by
     have:=difL_len W ps ys I
     omega) (by simpa using HB.out.size) (ad:=wr.heap.size) rfl
    have HO6:Hid (OwnZ w6 w.heap.size v1 (difL W ps ys (I+1))):=Lib.hid (by
     rw [difL_yes (fun e=>hcc (HIF.out.1 e)),HXD.out]
     exact ho1)
    have HB6:Hid (Go.RowKit.Below w.heap.size w w6):=Lib.hid (HBD.out.trans hb6)
    clear hcc ho1 hb6
    go_upto_region 5 with fail
    have hgr:=fun (w0 W:World) (p:Addr) (hp:(fun j=>kp j=true) p.block)=>graft_cell (w0:=w0) (keep:=(fun j=>kp j=true)) W hp
    refine wp_region_tree (fun j=>kp j=true) [] (.sq [0,1,2,3,4,5,6,7,8] .done) (by kernel_rfl) (by kernel_rfl) ?_
    simp only [Tr.sq,List.foldr_cons,List.foldr_nil,slimTr,slimStep,Oper.slim,List.contains_cons,List.contains_nil,Option.map_none,Option.map_some,List.getElem?_toArray,List.getElem?_cons_zero,List.getElem?_cons_succ,Option.bind_some,beq_self_eq_true,Bool.or_false,Nat.reduceBEq,Nat.reduceAdd,Nat.zero_add]
    repeat' first | ((with_reducible refine wpSlimT_id ?_);first | (with_reducible refine wpSlimT_done ?_) | ((with_reducible refine wpSlimT_step (fun K hK=>?_));go_simp;(refine hK _ _ ?_;clear hK K))) | fail
    clear hgr
    go_wp2_with (at_builtin;refine wpList_append rfl _ _ _ rfl rfl rfl hap ?_)
    go_roundg (Q - (I+1))
    case measure=>omega
    case rel=>exact ⟨_,I+1,rfl,by omega,rfl,by go_num,HO6,HB6⟩
  ·obtain rfl:I=Q:=by omega
   have HSRT:=Lib.hid (sortZ_any _ _ _ wr HO.out HB.out.size (by have:=difL_len W ps ys I;omega))
   go_wp2_with fail
   refine HSRT.out.mono ?_
   rintro e w5 ⟨rfl,hb5,hr5⟩
   have HFIN:=Lib.hid (And.intro hr5 (HB.out.trans hb5))
   clear hb5 hr5
   go_wp2
   go_ret
   exact ⟨_,rfl,HFIN.out⟩
end Go.Proofs.YtbiaoohodjoojaaGreat
/- What words that are wrong are answered with. -/
namespace Go.Proofs.YtbiaoohodjoojaaGreat
open Go.RowKit Fld
set_option linter.unusedVariables false
set_option linter.unusedSimpArgs false

theorem rowN_succ (J:Nat) (l:Nat→Nat):rowN (J+1) l=rowN J l ++ [((l J:Nat):Int)]:=by simp [rowN,List.range_succ]
def WeAns (B:Nat) (xs:List GF) (k:Nat) (ps:List Int) (ys:List GF) (t:Int) (e:Ending) (w':World):Prop :=
 (¬ (GoodP xs.length ps∧ps.length=ys.length) ∨ t < 0)∧e=.returned (.tuple #[.slice none 0 0,.slice none 0 0,.int .i64 2]) ∨
 ((GoodP xs.length ps∧ps.length=ys.length)∧0≤t)∧((ps.length:Int) < (k:Int)+2 * t∧e=.returned (.tuple #[.slice none 0 0,.slice none 0 0,.int .i64 70]) ∨
  (k:Int)+2 * t≤(ps.length:Int)∧((∃ m v1 v2,e=.returned (.tuple #[v1,v2,.int .i64 0])∧WeTells xs k ps ys t.toNat (some m)∧OwnG w' B v1 m∧RdZ w' B v2 (wrS xs ps ys m)) ∨
   e=.returned (.tuple #[.slice none 0 0,.slice none 0 0,.int .i64 80])∧WeTells xs k ps ys t.toNat none))
theorem rowF_map (xs m:List GF):rowF (fun i=>ev m (xs.getD i 0)) xs.length=xs.map (ev m):=by
 refine List.ext_getElem (by simp [rowF]) fun i h1 h2=>?_
 rw [rowF_len] at h1
 simp [rowF,List.getElem?_eq_getElem h1]
end Go.Proofs.YtbiaoohodjoojaaGreat
