/-
  The program's Degree and Trim.
  One polynomial added to another one, so many places higher.
  The program's Mul and Roots of polynomials.
  The program's sums of polynomials, and the polynomial through values.
-/
import Derived.Test.YtbiaoohodjoojaaGreatRanges
import Derived.Test.YtbiaoohodjoojaaGreatAts
import Derived.Test.YtbiaoohodjoojaaGreatRefsA
import Derived.Test.YtbiaoohodjoojaaGreatPlains
import Derived.Test.YtbiaoohodjoojaaGreatRefsB
/- The program's Degree and Trim. -/
namespace Go.Proofs.YtbiaoohodjoojaaGreat
open Go.RowKit Fld Go.Shelf
set_option linter.unusedVariables false
set_option linter.unusedSimpArgs false
attribute [local go_sem] Oper.semAt_some

structure TopAt (l:List GF) (n:Nat):Prop where
 le:n≤l.length
 top:n=0 ∨ l.getD (n - 1) 0 ≠ 0
 nul:∀ j,n≤j→l.getD j 0=0
theorem TopAt.trim {l:List GF} {n:Nat} (h:TopAt l n):TrimOf l (l.take n):=⟨n,h.le,rfl,trimd_take h.le h.top,h.nul⟩
def DegPost (l:List GF) (w:World) (e:Ending) (w':World):Prop:=∃ n:Nat,TopAt l n∧e=.returned (.int .i64 ((n:Int) - 1))∧Below w.heap.size w w'
structure DegI (l:List GF) (w:World) (pre:List (Fin l.length)) (W:World):Prop where
 b2:W.heap[w.heap.size]? = some (.cells #[.int .i64 0] 3 (0,0))
 nul:∀ i ∈ pre,l.getD i.val 0=0
 kp:Below w.heap.size w W
structure DegX (l:List GF) (w:World) (c:Code) (pre:List (Fin l.length)) (W:World):Prop where
 isr:c=.ret
 at_:∃ (pre0:List (Fin l.length)) (x:Fin l.length),pre=pre0 ++ [x]∧l.getD x.val 0 ≠ 0∧(∀ i ∈ pre0,l.getD i.val 0=0)∧W.heap[w.heap.size]? = some (.cells #[.int .i64 (x.val:Nat)] 3 (0,0))
 kp:Below w.heap.size w W
theorem rev_prefix {n:Nat} {pre0:List (Fin n)} {x:Fin n} (h:pre0 ++ [x] <+: (List.finRange n).reverse):∀ j (hj:j < n),x.val < j→⟨j,hj⟩ ∈ pre0:=by
 intro j hj hlt
 have hk:pre0.length < n:=by
  have:=h.length_le
  simp at this
  omega
 have hget:∀ i (hi:i < (pre0 ++ [x]).length),(pre0 ++ [x])[i]=⟨n - 1 - i,by omega⟩:=fun i hi=>by
  have:=h.getElem hi
  rw [this]
  simp
  try omega
 have hx:x=⟨n - 1 - pre0.length,by omega⟩:=by
  have:=hget pre0.length (by simp)
  simpa using this
 have hj2:n - 1 - j < pre0.length:=by
  rw [hx] at hlt
  simp at hlt
  omega
 have:=hget (n - 1 - j) (by simp;omega)
 rw [List.getElem_append_left hj2] at this
 rw [show (⟨j,hj⟩:Fin n)=pre0[n - 1 - j] from by rw [this];ext;simp;omega]
 exact List.getElem_mem _
theorem rows_of {w:World} {v:Value} {l:List GF} (h:GRd w v l):∃ T:List Nat,(l ≠ []→∀ k,v.ownBlock=some k→k ∈ T)∧∀ b ∈ T,b < w.heap.size:=by
 by_cases hl:l=[]
 ·exact ⟨[],fun e=>absurd hl e,fun b hb=>by cases hb⟩
 ·obtain ⟨x,hx⟩:∃ x,l[0]? = some x:=⟨_,List.getElem?_eq_getElem (List.length_pos_iff.2 hl)⟩
  obtain ⟨a,cap,rfl,hcap⟩:=h.form
  obtain ⟨b,o,rfl,hb,-⟩:=h.at hx
  exact ⟨[b],fun _ k hk=>by simp [Value.ownBlock] at hk;simp [hk],fun c hc=>by
   rw [List.mem_singleton] at hc
   subst hc
   exact hb⟩
set_option maxRecDepth 100000 in
set_option maxHeartbeats 2000000 in
theorem degree_any (v:Value) (l:List GF) (w:World) (hG:GRd w v l) (hl:l.length≤1000000000) :
  Calls Tryz.prog 118 #[v] w (DegPost l w):=by
 obtain ⟨T,hT1,hT2⟩:=rows_of hG
 obtain ⟨a,cap,rfl,hcap⟩:=hG.form
 have HG:=Lib.hid hG
 have HT:=Lib.hid (And.intro hT1 hT2)
 clear hG hT1 hT2
 obtain ⟨N,hN⟩:∃ N,l.length=N:=⟨_,rfl⟩
 have HN:=Lib.hid hN
 rw [hN] at hcap hl ⊢
 clear hN
 refine calls_of_marks Tryz.func118 rfl ?_
 simp only [Tryz.ntmps118,List.size_toArray,List.length_cons,List.length_nil,Nat.reduceAdd,Nat.reduceSub,Array.replicate_succ,Array.replicate_zero,List.push_toArray,List.append_toArray,List.nil_append,List.cons_append]
 go_wp2_with (go_at_call 72;refine (backward_any _ _ _ _).mono ?_;rintro e w1 ⟨rfl,hb1,hbx⟩)
 have b2:w1.heap[w.heap.size]? = some (.cells #[.int .i64 0] 3 (0,0)):=keepB hb1 (heap_newA _ _)
 have HB1:Hid (Below w.heap.size w w1):=Lib.hid (((Below.refl _ _).alloc (Nat.le_refl _) _).trans (hb1.mono (by simp)))
 have HBX:Hid (SBox w1 (w.heap.size+1) (.slice a N cap)):=Lib.hid (by simpa using hbx)
 have hbl:w.heap.size+1 < w1.heap.size:=lt_of_heap HBX.out
 have HI1:Hid (DegI l w [] w1):=Lib.hid ⟨b2,by simp,HB1.out⟩
 clear b2 hb1 hbx
 refine wp_range_stopT (gf:=93) (lb:=#[.pointer (some ⟨w.heap.size+1,0,none⟩)]) (by kernel_rfl) (enters_of Tryz.func93 (by kernel_rfl) rfl)
  (back1_stops (w.heap.size+1) ((w.heap.size+1) :: T) (.slice a N cap) l w1 HBX.out (HG.out.below HB1.out |> fun h=>by rwa [HN.out] at h) (by rw [HN.out];exact hl) (by simp) (fun hne k hk=>List.mem_cons_of_mem _ (HT.out.1 hne k (by rw [HN.out];exact hk))))
  (Below.refl _ _) (fun _=>rfl) [w.heap.size] (fun b hb=>by
   rcases List.mem_cons.1 hb with rfl | hb
   ·exact ⟨hbl,by simp⟩
   ·have:=HT.out.2 b hb
    exact ⟨by omega,by simp;omega⟩) (by simp;omega)
  (DegI l w) (ownFrom_of fun s W W' r h hr hk=>by
   have hn:∀ k,k < w1.heap.size→k ∉ r:=fun k hk hm=>by have:=hr k hm;omega
   exact ⟨hk.heap h.b2 (hn _ (by omega)),h.nul,h.kp.trans (hk.below h.kp.size (fun x hx=>by have:=hr x hx;omega))⟩)
  (DegX l w) (fun c=>ownFrom_of fun s W W' r h hr hk=>by
   have hn:∀ k,k < w1.heap.size→k ∉ r:=fun k hk hm=>by have:=hr k hm;omega
   obtain ⟨p0,x,h1,h2,h3,h4⟩:=h.at_
   exact ⟨h.isr,⟨p0,x,h1,h2,h3,hk.heap h4 (hn _ (by omega))⟩,h.kp.trans (hk.below h.kp.size (fun x hx=>by have:=hr x hx;omega))⟩) HI1.out
  (fun i=>{ tmps:=#[.slice a N cap,undef,.pointer (some ⟨w.heap.size,0,none⟩),undef,undef,.slice a N cap,.func (.func 93) #[] #[.pointer (some ⟨w.heap.size+1,0,none⟩)],.int .i64 (i.val:Nat),.int .u8 ((l[i.val].n:Nat):Int),undef,undef,undef],defers:=[] })
  (fun i=>{ tmps:=#[.slice a N cap,undef,.pointer (some ⟨w.heap.size,0,none⟩),.int .i64 (i.val:Nat),.int .u8 ((l[i.val].n:Nat):Int),.slice a N cap,.func (.func 93) #[] #[.pointer (some ⟨w.heap.size+1,0,none⟩)],.int .i64 (i.val:Nat),.int .u8 ((l[i.val].n:Nat):Int),undef,undef,undef],defers:=[] })
  (fun x=>by kernel_rfl) ?assign ?body ?done ?stop
 case assign =>
  intro lv i W K hK
  gi_wp2
  exact hK
 case body =>
  rintro lv pre ⟨i,hi⟩ W hI hlt hsz
  dsimp only
  have HI:=Lib.hid hI
  clear hI
  obtain ⟨z,hz⟩:∃ z,l[i]=z:=⟨_,rfl⟩
  have hzd:l.getD i 0=z:=by rw [List.getD_eq_getElem?_getD,List.getElem?_eq_getElem hi,hz];rfl
  rw [hz]
  have HZ:=Lib.hid hzd
  have y2:=cell_of_heap HI.out.b2 (j:=0) rfl
  have z2:=free_of_heap HI.out.b2 0
  have g2:=lt_of_heap HI.out.b2
  clear hz hzd hlt
  by_cases h0:z.n=0
  ·have HP:Hid (DegI l w (pre ++ [⟨i,hi⟩]) W):=Lib.hid ⟨HI.out.b2,fun j hj=>by
    rcases List.mem_append.1 hj with hj | hj
    ·exact HI.out.nul j hj
    ·rw [List.mem_singleton] at hj
     rw [hj,HZ.out]
     exact GF.eq0.2 h0,HI.out.kp⟩
   rw [h0]
   clear h0
   gi_wp2
   exact ⟨Kp.refl _ _,HP.out⟩
  ·have hk:Kp [w.heap.size] W (W.setCell ⟨w.heap.size,0,none⟩ (.int .i64 (i:Nat))):=(Kp.refl _ _).setCell (.inl (by simp)) _
   have HP:Hid (Kp [w.heap.size] W (W.setCell ⟨w.heap.size,0,none⟩ (.int .i64 (i:Nat)))∧DegX l w .ret (pre ++ [⟨i,hi⟩]) (W.setCell ⟨w.heap.size,0,none⟩ (.int .i64 (i:Nat)))):=Lib.hid ⟨hk,rfl,⟨pre,⟨i,hi⟩,rfl,by rw [HZ.out];exact GF.ne0.2 h0,HI.out.nul,by
    have:=heap_set_same HI.out.b2 0 (.int .i64 (i:Nat))
    simpa using this⟩,HI.out.kp.trans (hk.below HI.out.kp.size (by simp))⟩
   have h0':¬ (z.n:Int)=0:=by omega
   clear hk h0
   gi_wp2
   exact HP.out
 case done =>
  rintro D0 xs W hD0 rfl hI hK0
  have hk:Kp [w.heap.size] W (W.setCell ⟨w.heap.size,0,none⟩ (.int .i64 (-1))):=(Kp.refl _ _).setCell (.inl (by simp)) _
  have hc:(W.setCell ⟨w.heap.size,0,none⟩ (.int .i64 (-1))).heap[w.heap.size]? = some (.cells #[.int .i64 (-1)] 3 (0,0)):=by
   have:=heap_set_same hI.b2 0 (.int .i64 (-1))
   simpa using this
  have HTOP:Hid (TopAt l 0):=Lib.hid ⟨by omega,.inl rfl,fun j _=>by
   by_cases hj:j < l.length
   ·exact hI.nul ⟨j,hj⟩ (by simp)
   ·rw [List.getD_eq_getElem?_getD,List.getElem?_eq_none (by omega)]
    rfl⟩
  have HK1:=Lib.hid (hk.heap hK0 (by simp;omega))
  have HB2:Hid (Below w.heap.size w (W.setCell ⟨w.heap.size,0,none⟩ (.int .i64 (-1)))):=Lib.hid (hI.kp.trans (hk.below hI.kp.size (by simp)))
  have y2:=cell_of_heap hI.b2 (j:=0) rfl
  have z2:=free_of_heap hI.b2 0
  have g2:=lt_of_heap hI.b2
  have HC:=Lib.hid hc
  have hD1:=Lib.hid hD0
  clear hI hK0 hk hc hD0
  go_wp2
  have hDD:=hD1.out
  exact leaves_marks (B:=w.heap.size) [D0] _ (Marks.cons (Marks.nil _ _) (by omega) HK1.out (by simp)) fun w' hk=>by
   have c2:=cell_of_heap (hk.heap HC.out (by simp;omega)) (j:=0) rfl
   exact ⟨.int .i64 (-1),by simp [results,Tryz.results118,go_sem,c2],0,HTOP.out,rfl,HB2.out.trans (hk.below HB2.out.size (by simp;omega))⟩
 case stop =>
  rintro D0 c pre W hD0 hpre hX hK0
  obtain ⟨rfl,⟨p0,x,rfl,hx,hz,hb⟩,hkp⟩:=hX
  have HTOP:Hid (TopAt l (x.val+1)):=Lib.hid ⟨x.isLt,.inr (by simpa using hx),fun j hj=>by
   by_cases hjl:j < l.length
   ·exact hz ⟨j,hjl⟩ (rev_prefix hpre j hjl (by omega))
   ·rw [List.getD_eq_getElem?_getD,List.getElem?_eq_none (by omega)]
    rfl⟩
  have HC:=Lib.hid hb
  have HK0:=Lib.hid hK0
  have HB2:=Lib.hid hkp
  have hD1:=Lib.hid hD0
  clear hb hK0 hkp hD0 hx hz hpre
  go_wp2
  have hDD:=hD1.out
  exact leaves_marks (B:=w.heap.size) [D0] _ (Marks.cons (Marks.nil _ _) (by omega) HK0.out (by simp)) fun w' hk=>by
   have c2:=cell_of_heap (hk.heap HC.out (by simp;omega)) (j:=0) rfl
   exact ⟨.int .i64 (x.val:Nat),by simp [results,Tryz.results118,go_sem,c2],x.val+1,HTOP.out,by simp,HB2.out.trans (hk.below HB2.out.size (by simp;omega))⟩
def PTrimPost (l:List GF) (w:World) (e:Ending) (w':World):Prop :=
 ∃ v p,e=.returned v∧TrimOf l p∧OwnG w' w.heap.size v p∧Below w.heap.size w w'
set_option maxRecDepth 100000 in
set_option maxHeartbeats 2000000 in
theorem ptrim_any (v:Value) (l:List GF) (w:World) (h:GRd w v l) (hl:l.length≤1000000) :
  Calls Tryz.prog 91 #[v] w (PTrimPost l w):=by
 have HD:=Lib.hid (degree_any v l w h (by omega))
 obtain ⟨a,cap,rfl,hcap⟩:=h.form
 obtain ⟨L,hL⟩:∃ L,l.length=L:=⟨_,rfl⟩
 have HL:=Lib.hid hL
 rw [hL] at hl hcap h HD ⊢
 have H:=Lib.hid h
 clear h hL
 go_enter Tryz.func91,Tryz.ntmps91
 go_wp2_with fail
 refine HD.out.mono ?_
 rintro e w1 ⟨n,htop,rfl,hb1⟩
 have hn:n≤L:=by have:=htop.le;rw [HL.out] at this;exact this
 obtain ⟨sa,sc,hsl,hs2,-⟩:=slice_h a L cap n (by omega)
 obtain ⟨v1,w3,hap,ho3,hb3⟩:=app_nil (hs2 w1 l (H.out.below hb1) (by rw [HL.out];exact hn)) (by rw [List.length_take];omega)
 have HP:Hid (PTrimPost l w (.returned v1) w3):=Lib.hid ⟨v1,_,rfl,htop.trim,ho3.mono hb1.size,hb1.trans (hb3.mono hb1.size)⟩
 clear htop hb1 hs2 ho3 hb3
 go_wp2_with (at_builtin;refine wpList_append rfl _ _ _ rfl rfl rfl hap ?_)
 go_ret
 exact HP.out
end Go.Proofs.YtbiaoohodjoojaaGreat
/- One polynomial added to another one, so many places higher. -/
namespace Go.Proofs.YtbiaoohodjoojaaGreat
open Go.RowKit Fld
set_option linter.unusedVariables false
set_option linter.unusedSimpArgs false

theorem rowF_congr {f g:Nat→GF} {n:Nat} (h:∀ j,j < n→f j=g j):rowF f n=rowF g n:=by
 unfold rowF
 exact List.map_congr_left fun i hi=>h i (List.mem_range.1 hi)
theorem addTo_ev (o n N:Nat) (r g:Nat→GF) (t x:GF) (h:o+n≤N):ev (rowF (addTo o n r t g) N) x=ev (rowF g N) x+pw x o * (ev (rowF r n) x * t):=by
 obtain ⟨m,rfl⟩:∃ m,N=o+n+m:=⟨N - (o+n),by omega⟩
 rw [rowF_ev,rowF_ev,rowF_ev]
 rw [sm_split (o+n) m,sm_split o n,sm_split (o+n) m (fun i=>g i * pw x i),sm_split o n (fun i=>g i * pw x i)]
 have e1:sm o (fun i=>addTo o n r t g i * pw x i)=sm o (fun i=>g i * pw x i):=sm_congr fun i hi=>by rw [addTo,if_neg (by omega)]
 have e3:sm m (fun i=>addTo o n r t g (o+n+i) * pw x (o+n+i))=sm m (fun i=>g (o+n+i) * pw x (o+n+i)):=sm_congr fun i hi=>by rw [addTo,if_neg (by omega)]
 have e2:sm n (fun i=>addTo o n r t g (o+i) * pw x (o+i))=sm n (fun i=>g (o+i) * pw x (o+i))+pw x o * (sm n (fun i=>r i * pw x i) * t):=by
  rw [← sm_mulr,← sm_mul,← sm_add]
  refine sm_congr fun i hi=>?_
  rw [addTo,if_pos (by omega),show o+i - o=i by omega,dam,pw_add]
  congr 1
  rw [mulC (r i * t),Fld.mulA,← Fld.mulA (pw x i),mulC (pw x i) (r i)]
 rw [e1,e2,e3,Fld.addA,Fld.addA,Fld.addA,Fld.addA,addC (pw x o * _)]
def PMorePost (fb bt N:Nat) (g:Nat→GF) (w:World) (e:Ending) (w':World):Prop:=e=.returned (.tuple #[])∧Kp [fb,bt] w w'∧FOk w' fb∧View w' bt N g
set_option maxRecDepth 100000 in
set_option maxHeartbeats 2000000 in
theorem pmore_any (fb bt ot n N ct:Nat) (br orr cr:Nat) (g r:Nat→GF) (t:GF) (w:World) (hF:FOk w fb) (hV:View w bt N g) (hR:RowAt w br orr n r) (hN:ot+n≤N)
  (hn:N≤1000000000) (hfb:fb ≠ bt) (hfr:fb ≠ br) (hd:bt ≠ br) :
  Calls Tryz.prog 92 #[.pointer (some ⟨fb,0,none⟩),.slice (some ⟨bt,0,none⟩) N ct,.slice (some ⟨br,orr,none⟩) n cr,.int .u8 (t.n:Nat),.int .i64 ot] w (PMorePost fb bt N (addTo ot n r t g) w):=by
 have HF:=Lib.hid hF
 have HV:=Lib.hid hV
 have HR:=Lib.hid hR
 have HD:=Lib.hid hd
 obtain ⟨T,hT⟩:∃ T,t.n=T:=⟨_,rfl⟩
 rw [hT]
 have HT:=Lib.hid hT
 clear hF hV hR hd hT
 go_enter Tryz.func92,Tryz.ntmps92
 go_wp2
 go_loopg [14] n (fun gk i wr=>∃ I:Nat,I≤n∧gk=n - I∧i=.int .i64 I∧Hid (FOk wr fb)∧Hid (View wr bt N (addTo ot I r t g))∧Hid (RowAt wr br orr n r)∧Hid (Kp [fb,bt] w wr))
 case atStart=>exact ⟨0,by omega,rfl,rfl,HF,by rw [addTo_zero];exact HV,HR,Lib.hid (Kp.refl _ _)⟩
 case round =>
  clear HF HV HR
  obtain ⟨I,hI,rfl,rfl,HF,HV,HR,HK⟩:=hrel
  by_cases hlt:I < n
  ·have c1:=HR.out.2 I hlt
   obtain ⟨P,hP⟩:∃ P,I+ot=P:=⟨_,rfl⟩
   have hPN:P < N:=by omega
   have cv:=HV.out.2 P hPN
   have hgo:addTo ot I r t g P=g P:=by rw [addTo,if_neg (by omega)]
   rw [hgo] at cv
   obtain ⟨c2,f2⟩:=cv
   obtain ⟨y,hy⟩:∃ y,(r I).n=y:=⟨_,rfl⟩
   obtain ⟨z,hz2⟩:∃ z,(g P).n=z:=⟨_,rfl⟩
   have HM:Hid (∀ W,FOk W fb→Calls Tryz.prog 73 #[.pointer (some ⟨fb,0,none⟩),.int .u8 (y:Nat),.int .u8 (T:Nat)] W (FPost fb (r I * t) W)):=Lib.hid (fun W hW=>by rw [← hy,← HT.out];exact fmul_any _ _ _ _ hW)
   have HA:Hid (∀ W,Calls Tryz.prog 24 #[.int .u8 (z:Nat),.int .u8 ((r I * t).n:Nat)] W fun e w'=>e=.returned (.int .u8 ((g P+r I * t).n:Nat))∧W=w'):=Lib.hid (fun W=>by rw [← hz2];exact gadd_any _ _ _)
   rw [hy] at c1
   rw [hz2] at c2
   clear hgo hy hz2
   have HV2:Hid (∀ W,View W bt N (addTo ot I r t g)→View (W.setCell ⟨bt,P,none⟩ (.int .u8 ((g P+r I * t).n:Nat))) bt N (addTo ot (I+1) r t g)):=Lib.hid (fun W hW=>by
    rw [← addTo_succ,show P=ot+I by omega]
    exact hW.set (by omega) _)
   obtain ⟨p,hp⟩:∃ p,(r I * t).n=p:=⟨_,rfl⟩
   obtain ⟨q,hq⟩:∃ q,(g P+r I * t).n=q:=⟨_,rfl⟩
   rw [hp,hq] at HA
   rw [hq] at HV2
   unfold FPost at HM
   rw [hp] at HM
   have hPi:(I:Int)+(ot:Int)=(P:Int):=by omega
   have hPw:IntKind.i64.wrap (P:Int)=(P:Int):=IntWalk.i64_in _ (by omega)
   clear hp hq hP
   obtain ⟨kp,hkp⟩:∃ kp:Nat→Bool,∀ k,kp k=true↔k < wr.heap.size∧k ≠ fb∧k ≠ bt:=⟨fun k=>decide (k < wr.heap.size∧k ≠ fb∧k ≠ bt),by simp⟩
   have HKP:=Lib.hid hkp
   clear hkp
   have hbl:bt < wr.heap.size:=HV.out.1
   have HNF:Hid (fb ≠ bt):=Lib.hid hfb
   have q1:(0:Int)≤(I:Int)∧(I:Int) < (n:Int):=by omega
   have q2:(0:Int)≤(P:Int)∧(P:Int) < (N:Int):=by omega
   go_upto_region 3 with fail
   have hgr:=fun (w0 W:World) (p:Addr) (hp:(fun k=>kp k=true) p.block)=>graft_cell (w0:=w0) (keep:=(fun k=>kp k=true)) W hp
   refine wp_region_tree (fun k=>kp k=true) [9,13,14,16] (.sq [0,1,2,3,4,5,6,7,8,10,11,12] (.fork 9 (.sq [13,14,15,16] .done) 13 (.sq [9,14,15,16] .done))) (by kernel_rfl) (by kernel_rfl) ?_
   simp only [Tr.sq,List.foldr_cons,List.foldr_nil,slimTr,slimStep,Oper.slim,List.contains_cons,List.contains_nil,Option.map_none,Option.map_some,List.getElem?_toArray,List.getElem?_cons_zero,List.getElem?_cons_succ,Option.bind_some,beq_self_eq_true,Bool.or_false,Nat.reduceBEq,Nat.reduceAdd,Nat.zero_add]
   repeat' first | ((with_reducible refine wpSlimT_id ?_);first | (with_reducible refine wpSlimT_done ?_) | (with_reducible refine wpSlimT_fork ?_ ?_) | ((with_reducible refine wpSlimT_step (fun K hK=>?_));go_simp;first | (refine hK _ _ ?_;clear hK K) | (refine ⟨by (intro kk hkk;first | (simp (disch:=(simp;omega)) only [hp_drew,hp_drewN,hp_alloc,hp_set];done) | (simp [hp_drew,hp_drewN,hp_alloc_if,hkk];done) | fail),hK _ _ ?_⟩;clear hK K) | (go_at_call 73;(with_reducible refine (HM.out _ (HF.out.kp ((Kp.refl [] _).drew) (by simp))).mono ?_);rintro e w1 ⟨rfl,hk,hm⟩;have c3:=(hk.cell (p:=⟨bt,P,none⟩) hbl (by simpa using HNF.out.symm)).trans c2;have f3:=(hk.frozen (p:=⟨bt,P,none⟩) hbl (by simpa using HNF.out.symm)).trans f2;have HK1:=Lib.hid hk;have HM1:=Lib.hid hm;clear hk hm;refine ⟨_,rfl,(fun kk hkk=>HK1.out.block kk ((HKP.out kk).1 hkk).1 (by have:=((HKP.out kk).1 hkk).2;simpa using this.1)),hK _ _ ?_⟩;clear hK K) | (go_at_call 24;(with_reducible refine (HA.out _).mono ?_);rintro e w2 ⟨rfl,rfl⟩;refine ⟨_,rfl,(fun kk hkk=>HK1.out.block kk ((HKP.out kk).1 hkk).1 (by have:=((HKP.out kk).1 hkk).2;simpa using this.1)),hK _ _ ?_⟩;clear hK K) | (refine ⟨(fun kk hkk=>rfl),hK _ _ ?_⟩;clear hK K) | (refine ⟨(fun kk hkk=>HK1.out.block kk ((HKP.out kk).1 hkk).1 (by have:=((HKP.out kk).1 hkk).2;simpa using this.1)),hK _ _ ?_⟩;clear hK K) | (refine ⟨(fun kk hkk=>(hp_set _ _ _ _ (by have:=((HKP.out kk).1 hkk).2;simpa using this.2)).trans (HK1.out.block kk ((HKP.out kk).1 hkk).1 (by have:=((HKP.out kk).1 hkk).2;simpa using this.1))),hK _ _ ?_⟩;clear hK K))) | fail
   all_goals clear hgr
   all_goals
    have HF2:=Lib.hid (HM1.out.kp ((Kp.refl [bt] w1).setCell (p:=⟨bt,P,none⟩) (.inl (by simp)) (.int .u8 (q:Nat))) (by simpa using HNF.out))
    have HVN:=Lib.hid (HV2.out w1 ((HV.out.drew).kp HK1.out (by simpa using HNF.out.symm)))
    have HRN:=Lib.hid (((HR.out.kp ((Kp.refl [] _).drew) (by simp)).kp HK1.out (by simpa using (fun e=>hfr e.symm))).set (c:=bt) (k:=P) (.inl HD.out) (.int .u8 (q:Nat)))
    have HKN:Hid (Kp [fb,bt] w (w1.setCell ⟨bt,P,none⟩ (.int .u8 (q:Nat)))):=Lib.hid (((HK.out.drew.step HK1.out (by simp))).setCell (.inl (by simp)) _)
    go_wp2
    go_roundg (n - (I+1))
    case measure=>omega
    case rel=>exact ⟨I+1,by omega,rfl,by go_num,HF2,HVN,HRN,HKN⟩
  ·obtain rfl:I=n:=by omega
   go_wp2
   go_end0
   exact ⟨rfl,HK.out,HF.out,HV.out⟩
theorem GRd.rowAt {w:World} {b o n cap:Nat} {l:List GF} (h:GRd w (.slice (some ⟨b,o,none⟩) n cap) l) (hne:l ≠ []):RowAt w b o n (fun i=>l.getD i 0):=by
 have hn:n=l.length:=by
  obtain ⟨a',c',e,_⟩:=h.form
  cases e
  rfl
 obtain ⟨x,hx⟩:∃ x,l[0]? = some x:=⟨_,List.getElem?_eq_getElem (List.length_pos_iff.2 hne)⟩
 obtain ⟨b',o',e,hb,-⟩:=h.at hx
 cases e
 refine ⟨hb,fun i hi=>?_⟩
 obtain ⟨c,hc,hd⟩:=at_get (l:=l) (i:=i) (by omega)
 obtain ⟨b',o',e,-,hcc⟩:=h.at hc
 cases e
 simp only [hd]
 exact hcc
end Go.Proofs.YtbiaoohodjoojaaGreat
/- The program's Mul and Roots of polynomials. -/
namespace Go.Proofs.YtbiaoohodjoojaaGreat
open Go.RowKit Fld
set_option linter.unusedVariables false
set_option linter.unusedSimpArgs false

structure PMulI (fb ob N:Nat) (a b:List GF) (w wr:World) (I:Nat) (g:Nat→GF):Prop where
 view:View wr ob N g
 eval:∀ x,ev (rowF g N) x=ev (a.take I) x * ev b x
 nul:∀ j,I+b.length≤j+1→g j=0
 ok:FOk wr fb
 kp:Kp [fb] w wr
def PMulPost (fb:Nat) (a b:List GF) (w:World) (e:Ending) (w':World):Prop :=
 ∃ v p,e=.returned v∧OwnG w' w.heap.size v p∧Trimd p∧(∀ x,ev p x=ev a x * ev b x)∧p.length≤a.length+b.length - 1∧Kp [fb] w w'∧FOk w' fb
set_option maxRecDepth 100000 in
set_option maxHeartbeats 2000000 in
theorem pmul_any (fb:Nat) (u v:Value) (a b:List GF) (w:World) (hF:FOk w fb) (hu:GRd w u a) (hv:GRd w v b) (hua:Apart u [fb]) (hva:Apart v [fb]) (hal:a.length≤100000) (hbl:b.length≤100000) (hb0:b ≠ []) :
  Calls Tryz.prog 71 #[.pointer (some ⟨fb,0,none⟩),u,v] w (PMulPost fb a b w):=by
 obtain ⟨au,cu,rfl,hcu⟩:=hu.form
 obtain ⟨av,cv,rfl,hcv⟩:=hv.form
 obtain ⟨i0,hi,hz0,hz1,hz2⟩:=info_parts u8_info
 obtain ⟨L,hL⟩:∃ L,a.length=L:=⟨_,rfl⟩
 obtain ⟨M,hM⟩:∃ M,b.length=M:=⟨_,rfl⟩
 obtain ⟨N,hN⟩:∃ N,L+M=N:=⟨_,rfl⟩
 have hM0:0 < M:=by rw [← hM];exact List.length_pos_iff.2 hb0
 have hNi:(L:Int)+(M:Int)=(N:Int):=by omega
 have hNb:N≤200000:=by omega
 have hmk:∀ W,(Instr.makeSlice 36 (.int .i64 N) (.int .i64 N)).run Tryz.prog W=.ok (.slice (some ⟨W.heap.size,0,none⟩) N N) (W.alloc (.cells (Array.replicate N (.int .u8 0)) 5)):=fun W =>
  run_row W 36 5 i0 (.int .u8 0) Tryz.underlying36 hi hz0 hz1 rfl N (by rw [hz2];omega) (by unfold maxLen;omega)
 obtain ⟨x0,hx0⟩:∃ x,b[0]? = some x:=⟨_,List.getElem?_eq_getElem (by omega)⟩
 obtain ⟨vb,vo,rfl,hvb,-⟩:=hv.at hx0
 have hvf:vb ≠ fb:=by have:=hva vb rfl;simpa using this
 have hfl:=hF.lt
 obtain ⟨w1,hw1⟩:∃ w1,w1=w.alloc (.cells (Array.replicate N (.int .u8 0)) 5):=⟨_,rfl⟩
 have hh:w1.heap[w.heap.size]? = some (.cells (Array.replicate N (.int .u8 0)) 5 (0,0)):=by rw [hw1];exact heap_newA _ _
 have hb1:Below w.heap.size w w1:=by rw [hw1];exact (Below.refl _ _).alloc (Nat.le_refl _) _
 have HI1:Hid (PMulI fb w.heap.size N a b w w1 0 (fun _=>0)):=Lib.hid ⟨⟨lt_of_heap hh,fun j hj=>⟨by
  rw [cell_of_row _ _ _ _ _ (0,0) hh]
  simp [hj]
  rfl,free_of_heap hh j⟩⟩,fun x=>by
   rw [List.take_zero,ev_nil,zmul,ev_zeros]
   intro c hc
   obtain ⟨i,_,rfl⟩:=List.mem_map.1 hc
   rfl,fun _ _=>rfl,hF.below hb1,Kp.of_below hb1⟩
 have HU:=Lib.hid hu
 have HV:=Lib.hid (hv.rowAt hb0)
 have HUA:=Lib.hid hua
 have HLL:=Lib.hid hL
 have HMM:=Lib.hid hM
 have HW1:=Lib.hid hw1
 rw [hL] at HU HUA hcu ⊢
 rw [hM] at HV hcv ⊢
 clear hF hu hv hua hva hi hz0 hz1 hz2 hL hM hb0 hx0 hh hb1 hw1 hN
 go_enter Tryz.func71,Tryz.ntmps71
 go_wp2
 rw [← HW1.out]
 go_loopg [18] L (fun gk i wr=>∃ I:Nat,I≤L∧gk=L - I∧i=.int .i64 I∧Hid (∃ g,PMulI fb w.heap.size N a b w wr I g))
 case atStart=>exact ⟨0,by omega,rfl,rfl,Lib.hid ⟨_,HI1.out⟩⟩
 case round =>
  clear HI1 HW1
  obtain ⟨I,hI,rfl,rfl,HPI⟩:=hrel
  obtain ⟨g,hg⟩:=HPI.out
  have HG:=Lib.hid hg
  clear hg HPI
  by_cases hlt:I < L
  ·obtain ⟨c,hc,hd⟩:=at_get (l:=a) (i:=I) (by rw [HLL.out];exact hlt)
   obtain ⟨ub,uo,rfl,hub,cx⟩:=(HU.out.kp HG.out.kp HUA.out).at hc
   have HMORE:=Lib.hid (pmore_any fb w.heap.size I M N N vb vo cv g (fun i=>b.getD i 0) c wr HG.out.ok HG.out.view (HV.out.kp HG.out.kp (by simpa using hvf)) (by omega) (by omega) (by omega) (fun e=>hvf e.symm) (by omega))
   have HNX:Hid (∀ w2,Kp [fb,w.heap.size] wr w2→FOk w2 fb→View w2 w.heap.size N (addTo I M (fun i=>b.getD i 0) c g)→PMulI fb w.heap.size N a b w w2 (I+1) (addTo I M (fun i=>b.getD i 0) c g)):=Lib.hid fun w2 hk hf hv=>by
    refine ⟨hv,fun x=>?_,fun j hj=>?_,hf,HG.out.kp.step hk (fun x hx=>by
     rcases List.mem_cons.1 hx with rfl | hx
     ·exact .inl (by simp)
     ·rw [List.mem_singleton] at hx
      exact .inr (by omega))⟩
    ·rw [addTo_ev _ _ _ _ _ _ _ (by omega),HG.out.eval,take_ev a (by rw [HLL.out];exact hlt),dam,hd]
     congr 1
     rw [rowF_ev,Fld.mulA,mulC c,ev_sm b,HMM.out]
    ·rw [HMM.out] at hj
     rw [addTo,if_neg (by omega)]
     exact HG.out.nul j (by rw [HMM.out];omega)
   obtain ⟨cn,hcn⟩:∃ t,c.n=t:=⟨_,rfl⟩
   rw [hcn] at cx HMORE
   clear hc hd hcn
   go_wp2_with fail
   refine HMORE.out.mono ?_
   rintro e w2 ⟨rfl,hk2,hf2,hv2⟩
   have HN2:Hid (∃ g,PMulI fb w.heap.size N a b w w2 (I+1) g):=Lib.hid ⟨_,HNX.out w2 hk2 hf2 hv2⟩
   clear hk2 hf2 hv2
   go_wp2
   go_roundg (L - (I+1))
   case measure=>omega
   case rel=>exact ⟨I+1,by omega,rfl,by go_num,HN2⟩
  ·obtain rfl:I=L:=by omega
   have hrow:GRd wr (.slice (some ⟨w.heap.size,0,none⟩) N N) (rowF g N):=HG.out.view.rowF (Nat.le_refl _)
   have HTR:=Lib.hid (ptrim_any _ _ wr hrow (by rw [rowF_len];omega))
   clear hrow
   go_wp2_with fail
   refine HTR.out.mono ?_
   rintro e w2 ⟨v2,p,rfl,htr,ho2,hb2⟩
   have hP:PMulPost fb a b w (.returned v2) w2:=by
    have hs:=HG.out.kp.size
    refine ⟨v2,p,rfl,ho2.mono hs,htr.trimd,fun x=>?_,?_,HG.out.kp.below_step hb2,HG.out.ok.below hb2⟩
    ·rw [htr.ev,HG.out.eval,List.take_of_length_le (by rw [HLL.out];exact Nat.le_refl _)]
    ·rw [HLL.out,HMM.out]
     refine Nat.le_of_not_lt fun hlt=>?_
     obtain ⟨n,hn,hp,ht,hz⟩:=htr
     have hpl:p.length=n:=by
      rw [hp,List.length_take,Nat.min_eq_left hn]
     rw [rowF_len] at hn
     rcases ht with rfl | ht
     ·simp at hpl
      subst hpl
      simp at hlt
     ·refine ht ?_
      rw [hpl,hp,List.getD_eq_getElem?_getD,List.getElem?_take,if_pos (by omega),← List.getD_eq_getElem?_getD,rowF_get g (by omega)]
      exact HG.out.nul _ (by rw [HMM.out];omega)
   have HP:=Lib.hid hP
   clear hP htr ho2 hb2
   go_wp2
   go_ret
   exact HP.out
end Go.Proofs.YtbiaoohodjoojaaGreat
/- The program's sums of polynomials, and the polynomial through values. -/
namespace Go.Proofs.YtbiaoohodjoojaaGreat
open Go.RowKit Fld
set_option linter.unusedVariables false
set_option linter.unusedSimpArgs false

def PPAddPost (a b:List GF) (w:World) (e:Ending) (w':World):Prop :=
 ∃ v p,e=.returned v∧OwnG w' w.heap.size v p∧Trimd p∧(∀ y,ev p y=ev a y+ev b y)∧p.length≤max a.length b.length∧Below w.heap.size w w'
theorem sum_pad (a b:List GF) (h:b.length≤a.length) (y:GF) {N:Nat} (hN:a.length=N):sm N (fun j=>(if j < b.length then a.getD j 0+b.getD j 0 else a.getD j 0) * pw y j)=ev a y+ev b y:=by
 subst hN
 rw [ev_sm a,ev_sm b]
 obtain ⟨d,hd⟩:∃ d,a.length=b.length+d:=⟨a.length - b.length,by omega⟩
 have e1:sm b.length (fun j=>b.getD j 0 * pw y j)=sm a.length (fun j=>b.getD j 0 * pw y j):=by
  rw [hd,sm_split,sm_0 (n:=d) fun i hi=>by rw [List.getD_eq_getElem?_getD,List.getElem?_eq_none (by omega)];exact zmul _,addz]
 rw [e1,← sm_add]
 refine sm_congr fun j hj=>?_
 by_cases e:j < b.length
 ·rw [if_pos e,dam]
 ·rw [if_neg e,show b.getD j 0=0 by rw [List.getD_eq_getElem?_getD,List.getElem?_eq_none (by omega)];rfl,zmul,addz]
set_option maxRecDepth 100000 in
set_option maxHeartbeats 4000000 in
theorem ppadd_any (u v:Value) (a b:List GF) (w:World) (hu:GRd w u a) (hv:GRd w v b) (hal:a.length≤100000) (hbl:b.length≤100000) :
  Calls Tryz.prog 70 #[u,v] w (PPAddPost a b w):=by
 have HCA:=Lib.hid (clone_any u a w hu (by omega))
 have HCB:=Lib.hid (clone_any v b w hv (by omega))
 obtain ⟨au,cu,rfl,hcu⟩:=hu.form
 obtain ⟨av,cv,rfl,hcv⟩:=hv.form
 obtain ⟨L,hL⟩:∃ L,a.length=L:=⟨_,rfl⟩
 obtain ⟨M,hM⟩:∃ M,b.length=M:=⟨_,rfl⟩
 have HU:=Lib.hid hu
 have HV:=Lib.hid hv
 have HL:=Lib.hid hL
 have HM:=Lib.hid hM
 rw [hL] at HU HCA hal hcu ⊢
 rw [hM] at HV HCB hbl hcv ⊢
 clear hu hv hL hM
 by_cases hlt:L < M
 ·have hlt':(L:Int) < (M:Int):=by omega
  have hMN:L≤M:=by omega
  clear hlt
  go_enter Tryz.func70,Tryz.ntmps70
  have hgo:∀ (a':List GF),a'.length=M→a' ≠ [] ∨ M=0:=fun a' h=>by cases a' <;> simp_all
  go_wp2_with fail
  refine (HCB).out.mono ?_
  rintro e w1 ⟨v1,rfl,ho1,hb1⟩
  obtain ⟨a1,c1,rfl,hc1⟩:=ho1.form
  rw [(HM).out] at ho1 hc1 ⊢
  obtain ⟨gb,hgb,hgv⟩:∃ gb,w.heap.size≤gb∧(0 < M→a1=some ⟨gb,0,none⟩∧View w1 gb M (fun j=>(b).getD j 0)):=by
   by_cases h0:(b)=[]
   ·exact ⟨w.heap.size,Nat.le_refl _,fun h=>by have:=(HM).out;rw [h0] at this;simp at this;omega⟩
   ·obtain ⟨g,cap,e,h1,-,h2⟩:=ho1.view h0
    have e2:a1=some ⟨g,0,none⟩:=by injection e
    exact ⟨g,h1,fun _=>⟨e2,by rw [← (HM).out];exact h2⟩⟩
  have HV1:Hid (0 < M→View w1 gb M (fun j=>if j < 0 then (b).getD j 0+(a).getD j 0 else (b).getD j 0)):=Lib.hid (fun h=>(hgv h).2.congr fun j hj=>by rw [if_neg (by omega)])
  have HGE:Hid (0 < M→a1=some ⟨gb,0,none⟩):=Lib.hid (fun h=>(hgv h).1)
  have HB1:=Lib.hid hb1
  have hs1:=hb1.size
  clear hgv ho1 hb1 HCB
  go_wp2
  go_loopg [19] L (fun gk i wr=>∃ I:Nat,I≤L∧gk=L - I∧i=.int .i64 I∧Hid (0 < M→View wr gb M (fun j=>if j < I then (b).getD j 0+(a).getD j 0 else (b).getD j 0))∧Hid (Kp [gb] w1 wr))
  case atStart=>exact ⟨0,by omega,rfl,rfl,HV1,Lib.hid (Kp.refl _ _)⟩
  case round =>
   obtain ⟨I,hI,rfl,rfl,HVW,HK⟩:=hrel
   have HBR:Hid (Below w.heap.size w wr):=Lib.hid (HB1.out.trans (HK.out.below hs1 (by simpa using hgb)))
   by_cases hlt:I < L
   ·have hIN:I < M:=by omega
    obtain rfl:=HGE.out (by omega)
    obtain ⟨z,hz,hzd⟩:=at_get (l:=a) (i:=I) (by rw [(HL).out];omega)
    obtain ⟨b1,o1,rfl,hb1,cz⟩:=((HU).out.below HBR.out).at hz
    obtain ⟨cg,fg⟩:=(HVW.out (by omega)).2 I hIN
    have gg:=(HVW.out (by omega)).1
    have cg':wr.cell? ⟨gb,I,none⟩=some (.int .u8 ((((b).getD I 0).n:Nat):Int)):=by simpa using cg
    obtain ⟨y,hy⟩:∃ y,(b).getD I 0=y:=⟨_,rfl⟩
    rw [hy] at cg'
    have hnew:=(HVW.out (by omega)).set hIN (y+z)
    have HADD:=Lib.hid (gadd_any y z wr)
    have HV2:Hid (0 < M→View (wr.setCell ⟨gb,I,none⟩ (.int .u8 ((y+z).n:Nat))) gb M (fun j=>if j < I+1 then (b).getD j 0+(a).getD j 0 else (b).getD j 0)):=Lib.hid (fun _=>hnew.congr fun j hj=>by
     by_cases e:j=I
     ·subst e
      rw [if_pos rfl,if_pos (by omega),hy,hzd]
     ·rw [if_neg e]
      by_cases e2:j < I
      ·rw [if_pos e2,if_pos (by omega)]
      ·rw [if_neg e2,if_neg (by omega)])
    have HK2:Hid (Kp [gb] w1 (wr.setCell ⟨gb,I,none⟩ (.int .u8 ((y+z).n:Nat)))):=Lib.hid (HK.out.setCell (.inl (by simp)) _)
    obtain ⟨yn,hyn⟩:∃ t,y.n=t:=⟨_,rfl⟩
    obtain ⟨zn,hzn⟩:∃ t,z.n=t:=⟨_,rfl⟩
    obtain ⟨sn,hsn⟩:∃ t,(y+z).n=t:=⟨_,rfl⟩
    rw [hyn,hzn,hsn] at HADD
    rw [hyn] at cg'
    rw [hzn] at cz
    rw [hsn] at HV2 HK2
    have i1:(0:Int)≤(I:Int)∧(I:Int) < (M:Int):=by omega
    have i2:(0:Int)≤(I:Int)∧(I:Int) < (L:Int):=by omega
    clear hz hzd hnew cg hy hyn hzn hsn
    go_wp2_with fail
    refine HADD.out.mono ?_
    rintro e w' ⟨rfl,rfl⟩
    go_wp2
    go_roundg (L - (I+1))
    case measure=>omega
    case rel=>exact ⟨I+1,by omega,rfl,by go_num,HV2,HK2⟩
   ·obtain rfl:I=L:=by omega
    obtain ⟨w3,rfl⟩:∃ w3:World,w3=wr:=⟨_,rfl⟩
    obtain ⟨F,hF⟩:∃ F:Nat→GF,F=fun j=>if j < I then (b).getD j 0+(a).getD j 0 else (b).getD j 0:=⟨_,rfl⟩
    rw [← hF] at HVW
    have hrd:GRd w3 (.slice a1 M c1) (rowF F M):=by
     by_cases h0:0 < M
     ·obtain rfl:=HGE.out h0
      exact (HVW.out h0).rowF hc1
     ·obtain rfl:M=0:=by omega
      exact ⟨by simp [rowF],a1,c1,rfl,Nat.zero_le _,fun h=>absurd rfl h⟩
    have HTR:=Lib.hid (ptrim_any _ _ w3 hrd (by rw [rowF_len];omega))
    have HFF:=Lib.hid hF
    clear hF hrd
    go_wp2_with fail
    refine HTR.out.mono ?_
    rintro e w4 ⟨v4,p,rfl,ht,ho,hb4⟩
    have hsz:=HBR.out.size
    have HPOST:Hid (PPAddPost a b w (.returned v4) w4):=Lib.hid ⟨v4,p,rfl,ho.mono hsz,ht.trimd,fun y=>by
     rw [ht.ev,rowF_ev,HFF.out]
     have hsp:=sum_pad (b) (a) (by rw [(HM).out,(HL).out];exact hMN) y (HM).out
     rw [(HL).out] at hsp
     exact hsp.trans (by first | rfl | exact addC _ _),by
     have:=ht.len
     rw [rowF_len] at this
     have h1:=(HM).out
     have h2:=(HL).out
     omega,HBR.out.trans (hb4.mono hsz)⟩
    clear ht ho hb4 HTR
    go_wp2
    go_ret
    exact HPOST.out
 ·have hlt':¬ (L:Int) < (M:Int):=by omega
  have hMN:M≤L:=by omega
  clear hlt
  go_enter Tryz.func70,Tryz.ntmps70
  have hgo:∀ (a':List GF),a'.length=L→a' ≠ [] ∨ L=0:=fun a' h=>by cases a' <;> simp_all
  go_wp2_with fail
  refine (HCA).out.mono ?_
  rintro e w1 ⟨v1,rfl,ho1,hb1⟩
  obtain ⟨a1,c1,rfl,hc1⟩:=ho1.form
  rw [(HL).out] at ho1 hc1 ⊢
  obtain ⟨gb,hgb,hgv⟩:∃ gb,w.heap.size≤gb∧(0 < L→a1=some ⟨gb,0,none⟩∧View w1 gb L (fun j=>(a).getD j 0)):=by
   by_cases h0:(a)=[]
   ·exact ⟨w.heap.size,Nat.le_refl _,fun h=>by have:=(HL).out;rw [h0] at this;simp at this;omega⟩
   ·obtain ⟨g,cap,e,h1,-,h2⟩:=ho1.view h0
    have e2:a1=some ⟨g,0,none⟩:=by injection e
    exact ⟨g,h1,fun _=>⟨e2,by rw [← (HL).out];exact h2⟩⟩
  have HV1:Hid (0 < L→View w1 gb L (fun j=>if j < 0 then (a).getD j 0+(b).getD j 0 else (a).getD j 0)):=Lib.hid (fun h=>(hgv h).2.congr fun j hj=>by rw [if_neg (by omega)])
  have HGE:Hid (0 < L→a1=some ⟨gb,0,none⟩):=Lib.hid (fun h=>(hgv h).1)
  have HB1:=Lib.hid hb1
  have hs1:=hb1.size
  clear hgv ho1 hb1 HCA
  go_wp2
  go_loopg [19] M (fun gk i wr=>∃ I:Nat,I≤M∧gk=M - I∧i=.int .i64 I∧Hid (0 < L→View wr gb L (fun j=>if j < I then (a).getD j 0+(b).getD j 0 else (a).getD j 0))∧Hid (Kp [gb] w1 wr))
  case atStart=>exact ⟨0,by omega,rfl,rfl,HV1,Lib.hid (Kp.refl _ _)⟩
  case round =>
   obtain ⟨I,hI,rfl,rfl,HVW,HK⟩:=hrel
   have HBR:Hid (Below w.heap.size w wr):=Lib.hid (HB1.out.trans (HK.out.below hs1 (by simpa using hgb)))
   by_cases hlt:I < M
   ·have hIN:I < L:=by omega
    obtain rfl:=HGE.out (by omega)
    obtain ⟨z,hz,hzd⟩:=at_get (l:=b) (i:=I) (by rw [(HM).out];omega)
    obtain ⟨b1,o1,rfl,hb1,cz⟩:=((HV).out.below HBR.out).at hz
    obtain ⟨cg,fg⟩:=(HVW.out (by omega)).2 I hIN
    have gg:=(HVW.out (by omega)).1
    have cg':wr.cell? ⟨gb,I,none⟩=some (.int .u8 ((((a).getD I 0).n:Nat):Int)):=by simpa using cg
    obtain ⟨y,hy⟩:∃ y,(a).getD I 0=y:=⟨_,rfl⟩
    rw [hy] at cg'
    have hnew:=(HVW.out (by omega)).set hIN (y+z)
    have HADD:=Lib.hid (gadd_any y z wr)
    have HV2:Hid (0 < L→View (wr.setCell ⟨gb,I,none⟩ (.int .u8 ((y+z).n:Nat))) gb L (fun j=>if j < I+1 then (a).getD j 0+(b).getD j 0 else (a).getD j 0)):=Lib.hid (fun _=>hnew.congr fun j hj=>by
     by_cases e:j=I
     ·subst e
      rw [if_pos rfl,if_pos (by omega),hy,hzd]
     ·rw [if_neg e]
      by_cases e2:j < I
      ·rw [if_pos e2,if_pos (by omega)]
      ·rw [if_neg e2,if_neg (by omega)])
    have HK2:Hid (Kp [gb] w1 (wr.setCell ⟨gb,I,none⟩ (.int .u8 ((y+z).n:Nat)))):=Lib.hid (HK.out.setCell (.inl (by simp)) _)
    obtain ⟨yn,hyn⟩:∃ t,y.n=t:=⟨_,rfl⟩
    obtain ⟨zn,hzn⟩:∃ t,z.n=t:=⟨_,rfl⟩
    obtain ⟨sn,hsn⟩:∃ t,(y+z).n=t:=⟨_,rfl⟩
    rw [hyn,hzn,hsn] at HADD
    rw [hyn] at cg'
    rw [hzn] at cz
    rw [hsn] at HV2 HK2
    have i1:(0:Int)≤(I:Int)∧(I:Int) < (L:Int):=by omega
    have i2:(0:Int)≤(I:Int)∧(I:Int) < (M:Int):=by omega
    clear hz hzd hnew cg hy hyn hzn hsn
    go_wp2_with fail
    refine HADD.out.mono ?_
    rintro e w' ⟨rfl,rfl⟩
    go_wp2
    go_roundg (M - (I+1))
    case measure=>omega
    case rel=>exact ⟨I+1,by omega,rfl,by go_num,HV2,HK2⟩
   ·obtain rfl:I=M:=by omega
    obtain ⟨w3,rfl⟩:∃ w3:World,w3=wr:=⟨_,rfl⟩
    obtain ⟨F,hF⟩:∃ F:Nat→GF,F=fun j=>if j < I then (a).getD j 0+(b).getD j 0 else (a).getD j 0:=⟨_,rfl⟩
    rw [← hF] at HVW
    have hrd:GRd w3 (.slice a1 L c1) (rowF F L):=by
     by_cases h0:0 < L
     ·obtain rfl:=HGE.out h0
      exact (HVW.out h0).rowF hc1
     ·obtain rfl:L=0:=by omega
      exact ⟨by simp [rowF],a1,c1,rfl,Nat.zero_le _,fun h=>absurd rfl h⟩
    have HTR:=Lib.hid (ptrim_any _ _ w3 hrd (by rw [rowF_len];omega))
    have HFF:=Lib.hid hF
    clear hF hrd
    go_wp2_with fail
    refine HTR.out.mono ?_
    rintro e w4 ⟨v4,p,rfl,ht,ho,hb4⟩
    have hsz:=HBR.out.size
    have HPOST:Hid (PPAddPost a b w (.returned v4) w4):=Lib.hid ⟨v4,p,rfl,ho.mono hsz,ht.trimd,fun y=>by
     rw [ht.ev,rowF_ev,HFF.out]
     have hsp:=sum_pad (a) (b) (by rw [(HL).out,(HM).out];exact hMN) y (HL).out
     rw [(HM).out] at hsp
     exact hsp.trans (by first | rfl | exact addC _ _),by
     have:=ht.len
     rw [rowF_len] at this
     have h1:=(HL).out
     have h2:=(HM).out
     omega,HBR.out.trans (hb4.mono hsz)⟩
    clear ht ho hb4 HTR
    go_wp2
    go_ret
    exact HPOST.out
structure PThI (xs ys:List GF) (I:Nat) (p b:List GF):Prop where
 trim:Trimd p
 len:p.length≤I
 val:∀ j,j < I→ev p (xs.getD j 0)=ys.getD j 0
 base:∀ y,ev b y=prodN (fun i=>xs.getD i 0) y I
 blen:b.length≤I+1
theorem PThI.ne {xs ys:List GF} {I:Nat} {p b:List GF} (h:PThI xs ys I p b) (hn:xs.Nodup) (hI:I < xs.length):ev b (xs.getD I 0) ≠ 0:=fun e=>by
 rw [h.base,prodN_eq0] at e
 obtain ⟨j,hj,e⟩:=e
 have:=getD_inj hn (by omega) hI e
 omega
theorem PThI.step {xs ys:List GF} {I:Nat} {p b q r s:List GF} {c:GF} (h:PThI xs ys I p b) (hn:xs.Nodup) (hI:I < xs.length) (hc:c=(ys.getD I 0+ev p (xs.getD I 0)) * Fld.inv (ev b (xs.getD I 0)))
  (hq:∀ y,ev q y=ev b y * c) (hql:q.length≤b.length) (hrt:Trimd r) (hr:∀ y,ev r y=ev p y+ev q y) (hrl:r.length≤max p.length q.length)
  (hs:∀ y,ev s y=ev b y * (xs.getD I 0+y)) (hsl:s.length≤b.length+1):PThI xs ys (I+1) r s:=by
 have h1:=h.len
 have h2:=h.blen
 refine ⟨hrt,by omega,fun j hj=>?_,fun y=>by rw [hs,h.base,prodN],by omega⟩
 rw [hr,hq]
 by_cases e:j=I
 ·subst e
  rw [hc,mulL,m_inv _ (h.ne hn hI),mone,addC,addA,adds,addz]
 ·rw [h.base,(prodN_eq0 _ _ _).2 ⟨j,by omega,rfl⟩,zmul,addz]
  exact h.val j (by omega)
def PThruPost (fb:Nat) (xs ys:List GF) (w:World) (e:Ending) (w':World):Prop :=
 ∃ v p,e=.returned (.tuple #[v,.int .i64 0])∧OwnG w' w.heap.size v p∧Thru xs ys p∧Kp [fb] w w'∧FOk w' fb
set_option maxRecDepth 100000 in
set_option maxHeartbeats 4000000 in
theorem pthru_any (fb:Nat) (u v:Value) (xs ys:List GF) (w:World) (hF:FOk w fb) (hu:GRd w u xs) (hv:GRd w v ys) (hua:xs=[] ∨ Apart u [fb]) (hva:ys=[] ∨ Apart v [fb]) (hn:xs.Nodup) (hl:xs.length≤10000) (hy:ys.length=xs.length) :
  Calls Tryz.prog 48 #[.pointer (some ⟨fb,0,none⟩),u,v] w (PThruPost fb xs ys w):=by
 obtain ⟨au,cu,rfl,hcu⟩:=hu.form
 obtain ⟨av,cv,rfl,hcv⟩:=hv.form
 obtain ⟨L,hL⟩:∃ L,xs.length=L:=⟨_,rfl⟩
 rw [hy] at hv hva hcv ⊢
 have HYL:=Lib.hid hy
 have HL:=Lib.hid hL
 have HND:=Lib.hid hn
 have hfl:=hF.lt
 rw [hL] at hl hcu hcv hu hv hua hva ⊢
 have HU:=Lib.hid hu
 have HV:=Lib.hid hv
 have HUA:=Lib.hid hua
 have HVA:=Lib.hid hva
 have hb0:Below w.heap.size w (w.alloc (.cells #[.int .u8 1] 5)):=(Below.refl _ _).alloc (Nat.le_refl _) _
 have h0:OwnG (w.alloc (.cells #[.int .u8 1] 5)) w.heap.size (.slice (some ⟨w.heap.size,0,none⟩) 1 1) [1]:=by
  have:=own_lit w [(1:GF)] (n:=1) rfl (by simp)
  exact this
 have H0:=Lib.hid h0
 have HF0:=Lib.hid (hF.below hb0)
 have HK0:Hid (Kp [fb] w (w.alloc (.cells #[.int .u8 1] 5))):=Lib.hid (Kp.of_below hb0)
 have HI0:Hid (PThI xs ys 0 [] [1]):=Lib.hid ⟨.inl rfl,by simp,fun j hj=>by omega,fun y=>by rw [ev_one1];rfl,by simp⟩
 clear h0 hb0 hF hu hv hua hva hL hy hn
 go_enter Tryz.func48,Tryz.ntmps48
 go_wp2
 go_loopg [8,9,22] L (fun gk o s i wr=>∃ (V1 V2:Value) (I:Nat) (p b:List GF),V1=o∧V2=s∧I≤L∧gk=L - I∧i=.int .i64 I∧Hid (OwnG wr w.heap.size V1 p)∧Hid (OwnG wr w.heap.size V2 b)∧Hid (PThI xs ys I p b)∧Hid (Kp [fb] w wr)∧Hid (FOk wr fb))
 case atStart=>exact ⟨_,_,0,[],[1],rfl,rfl,by omega,rfl,rfl,Lib.hid (OwnG.nil _ _),H0,HI0,HK0,HF0⟩
 case round =>
  clear H0 HI0 HF0 HK0
  obtain ⟨V1,V2,I,p,b,rfl,rfl,hI,rfl,rfl,HG,HB,HT,HK,HF⟩:=hrel
  have hs:=HK.out.size
  by_cases hlt:I < L
  ·obtain ⟨x,hx,hxd⟩:=at_get (l:=xs) (i:=I) (by rw [HL.out];omega)
   obtain ⟨y,hy,hyd⟩:=at_get (l:=ys) (i:=I) (by rw [HYL.out,HL.out];omega)
   have hua:Apart (.slice au L cu) [fb]:=HUA.out.resolve_left (fun e=>by rw [e] at hx;cases hx)
   have hva:Apart (.slice av L cv) [fb]:=HVA.out.resolve_left (fun e=>by rw [e] at hy;cases hy)
   obtain ⟨b1,o1,rfl,hb1,cx⟩:=(HU.out.kp HK.out hua).at hx
   obtain ⟨b2,o2,rfl,hb2,cy⟩:=(HV.out.kp HK.out hva).at hy
   have hb2f:b2 ≠ fb:=by simpa using hva b2 rfl
   have ha1:Apart V1 [fb]:=fun b hb hm=>by
    have:=HG.out.lt b hb
    simp at hm
    omega
   have ha2:Apart V2 [fb]:=fun b hb hm=>by
    have:=HB.out.lt b hb
    simp at hm
    omega
   have hlp:=HT.out.len
   have hlb:=HT.out.blen
   obtain ⟨e1,he1⟩:∃ e1,ev p x=e1:=⟨_,rfl⟩
   obtain ⟨e2,he2⟩:∃ e2,ev b x=e2:=⟨_,rfl⟩
   obtain ⟨c,hc⟩:∃ c,(y+e1) * Fld.inv e2=c:=⟨_,rfl⟩
   have hne:e2 ≠ 0:=by rw [← he2,← hxd];exact HT.out.ne HND.out (by rw [HL.out];exact hlt)
   have HC:Hid (c=(ys.getD I 0+ev p (xs.getD I 0)) * Fld.inv (ev b (xs.getD I 0))):=Lib.hid (by rw [hxd,hyd,he1,he2,hc])
   have HA1:Hid (∀ W,Kp [fb] wr W→FOk W fb→Calls Tryz.prog 49 #[.pointer (some ⟨fb,0,none⟩),V1,.int .u8 (x.n:Nat)] W (FPost fb e1 W)):=Lib.hid fun W hk hf=>by
    rw [← he1]
    exact at_any fb V1 p x W hf (HG.out.rd.kp hk ha1) (by omega) ha1
   have HA2:Hid (∀ W,Kp [fb] wr W→FOk W fb→Calls Tryz.prog 49 #[.pointer (some ⟨fb,0,none⟩),V2,.int .u8 (x.n:Nat)] W (FPost fb e2 W)):=Lib.hid fun W hk hf=>by
    rw [← he2]
    exact at_any fb V2 b x W hf (HB.out.rd.kp hk ha2) (by omega) ha2
   have HADD:=Lib.hid (fun W=>gadd_any y e1 W)
   have HDIV:Hid (∀ W,FOk W fb→Calls Tryz.prog 69 #[.pointer (some ⟨fb,0,none⟩),.int .u8 ((y+e1).n:Nat),.int .u8 (e2.n:Nat)] W (fun e w'=>e=.returned (.tuple #[.int .u8 (c.n:Nat),.bool true])∧Kp [fb] W w'∧FOk w' fb)):=Lib.hid fun W h=>by
    have:=fdiv_any (y+e1) e2 fb W h
    rw [decide_eq_true hne] at this
    rw [← hc]
    exact this
   have HXD:=Lib.hid hxd
   unfold FPost at HA1 HA2
   obtain ⟨xn,hxn⟩:∃ t,x.n=t:=⟨_,rfl⟩
   obtain ⟨yn,hyn⟩:∃ t,y.n=t:=⟨_,rfl⟩
   obtain ⟨n1,hn1⟩:∃ t,e1.n=t:=⟨_,rfl⟩
   obtain ⟨n2,hn2⟩:∃ t,e2.n=t:=⟨_,rfl⟩
   obtain ⟨sn,hsn⟩:∃ t,(y+e1).n=t:=⟨_,rfl⟩
   obtain ⟨cn,hcn⟩:∃ t,c.n=t:=⟨_,rfl⟩
   have HCN:=Lib.hid hcn
   have HXN:=Lib.hid hxn
   rw [hxn,hn1] at HA1
   rw [hxn,hn2] at HA2
   rw [hyn,hn1,hsn] at HADD
   rw [hsn,hn2,hcn] at HDIV
   rw [hxn] at cx
   rw [hyn] at cy
   have i1:(0:Int)≤(I:Int)∧(I:Int) < (L:Int):=by omega
   obtain ⟨kp,hkp⟩:∃ kp:Nat→Bool,∀ k,kp k=true↔k < wr.heap.size∧k ≠ fb:=⟨fun k=>decide (k < wr.heap.size∧k ≠ fb),by simp⟩
   have k1:kp b2=true:=(hkp _).2 ⟨Nat.lt_of_lt_of_le hb2 (by first | exact Nat.le_refl _ | omega),hb2f⟩
   have HKP:=Lib.hid hkp
   clear hx hy hxd hyd hua hva he1 he2 hc hne hxn hyn hn1 hn2 hsn hcn hkp ha1 ha2
   go_upto_region 8 with fail
   have hgr:=fun (w0 W:World) (p:Addr) (hp:(fun k=>kp k=true) p.block)=>graft_cell (w0:=w0) (keep:=(fun k=>kp k=true)) W hp
   refine wp_region_tree (fun k=>kp k=true) [8,9,13,14] (.sq [0,1,2,3,4,5,6,7,10,11,12,8,9,13,14,15,16,17,18,19] .done) (by kernel_rfl) (by kernel_rfl) ?_
   simp only [Tr.sq,List.foldr_cons,List.foldr_nil,slimTr,slimStep,Oper.slim,List.contains_cons,List.contains_nil,Option.map_none,Option.map_some,List.getElem?_toArray,List.getElem?_cons_zero,List.getElem?_cons_succ,Option.bind_some,beq_self_eq_true,Bool.or_false,Nat.reduceBEq,Nat.reduceAdd,Nat.zero_add]
   repeat' first | ((with_reducible refine wpSlimT_id ?_);first | (with_reducible refine wpSlimT_done ?_) | ((with_reducible refine wpSlimT_step (fun K hK=>?_));go_simp;first | (refine hK _ _ ?_;clear hK K) | (refine ⟨by (intro kk hkk;first | (simp (disch:=(simp;omega)) only [hp_drew,hp_drewN,hp_alloc,hp_set];done) | (simp [hp_drew,hp_drewN,hp_alloc_if,hkk];done) | fail),hK _ _ ?_⟩;clear hK K) | (go_at_call 49;(with_reducible refine (HA1.out _ ((Kp.refl _ _).drew) (HF.out.below ((Below.refl _ _).drew))).mono ?_);rintro e w5 ⟨rfl,hk5,hf5⟩;have HK5:Hid (Kp [fb] wr w5):=Lib.hid (((Kp.refl _ _).drew).trans hk5);have HF5:=Lib.hid hf5;clear hk5 hf5;refine ⟨_,rfl,(fun kk hkk=>HK5.out.block kk ((HKP.out kk).1 hkk).1 (by have:=((HKP.out kk).1 hkk).2;simpa using this)),hK _ _ ?_⟩;clear hK K) | (go_at_call 24;(with_reducible refine (HADD.out _).mono ?_);rintro e w6 ⟨rfl,rfl⟩;refine ⟨_,rfl,(fun kk hkk=>HK5.out.block kk ((HKP.out kk).1 hkk).1 (by have:=((HKP.out kk).1 hkk).2;simpa using this)),hK _ _ ?_⟩;clear hK K) | (go_at_call 49;(with_reducible refine (HA2.out _ HK5.out HF5.out).mono ?_);rintro e w7 ⟨rfl,hk7,hf7⟩;have HK7:Hid (Kp [fb] wr w7):=Lib.hid (HK5.out.trans hk7);have HF7:=Lib.hid hf7;clear hk7 hf7;refine ⟨_,rfl,(fun kk hkk=>HK7.out.block kk ((HKP.out kk).1 hkk).1 (by have:=((HKP.out kk).1 hkk).2;simpa using this)),hK _ _ ?_⟩;clear hK K) | (go_at_call 69;(with_reducible refine (HDIV.out _ HF7.out).mono ?_);rintro e w8 ⟨rfl,hk8,hf8⟩;have HK8:Hid (Kp [fb] wr w8):=Lib.hid (HK7.out.trans hk8);have HF8:=Lib.hid hf8;clear hk8 hf8;refine ⟨_,rfl,(fun kk hkk=>HK8.out.block kk ((HKP.out kk).1 hkk).1 (by have:=((HKP.out kk).1 hkk).2;simpa using this)),hK _ _ ?_⟩;clear hK K))) | fail
   clear hgr
   have hs8:=HK8.out.size
   have hbl:Below w8.heap.size w8 (w8.alloc (.cells #[.int .u8 (cn:Nat)] 5)):=(Below.refl _ _).alloc (Nat.le_refl _) _
   have HG8:=Lib.hid (HG.out.kp HK8.out (fun k hk hm=>by have:=HG.out.lt k hk;simp at hm;omega))
   have HB8:=Lib.hid (HB.out.kp HK8.out (fun k hk hm=>by have:=HB.out.lt k hk;simp at hm;omega))
   have HM1:=Lib.hid (pmul_any fb V2 (.slice (some ⟨w8.heap.size,0,none⟩) 1 1) b [c] (w8.alloc (.cells #[.int .u8 (cn:Nat)] 5)) (HF8.out.below hbl) (HB8.out.rd.below hbl) (by
    rw [← HCN.out]
    exact GRd.lit [c] (heap_newA _ _) rfl) (fun k hk hm=>by have:=HB.out.lt k hk;simp at hm;omega) (fun k hk hm=>by
    simp [Value.ownBlock] at hk hm
    omega) (by omega) (by simp) (by simp))
   have HBL:=Lib.hid hbl
   clear hbl HA1 HA2 HADD HDIV cx cy k1 HK5 HF5 HK7 HF7
   go_wp2_with fail
   refine HM1.out.mono ?_
   rintro e w9 ⟨v9,q,rfl,ho9,ht9,hev,hlq,hk9,hf9⟩
   have HK9:Hid (Kp [fb] wr w9):=Lib.hid ((HK8.out.below_step HBL.out).trans hk9)
   have hs9:=HK9.out.size
   have HG9:=Lib.hid (HG.out.kp HK9.out (fun k hk hm=>by have:=HG.out.lt k hk;simp at hm;omega))
   have HB9:=Lib.hid (HB.out.kp HK9.out (fun k hk hm=>by have:=HB.out.lt k hk;simp at hm;omega))
   have HQ:=Lib.hid hev
   have HQL:Hid (q.length≤b.length):=Lib.hid (by simpa using hlq)
   have HF9:=Lib.hid hf9
   have HAD:=Lib.hid (ppadd_any V1 v9 p q w9 HG9.out.rd ho9.rd (by omega) (by have:=HQL.out;omega))
   clear ho9 ht9 hev hlq hk9 hf9 HM1
   go_wp2_with fail
   refine HAD.out.mono ?_
   rintro e w10 ⟨v10,r,rfl,ho10,ht10,hev10,hl10,hb10⟩
   have HO10:Hid (OwnG w10 w.heap.size v10 r):=Lib.hid (ho10.mono (by omega))
   have HR:=Lib.hid (And.intro ht10 (And.intro hev10 hl10))
   have HK10:Hid (Kp [fb] wr w10):=Lib.hid (HK9.out.below_step hb10)
   have HF10:=Lib.hid (HF9.out.below hb10)
   have HB10:=Lib.hid (HB9.out.below hb10)
   have hs10:=HK10.out.size
   have hbl:Below w10.heap.size w10 (w10.alloc (.cells #[.int .u8 (xn:Nat),.int .u8 1] 5)):=(Below.refl _ _).alloc (Nat.le_refl _) _
   have HM2:=Lib.hid (pmul_any fb V2 (.slice (some ⟨w10.heap.size,0,none⟩) 2 2) b [x,1] (w10.alloc (.cells #[.int .u8 (xn:Nat),.int .u8 1] 5)) (HF10.out.below hbl) (HB10.out.rd.below hbl) (by
    rw [← HXN.out]
    exact GRd.lit [x,1] (heap_newA _ _) rfl) (fun k hk hm=>by have:=HB.out.lt k hk;simp at hm;omega) (fun k hk hm=>by
    simp [Value.ownBlock] at hk hm
    omega) (by omega) (by simp) (by simp))
   have HBM:=Lib.hid hbl
   clear hbl ho10 ht10 hev10 hl10 hb10 HAD
   go_wp2_with fail
   refine HM2.out.mono ?_
   rintro e w11 ⟨v11,s,rfl,ho11,ht11,hev11,hl11,hk11,hf11⟩
   have HK11:Hid (Kp [fb] w w11):=Lib.hid (HK.out.trans ((HK10.out.below_step HBM.out).trans hk11))
   have HF11:=Lib.hid hf11
   have HO11:Hid (OwnG w11 w.heap.size v11 s):=Lib.hid (ho11.mono (by simp;omega))
   have HO12:Hid (OwnG w11 w.heap.size v10 r):=Lib.hid ((HO10.out.below HBM.out).kp hk11 (fun k hk hm=>by have:=HO10.out.lt k hk;simp at hm;omega))
   have HT2:Hid (PThI xs ys (I+1) r s):=Lib.hid (HT.out.step HND.out (by rw [HL.out];exact hlt) HC.out (fun y=>by rw [HQ.out,ev_one1]) HQL.out HR.out.1 HR.out.2.1 HR.out.2.2 (fun y=>by rw [hev11,ev_two,HXD.out]) (by simpa using hl11))
   clear ho11 ht11 hev11 hl11 hk11 hf11 HM2
   go_wp2
   go_roundg (L - (I+1))
   case measure=>omega
   case rel=>exact ⟨v10,v11,I+1,r,s,rfl,rfl,by omega,rfl,by go_num,HO12,HO11,HT2,HK11,HF11⟩
  ·obtain rfl:I=L:=by omega
   have HP:Hid (PThruPost fb xs ys w (.returned (.tuple #[V1,.int .i64 0])) wr):=Lib.hid ⟨V1,p,rfl,HG.out,⟨HT.out.trim,by rw [HL.out];exact HT.out.len,by rw [HL.out];exact HT.out.val⟩,HK.out,HF.out⟩
   go_wp2
   go_ret2
   exact HP.out
end Go.Proofs.YtbiaoohodjoojaaGreat
