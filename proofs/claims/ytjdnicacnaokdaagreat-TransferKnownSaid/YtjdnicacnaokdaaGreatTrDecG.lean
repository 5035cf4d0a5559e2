/-
  A region that draws its order, whose last operations come up behind all others: one walk serves all orders of those ahead; the last ones may write what the others read.
  The message of shares: the program's Decode.
-/
import Derived.Test.YtjdnicacnaokdaaGreatReg
import Derived.Test.YtjdnicacnaokdaaGreatTrEach
import Derived.Test.YtjdnicacnaokdaaGreatTrFitG
import Derived.Test.YtjdnicacnaokdaaGreatOwnSyG
import Derived.Test.YtjdnicacnaokdaaGreatDecA
/- A region that draws its order, whose last operations come up behind all others: one walk serves all orders of those ahead; the last ones may write what the others read. -/
set_option linter.unusedVariables false
namespace Go.Proofs.YtjdnicacnaokdaaGreat

section
variable {P:Program} {ops:Array Oper} {md:Region.Mode} {S:World→Prop} {cs:List Nat}

def wpAnyB (P:Program) (md:Region.Mode) (ops:Array Oper) (S:World→Prop) (cs:List Nat) (B:Array Bool→Act→World→Prop):Nat→Array Bool→Act→World→Prop
 | 0,listed,a,w=>B listed a w
 | fuel+1,listed,a,w =>
  (Region.ready md ops listed ≠ []) ∧
  ∀ i ∈ Region.ready md ops listed,mixOp P ops S cs i (fun a' w'=>S w'∧wpAnyB P md ops S cs B fuel (listed.setIfInBounds i true) a' w') a w
theorem wpAny_of_B {B:Array Bool→Act→World→Prop} {Q':Exit→Act→World→Prop} {m:Nat} (hQ:∀ l a w,B l a w→wpAny P md ops Q' m l a w):∀ (fuel:Nat) (listed:Array Bool) (a:Act) (w:World),S w →
  wpAnyB P md ops S cs B fuel listed a w→wpAny P md ops Q' (m+fuel) listed a w
 | 0,_,_,_,_,h=>hQ _ _ _ h
 | fuel+1,_,_,_,hw,h=>⟨fun h0=>absurd h0 h.1,fun i hi=>wpOp_of_mixOp hw (fun a' w' hk=>wpAny_of_B hQ fuel _ a' w' hk.1 hk.2) (h.2 i hi)⟩
theorem wpAnyB_first {B:Array Bool→Act→World→Prop} {T:Nat→Bool} (hb:∀ l a w,B l a w→∀ j o,ops[j]? = some o→T j=false→l.getD j false=true) (hT:∀ t i o,T t=true→ops[i]? = some o→T i=false→reach md ops 8 t i=true) {i:Nat} {oi:Oper} {v:Value} (hi:ops[i]? = some oi) (hsel:∀ (j:Nat) (o:Oper) cs b,ops[j]? = some o→o.op ≠ .select cs b) :
  ∀ (fuel:Nat) (listed:Array Bool) (a:Act) (w:World),S w→Down md ops listed→T i=false →
   (∀ j oj,ops[j]? = some oj→j ≠ i→listed.getD j true=false→(∀ e ∈ oj.after,Region.binds md e=true→e.on ≠ i)→oi.apart ops oj=true) →
   i ∈ Region.ready md ops listed→(Region.wanted oi (yielded ops a.tmps)=false ∨ cs.contains i=false)→YieldsM P ops S oi v a →
   wpAnyB P md ops S cs B fuel (listed.setIfInBounds i true) (a.put oi.dst v) w→wpAnyB P md ops S cs B (fuel+1) listed a w:=by
 intro fuel
 induction fuel with
 | zero =>
  intro listed a w hS hD hTi _ hr hc hy H
  refine ⟨fun h=>(by rw [h] at hr;cases hr),fun j hj=>?_⟩
  by_cases hji:j=i
  ·subst hji;exact hy.mixOp hi hc ⟨hS,H⟩
  ·obtain ⟨_,oj,hoj,_⟩:=mem_ready.1 hj
   cases hTj:T j with
   | false =>
    have h1:=getD_of_ready (ready_mono hj hji)
    rw [hb _ _ _ H j oj hoj hTj] at h1
    cases h1
   | true=>exact absurd hj (not_ready_of_reach hD (hT j i oi hTj hi hTi) (getD_of_ready hr))
 | succ fuel ih =>
  intro listed a w hS hD hTi hfree hr hc hy H
  refine ⟨fun h=>(by rw [h] at hr;cases hr),fun j hj=>?_⟩
  by_cases hji:j=i
  ·subst hji;exact hy.mixOp hi hc ⟨hS,H⟩
  ·have h1:=H.2 j (ready_mono hj hji)
   obtain ⟨hjun,oj,hoj,hall⟩:=mem_ready.1 hj
   have hnot:∀ e ∈ oj.after,Region.binds md e=true→e.on ≠ i:=fun e he hb heq=>by
    have h1:=hall e he hb
    have h0:=(mem_ready.1 hr).1
    rw [heq] at h1
    rcases Nat.lt_or_ge i listed.size with h' | h'
    ·simp [h'] at h0 h1;rw [h0] at h1;cases h1
    ·simp [Array.getElem?_eq_none h'] at h1
   have hap:=hfree j oj hoj hji hjun hnot
   have h2:=mixOp_put hoj hap (fun cs b=>hsel i oi cs b hi) (fun cs b=>hsel j oj cs b hoj) hy h1
   have hfree':∀ k ok,ops[k]? = some ok→k ≠ i→(listed.setIfInBounds j true).getD k true=false →
     (∀ e ∈ ok.after,Region.binds md e=true→e.on ≠ i)→oi.apart ops ok=true:=fun k ok hk hki hun hno=>by
    refine hfree k ok hk hki ?_ hno
    by_cases hjk:j=k
    ·subst hjk;exact hjun
    ·rw [getD_set_ne true hjk] at hun;exact hun
   have hcj:∀ u,Region.wanted oi (yielded ops (a.put oj.dst u).tmps)=Region.wanted oi (yielded ops a.tmps):=fun u=>wanted_put oi a oj.dst u (Oper.apart_spec hap).2.2
   have hc2:mixOp P ops S cs j (fun a' w'=>(Region.wanted oi (yielded ops a'.tmps)=false ∨ cs.contains i=false)∧YieldsM P ops S oi v a'∧(S w'∧wpAnyB P md ops S cs B fuel ((listed.setIfInBounds i true).setIfInBounds j true) (a'.put oi.dst v) w')) a w:=by
    unfold mixOp at h2 ⊢
    simp only [hoj] at h2 ⊢
    split
    ·rename_i hw
     simp only [hw,if_true] at h2
     split
     ·rename_i hcc
      simp only [hcc,if_true] at h2
      exact chainUpon_mono (fun u w' hk=>⟨by rw [hcj];exact hc,hk⟩) h2
     ·rename_i hcc
      simp only [hcc] at h2
      obtain ⟨u,hu,hn⟩:=h2
      exact ⟨u,hu,by rw [hcj];exact hc,hn⟩
    ·rename_i hw
     simp only [hw] at h2
     exact ⟨by rw [hcj];exact hc,h2⟩
   refine mixOp_mono (fun a' w' h3=>⟨h3.2.2.1,ih (listed.setIfInBounds j true) a' w' h3.2.2.1 (hD.step hj) hTi hfree' (ready_mono hr (Ne.symm hji)) h3.1 h3.2.1 ?_⟩) hc2
   rw [Array.setIfInBounds_comm _ _ hji]
   exact h3.2.2.2

theorem wpAnyB_chain {B:Array Bool→Act→World→Prop} {T:Nat→Bool} (hb:∀ l a w,B l a w→∀ j o,ops[j]? = some o→T j=false→l.getD j false=true) (hT:∀ t i o,T t=true→ops[i]? = some o→T i=false→reach md ops 8 t i=true) {i f:Nat} {oi:Oper} (hi:ops[i]? = some oi) (hsel:∀ (j:Nat) (o:Oper) cs b,ops[j]? = some o→o.op ≠ .select cs b) :
  ∀ (fuel:Nat) (listed:Array Bool) (a:Act) (w:World),S w→Down md ops listed→T i=false →
   (∀ j oj,ops[j]? = some oj→j ≠ i→listed.getD j true=false→(∀ e ∈ oj.after,Region.binds md e=true→e.on ≠ i)→oi.apart ops oj=true) →
   (∀ j,cs.contains j=true→j ≠ i→listed.getD j false=true ∨ reach md ops f j i=true) →
   i ∈ Region.ready md ops listed→cs.contains i=true→Region.wanted oi (yielded ops a.tmps)=true →
   Chains P oi a w (fun v w'=>S w'∧wpAnyB P md ops S cs B fuel (listed.setIfInBounds i true) (a.put oi.dst v) w')→wpAnyB P md ops S cs B (fuel+1) listed a w:=by
 intro fuel
 induction fuel with
 | zero =>
  intro listed a w hS hD hTi _ _ hr hc hw H
  refine ⟨fun h=>(by rw [h] at hr;cases hr),fun j hj=>?_⟩
  by_cases hji:j=i
  ·subst hji
   unfold mixOp
   simp only [hi,hw,if_true,hc]
   exact H
  ·obtain ⟨v,w',_,h2⟩:=chainUpon_some H
   obtain ⟨_,oj,hoj,_⟩:=mem_ready.1 hj
   cases hTj:T j with
   | false =>
    have h1:=getD_of_ready (ready_mono hj hji)
    rw [hb _ _ _ h2 j oj hoj hTj] at h1
    cases h1
   | true=>exact absurd hj (not_ready_of_reach hD (hT j i oi hTj hi hTi) (getD_of_ready hr))
 | succ fuel ih =>
  intro listed a w hS hD hTi hfree hch hr hc hw H
  refine ⟨fun h=>(by rw [h] at hr;cases hr),fun j hj=>?_⟩
  by_cases hji:j=i
  ·subst hji
   unfold mixOp
   simp only [hi,hw,if_true,hc]
   exact H
  ·obtain ⟨hjun,oj,hoj,hall⟩:=mem_ready.1 hj
   have hiun:=getD_of_ready hr
   have hjc:cs.contains j=false:=by
    cases hcj:cs.contains j with
    | false=>rfl
    | true =>
     rcases hch j hcj hji with h | h
     ·have:=getD_of_ready hj
      rw [h] at this
      cases this
     ·exact absurd hj (not_ready_of_reach hD h hiun)
   have hnot:∀ e ∈ oj.after,Region.binds md e=true→e.on ≠ i:=fun e he hb heq=>by
    have h1:=hall e he hb
    rw [heq,hiun] at h1
    cases h1
   have hap:=hfree j oj hoj hji hjun hnot
   obtain ⟨h1,h2,h3⟩:=Oper.apart_spec hap
   have hselj:=fun cs b=>hsel j oj cs b hoj
   have hseli:=fun cs b=>hsel i oi cs b hi
   have hafter:∀ v w',(S w'∧wpAnyB P md ops S cs B (fuel+1) (listed.setIfInBounds i true) (a.put oi.dst v) w') →
     ∃ u,YieldsM P ops S oj u a∧S w'∧wpAnyB P md ops S cs B fuel ((listed.setIfInBounds i true).setIfInBounds j true) ((a.put oi.dst v).put oj.dst u) w':=by
    rintro v w' ⟨hS',hk⟩
    obtain ⟨u,hy,hk2⟩:=yieldsM_of_mixOp hoj (.inr hjc) (hk.2 j (ready_mono hj hji))
    exact ⟨u,hy.of_same (execOp_put oj hselj a oi.dst v h1).symm (wanted_put oj a oi.dst v h1).symm,hk2⟩
   obtain ⟨v0,w0,hk0⟩:=chainUpon_some H
   obtain ⟨u,hyu,hS0,_⟩:=hafter v0 w0 hk0
   refine hyu.mixOp hoj (.inr hjc) ⟨hS,ih (listed.setIfInBounds j true) (a.put oj.dst u) w hS (hD.step hj) hTi ?_ ?_ (ready_mono hr (Ne.symm hji)) hc ?_ ?_⟩
   ·intro k ok hk hki hun hno
    refine hfree k ok hk hki ?_ hno
    by_cases hjk:j=k
    ·subst hjk;exact hjun
    ·rw [getD_set_ne true hjk] at hun;exact hun
   ·intro k hk hki
    rcases hch k hk hki with h | h
    ·exact .inl (getD_set_true h)
    ·exact .inr h
   ·rw [wanted_put oi a oj.dst u h3];exact hw
   ·unfold Chains at *
    rw [execOp_put oi hseli a oj.dst u h3]
    refine chainUpon_mono (fun v w' hk=>?_) H
    obtain ⟨u',hy',hS',hk'⟩:=hafter v w' hk
    have hu:u'=u:=YieldsM.det hS' hy' hyu
    subst hu
    refine ⟨hS',?_⟩
    rw [Array.setIfInBounds_comm _ _ hji,← Act.put_comm a v u' h2]
    exact hk'


def Tr.ixs:Tr→List Nat
 | .step i r=>i :: r.ixs
 | _=>[]
def Tr.okB (md:Region.Mode) (ops:Array Oper) (cs ts:List Nat) (u:Tr):Tr→Array Bool→Bool
 | .done,l=>((List.range ops.size).all fun j=>ts.contains j || l.getD j false) && u.ok md ops cs l
 | .step i r,l=>(Region.ready md ops l).contains i && Region.free md ops l i && (!cs.contains i || cs.all fun j=>j == i || l.getD j false || reach md ops 8 j i) && !ts.contains i && Tr.okB md ops cs ts u r (l.setIfInBounds i true)
 | .fork i s j t,l=>(Region.ready md ops l) == [i,j] && s.len == t.len && Tr.okB md ops cs ts u s (l.setIfInBounds i true) && Tr.okB md ops cs ts u t (l.setIfInBounds j true)
 | .fork3 i s j t k v,l=>(Region.ready md ops l) == [i,j,k] && s.len == t.len && s.len == v.len && Tr.okB md ops cs ts u s (l.setIfInBounds i true) && Tr.okB md ops cs ts u t (l.setIfInBounds j true) && Tr.okB md ops cs ts u v (l.setIfInBounds k true)
theorem wpAnyB_tr {B:Array Bool→Act→World→Prop} {Q:Act→World→Prop} {ts:List Nat} {u:Tr} (hb:∀ l a w,B l a w→∀ j o,ops[j]? = some o→ts.contains j=false→l.getD j false=true) (hT:∀ t i o,ts.contains t=true→ops[i]? = some o→ts.contains i=false→reach md ops 8 t i=true)
  (hQB:∀ l a w,Down md ops l→((List.range ops.size).all fun j=>ts.contains j || l.getD j false)=true→u.ok md ops cs l=true→Q a w→B l a w) (hs:Region.noSelect ops=true):∀ (t:Tr) (listed:Array Bool) (a:Act) (w:World),S w→Down md ops listed →
  Tr.okB md ops cs ts u t listed=true→wpTr P ops S cs Q t a w→wpAnyB P md ops S cs B t.len listed a w
 | .done,listed,a,w,_,hD,hB,h=>by
  simp only [Tr.okB,Bool.and_eq_true] at hB
  exact hQB _ _ _ hD hB.1 hB.2 h
 | .fork i s j t,listed,a,w,hS,hD,hB,h=>by
  simp only [Tr.okB,Bool.and_eq_true,beq_iff_eq] at hB
  obtain ⟨⟨⟨hr,hl⟩,h1⟩,h2⟩:=hB
  have hi:i ∈ Region.ready md ops listed:=by rw [hr];simp
  have hj:j ∈ Region.ready md ops listed:=by rw [hr];simp
  refine ⟨fun h0=>(by rw [hr] at h0;cases h0),fun k hk=>?_⟩
  rw [hr] at hk
  simp only [List.mem_cons,List.not_mem_nil,or_false] at hk
  rcases hk with rfl | rfl
  ·exact mixOp_mono (fun a' w' hh=>⟨hh.1,wpAnyB_tr hb hT hQB hs s _ a' w' hh.1 (hD.step hi) h1 hh.2⟩) h.1
  ·exact mixOp_mono (fun a' w' hh=>⟨hh.1,by rw [hl];exact wpAnyB_tr hb hT hQB hs t _ a' w' hh.1 (hD.step hj) h2 hh.2⟩) h.2
 | .fork3 i s j t k v,listed,a,w,hS,hD,hB,h=>by
  simp only [Tr.okB,Bool.and_eq_true,beq_iff_eq] at hB
  obtain ⟨⟨⟨⟨⟨hr,hl⟩,hl2⟩,h1⟩,h2⟩,h3⟩:=hB
  have hi:i ∈ Region.ready md ops listed:=by rw [hr];simp
  have hj:j ∈ Region.ready md ops listed:=by rw [hr];simp
  have hk3:k ∈ Region.ready md ops listed:=by rw [hr];simp
  refine ⟨fun h0=>(by rw [hr] at h0;cases h0),fun q hq=>?_⟩
  rw [hr] at hq
  simp only [List.mem_cons,List.not_mem_nil,or_false] at hq
  rcases hq with rfl | rfl | rfl
  ·exact mixOp_mono (fun a' w' hh=>⟨hh.1,wpAnyB_tr hb hT hQB hs s _ a' w' hh.1 (hD.step hi) h1 hh.2⟩) h.1
  ·exact mixOp_mono (fun a' w' hh=>⟨hh.1,by rw [hl];exact wpAnyB_tr hb hT hQB hs t _ a' w' hh.1 (hD.step hj) h2 hh.2⟩) h.2.1
  ·exact mixOp_mono (fun a' w' hh=>⟨hh.1,by rw [hl2];exact wpAnyB_tr hb hT hQB hs v _ a' w' hh.1 (hD.step hk3) h3 hh.2⟩) h.2.2
 | .step k r,listed,a,w,hS,hD,hB,h=>by
  simp only [Tr.okB,Bool.and_eq_true,Bool.not_eq_true'] at hB
  obtain ⟨⟨⟨⟨hr,hf⟩,hc⟩,hTk⟩,hB'⟩:=hB
  have hr':k ∈ Region.ready md ops listed:=by simpa using hr
  obtain ⟨o,h0⟩:∃ o,ops[k]? = some o:=by
   obtain ⟨_,o,ho,_⟩:=mem_ready.1 hr'
   exact ⟨o,ho⟩
  have hgo:∀ a' w',S w'→wpTr P ops S cs Q r a' w'→wpAnyB P md ops S cs B r.len (listed.setIfInBounds k true) a' w':=fun a' w' hS' hh =>
   wpAnyB_tr hb hT hQB hs r _ a' w' hS' (hD.step hr') hB' hh
  simp only [wpTr] at h
  unfold mixOp at h
  simp only [h0] at h
  by_cases hw:Region.wanted o (yielded ops a.tmps)=true
  ·simp only [hw,if_true] at h
   by_cases hcs:cs.contains k=true
   ·simp only [hcs,if_true] at h
    refine wpAnyB_chain (f:=8) (T:=fun j=>ts.contains j) hb hT h0 (Region.noSelect_spec hs) r.len listed a w hS hD hTk (Region.free_spec h0 hf) (fun j hj hjk=>?_) hr' hcs hw (chainUpon_mono (fun v w' hk=>⟨hk.1,hgo _ _ hk.1 hk.2⟩) h)
    simp only [hcs,Bool.not_true,Bool.false_or,List.all_eq_true] at hc
    have:=hc j (by simpa using hj)
    simp only [Bool.or_eq_true,beq_iff_eq] at this
    rcases this with (h1 | h1) | h1
    ·exact absurd h1 hjk
    ·exact .inl h1
    ·exact .inr h1
   ·simp only [hcs] at h
    obtain ⟨v,h1,h2⟩:=h
    exact wpAnyB_first (T:=fun j=>ts.contains j) hb hT h0 (Region.noSelect_spec hs) r.len listed a w hS hD hTk (Region.free_spec h0 hf) hr' (.inr (by simpa using hcs)) (.inl ⟨hw,h1⟩) (hgo _ _ h2.1 h2.2)
  ·simp only [hw] at h
   exact wpAnyB_first (T:=fun j=>ts.contains j) hb hT h0 (Region.noSelect_spec hs) r.len listed a w hS hD hTk (Region.free_spec h0 hf) hr' (.inl (by simpa using hw)) (.inr ⟨by simpa using hw,rfl⟩) (hgo _ _ h.1 h.2)

def treeOk2 (l:List Oper) (cs:List Nat) (t u:Tr):Bool :=
 Region.noSelect l.toArray && (u.len+t.len == l.length) && (u.ixs.all fun x=>(List.range l.length).all fun i=>u.ixs.contains i || reach .any l.toArray 8 x i) && Tr.okB .any l.toArray cs u.ixs u t (Array.replicate l.length false)

theorem wp_region_tree2 {id:Nat} {Q:Exit→Act→World→Prop} {a:Act} {w:World} {l:List Oper} (keep:Nat→Prop) (cs:List Nat) (t u:Tr) (hm:P.follows .mixedOrders=true) (hB:treeOk2 l cs t u=true)
  (h:wpSlimT P w.drew keep (fun a' w'=>wpSlimT P w' (fun _=>False) (fun a2 w2=>Q .normal a2 w2) (slimTr l.toArray cs u) a' w') (slimTr l.toArray cs t) a w.drew):(Code.region id l.toArray true).wp P Q a w:=by
 simp only [treeOk2,Bool.and_eq_true,beq_iff_eq] at hB
 obtain ⟨⟨⟨hn,hl⟩,hr⟩,hch⟩:=hB
 have hT:∀ x i o,u.ixs.contains x=true→l.toArray[i]? = some o→u.ixs.contains i=false→reach .any l.toArray 8 x i=true:=fun x i o hx hi hni=>by
  have h1:=List.all_eq_true.1 hr x (by simpa using hx)
  have hil:i < l.length:=by
   rcases Nat.lt_or_ge i l.length with h2 | h2
   ·exact h2
   ·rw [Array.getElem?_eq_none (by simpa using h2)] at hi;cases hi
  have h2:=List.all_eq_true.1 h1 i (List.mem_range.2 hil)
  rw [hni,Bool.false_or] at h2
  exact h2
 have hmain:=wpAnyB_tr (P:=P) (S:=Cls w.drew keep) (cs:=cs) (md:=.any) (ops:=l.toArray) (u:=u) (ts:=u.ixs)
  (B:=fun l' a w=>(∀ j o,l.toArray[j]? = some o→u.ixs.contains j=false→l'.getD j false=true)∧wpAny P .any l.toArray Q u.len l' a w)
  (Q:=fun a' w'=>wpSlimT P w' (fun _=>False) (fun a2 w2=>Q .normal a2 w2) (slimTr l.toArray cs u) a' w')
  (fun l' a w hb=>hb.1) hT (fun l' a w hD hall hok hq=>⟨fun j o hj hjn=>by
   have hjl:j < l.toArray.size:=by
    rcases Nat.lt_or_ge j l.toArray.size with h2 | h2
    ·exact h2
    ·rw [Array.getElem?_eq_none h2] at hj;cases hj
   have h2:=List.all_eq_true.1 hall j (List.mem_range.2 hjl)
   rw [hjn,Bool.false_or] at h2
   exact h2,wpAny_of_mix (S:=Cls w (fun _=>False)) (cs:=cs) (Q:=fun a' w'=>Q .normal a' w') (fun _ _ h=>h) _ _ _ _ (Cls.refl _ _) (wpAnyM_tr hn u l' a w (Cls.refl _ _) hD hok (wpTr_of_slim u a w (Cls.refl _ _) hq))⟩) hn t (Array.replicate l.length false) a w.drew (Cls.refl _ _)
  (fun j o _ hl=>by simp [Array.getElem?_replicate] at hl;split at hl <;> simp at hl) hch (wpTr_of_slim t a w.drew (Cls.refl _ _) h)
 have:=wpAny_of_B (S:=Cls w.drew keep) (cs:=cs) (Q':=Q) (m:=u.len) (fun l' a w hb=>hb.2) _ _ _ _ (Cls.refl _ _) hmain
 rw [hl] at this
 refine wp_region_any hm ?_
 simpa using this
end
end Go.Proofs.YtjdnicacnaokdaaGreat
/- The message of shares: the program's Decode. -/
namespace Go.Proofs.YtjdnicacnaokdaaGreat
open Go.RowKit Fld
set_option linter.unusedVariables false
set_option linter.unusedSimpArgs false

theorem own_row {W:World} {B t n b:Nat} {v:Value} {m:Nat} {l:List Value} (h:W.ownsRow B t n v m l) (hb:v.ownBlock=some b):∃ cs,W.heap[b]? = some (.cells cs t (0,0)):=by
 rcases h.2 with ⟨rfl,_⟩ | ⟨g,cap,cur,rfl,h2,h3,_⟩
 ·simp [Value.ownBlock] at hb
 ·simp [Value.ownBlock] at hb
  subst hb
  exact ⟨cur,h3⟩
theorem own_ne {W:World} {B t t' n b:Nat} {v:Value} {m:Nat} {l:List Value} {cs:Array Value} (h:W.ownsRow B t n v m l) (hb:W.heap[b]? = some (.cells cs t' (0,0))) (ht:t ≠ t'):b ∉ v.ownBlock.toList:=fun hm=>by
 obtain ⟨c,hc⟩:=own_row h (by simpa using hm)
 rw [hb] at hc
 cases hc
 exact ht rfl
structure DecB (W0:World) (pb yb ab mb:Nat) (S:List (Nat × GF) × Bool) (W:World):Prop where
 kp:Kp [mb,pb,yb,ab] W0 W
 map:ToldM W mb S.1
 py:∃ V1 V2,W.heap[pb]? = some (.cells #[V1] 53 (0,0))∧W.heap[yb]? = some (.cells #[V2] 34 (0,0))∧OwnZ W W0.heap.size V1 (S.1.map fun p=>(p.1:Int))∧OwnG W W0.heap.size V2 (S.1.map Prod.snd)∧Apart V2 V1.ownBlock.toList
 a:W.heap[ab]? = some (.cells #[.bool S.2] 4 (0,0))
structure DecW (W0:World) (tb pb yb ab mb:Nat):Prop where
 t0:W0.cell? ⟨tb,0,none⟩=some (.map (some mb))
 lt:tb < W0.heap.size∧pb < W0.heap.size∧yb < W0.heap.size∧ab < W0.heap.size∧mb < W0.heap.size
 ne:tb ≠ pb∧tb ≠ yb∧tb ≠ ab∧tb ≠ mb∧pb ≠ yb∧pb ≠ ab∧pb ≠ mb∧yb ≠ ab∧yb ≠ mb∧ab ≠ mb
theorem DecB.setA {W0:World} {tb pb yb ab mb:Nat} {S:List (Nat × GF) × Bool} {W:World} (h:DecB W0 pb yb ab mb S W) (hw:DecW W0 tb pb yb ab mb) (q:Bool):DecB W0 pb yb ab mb (S.1,q) (W.setCell ⟨ab,0,none⟩ (.bool q)):=by
 obtain ⟨l1,l2,l3,l4,l5⟩:=hw.lt
 obtain ⟨n1,n2,n3,n4,n5,n6,n7,n8,n9,n10⟩:=hw.ne
 have hk:Kp [ab] W (W.setCell ⟨ab,0,none⟩ (.bool q)):=(Kp.refl _ _).setCell (.inl (by simp)) _
 obtain ⟨V1,V2,h1,h2,h3,h4,h5⟩:=h.py
 refine ⟨h.kp.step hk (fun x hx=>.inl (by simp at hx;simp [hx])),h.map.kp hk (by simpa using n10.symm),⟨V1,V2,hk.heap h1 (by simpa using n6),hk.heap h2 (by simpa using n8),h3.kp hk (fun b hb hm=>?_),h4.kp hk (fun b hb hm=>?_),h5⟩,by simpa using heap_set_same h.a 0 (.bool q)⟩
 ·have:=(h3.lt b hb).1;simp at hm;omega
 ·have:=(h4.lt b hb).1;simp at hm;omega
def D1Post (W0:World) (pb yb ab mb sb:Nat) (so:Obj) (S:List (Nat × GF) × Bool) (e:Ending) (W':World):Prop:=e=.returned (.tuple #[])∧DecB W0 pb yb ab mb S W'∧W'.heap[sb]? = some so
set_option maxRecDepth 100000 in
set_option maxHeartbeats 4000000 in
theorem dec1t_any (W0 W:World) (tb sb pb yb ab mb:Nat) (s:Sy) (S:List (Nat × GF) × Bool) (o p e:Nat) (hw:DecW W0 tb pb yb ab mb) (hs:s.rd W0) (hsa:Apart (.slice s.a s.d.length s.cp) [mb,pb,yb,ab])
  (h:DecB W0 pb yb ab mb S W) (hsb:W.heap[sb]? = some (.cells #[.int .i64 s.node,.slice s.a s.d.length s.cp] 57 (0,0))) (hs0:W0.heap.size≤sb) (hp:p < s.d.length) (he:e≤1000) (hl:S.1.length≤1000) :
  Calls Tryz.prog 51 #[.int .i64 o,.int .i64 p,.int .i64 e,.pointer (some ⟨tb,0,none⟩),.pointer (some ⟨sb,0,none⟩),.pointer (some ⟨pb,0,none⟩),.pointer (some ⟨yb,0,none⟩),.pointer (some ⟨ab,0,none⟩)] W
   (D1Post W0 pb yb ab mb sb (.cells #[.int .i64 s.node,.slice s.a s.d.length s.cp] 57 (0,0)) (addT S e (s.d.getD p 0))):=by
 obtain ⟨l1,l2,l3,l4,l5⟩:=hw.lt
 obtain ⟨n1,n2,n3,n4,n5,n6,n7,n8,n9,n10⟩:=hw.ne
 have hsW:=h.kp.size
 have c0:=(h.kp.cell (p:=⟨tb,0,none⟩) l1 (by simp;omega)).trans hw.t0
 have d1:=cell_of_heap hsb (j:=1) rfl
 have hlsb:=lt_of_heap hsb
 obtain ⟨b,hb,hbd⟩:=at_get hp
 have hsr:=GRd.kp hs h.kp hsa
 obtain ⟨b2,o2,hab,hb2,c2⟩:=hsr.at hb
 have hb20:b2 < W0.heap.size:=by
  obtain ⟨b3,o3,e9,h9,-⟩:=GRd.at hs hb
  rw [hab] at e9
  cases e9
  exact h9
 obtain ⟨L,hL⟩:∃ L,s.d.length=L:=⟨_,rfl⟩
 obtain ⟨sa,hsa'⟩:∃ sa,s.a=sa:=⟨_,rfl⟩
 obtain ⟨y,hy⟩:∃ y,b.n=y:=⟨_,rfl⟩
 rw [hbd]
 rw [hsa'] at hab
 subst hab
 rw [hL,hsa'] at d1 hsb ⊢
 rw [hL] at hp
 rw [hy] at c2
 have i1:(0:Int)≤(p:Int)∧(p:Int) < (L:Int):=by omega
 have a0:=cell_of_heap h.a (j:=0) rfl
 have fa:=free_of_heap h.a 0
 have la:=lt_of_heap h.a
 have hlk:=h.map.look e (by omega)
 have H:=Lib.hid h
 have HW:=Lib.hid hw
 have HSB:=Lib.hid hsb
 have HYY:=Lib.hid hy
 rw [hL,hsa'] at hsa
 have HAPS:=Lib.hid hsa
 clear hs hsa hb hbd hsr hL hsa'
 cases hq:S.1.lookup e with
 | some c =>
  have hadd:addT S e b=(S.1,S.2 || decide (c ≠ b)):=by unfold addT;rw [hq]
  rw [hadd]
  rw [hq] at hlk
  obtain ⟨cn,hcn⟩:∃ cn,c.n=cn:=⟨_,rfl⟩
  have HCN:=Lib.hid hcn
  simp only [Option.getD_some,Option.isSome_some,hcn] at hlk
  obtain ⟨q,hqq⟩:∃ q,(S.2 || decide (c ≠ b))=q:=⟨_,rfl⟩
  have HP:Hid (D1Post W0 pb yb ab mb sb (.cells #[.int .i64 s.node,.slice (some ⟨b2,o2,none⟩) L s.cp] 57 (0,0)) (S.1,q) (.returned (.tuple #[])) (W.setCell ⟨ab,0,none⟩ (.bool q))):=Lib.hid
   ⟨rfl,h.setA hw q,(Kp.heap ((Kp.refl [ab] W).setCell (p:=⟨ab,0,none⟩) (.inl (by simp)) _) hsb (by simp;omega))⟩
  rw [hqq]
  cases hS2:S.2 with
  | true =>
   rw [hS2] at hqq a0
   rw [Bool.true_or] at hqq
   subst hqq
   clear h hw hsb hadd hq hcn hS2 hy
   go_enter Tryz.func51,Tryz.ntmps51
   go_wp2
   go_end0
   exact HP.out
  | false =>
   rw [hS2] at hqq a0
   rw [Bool.false_or] at hqq
   by_cases hcb:c=b
   ·rw [decide_eq_false (fun h=>h hcb)] at hqq
    subst hqq
    have x1:(cn:Int)=(y:Int):=by rw [← hcn,← hy,hcb]
    have x2:((cn:Int) != (y:Int))=false:=by simp;omega
    rw [x1] at hlk
    clear h hw hsb hadd hq hcn hS2 hy hcb x1 x2
    go_enter Tryz.func51,Tryz.ntmps51
    go_wp2
    go_end0
    exact HP.out
   ·rw [decide_eq_true hcb] at hqq
    subst hqq
    have x1:¬ (cn:Int)=(y:Int):=fun e=>hcb (GF.ext' (by omega))
    have x2:((cn:Int) != (y:Int))=true:=by simp;omega
    clear h hw hsb hadd hq hcn hS2 hy hcb
    go_enter Tryz.func51,Tryz.ntmps51
    go_wp2
    go_end0
    exact HP.out
 | none =>
  have hadd:addT S e b=(S.1 ++ [(e,b)],S.2):=by unfold addT;rw [hq]
  rw [hadd]
  rw [hq] at hlk
  simp only [Option.getD_none,Option.isSome_none] at hlk
  have hz:((0:GF).n:Nat)=0:=rfl
  rw [hz] at hlk
  obtain ⟨w6,hput,hm6,hg6⟩:=ToldM.put (w:=W.drew) (h.map.block rfl) (by omega) e (by omega) b hq
  rw [hy] at hput
  have k6:Kp [mb] W w6:=((Kp.refl _ W).drew).trans (by have:=kp_grown hg6;simpa using this)
  obtain ⟨V1,V2,p1,p2,p3,p4,p5⟩:=h.py
  have q1:=cell_of_heap (k6.heap p1 (by simpa using n7)) (j:=0) rfl
  have q2:=cell_of_heap (k6.heap p2 (by simpa using n9)) (j:=0) rfl
  have r1:=free_of_heap (k6.heap p1 (by simpa using n7)) 0
  have r2:=free_of_heap (k6.heap p2 (by simpa using n9)) 0
  have hs6:=k6.size
  have hpb:=lt_of_heap p1
  have hyb:=lt_of_heap p2
  have oz1:OwnZ w6 W0.heap.size V1 (S.1.map fun p=>(p.1:Int)):=p3.kp k6 fun b hb hm=>by have:=(p3.lt b hb).1;simp at hm;omega
  have og2:OwnG w6 W0.heap.size V2 (S.1.map Prod.snd):=p4.kp k6 fun b hb hm=>by have:=(p4.lt b hb).1;simp at hm;omega
  have d1':=cell_of_heap (k6.heap hsb (by simp;omega)) (j:=1) rfl
  have hsb6:=k6.heap hsb (by simp;omega)
  have HX1:Hid ((e:Int)=(e:Int)):=Lib.hid rfl
  have HX2:=HYY
  have HL1:Hid ((S.1.map fun p=>(p.1:Int)).length≤1000000):=Lib.hid (by rw [List.length_map];omega)
  have HL2:Hid ((S.1.map Prod.snd).length≤1000000):=Lib.hid (by rw [List.length_map];omega)
  have HV1:Hid (∀ b ∈ V1.ownBlock.toList,b < w6.heap.size∧W0.heap.size≤b):=Lib.hid fun b hb=>by have:=oz1.lt b (by simpa using hb);exact ⟨this.2,this.1⟩
  have HV2:Hid (∀ b ∈ V2.ownBlock.toList,b < w6.heap.size∧W0.heap.size≤b):=Lib.hid fun b hb=>by have:=og2.lt b (by simpa using hb);exact ⟨this.2,this.1⟩
  have hns1:=own_ne oz1 hsb6 (by decide)
  have hns2:=own_ne og2 hsb6 (by decide)
  have HO1:=Lib.hid oz1
  have HO2:=Lib.hid og2
  have HAP:=Lib.hid p5
  have HM6:=Lib.hid hm6
  have HK6:=Lib.hid k6
  have HSB6:=Lib.hid hsb6
  have hlt2:W0.heap.size≤w6.heap.size:=by omega
  have HPY:=Lib.hid (And.intro (k6.heap p1 (by simpa using n7)) (And.intro (k6.heap p2 (by simpa using n9)) (k6.heap h.a (by simpa using n10))))
  obtain ⟨km,hkm⟩:∃ km:Nat→Bool,∀ k,km k=true↔k < W.heap.size∧k ≠ mb:=⟨fun k=>decide (k < W.heap.size∧k ≠ mb),by simp⟩
  have HKM:=Lib.hid hkm
  have HGB:Hid (∀ kk,kk < W.heap.size∧kk ≠ mb→w6.heap[kk]? = W.heap[kk]?):=Lib.hid fun kk hkk=>k6.block kk hkk.1 (by simpa using hkk.2)
  have m1:km tb=true:=(hkm _).2 ⟨by omega,n4⟩
  have m2:km sb=true:=(hkm _).2 ⟨hlsb,by omega⟩
  have c2':=c2
  have hb2':=hb2
  have hnb:b2 ≠ mb:=by
   intro hh
   have:=HSB
   exact absurd (show b2 ∈ [mb,pb,yb,ab] by simp [hh]) (HAPS.out b2 rfl)
  have m3:km b2=true:=(hkm _).2 ⟨hb2,hnb⟩
  obtain ⟨kp,hkp⟩:∃ kp:Nat→Bool,∀ k,kp k=true↔k < w6.heap.size∧k ∉ V1.ownBlock.toList∧k ∉ V2.ownBlock.toList:=⟨fun k=>decide (k < w6.heap.size∧k ∉ V1.ownBlock.toList∧k ∉ V2.ownBlock.toList),by simp⟩
  have HKP:=Lib.hid hkp
  have hlo:∀ x,x < W0.heap.size→kp x=true:=fun x hx=>(hkp x).2 ⟨by omega,fun hm=>by have:=(HV1.out x hm).2;omega,fun hm=>by have:=(HV2.out x hm).2;omega⟩
  have k1:=hlo pb l2
  have k2:=hlo yb l3
  have HNS:=Lib.hid (And.intro hns1 hns2)
  have k3:kp sb=true:=(hkp _).2 ⟨by omega,hns1,hns2⟩
  have k4:=hlo b2 hb20
  have c3:=(k6.cell (p:=⟨b2,o2+p,none⟩) hb2 (by simpa using hnb)).trans c2
  have hlsb6:sb < w6.heap.size:=by omega
  have hb26:b2 < w6.heap.size:=by omega
  have a6:=cell_of_heap HPY.out.2.2 (j:=0) rfl
  have fa6:=free_of_heap HPY.out.2.2 0
  have la6:=lt_of_heap HPY.out.2.2
  have pb6:pb < w6.heap.size:=by omega
  have yb6:yb < w6.heap.size:=by omega
  clear h hw hsb hadd hq hy hm6 hg6 k6 p1 p2 p3 p4 p5 oz1 og2 hsb6 hns1 hns2 hkm hkp hlo hz hnb
  go_enter Tryz.func51,Tryz.ntmps51
  go_upto_region 2 with fail
  have hgr:=fun (w0 W:World) (p:Addr) (hp:(fun k=>km k=true) p.block)=>graft_cell (w0:=w0) (keep:=(fun k=>km k=true)) W hp
  refine wp_region_tree (fun k=>km k=true) [7] (.sq [0,1,2,3,4,5,6,7] .done) (by kernel_rfl) (by kernel_rfl) ?_
  simp only [Tr.sq,List.foldr_cons,List.foldr_nil,slimTr,slimStep,Oper.slim,List.contains_cons,List.contains_nil,Option.map_none,Option.map_some,List.getElem?_toArray,List.getElem?_cons_zero,List.getElem?_cons_succ,Option.bind_some,beq_self_eq_true,Bool.or_false,Nat.reduceBEq,Nat.reduceAdd,Nat.zero_add]
  repeat' first | ((with_reducible refine wpSlimT_id ?_);first | (with_reducible refine wpSlimT_done ?_) | (first | (refine wpSlimT_appE _ _ _ rfl rfl rfl rfl rfl (app_int_at _ (HO1.out.below (by (repeat' (first | (with_reducible exact RowKit.Below.refl _ _) | (with_reducible assumption) | (with_reducible refine RowKit.Below.drew ?_) | (with_reducible refine RowKit.Below.alloc ?_ ?_ _) | omega | (simp;done) | (simp;omega))))) HL1.out (by simp;omega) HX1.out (cell_of_heap (by first | exact heap_newA _ _ | exact keepA (heap_newA _ _) _ | exact heap_newE _ _ _ (by simp) | exact keepA (heap_newE _ _ _ (by simp)) _) (j:=0) rfl)) ?_;rintro v1 w7 ⟨ho1,hk1,hb1,hat1⟩;have HKW7:Hid (Kp V1.ownBlock.toList w6 w7):=Lib.hid ((Kp.of_below (show Below w6.heap.size w6 _ from by (repeat' (first | (with_reducible exact RowKit.Below.refl _ _) | (with_reducible assumption) | (with_reducible refine RowKit.Below.drew ?_) | (with_reducible refine RowKit.Below.alloc ?_ ?_ _) | omega | (simp;done) | (simp;omega))))).trans hk1);have HO1':=Lib.hid ho1;have HK1:=Lib.hid hk1;have HAT1:Hid (∀ b,v1.ownBlock=some b→b ∈ V1.ownBlock.toList ∨ w6.heap.size≤b):=Lib.hid (fun b hb=>by rcases hat1 with e | e <;> rw [e] at hb;exact .inl (by simpa using hb);(cases hb;exact .inr (by first | (simp;done) | (simp;omega))));have HO2':=Lib.hid ((HO2.out.below (by (repeat' (first | (with_reducible exact RowKit.Below.refl _ _) | (with_reducible assumption) | (with_reducible refine RowKit.Below.drew ?_) | (with_reducible refine RowKit.Below.alloc ?_ ?_ _) | omega | (simp;done) | (simp;omega))))).kp hk1 HAP.out);have hs7:w6.heap.size < w7.heap.size:=Nat.lt_of_lt_of_le (by first | (simp;done) | (simp;omega)) hk1.size;have HB7:=Lib.hid hb1;have HKE7:Hid (∀ kk,kp kk=true→w7.heap[kk]? = w6.heap[kk]?):=Lib.hid (fun kk hkk=>(HK1.out.block kk (by have:=((HKP.out kk).1 hkk).1;simp;omega) ((HKP.out kk).1 hkk).2.1).trans (by have:=((HKP.out kk).1 hkk).1;first | exact hp_alloc _ _ _ (by simp;omega) | exact (hp_alloc _ _ _ (by simp;omega)).trans (hp_alloc _ _ _ (by simp;omega))));clear ho1 hk1 hb1 hat1;refine ⟨(fun kk hkk=>HKE7.out kk hkk),?_⟩) | (refine wpSlimT_appE _ _ _ rfl rfl rfl rfl rfl (app_byte_at _ (HO2'.out.below (by (repeat' (first | (with_reducible exact RowKit.Below.refl _ _) | (with_reducible assumption) | (with_reducible refine RowKit.Below.drew ?_) | (with_reducible refine RowKit.Below.alloc ?_ ?_ _) | omega | (simp;done) | (simp;omega))))) HL2.out (by first | omega | (simp;omega)) HX2.out (cell_of_heap (by first | (first | exact heap_newA _ _ | exact keepA (heap_newA _ _) _ | exact heap_newE _ _ _ (by simp) | exact keepA (heap_newE _ _ _ (by simp)) _) | (refine HK1.out.heap (by first | exact heap_newA _ _ | exact keepA (heap_newA _ _) _ | exact heap_newE _ _ _ (by simp) | exact keepA (heap_newE _ _ _ (by simp)) _) ?_;intro hm;have h9:=HV1.out _ hm;first | omega | (simp at h9;omega) | (have h8:w6.drew.heap.size=w6.heap.size:=rfl;omega))) (j:=0) rfl)) ?_;rintro v2 w8 ⟨ho2,hk2,hb2,hat2⟩;have HKW8:Hid (Kp (V1.ownBlock.toList ++ V2.ownBlock.toList) w6 w8):=Lib.hid ((HKW7.out.mono (fun x hx=>List.mem_append_left _ hx)).trans (((Kp.of_below (show Below w7.heap.size w7 _ from by (repeat' (first | (with_reducible exact RowKit.Below.refl _ _) | (with_reducible assumption) | (with_reducible refine RowKit.Below.drew ?_) | (with_reducible refine RowKit.Below.alloc ?_ ?_ _) | omega | (simp;done) | (simp;omega))))).trans hk2).mono (fun x hx=>List.mem_append_right _ hx)));have HO2'':=Lib.hid ho2;have HK2:=Lib.hid hk2;have HAP8:Hid (Apart v2 v1.ownBlock.toList):=Lib.hid (fun b hb hm=>by have hm0:v1.ownBlock=some b:=(by simpa using hm);have hm:=HO1'.out.lt b hm0;rcases hat2 with e | e <;> rw [e] at hb;(rcases HAT1.out b hm0 with h | h;exact HAP.out b hb h;have:=HV2.out b (by simpa using hb);omega);(cases hb;first | omega | (simp at hm;omega)));have HO1'':=Lib.hid ((HO1'.out.below (by (repeat' (first | (with_reducible exact RowKit.Below.refl _ _) | (with_reducible assumption) | (with_reducible refine RowKit.Below.drew ?_) | (with_reducible refine RowKit.Below.alloc ?_ ?_ _) | omega | (simp;done) | (simp;omega))))).kp hk2 (fun b hb hm=>by have h9:=HV2.out b hm;rcases HAT1.out b hb with h | h;exact HAP.out b (by simpa using hm) h;omega));have hs8:w6.heap.size < w8.heap.size:=Nat.lt_of_lt_of_le (by first | omega | (simp;omega)) hk2.size;have HB8:=Lib.hid hb2;clear ho2 hk2 hb2 hat2;refine ⟨?keep,?_⟩;(case keep=>(intro kk hkk;have hkk2:=((HKP.out kk).1 hkk).1;refine (HK2.out.block kk (by first | omega | (simp;omega)) ((HKP.out kk).1 hkk).2.2).trans ?_;first | exact HKE7.out kk hkk | (refine (hp_alloc _ _ _ ?_).trans (HKE7.out kk hkk);omega))))) | ((with_reducible refine wpSlimT_step (fun K hK=>?_));go_simp;first | (refine hK _ _ ?_;clear hK K) | (refine ⟨by (intro kk hkk;first | (simp (disch:=(simp;omega)) only [hp_drew,hp_drewN,hp_alloc,hp_set];done) | (simp [hp_drew,hp_drewN,hp_alloc_if,hkk];done) | first | (exact HGB.out kk ((HKM.out kk).1 hkk)) | (exact hkk.elim) | (have hkk2:=((HKP.out kk).1 hkk).1;first | exact hp_alloc _ _ _ (by simp;omega) | exact (hp_alloc _ _ _ (by simp;omega)).trans (hp_alloc _ _ _ (by simp;omega)) | (refine (hp_alloc _ _ _ ?_).trans (HKE7.out kk hkk);omega))),hK _ _ ?_⟩;clear hK K))) | fail
  clear hgr
  go_upto_region 3 with fail
  have hgr:=fun (w0 W:World) (p:Addr) (hp:(fun k=>kp k=true) p.block)=>graft_cell (w0:=w0) (keep:=(fun k=>kp k=true)) W hp
  refine wp_region_tree2 (fun k=>kp k=true) [2,3,10,11,12,13] (.sq [0,1,4,5,6,7,8,9] (.fork 2 (.fork 3 (.step 10 (.step 11 .done)) 10 (.step 3 (.step 11 .done))) 10 (.sq [2,3,11] .done))) (.sq [12,13] .done) (by kernel_rfl) (by kernel_rfl) ?_
  simp only [Tr.sq,List.foldr_cons,List.foldr_nil,slimTr,slimStep,Oper.slim,List.contains_cons,List.contains_nil,Option.map_none,Option.map_some,List.getElem?_toArray,List.getElem?_cons_zero,List.getElem?_cons_succ,Option.bind_some,beq_self_eq_true,Bool.or_false,Nat.reduceBEq,Nat.reduceAdd,Nat.zero_add]
  repeat' first | ((with_reducible refine wpSlimT_id ?_);first | (with_reducible refine wpSlimT_done ?_) | (with_reducible refine wpSlimT_fork ?_ ?_) | (first | (refine wpSlimT_appE _ _ _ rfl rfl rfl rfl rfl (app_int_at _ (HO1.out.below (by (repeat' (first | (with_reducible exact RowKit.Below.refl _ _) | (with_reducible assumption) | (with_reducible refine RowKit.Below.drew ?_) | (with_reducible refine RowKit.Below.alloc ?_ ?_ _) | omega | (simp;done) | (simp;omega))))) HL1.out (by simp;omega) HX1.out (cell_of_heap (by first | exact heap_newA _ _ | exact keepA (heap_newA _ _) _ | exact heap_newE _ _ _ (by simp) | exact keepA (heap_newE _ _ _ (by simp)) _) (j:=0) rfl)) ?_;rintro v1 w7 ⟨ho1,hk1,hb1,hat1⟩;have HKW7:Hid (Kp V1.ownBlock.toList w6 w7):=Lib.hid ((Kp.of_below (show Below w6.heap.size w6 _ from by (repeat' (first | (with_reducible exact RowKit.Below.refl _ _) | (with_reducible assumption) | (with_reducible refine RowKit.Below.drew ?_) | (with_reducible refine RowKit.Below.alloc ?_ ?_ _) | omega | (simp;done) | (simp;omega))))).trans hk1);have HO1':=Lib.hid ho1;have HK1:=Lib.hid hk1;have HAT1:Hid (∀ b,v1.ownBlock=some b→b ∈ V1.ownBlock.toList ∨ w6.heap.size≤b):=Lib.hid (fun b hb=>by rcases hat1 with e | e <;> rw [e] at hb;exact .inl (by simpa using hb);(cases hb;exact .inr (by first | (simp;done) | (simp;omega))));have HO2':=Lib.hid ((HO2.out.below (by (repeat' (first | (with_reducible exact RowKit.Below.refl _ _) | (with_reducible assumption) | (with_reducible refine RowKit.Below.drew ?_) | (with_reducible refine RowKit.Below.alloc ?_ ?_ _) | omega | (simp;done) | (simp;omega))))).kp hk1 HAP.out);have hs7:w6.heap.size < w7.heap.size:=Nat.lt_of_lt_of_le (by first | (simp;done) | (simp;omega)) hk1.size;have HB7:=Lib.hid hb1;have HKE7:Hid (∀ kk,kp kk=true→w7.heap[kk]? = w6.heap[kk]?):=Lib.hid (fun kk hkk=>(HK1.out.block kk (by have:=((HKP.out kk).1 hkk).1;simp;omega) ((HKP.out kk).1 hkk).2.1).trans (by have:=((HKP.out kk).1 hkk).1;first | exact hp_alloc _ _ _ (by simp;omega) | exact (hp_alloc _ _ _ (by simp;omega)).trans (hp_alloc _ _ _ (by simp;omega))));clear ho1 hk1 hb1 hat1;refine ⟨(fun kk hkk=>HKE7.out kk hkk),?_⟩) | (refine wpSlimT_appE _ _ _ rfl rfl rfl rfl rfl (app_byte_at _ (HO2'.out.below (by (repeat' (first | (with_reducible exact RowKit.Below.refl _ _) | (with_reducible assumption) | (with_reducible refine RowKit.Below.drew ?_) | (with_reducible refine RowKit.Below.alloc ?_ ?_ _) | omega | (simp;done) | (simp;omega))))) HL2.out (by first | omega | (simp;omega)) HX2.out (cell_of_heap (by first | (first | exact heap_newA _ _ | exact keepA (heap_newA _ _) _ | exact heap_newE _ _ _ (by simp) | exact keepA (heap_newE _ _ _ (by simp)) _) | (refine HK1.out.heap (by first | exact heap_newA _ _ | exact keepA (heap_newA _ _) _ | exact heap_newE _ _ _ (by simp) | exact keepA (heap_newE _ _ _ (by simp)) _) ?_;intro hm;have h9:=HV1.out _ hm;first | omega | (simp at h9;omega) | (have h8:w6.drew.heap.size=w6.heap.size:=rfl;omega))) (j:=0) rfl)) ?_;rintro v2 w8 ⟨ho2,hk2,hb2,hat2⟩;have HKW8:Hid (Kp (V1.ownBlock.toList ++ V2.ownBlock.toList) w6 w8):=Lib.hid ((HKW7.out.mono (fun x hx=>List.mem_append_left _ hx)).trans (((Kp.of_below (show Below w7.heap.size w7 _ from by (repeat' (first | (with_reducible exact RowKit.Below.refl _ _) | (with_reducible assumption) | (with_reducible refine RowKit.Below.drew ?_) | (with_reducible refine RowKit.Below.alloc ?_ ?_ _) | omega | (simp;done) | (simp;omega))))).trans hk2).mono (fun x hx=>List.mem_append_right _ hx)));have HO2'':=Lib.hid ho2;have HK2:=Lib.hid hk2;have HAP8:Hid (Apart v2 v1.ownBlock.toList):=Lib.hid (fun b hb hm=>by have hm0:v1.ownBlock=some b:=(by simpa using hm);have hm:=HO1'.out.lt b hm0;rcases hat2 with e | e <;> rw [e] at hb;(rcases HAT1.out b hm0 with h | h;exact HAP.out b hb h;have:=HV2.out b (by simpa using hb);omega);(cases hb;first | omega | (simp at hm;omega)));have HO1'':=Lib.hid ((HO1'.out.below (by (repeat' (first | (with_reducible exact RowKit.Below.refl _ _) | (with_reducible assumption) | (with_reducible refine RowKit.Below.drew ?_) | (with_reducible refine RowKit.Below.alloc ?_ ?_ _) | omega | (simp;done) | (simp;omega))))).kp hk2 (fun b hb hm=>by have h9:=HV2.out b hm;rcases HAT1.out b hb with h | h;exact HAP.out b (by simpa using hm) h;omega));have hs8:w6.heap.size < w8.heap.size:=Nat.lt_of_lt_of_le (by first | omega | (simp;omega)) hk2.size;have HB8:=Lib.hid hb2;clear ho2 hk2 hb2 hat2;refine ⟨?keep,?_⟩;(case keep=>(intro kk hkk;have hkk2:=((HKP.out kk).1 hkk).1;refine (HK2.out.block kk (by first | omega | (simp;omega)) ((HKP.out kk).1 hkk).2.2).trans ?_;first | exact HKE7.out kk hkk | (refine (hp_alloc _ _ _ ?_).trans (HKE7.out kk hkk);omega))))) | ((with_reducible refine wpSlimT_step (fun K hK=>?_));go_simp;first | (refine hK _ _ ?_;clear hK K) | (refine ⟨by (intro kk hkk;first | (simp (disch:=(simp;omega)) only [hp_drew,hp_drewN,hp_alloc,hp_set];done) | (simp [hp_drew,hp_drewN,hp_alloc_if,hkk];done) | first | (exact HGB.out kk ((HKM.out kk).1 hkk)) | (exact hkk.elim) | (have hkk2:=((HKP.out kk).1 hkk).1;first | exact hp_alloc _ _ _ (by simp;omega) | exact (hp_alloc _ _ _ (by simp;omega)).trans (hp_alloc _ _ _ (by simp;omega)) | (refine (hp_alloc _ _ _ ?_).trans (HKE7.out kk hkk);omega))),hK _ _ ?_⟩;clear hK K))) | fail
  all_goals (try clear hgr)
  all_goals
   obtain ⟨a1,cc1,e1⟩:=HO1''.out.rd.form
   obtain ⟨a2,cc2,e2,-⟩:=HO2''.out.form
   obtain ⟨N1,hN1⟩:∃ N1,((S.1.map fun p=>(p.1:Int)) ++ [(e:Int)]).length=N1:=⟨_,rfl⟩
   obtain ⟨N2,hN2⟩:∃ N2,(S.1.map Prod.snd ++ [b]).length=N2:=⟨_,rfl⟩
   rw [hN1] at e1
   rw [hN2] at e2
   subst e1 e2
   have hnv:∀ x,x < W0.heap.size→x ∉ V1.ownBlock.toList ++ V2.ownBlock.toList:=fun x hx hm=>by
    rcases List.mem_append.1 hm with hm | hm
    ·have:=(HV1.out x hm).2;omega
    ·have:=(HV2.out x hm).2;omega
   have bb1:=HKW8.out.heap HPY.out.1 (hnv pb l2)
   have bb2:=HKW8.out.heap HPY.out.2.1 (hnv yb l3)
   have bb3:=HKW8.out.heap HPY.out.2.2 (hnv ab l4)
   have bb4:=HKW8.out.heap HSB6.out (fun hm=>(List.mem_append.1 hm).elim HNS.out.1 HNS.out.2)
   have u1:=cell_of_heap bb1 (j:=0) rfl
   have u2:=cell_of_heap bb2 (j:=0) rfl
   have u3:=cell_of_heap bb3 (j:=0) rfl
   have f1:=free_of_heap bb1 0
   have f2:=free_of_heap bb2 0
   have f3:=free_of_heap bb3 0
   have t1:=lt_of_heap bb1
   have t2:=lt_of_heap bb2
   have t3:=lt_of_heap bb3
   have hk9:Kp [pb,yb] w8 ((w8.setCell ⟨pb,0,none⟩ (.slice a1 N1 cc1)).setCell ⟨yb,0,none⟩ (.slice a2 N2 cc2)):=((Kp.refl _ _).setCell (.inl (by simp)) _).setCell (.inl (by simp)) _
   have HP:Hid (D1Post W0 pb yb ab mb sb (.cells #[.int .i64 s.node,.slice (some ⟨b2,o2,none⟩) L s.cp] 57 (0,0)) (S.1 ++ [(e,b)],S.2) (.returned (.tuple #[])) (((w8.setCell ⟨pb,0,none⟩ (.slice a1 N1 cc1)).setCell ⟨yb,0,none⟩ (.slice a2 N2 cc2)).setCell ⟨ab,0,none⟩ (.bool S.2))):=Lib.hid (by
    have g1:(w8.setCell ⟨pb,0,none⟩ (.slice a1 N1 cc1)).heap[pb]? = some (.cells #[.slice a1 N1 cc1] 53 (0,0)):=by simpa using heap_set_same bb1 0 (.slice a1 N1 cc1)
    have hka:Kp [pb] w8 (w8.setCell ⟨pb,0,none⟩ (.slice a1 N1 cc1)):=(Kp.refl _ _).setCell (.inl (by simp)) _
    have hkb:Kp [yb] (w8.setCell ⟨pb,0,none⟩ (.slice a1 N1 cc1)) ((w8.setCell ⟨pb,0,none⟩ (.slice a1 N1 cc1)).setCell ⟨yb,0,none⟩ (.slice a2 N2 cc2)):=(Kp.refl _ _).setCell (.inl (by simp)) _
    have g2:=hkb.heap g1 (by simpa using n5)
    have g3:((w8.setCell ⟨pb,0,none⟩ (.slice a1 N1 cc1)).setCell ⟨yb,0,none⟩ (.slice a2 N2 cc2)).heap[yb]? = some (.cells #[.slice a2 N2 cc2] 34 (0,0)):=by simpa using heap_set_same (hka.heap bb2 (by simp;omega)) 0 (.slice a2 N2 cc2)
    have hd9:DecB W0 pb yb ab mb (S.1 ++ [(e,b)],S.2) ((w8.setCell ⟨pb,0,none⟩ (.slice a1 N1 cc1)).setCell ⟨yb,0,none⟩ (.slice a2 N2 cc2)):=by
     refine ⟨((H.out.kp.step HK6.out (fun x hx=>.inl (by simp at hx;simp [hx]))).step HKW8.out (fun x hx=>.inr ?_)).step hk9 (fun x hx=>.inl (by simp at hx;rcases hx with rfl | rfl <;> simp)),(HM6.out.kp HKW8.out (hnv mb l5)).kp hk9 (by simp;omega),⟨_,_,g2,g3,?_,?_,HAP8.out⟩,hk9.heap bb3 (by simp;omega)⟩
     ·rcases List.mem_append.1 hx with hx | hx
      ·exact (HV1.out x hx).2
      ·exact (HV2.out x hx).2
     ·rw [List.map_append]
      exact HO1''.out.kp hk9 fun x hx hm=>by have:=(HO1''.out.lt x hx).1;simp at hm;omega
     ·rw [List.map_append]
      exact HO2''.out.kp hk9 fun x hx hm=>by have:=(HO2''.out.lt x hx).1;simp at hm;omega
    exact ⟨rfl,hd9.setA HW.out S.2,Kp.heap ((Kp.refl [ab] _).setCell (p:=⟨ab,0,none⟩) (.inl (by simp)) _) (hk9.heap bb4 (by simp;omega)) (by simp;omega)⟩)
   have n65:¬ ab=pb:=by omega
   have n85:¬ ab=yb:=by omega
   clear hk9 bb1 bb2 bb3 bb4 hnv
   repeat ((with_reducible refine wpSlimT_step (fun K hK=>?_));go_simp;(refine ⟨(fun kk hkk=>hkk.elim),hK _ _ ?_⟩;clear hK K))
   refine wpSlimT_done ?_
   obtain ⟨w9,hw9⟩:∃ w9,w9=(w8.setCell ⟨pb,0,none⟩ (.slice a1 N1 cc1)).setCell ⟨yb,0,none⟩ (.slice a2 N2 cc2):=⟨_,rfl⟩
   rw [← hw9] at HP ⊢
   have v3:w9.cell? ⟨ab,0,none⟩=some (.bool S.2):=by rw [hw9];simp [World.cell?_setCell_other,n65,n85,u3]
   have v4:w9.frozen? ⟨ab,0,none⟩=false:=by rw [hw9,World.frozen?_setCell,World.frozen?_setCell];exact f3
   have v5:ab < w9.heap.size:=by rw [hw9];simpa using t3
   clear hw9 u1 u2 u3 f1 f2 f3 t1 t2 t3
   obtain ⟨q,hq⟩:∃ q,S.2=q:=⟨_,rfl⟩
   rw [hq] at HP v3 ⊢
   cases q
   ·go_wp2
    go_end0
    exact HP.out
   ·go_wp2
    go_end0
    exact HP.out
end Go.Proofs.YtjdnicacnaokdaaGreat
