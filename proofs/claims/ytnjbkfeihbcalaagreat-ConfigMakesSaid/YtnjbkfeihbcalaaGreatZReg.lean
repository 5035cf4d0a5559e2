/-
  A region that draws its order: one walk in the text's order serves every order, where the operations that change the world wait for one another, and each of the others yields one value in every world of a class.
  A region that draws its order, where two operations that change the world may come up in either order: a tree of orders serves.
  A region whose operations are guarded ('&&', '||') by what is not decided: no parting of the walk: the guarded run of operations is looked at under its guard, the test's value is one Bool.
  A region that draws its order, in a round of a range over a function: a tree of orders serves there too.
-/
import Derived.Still
import Derived.Tactics
import Derived.Below
import Derived.Deep.Draws
import Derived.OrdersIn
import Derived.RangeFuncCalls
import Derived.TacticsIn
/- A region that draws its order: one walk in the text's order serves every order, where the operations that change the world wait for one another, and each of the others yields one value in every world of a class. -/
namespace Go.Proofs.YtnjbkfeihbcalaaGreat

section
variable {P:Program} {ops:Array Oper} {md:Region.Mode} {S:World→Prop} {cs:List Nat}

def yieldsUpon (w:World) (v:Value):Result Next→Prop
  | .ok (.value u) w'=>w'=w∧u=v
  | .ok .skip w'=>w'=w∧v=undef
  | _=>False

def Floats (P:Program) (S:World→Prop) (o:Oper) (a:Act) (v:Value):Prop:=∀ w,S w→yieldsUpon w v ((execOp a.eval o).run P w)

theorem yieldsUpon_det {w:World} {v u:Value} {r:Result Next} (h:yieldsUpon w v r) (h':yieldsUpon w u r):v=u:=by
  cases r with
  | halt x w'=>exact h.elim
  | ok n w' =>
    cases n <;> simp only [yieldsUpon] at h h' <;> first | exact h.elim | (rw [← h.2,← h'.2]) | (rw [h.2,h'.2])

def chainUpon (P:Program) (K:Value→World→Prop):Result Next→Prop
  | .ok (.value v) w'=>K v w'
  | .ok .skip w'=>K undef w'
  | .ok (.enter f args) w'=>Calls P f args w' (fun e w''=>∃ v,e=.returned v∧K v w'')
  | .ok (.row row args) w'=>Rows P row args w' K
  | _=>False

def Chains (P:Program) (o:Oper) (a:Act) (w:World) (K:Value→World→Prop):Prop:=chainUpon P K ((execOp a.eval o).run P w)

theorem chainUpon_mono {K K':Value→World→Prop} (h:∀ v w,K v w→K' v w) {r:Result Next} (hr:chainUpon P K r):chainUpon P K' r:=by
  cases r with
  | halt x w'=>exact hr.elim
  | ok n w' =>
    cases n <;> simp only [chainUpon] at hr ⊢ <;> first | exact h _ _ hr | exact hr.elim | exact hr.mono (fun e w'' ⟨v,he,hk⟩=>⟨v,he,h _ _ hk⟩) | exact hr.mono (fun v w'' hk=>h _ _ hk)

theorem chainUpon_some {K:Value→World→Prop} {r:Result Next} (hr:chainUpon P K r):∃ v w,K v w:=by
  cases r with
  | halt x w'=>exact hr.elim
  | ok n w' =>
    cases n <;> simp only [chainUpon] at hr
    case value v=>exact ⟨_,_,hr⟩
    case skip=>exact ⟨_,_,hr⟩
    case enter f args =>
      obtain ⟨e,w'',fr,⟨v,_,hk⟩,_⟩:=hr []
      exact ⟨_,_,hk⟩
    case row row args =>
      obtain ⟨v,w'',hk,_⟩:=hr default []
      exact ⟨_,_,hk⟩

theorem Chains.wp {o:Oper} {a:Act} {w:World} {K:Value→World→Prop} {next:Act→World→Prop} {Q:Exit→Act→World→Prop}
    (h:Chains P o a w K) (hk:∀ v w',K v w'→next (a.put o.dst v) w'):o.wp P a w next Q:=by
  unfold Chains at h
  unfold Oper.wp
  generalize (execOp a.eval o).run P w=r at *
  cases r with
  | halt x w'=>exact h.elim
  | ok n w' =>
    cases n <;> simp only [chainUpon] at h <;> simp only [Oper.upon]
    case value v=>exact hk _ _ h
    case skip=>exact hk _ _ h
    case enter f args=>exact h.mono fun e w'' ⟨v,he,hv⟩=>by subst he;exact hk _ _ hv
    case row row args=>exact h.mono fun v w'' hv=>hk _ _ hv

def mixOp (P:Program) (ops:Array Oper) (S:World→Prop) (cs:List Nat) (i:Nat) (K:Act→World→Prop) (a:Act) (w:World):Prop :=
  match ops[i]? with
  | none=>K a w
  | some o =>
    if Region.wanted o (yielded ops a.tmps) then
      (if cs.contains i then Chains P o a w (fun v w'=>K (a.put o.dst v) w') else ∃ v,Floats P S o a v∧K (a.put o.dst v) w)
    else K (a.put o.dst undef) w

theorem mixOp_mono {i:Nat} {a:Act} {w:World} {K K':Act→World→Prop} (h:∀ a w,K a w→K' a w) (hh:mixOp P ops S cs i K a w):mixOp P ops S cs i K' a w:=by
  unfold mixOp at *
  split
  · exact h _ _ (by simpa [*] using hh)
  · rename_i o ho
    simp only [ho] at hh
    split
    · rename_i hw
      simp only [hw,if_true] at hh
      split
      · rename_i hc
        simp only [hc,if_true] at hh
        exact chainUpon_mono (fun v w hk=>h _ _ hk) hh
      · rename_i hc
        simp only [hc] at hh
        obtain ⟨v,h1,h2⟩:=hh
        exact ⟨v,h1,h _ _ h2⟩
    · rename_i hw
      simp only [hw] at hh
      exact h _ _ hh

def wpAnyM (P:Program) (md:Region.Mode) (ops:Array Oper) (S:World→Prop) (cs:List Nat) (Q:Act→World→Prop):Nat→Array Bool→Act→World→Prop
  | 0,listed,a,w=>Region.ready md ops listed=[]∧Q a w
  | fuel+1,listed,a,w =>
    (Region.ready md ops listed=[]→Q a w) ∧
    ∀ i ∈ Region.ready md ops listed,mixOp P ops S cs i (fun a' w'=>S w'∧wpAnyM P md ops S cs Q fuel (listed.setIfInBounds i true) a' w') a w

theorem wpOp_of_mixOp {i:Nat} {a:Act} {w:World} {K K':Act→World→Prop} {Q':Exit→Act→World→Prop} (hS:S w) (h:∀ a w,K a w→K' a w)
    (hh:mixOp P ops S cs i K a w):wpOp P ops Q' i K' a w:=by
  unfold mixOp at hh
  unfold wpOp
  split
  · rename_i ho;simp only [ho] at hh;exact h _ _ hh
  · rename_i o ho
    simp only [ho] at hh
    split
    · rename_i hw
      simp only [hw,if_true] at hh
      refine .inl ?_
      by_cases hc:cs.contains i=true
      · simp only [hc,if_true] at hh
        exact hh.wp fun v w' hk=>h _ _ hk
      · simp only [hc] at hh
        obtain ⟨v,h1,h2⟩:=hh
        have h3:=h1 w hS
        unfold Oper.wp
        generalize (execOp a.eval o).run P w=r at *
        cases r with
        | halt x w'=>exact h3.elim
        | ok n w' =>
          cases n <;> simp only [yieldsUpon] at h3 <;> simp only [Oper.upon]
          case value u=>obtain ⟨e1,e2⟩:=h3;rw [e1,e2];exact h _ _ h2
          case skip=>obtain ⟨e1,e2⟩:=h3;rw [e1,← e2];exact h _ _ h2
    · rename_i hw
      simp only [hw] at hh
      exact h _ _ hh

theorem wpAny_of_mix {Q:Act→World→Prop} {Q':Exit→Act→World→Prop} (hQ:∀ a w,Q a w→Q' .normal a w):∀ (fuel:Nat) (listed:Array Bool) (a:Act) (w:World),S w →
    wpAnyM P md ops S cs Q fuel listed a w→wpAny P md ops Q' fuel listed a w
  | 0,_,_,_,_,h=>⟨h.1,hQ _ _ h.2⟩
  | fuel+1,_,_,_,hw,h=>⟨fun h0=>hQ _ _ (h.1 h0),fun i hi=>wpOp_of_mixOp hw (fun a' w' hk=>wpAny_of_mix hQ fuel _ a' w' hk.1 hk.2) (h.2 i hi)⟩

def YieldsM (P:Program) (ops:Array Oper) (S:World→Prop) (o:Oper) (v:Value) (a:Act):Prop :=
  (Region.wanted o (yielded ops a.tmps)=true∧Floats P S o a v) ∨ (Region.wanted o (yielded ops a.tmps)=false∧v=undef)

theorem YieldsM.of_same {o:Oper} {v:Value} {a a':Act} (hy:YieldsM P ops S o v a) (he:execOp a'.eval o=execOp a.eval o)
    (hw:Region.wanted o (yielded ops a'.tmps)=Region.wanted o (yielded ops a.tmps)):YieldsM P ops S o v a':=by
  unfold YieldsM Floats at *
  rw [he,hw]
  exact hy

theorem YieldsM.det {o:Oper} {v u:Value} {a:Act} {w:World} (hS:S w) (h:YieldsM P ops S o v a) (h':YieldsM P ops S o u a):v=u:=by
  rcases h with ⟨h1,h2⟩ | ⟨h1,h2⟩ <;> rcases h' with ⟨h3,h4⟩ | ⟨h3,h4⟩
  · exact yieldsUpon_det (h2 w hS) (h4 w hS)
  · rw [h1] at h3;cases h3
  · rw [h1] at h3;cases h3
  · rw [h2,h4]

theorem YieldsM.mixOp {i:Nat} {o:Oper} {v:Value} {a:Act} {w:World} (hi:ops[i]? = some o) (hc:Region.wanted o (yielded ops a.tmps)=false ∨ cs.contains i=false) (hy:YieldsM P ops S o v a)
    {K:Act→World→Prop} (h:K (a.put o.dst v) w):mixOp P ops S cs i K a w:=by
  unfold Go.Proofs.YtnjbkfeihbcalaaGreat.mixOp
  simp only [hi]
  rcases hy with ⟨hw,hv⟩ | ⟨hw,rfl⟩
  · have hc':cs.contains i=false:=by
      rcases hc with hc | hc
      · rw [hw] at hc;cases hc
      · exact hc
    simp only [hw,if_true,hc',Bool.false_eq_true,if_false]
    exact ⟨v,hv,h⟩
  · simp only [hw,Bool.false_eq_true,if_false];exact h

theorem yieldsM_of_mixOp {i:Nat} {o:Oper} {a:Act} {w:World} {K:Act→World→Prop} (hi:ops[i]? = some o) (hc:Region.wanted o (yielded ops a.tmps)=false ∨ cs.contains i=false) (h:mixOp P ops S cs i K a w) :
    ∃ v,YieldsM P ops S o v a∧K (a.put o.dst v) w:=by
  unfold mixOp at h
  simp only [hi] at h
  by_cases hw:Region.wanted o (yielded ops a.tmps)=true
  · have hc':cs.contains i=false:=by
      rcases hc with hc | hc
      · rw [hw] at hc;cases hc
      · exact hc
    simp only [hw,if_true,hc',Bool.false_eq_true,if_false] at h
    obtain ⟨v,h1,h2⟩:=h
    exact ⟨v,.inl ⟨hw,h1⟩,h2⟩
  · simp only [hw] at h
    exact ⟨undef,.inr ⟨by simpa using hw,rfl⟩,h⟩

theorem mixOp_put {j:Nat} {oi oj:Oper} {v:Value} (hj:ops[j]? = some oj) (hap:oi.apart ops oj=true)
    (hsi:∀ cs b,oi.op ≠ .select cs b) (hsj:∀ cs b,oj.op ≠ .select cs b) {K:Act→World→Prop} {a:Act} {w:World}
    (hy:YieldsM P ops S oi v a) (h:mixOp P ops S cs j K (a.put oi.dst v) w) :
    mixOp P ops S cs j (fun a' w'=>YieldsM P ops S oi v a'∧K (a'.put oi.dst v) w') a w:=by
  obtain ⟨h1,h2,h3⟩:=Oper.apart_spec hap
  have keep:∀ (a:Act),YieldsM P ops S oi v a→∀ u,YieldsM P ops S oi v (a.put oj.dst u):=fun a hy u =>
    hy.of_same (execOp_put oi hsi a oj.dst u h3) (wanted_put oi a oj.dst u h3)
  unfold mixOp at *
  simp only [hj] at *
  rw [wanted_put oj a oi.dst v h1] at h
  split
  · rename_i hw
    simp only [hw,if_true] at h
    split
    · rename_i hc
      simp only [hc,if_true] at h
      unfold Chains at *
      rw [execOp_put oj hsj a oi.dst v h1] at h
      exact chainUpon_mono (fun u w' hk=>⟨keep a hy u,by rw [← Act.put_comm a v u h2];exact hk⟩) h
    · rename_i hc
      simp only [hc] at h
      obtain ⟨u,hu,hn⟩:=h
      refine ⟨u,?_,keep a hy u,by rw [← Act.put_comm a v u h2];exact hn⟩
      unfold Floats at *
      rwa [execOp_put oj hsj a oi.dst v h1] at hu
  · rename_i hw
    simp only [hw] at h
    exact ⟨keep a hy _,by rw [← Act.put_comm a v undef h2];exact h⟩

theorem wpAnyM_first {Q:Act→World→Prop} {i:Nat} {oi:Oper} {v:Value} (hi:ops[i]? = some oi) (hsel:∀ (j:Nat) (o:Oper) cs b,ops[j]? = some o→o.op ≠ .select cs b) :
    ∀ (fuel:Nat) (listed:Array Bool) (a:Act) (w:World),S w →
      (∀ j oj,ops[j]? = some oj→j ≠ i→listed.getD j true=false→(∀ e ∈ oj.after,Region.binds md e=true→e.on ≠ i)→oi.apart ops oj=true) →
      i ∈ Region.ready md ops listed→(Region.wanted oi (yielded ops a.tmps)=false ∨ cs.contains i=false)→YieldsM P ops S oi v a →
      wpAnyM P md ops S cs Q fuel (listed.setIfInBounds i true) (a.put oi.dst v) w→wpAnyM P md ops S cs Q (fuel+1) listed a w:=by
  intro fuel
  induction fuel with
  | zero =>
    intro listed a w hS _ hr hc hy H
    refine ⟨fun h=>(by rw [h] at hr;cases hr),fun j hj=>?_⟩
    by_cases hji:j=i
    · subst hji;exact hy.mixOp hi hc ⟨hS,H⟩
    · have:=ready_mono hj hji
      rw [H.1] at this
      cases this
  | succ fuel ih =>
    intro listed a w hS hfree hr hc hy H
    refine ⟨fun h=>(by rw [h] at hr;cases hr),fun j hj=>?_⟩
    by_cases hji:j=i
    · subst hji;exact hy.mixOp hi hc ⟨hS,H⟩
    · have h1:=H.2 j (ready_mono hj hji)
      obtain ⟨hjun,oj,hoj,hall⟩:=mem_ready.1 hj
      have hnot:∀ e ∈ oj.after,Region.binds md e=true→e.on ≠ i:=fun e he hb heq=>by
        have h1:=hall e he hb
        have h0:=(mem_ready.1 hr).1
        rw [heq] at h1
        rcases Nat.lt_or_ge i listed.size with h' | h'
        · simp [h'] at h0 h1;rw [h0] at h1;cases h1
        · simp [Array.getElem?_eq_none h'] at h1
      have hap:=hfree j oj hoj hji hjun hnot
      have h2:=mixOp_put hoj hap (fun cs b=>hsel i oi cs b hi) (fun cs b=>hsel j oj cs b hoj) hy h1
      have hfree':∀ k ok,ops[k]? = some ok→k ≠ i→(listed.setIfInBounds j true).getD k true=false →
          (∀ e ∈ ok.after,Region.binds md e=true→e.on ≠ i)→oi.apart ops ok=true:=fun k ok hk hki hun hno=>by
        refine hfree k ok hk hki ?_ hno
        by_cases hjk:j=k
        · subst hjk;exact hjun
        · rw [getD_set_ne true hjk] at hun;exact hun
      have hcj:∀ u,Region.wanted oi (yielded ops (a.put oj.dst u).tmps)=Region.wanted oi (yielded ops a.tmps):=fun u=>wanted_put oi a oj.dst u (Oper.apart_spec hap).2.2
      have hc2:mixOp P ops S cs j (fun a' w'=>(Region.wanted oi (yielded ops a'.tmps)=false ∨ cs.contains i=false)∧YieldsM P ops S oi v a'∧(S w'∧wpAnyM P md ops S cs Q fuel ((listed.setIfInBounds i true).setIfInBounds j true) (a'.put oi.dst v) w')) a w:=by
        unfold mixOp at h2 ⊢
        simp only [hoj] at h2 ⊢
        split
        · rename_i hw
          simp only [hw,if_true] at h2
          split
          · rename_i hcc
            simp only [hcc,if_true] at h2
            exact chainUpon_mono (fun u w' hk=>⟨by rw [hcj];exact hc,hk⟩) h2
          · rename_i hcc
            simp only [hcc] at h2
            obtain ⟨u,hu,hn⟩:=h2
            exact ⟨u,hu,by rw [hcj];exact hc,hn⟩
        · rename_i hw
          simp only [hw] at h2
          exact ⟨by rw [hcj];exact hc,h2⟩
      refine mixOp_mono (fun a' w' h3=>⟨h3.2.2.1,ih (listed.setIfInBounds j true) a' w' h3.2.2.1 hfree' (ready_mono hr (Ne.symm hji)) h3.1 h3.2.1 ?_⟩) hc2
      rw [Array.setIfInBounds_comm _ _ hji]
      exact h3.2.2.2

/-! ### What waits for what -/

def reach (md:Region.Mode) (ops:Array Oper):Nat→Nat→Nat→Bool
  | 0,_,_=>false
  | f+1,j,i =>
    match ops[j]? with
    | none=>false
    | some o=>o.after.any (fun e=>Region.binds md e && e.on == i) || o.after.any (fun e=>Region.binds md e && reach md ops f e.on i)

def Down (md:Region.Mode) (ops:Array Oper) (listed:Array Bool):Prop :=
  ∀ j o,ops[j]? = some o→listed.getD j false=true→∀ e ∈ o.after,Region.binds md e=true→listed.getD e.on false=true

theorem Down.step {listed:Array Bool} (h:Down md ops listed) {i:Nat} (hi:i ∈ Region.ready md ops listed):Down md ops (listed.setIfInBounds i true):=by
  intro j o hj hl e he hb
  by_cases hij:i=j
  · subst hij
    obtain ⟨_,o',ho',hall⟩:=mem_ready.1 hi
    rw [hj] at ho'
    cases ho'
    exact getD_set_true (hall e he hb)
  · rw [getD_set_ne false hij] at hl
    exact getD_set_true (h j o hj hl e he hb)

theorem Down.reach {listed:Array Bool} (h:Down md ops listed):∀ (f j i:Nat),reach md ops f j i=true→listed.getD j false=true→listed.getD i false=true
  | 0,_,_,hr,_=>by simp [Go.Proofs.YtnjbkfeihbcalaaGreat.reach] at hr
  | f+1,j,i,hr,hl=>by
    unfold Go.Proofs.YtnjbkfeihbcalaaGreat.reach at hr
    cases ho:ops[j]? with
    | none=>simp [ho] at hr
    | some o =>
      simp only [ho,Bool.or_eq_true] at hr
      rcases hr with hr | hr
      · obtain ⟨e,he,hb⟩:=Array.any_eq_true'.1 hr
        simp only [Bool.and_eq_true,beq_iff_eq] at hb
        rw [← hb.2]
        exact h j o ho hl e he hb.1
      · obtain ⟨e,he,hb⟩:=Array.any_eq_true'.1 hr
        simp only [Bool.and_eq_true] at hb
        exact Down.reach h f e.on i hb.2 (h j o ho hl e he hb.1)

theorem not_ready_of_reach {listed:Array Bool} (h:Down md ops listed) {f j i:Nat} (hr:reach md ops f j i=true) (hi:listed.getD i false=false):j ∉ Region.ready md ops listed:=by
  intro hj
  obtain ⟨_,o,ho,hall⟩:=mem_ready.1 hj
  cases f with
  | zero=>simp [reach] at hr
  | succ f =>
    unfold reach at hr
    simp only [ho,Bool.or_eq_true] at hr
    have:listed.getD i false=true:=by
      rcases hr with hr | hr
      · obtain ⟨e,he,hb⟩:=Array.any_eq_true'.1 hr
        simp only [Bool.and_eq_true,beq_iff_eq] at hb
        rw [← hb.2]
        exact hall e he hb.1
      · obtain ⟨e,he,hb⟩:=Array.any_eq_true'.1 hr
        simp only [Bool.and_eq_true] at hb
        exact h.reach f e.on i hb.2 (hall e he hb.1)
    rw [hi] at this
    cases this

theorem getD_of_ready {i:Nat} {listed:Array Bool} (h:i ∈ Region.ready md ops listed):listed.getD i false=false:=by
  have h0:=(mem_ready.1 h).1
  rcases Nat.lt_or_ge i listed.size with h' | h'
  · simp [h'] at h0 ⊢;exact h0
  · simp [Array.getElem?_eq_none h']

theorem wpAnyM_chain {Q:Act→World→Prop} {i f:Nat} {oi:Oper} (hi:ops[i]? = some oi) (hsel:∀ (j:Nat) (o:Oper) cs b,ops[j]? = some o→o.op ≠ .select cs b) :
    ∀ (fuel:Nat) (listed:Array Bool) (a:Act) (w:World),S w→Down md ops listed →
      (∀ j oj,ops[j]? = some oj→j ≠ i→listed.getD j true=false→(∀ e ∈ oj.after,Region.binds md e=true→e.on ≠ i)→oi.apart ops oj=true) →
      (∀ j,cs.contains j=true→j ≠ i→listed.getD j false=true ∨ reach md ops f j i=true) →
      i ∈ Region.ready md ops listed→cs.contains i=true→Region.wanted oi (yielded ops a.tmps)=true →
      Chains P oi a w (fun v w'=>S w'∧wpAnyM P md ops S cs Q fuel (listed.setIfInBounds i true) (a.put oi.dst v) w')→wpAnyM P md ops S cs Q (fuel+1) listed a w:=by
  intro fuel
  induction fuel with
  | zero =>
    intro listed a w hS _ _ _ hr hc hw H
    refine ⟨fun h=>(by rw [h] at hr;cases hr),fun j hj=>?_⟩
    by_cases hji:j=i
    · subst hji
      unfold mixOp
      simp only [hi,hw,if_true,hc]
      exact H
    · obtain ⟨v,w',_,h2⟩:=chainUpon_some H
      have:=ready_mono hj hji
      rw [h2.1] at this
      cases this
  | succ fuel ih =>
    intro listed a w hS hD hfree hch hr hc hw H
    refine ⟨fun h=>(by rw [h] at hr;cases hr),fun j hj=>?_⟩
    by_cases hji:j=i
    · subst hji
      unfold mixOp
      simp only [hi,hw,if_true,hc]
      exact H
    · obtain ⟨hjun,oj,hoj,hall⟩:=mem_ready.1 hj
      have hiun:=getD_of_ready hr
      have hjc:cs.contains j=false:=by
        cases hcj:cs.contains j with
        | false=>rfl
        | true =>
          rcases hch j hcj hji with h | h
          · have:=getD_of_ready hj
            rw [h] at this
            cases this
          · exact absurd hj (not_ready_of_reach hD h hiun)
      have hnot:∀ e ∈ oj.after,Region.binds md e=true→e.on ≠ i:=fun e he hb heq=>by
        have h1:=hall e he hb
        rw [heq,hiun] at h1
        cases h1
      have hap:=hfree j oj hoj hji hjun hnot
      obtain ⟨h1,h2,h3⟩:=Oper.apart_spec hap
      have hselj:=fun cs b=>hsel j oj cs b hoj
      have hseli:=fun cs b=>hsel i oi cs b hi
      have hafter:∀ v w',(S w'∧wpAnyM P md ops S cs Q (fuel+1) (listed.setIfInBounds i true) (a.put oi.dst v) w') →
          ∃ u,YieldsM P ops S oj u a∧S w'∧wpAnyM P md ops S cs Q fuel ((listed.setIfInBounds i true).setIfInBounds j true) ((a.put oi.dst v).put oj.dst u) w':=by
        rintro v w' ⟨hS',hk⟩
        obtain ⟨u,hy,hk2⟩:=yieldsM_of_mixOp hoj (.inr hjc) (hk.2 j (ready_mono hj hji))
        exact ⟨u,hy.of_same (execOp_put oj hselj a oi.dst v h1).symm (wanted_put oj a oi.dst v h1).symm,hk2⟩
      obtain ⟨v0,w0,hk0⟩:=chainUpon_some H
      obtain ⟨u,hyu,hS0,_⟩:=hafter v0 w0 hk0
      refine hyu.mixOp hoj (.inr hjc) ⟨hS,ih (listed.setIfInBounds j true) (a.put oj.dst u) w hS (hD.step hj) ?_ ?_ (ready_mono hr (Ne.symm hji)) hc ?_ ?_⟩
      · intro k ok hk hki hun hno
        refine hfree k ok hk hki ?_ hno
        by_cases hjk:j=k
        · subst hjk;exact hjun
        · rw [getD_set_ne true hjk] at hun;exact hun
      · intro k hk hki
        rcases hch k hk hki with h | h
        · exact .inl (getD_set_true h)
        · exact .inr h
      · rw [wanted_put oi a oj.dst u h3];exact hw
      · unfold Chains at *
        rw [execOp_put oi hseli a oj.dst u h3]
        refine chainUpon_mono (fun v w' hk=>?_) H
        obtain ⟨u',hy',hS',hk'⟩:=hafter v w' hk
        have hu:u'=u:=YieldsM.det hS' hy' hyu
        subst hu
        refine ⟨hS',?_⟩
        rw [Array.setIfInBounds_comm _ _ hji,← Act.put_comm a v u' h2]
        exact hk'

/-! ### The text's order -/

def wpMix (P:Program) (ops:Array Oper) (S:World→Prop) (cs:List Nat) (Q:Act→World→Prop):Nat→List Oper→Act→World→Prop
  | _,[],a,w=>Q a w
  | k,o :: rest,a,w =>
    if Region.wanted o (yielded ops a.tmps) then
      (if cs.contains k then Chains P o a w (fun v w'=>S w'∧wpMix P ops S cs Q (k+1) rest (a.put o.dst v) w') else ∃ v,Floats P S o a v∧wpMix P ops S cs Q (k+1) rest (a.put o.dst v) w)
    else wpMix P ops S cs Q (k+1) rest (a.put o.dst undef) w

def mixB (md:Region.Mode) (ops:Array Oper) (cs:List Nat):Bool :=
  Region.lexB md ops && cs.all fun j=>cs.all fun i=>j == i || (if i < j then reach md ops 8 j i else true)

theorem wpAnyM_lex {Q:Act→World→Prop} {f:Nat} (hs:Region.noSelect ops=true) (hcs:∀ i j,cs.contains i=true→cs.contains j=true→i < j→reach md ops f j i=true) :
    ∀ (l:List Oper) (k:Nat) (listed:Array Bool) (a:Act) (w:World),S w→Down md ops listed→(∀ j,j < k→j < ops.size→listed.getD j false=true)→(∀ j,l[j]? = ops[k+j]?) →
    Region.lexFrom md ops l.length k listed=true→wpMix P ops S cs Q k l a w→wpAnyM P md ops S cs Q l.length listed a w
  | [],_,_,_,_,_,_,_,_,hB,h=>⟨by simpa [Region.lexFrom] using hB,h⟩
  | o :: l,k,listed,a,w,hS,hD,hbef,hl,hB,h=>by
    have h0:ops[k]? = some o:=by simpa using (hl 0).symm
    simp only [List.length_cons,Region.lexFrom,Bool.and_eq_true] at hB
    obtain ⟨⟨hr,hf⟩,hB'⟩:=hB
    have hr':k ∈ Region.ready md ops listed:=by simpa using hr
    have hl':∀ j,l[j]? = ops[k+1+j]?:=fun j=>by have:=hl (j+1);simpa [Nat.add_assoc,Nat.add_comm 1 j] using this
    have hklt:k < listed.size:=by
      have:=(mem_ready.1 hr').1
      rcases Nat.lt_or_ge k listed.size with h' | h'
      · exact h'
      · simp [Array.getElem?_eq_none h'] at this
    have hbef':∀ j,j < k+1→j < ops.size→(listed.setIfInBounds k true).getD j false=true:=fun j hj hjs=>by
      by_cases hjk:j=k
      · subst hjk;simp [hklt]
      · exact getD_set_true (hbef j (by omega) hjs)
    have hgo:∀ a' w',S w'→wpMix P ops S cs Q (k+1) l a' w'→wpAnyM P md ops S cs Q l.length (listed.setIfInBounds k true) a' w':=fun a' w' hS' hh =>
      wpAnyM_lex hs hcs l (k+1) _ a' w' hS' (hD.step hr') hbef' hl' hB' hh
    simp only [wpMix] at h
    by_cases hw:Region.wanted o (yielded ops a.tmps)=true
    · simp only [hw,if_true] at h
      by_cases hc:cs.contains k=true
      · simp only [hc,if_true] at h
        refine wpAnyM_chain (f:=f) h0 (Region.noSelect_spec hs) l.length listed a w hS hD (Region.free_spec h0 hf) (fun j hj hjk=>?_) hr' hc hw (chainUpon_mono (fun v w' hk=>⟨hk.1,hgo _ _ hk.1 hk.2⟩) h)
        rcases Nat.lt_or_ge j k with hlt | hge
        · rcases Nat.lt_or_ge j ops.size with hs' | hs'
          · exact .inl (hbef j hlt hs')
          · have:k < ops.size:=(Array.getElem?_eq_some_iff.1 h0).1
            omega
        · exact .inr (hcs k j hc hj (by omega))
      · simp only [hc] at h
        obtain ⟨v,h1,h2⟩:=h
        exact wpAnyM_first h0 (Region.noSelect_spec hs) l.length listed a w hS (Region.free_spec h0 hf) hr' (.inr (by simpa using hc)) (.inl ⟨hw,h1⟩) (hgo _ _ hS h2)
    · simp only [hw] at h
      exact wpAnyM_first h0 (Region.noSelect_spec hs) l.length listed a w hS (Region.free_spec h0 hf) hr' (.inl (by simpa using hw)) (.inr ⟨by simpa using hw,rfl⟩) (hgo _ _ hS h)

theorem wp_region_mix {id:Nat} {Q:Exit→Act→World→Prop} {a:Act} {w:World} {l:List Oper} (S:World→Prop) (cs:List Nat) (hm:P.follows .mixedOrders=true) (hB:mixB .any l.toArray cs=true) (hS:S w.drew)
    (h:wpMix P l.toArray S cs (fun a' w'=>Q .normal a' w') 0 l a w.drew):(Code.region id l.toArray true).wp P Q a w:=by
  simp only [mixB,Bool.and_eq_true,Region.lexB,List.all_eq_true] at hB
  obtain ⟨⟨hn,hlex⟩,hch⟩:=hB
  have hcs:∀ i j,cs.contains i=true→cs.contains j=true→i < j→reach .any l.toArray 8 j i=true:=fun i j hi hj hij=>by
    have:=hch j (by simpa using hj) i (by simpa using hi)
    simp only [hij,if_true,Bool.or_eq_true,beq_iff_eq] at this
    rcases this with h | h
    · omega
    · exact h
  refine wp_region_any hm (wpAny_of_mix (S:=S) (cs:=cs) (Q:=fun a' w'=>Q .normal a' w') (fun _ _ h=>h) _ _ _ _ hS ?_)
  have:=wpAnyM_lex (S:=S) (cs:=cs) (md:=.any) hn hcs l 0 (Array.replicate l.toArray.size false) a w.drew hS (fun j o _ hl=>by simp [Array.getElem?_replicate] at hl;split at hl <;> simp at hl) (fun j hj=>by omega) (by simp) (by simpa using hlex) h
  simpa using this


/-! ### The class of worlds that agree on some blocks -/

def Cls (w0:World) (keep:Nat→Prop) (W:World):Prop:=∀ k,keep k→W.heap[k]? = w0.heap[k]?

open Classical in
noncomputable def graft (w0:World) (keep:Nat→Prop) (W:World):World:=if Cls w0 keep W then W else w0

theorem Cls.refl (w0:World) (keep:Nat→Prop):Cls w0 keep w0:=fun _ _=>rfl
theorem Cls.graft {w0 W:World} {keep:Nat→Prop} (h:Cls w0 keep W):graft w0 keep W=W:=if_pos h
theorem graft_cls (w0:World) (keep:Nat→Prop) (W:World):Cls w0 keep (graft w0 keep W):=by
  unfold Go.Proofs.YtnjbkfeihbcalaaGreat.graft
  split
  · assumption
  · exact Cls.refl _ _
theorem Cls.cell {w0 W:World} {keep:Nat→Prop} (h:Cls w0 keep W) {p:Addr} (hp:keep p.block):W.cell? p=w0.cell? p:=by
  unfold World.cell?
  rw [h p.block hp]
theorem Cls.frozen {w0 W:World} {keep:Nat→Prop} (h:Cls w0 keep W) {p:Addr} (hp:keep p.block):W.frozen? p=w0.frozen? p:=by
  unfold World.frozen?
  rw [h p.block hp]
theorem graft_cell {w0:World} {keep:Nat→Prop} (W:World) {p:Addr} (hp:keep p.block):(graft w0 keep W).cell? p=w0.cell? p:=(graft_cls w0 keep W).cell hp

theorem Cls.drew {w0 W:World} {keep:Nat→Prop} (h:Cls w0 keep W):Cls w0 keep W.drew:=h
theorem Cls.drewN {w0 W:World} {keep:Nat→Prop} (h:Cls w0 keep W) (n:Nat):Cls w0 keep (W.drewN n):=h
theorem Cls.setCell {w0 W:World} {keep:Nat→Prop} (h:Cls w0 keep W) (p:Addr) (u:Value) (hp:¬ keep p.block):Cls w0 keep (W.setCell p u):=fun k hk =>
  (RowKit.Below.heap_setCell W p u k (fun e=>hp (e ▸ hk))).trans (h k hk)
theorem Cls.alloc {w0 W:World} {keep:Nat→Prop} (h:Cls w0 keep W) (o:Obj) (hp:¬ keep W.heap.size):Cls w0 keep (W.alloc o):=fun k hk=>by
  show (W.heap.push o)[k]? = _
  have hne:k ≠ W.heap.size:=fun e=>hp (by rw [← e];exact hk)
  rw [Array.getElem?_push,if_neg hne]
  exact h k hk
theorem Cls.below {w0 W W':World} {keep:Nat→Prop} {B:Nat} (h:Cls w0 keep W) (hb:RowKit.Below B W W') (hp:∀ k,keep k→k < B):Cls w0 keep W':=fun k hk =>
  (hb.block k (hp k hk)).trans (h k hk)
theorem Cls.grown {w0 W W':World} {keep:Nat→Prop} {row:Option Nat} (h:Cls w0 keep W) (hb:W.grownBy W' row) (hp:∀ k,keep k→k < W.heap.size∧some k ≠ row):Cls w0 keep W':=fun k hk =>
  (hb.block k (hp k hk).1 (hp k hk).2).trans (h k hk)

/-! ### The walk without what it does not look at -/

structure SOp where
  dst:Option Tmp
  op:Op
  type:TypeId
  guard:Option (Option Tmp × Bool)

def SOp.oper (s : SOp) : Oper := { dst := s.dst, op := s.op, type := s.type, pos := "", after := #[], guard := none }

def Oper.slim (ops:Array Oper) (o:Oper):SOp:={ dst:=o.dst,op:=o.op,type:=o.type,guard:=o.guard.map fun g=>((ops[g.1]?).bind (·.dst),g.2) }

theorem execOp_slim (ρ:Operand→Value) (o:Oper):execOp ρ (Oper.slim ops o).oper=execOp ρ o:=by
  obtain ⟨dst,op,type,pos,after,guard⟩:=o
  rfl

def SOp.wanted (s:SOp) (a:Act):Bool :=
  match s.guard with
  | none=>true
  | some (t,want)=>(match t.bind fun d=>a.tmps[d]? with | some (.bool b)=>some b | _=>none) == some want

theorem wanted_slim (o:Oper) (a:Act):(Oper.slim ops o).wanted a=Region.wanted o (yielded ops a.tmps):=by
  unfold SOp.wanted Region.wanted Oper.slim
  cases o.guard with
  | none=>rfl
  | some g=>rfl

def wpSlim (P:Program) (w0:World) (keep:Nat→Prop) (Q:Act→World→Prop):List (Bool × SOp)→Act→World→Prop
  | [],a,w=>Q a w
  | (c,o) :: rest,a,w =>
    if o.wanted a then
      (if c then Chains P o.oper a w (fun v w'=>Cls w0 keep w'∧wpSlim P w0 keep Q rest (a.put o.dst v) w')
       else ∃ v,(∀ W,yieldsUpon (graft w0 keep W) v ((execOp a.eval o.oper).run P (graft w0 keep W)))∧wpSlim P w0 keep Q rest (a.put o.dst v) w)
    else wpSlim P w0 keep Q rest (a.put o.dst undef) w

def slimAll (ops:Array Oper) (cs:List Nat):Nat→List Oper→List (Bool × SOp)
  | _,[]=>[]
  | k,o :: rest=>(cs.contains k,Oper.slim ops o) :: slimAll ops cs (k+1) rest

theorem wpMix_of_slim {w0:World} {keep:Nat→Prop} {Q:Act→World→Prop}:∀ (l:List Oper) (k:Nat) (a:Act) (w:World),
    wpSlim P w0 keep Q (slimAll ops cs k l) a w→wpMix P ops (Cls w0 keep) cs Q k l a w
  | [],_,_,_,h=>h
  | o :: rest,k,a,w,h=>by
    simp only [slimAll,wpSlim,wanted_slim] at h
    simp only [wpMix]
    split
    · rename_i hw
      simp only [hw,if_true] at h
      split
      · rename_i hc
        simp only [hc,if_true] at h
        unfold Chains at *
        rw [execOp_slim] at h
        exact chainUpon_mono (fun v w' hk=>⟨hk.1,wpMix_of_slim rest (k+1) _ _ hk.2⟩) h
      · rename_i hc
        simp only [hc] at h
        obtain ⟨v,h2,h3⟩:=h
        refine ⟨v,fun W hW=>?_,wpMix_of_slim rest (k+1) _ _ h3⟩
        have:=h2 W
        rw [hW.graft,execOp_slim] at this
        exact this
    · rename_i hw
      simp only [hw] at h
      exact wpMix_of_slim rest (k+1) _ _ h

theorem wpSlim_nil {w0:World} {keep:Nat→Prop} {Q:Act→World→Prop} {a:Act} {w:World} (h:Q a w):wpSlim P w0 keep Q [] a w:=h

theorem wpSlim_step {w0:World} {keep:Nat→Prop} {Q:Act→World→Prop} {c:Bool} {a:Act} {w:World} {o:SOp} {rest:List (Bool × SOp)}
    (h:∀ K:Act→World→Prop,(∀ a w,wpSlim P w0 keep Q rest a w→K a w) →
      if o.wanted a then
        (if c then Chains P o.oper a w (fun v w'=>Cls w0 keep w'∧K (a.put o.dst v) w')
         else ∃ v,(∀ W,yieldsUpon (graft w0 keep W) v ((execOp a.eval o.oper).run P (graft w0 keep W)))∧K (a.put o.dst v) w)
      else K (a.put o.dst undef) w):wpSlim P w0 keep Q ((c,o) :: rest) a w :=
  h _ (fun _ _ h=>h)

theorem wp_region_slim {id:Nat} {Q:Exit→Act→World→Prop} {a:Act} {w:World} {l:List Oper} (w0:World) (keep:Nat→Prop) (cs:List Nat) (hm:P.follows .mixedOrders=true) (hB:mixB .any l.toArray cs=true) (hS:Cls w0 keep w.drew)
    (h:wpSlim P w0 keep (fun a' w'=>Q .normal a' w') (slimAll l.toArray cs 0 l) a w.drew):(Code.region id l.toArray true).wp P Q a w :=
  wp_region_mix (Cls w0 keep) cs hm hB hS (wpMix_of_slim l 0 a w.drew h)

theorem wp_region_here {id:Nat} {Q:Exit→Act→World→Prop} {a:Act} {w:World} {l:List Oper} (keep:Nat→Prop) (cs:List Nat) (hm:P.follows .mixedOrders=true) (hB:mixB .any l.toArray cs=true)
    (h:wpSlim P w.drew keep (fun a' w'=>Q .normal a' w') (slimAll l.toArray cs 0 l) a w.drew):(Code.region id l.toArray true).wp P Q a w :=
  wp_region_slim w.drew keep cs hm hB (Cls.refl _ _) h

theorem bel_drewN {B:Nat} {a w:World} (h:RowKit.Below B a w) (n:Nat):RowKit.Below B a (w.drewN n):=⟨h.os,h.tape,h.output,h.size,h.block⟩
theorem hp_drew (w:World) (k:Nat):w.drew.heap[k]? = w.heap[k]?:=rfl
theorem hp_drewN (w:World) (n k:Nat):(w.drewN n).heap[k]? = w.heap[k]?:=rfl
theorem hp_alloc (w:World) (o:Obj) (k:Nat) (h:k ≠ w.heap.size):(w.alloc o).heap[k]? = w.heap[k]?:=by
  show (w.heap.push o)[k]? = _
  rw [Array.getElem?_push,if_neg h]
theorem hp_alloc_if (w:World) (o:Obj) (k:Nat):(w.alloc o).heap[k]? = if k=w.heap.size then some o else w.heap[k]?:=by
  show (w.heap.push o)[k]? = _
  rw [Array.getElem?_push]
theorem hp_set (w:World) (p:Addr) (u:Value) (k:Nat) (h:k ≠ p.block):(w.setCell p u).heap[k]? = w.heap[k]?:=RowKit.Below.heap_setCell w p u k h

attribute [go_sem] SOp.wanted SOp.oper

attribute [go_sem] Chains chainUpon yieldsUpon
end
end Go.Proofs.YtnjbkfeihbcalaaGreat
/- A region that draws its order, where two operations that change the world may come up in either order: a tree of orders serves. -/
set_option linter.unusedVariables false
namespace Go.Proofs.YtnjbkfeihbcalaaGreat

section
variable {P:Program} {ops:Array Oper} {md:Region.Mode} {S:World→Prop} {cs:List Nat}

inductive Tr where
  | done
  | step (i:Nat) (r:Tr)
  | fork (i:Nat) (s:Tr) (j:Nat) (t:Tr)
  | fork3 (i:Nat) (s:Tr) (j:Nat) (t:Tr) (k:Nat) (u:Tr)

def Tr.sq (l:List Nat) (t:Tr):Tr:=l.foldr Tr.step t
def Tr.len:Tr→Nat
  | .done=>0
  | .step _ r=>r.len+1
  | .fork _ s _ _=>s.len+1
  | .fork3 _ s _ _ _ _=>s.len+1

def Tr.ok (md:Region.Mode) (ops:Array Oper) (cs:List Nat):Tr→Array Bool→Bool
  | .done,l=>(Region.ready md ops l).isEmpty
  | .step i r,l=>(Region.ready md ops l).contains i && Region.free md ops l i && (!cs.contains i || cs.all fun j=>j == i || l.getD j false || reach md ops 8 j i) && r.ok md ops cs (l.setIfInBounds i true)
  | .fork i s j t,l=>(Region.ready md ops l) == [i,j] && s.len == t.len && s.ok md ops cs (l.setIfInBounds i true) && t.ok md ops cs (l.setIfInBounds j true)
  | .fork3 i s j t k u,l=>(Region.ready md ops l) == [i,j,k] && s.len == t.len && s.len == u.len && s.ok md ops cs (l.setIfInBounds i true) && t.ok md ops cs (l.setIfInBounds j true) && u.ok md ops cs (l.setIfInBounds k true)

def wpTr (P:Program) (ops:Array Oper) (S:World→Prop) (cs:List Nat) (Q:Act→World→Prop):Tr→Act→World→Prop
  | .done,a,w=>Q a w
  | .step i r,a,w=>mixOp P ops S cs i (fun a' w'=>S w'∧wpTr P ops S cs Q r a' w') a w
  | .fork i s j t,a,w=>mixOp P ops S cs i (fun a' w'=>S w'∧wpTr P ops S cs Q s a' w') a w∧mixOp P ops S cs j (fun a' w'=>S w'∧wpTr P ops S cs Q t a' w') a w
  | .fork3 i s j t k u,a,w=>mixOp P ops S cs i (fun a' w'=>S w'∧wpTr P ops S cs Q s a' w') a w∧mixOp P ops S cs j (fun a' w'=>S w'∧wpTr P ops S cs Q t a' w') a w∧mixOp P ops S cs k (fun a' w'=>S w'∧wpTr P ops S cs Q u a' w') a w

theorem wpAnyM_tr {Q:Act→World→Prop} (hs:Region.noSelect ops=true):∀ (t:Tr) (listed:Array Bool) (a:Act) (w:World),S w→Down md ops listed →
    t.ok md ops cs listed=true→wpTr P ops S cs Q t a w→wpAnyM P md ops S cs Q t.len listed a w
  | .done,listed,a,w,_,_,hB,h=>⟨by simpa [Tr.ok] using hB,h⟩
  | .fork i s j t,listed,a,w,hS,hD,hB,h=>by
    simp only [Tr.ok,Bool.and_eq_true,beq_iff_eq] at hB
    obtain ⟨⟨⟨hr,hl⟩,h1⟩,h2⟩:=hB
    have hi:i ∈ Region.ready md ops listed:=by rw [hr];simp
    have hj:j ∈ Region.ready md ops listed:=by rw [hr];simp
    refine ⟨fun h0=>(by rw [hr] at h0;cases h0),fun k hk=>?_⟩
    rw [hr] at hk
    simp only [List.mem_cons,List.not_mem_nil,or_false] at hk
    rcases hk with rfl | rfl
    · exact mixOp_mono (fun a' w' hh=>⟨hh.1,wpAnyM_tr hs s _ a' w' hh.1 (hD.step hi) h1 hh.2⟩) h.1
    · exact mixOp_mono (fun a' w' hh=>⟨hh.1,by rw [hl];exact wpAnyM_tr hs t _ a' w' hh.1 (hD.step hj) h2 hh.2⟩) h.2
  | .fork3 i s j t k u,listed,a,w,hS,hD,hB,h=>by
    simp only [Tr.ok,Bool.and_eq_true,beq_iff_eq] at hB
    obtain ⟨⟨⟨⟨⟨hr,hl⟩,hl2⟩,h1⟩,h2⟩,h3⟩:=hB
    have hi:i ∈ Region.ready md ops listed:=by rw [hr];simp
    have hj:j ∈ Region.ready md ops listed:=by rw [hr];simp
    have hk3:k ∈ Region.ready md ops listed:=by rw [hr];simp
    refine ⟨fun h0=>(by rw [hr] at h0;cases h0),fun q hq=>?_⟩
    rw [hr] at hq
    simp only [List.mem_cons,List.not_mem_nil,or_false] at hq
    rcases hq with rfl | rfl | rfl
    · exact mixOp_mono (fun a' w' hh=>⟨hh.1,wpAnyM_tr hs s _ a' w' hh.1 (hD.step hi) h1 hh.2⟩) h.1
    · exact mixOp_mono (fun a' w' hh=>⟨hh.1,by rw [hl];exact wpAnyM_tr hs t _ a' w' hh.1 (hD.step hj) h2 hh.2⟩) h.2.1
    · exact mixOp_mono (fun a' w' hh=>⟨hh.1,by rw [hl2];exact wpAnyM_tr hs u _ a' w' hh.1 (hD.step hk3) h3 hh.2⟩) h.2.2
  | .step k r,listed,a,w,hS,hD,hB,h=>by
    simp only [Tr.ok,Bool.and_eq_true] at hB
    obtain ⟨⟨⟨hr,hf⟩,hc⟩,hB'⟩:=hB
    have hr':k ∈ Region.ready md ops listed:=by simpa using hr
    obtain ⟨o,h0⟩:∃ o,ops[k]? = some o:=by
      obtain ⟨_,o,ho,_⟩:=mem_ready.1 hr'
      exact ⟨o,ho⟩
    have hgo:∀ a' w',S w'→wpTr P ops S cs Q r a' w'→wpAnyM P md ops S cs Q r.len (listed.setIfInBounds k true) a' w':=fun a' w' hS' hh =>
      wpAnyM_tr hs r _ a' w' hS' (hD.step hr') hB' hh
    simp only [wpTr] at h
    unfold mixOp at h
    simp only [h0] at h
    by_cases hw:Region.wanted o (yielded ops a.tmps)=true
    · simp only [hw,if_true] at h
      by_cases hcs:cs.contains k=true
      · simp only [hcs,if_true] at h
        refine wpAnyM_chain (f:=8) h0 (Region.noSelect_spec hs) r.len listed a w hS hD (Region.free_spec h0 hf) (fun j hj hjk=>?_) hr' hcs hw (chainUpon_mono (fun v w' hk=>⟨hk.1,hgo _ _ hk.1 hk.2⟩) h)
        simp only [hcs,Bool.not_true,Bool.false_or,List.all_eq_true] at hc
        have:=hc j (by simpa using hj)
        simp only [Bool.or_eq_true,beq_iff_eq] at this
        rcases this with (h1 | h1) | h1
        · exact absurd h1 hjk
        · exact .inl h1
        · exact .inr h1
      · simp only [hcs] at h
        obtain ⟨v,h1,h2⟩:=h
        exact wpAnyM_first h0 (Region.noSelect_spec hs) r.len listed a w hS (Region.free_spec h0 hf) hr' (.inr (by simpa using hcs)) (.inl ⟨hw,h1⟩) (hgo _ _ h2.1 h2.2)
    · simp only [hw] at h
      exact wpAnyM_first h0 (Region.noSelect_spec hs) r.len listed a w hS (Region.free_spec h0 hf) hr' (.inl (by simpa using hw)) (.inr ⟨by simpa using hw,rfl⟩) (hgo _ _ h.1 h.2)

def treeOk (l:List Oper) (cs:List Nat) (t:Tr):Bool:=Region.noSelect l.toArray && (t.len == l.length) && t.ok .any l.toArray cs (Array.replicate l.length false)

theorem wp_region_tr {id:Nat} {Q:Exit→Act→World→Prop} {a:Act} {w:World} {l:List Oper} (S:World→Prop) (cs:List Nat) (t:Tr) (hm:P.follows .mixedOrders=true) (hB:treeOk l cs t=true) (hS:S w.drew)
    (h:wpTr P l.toArray S cs (fun a' w'=>Q .normal a' w') t a w.drew):(Code.region id l.toArray true).wp P Q a w:=by
  simp only [treeOk,Bool.and_eq_true,beq_iff_eq] at hB
  obtain ⟨⟨hn,hl⟩,hch⟩:=hB
  refine wp_region_any hm (wpAny_of_mix (S:=S) (cs:=cs) (Q:=fun a' w'=>Q .normal a' w') (fun _ _ h=>h) _ _ _ _ hS ?_)
  have:=wpAnyM_tr (S:=S) (cs:=cs) (md:=.any) hn t (Array.replicate l.length false) a w.drew hS (fun j o _ hl=>by simp [Array.getElem?_replicate] at hl;split at hl <;> simp at hl) hch h
  rw [hl] at this
  simpa using this

inductive STr where
  | done
  | step (c:Bool) (o:SOp) (r:STr)
  | fork (s t:STr)
  | fork3 (s t u:STr)

def wpSlimT (P:Program) (w0:World) (keep:Nat→Prop) (Q:Act→World→Prop):STr→Act→World→Prop
  | .done,a,w=>Q a w
  | .step c o r,a,w =>
    if o.wanted a then
      (if c then Chains P o.oper a w (fun v w'=>Cls w0 keep w'∧wpSlimT P w0 keep Q r (a.put o.dst v) w')
       else ∃ v,(∀ W,yieldsUpon (graft w0 keep W) v ((execOp a.eval o.oper).run P (graft w0 keep W)))∧wpSlimT P w0 keep Q r (a.put o.dst v) w)
    else wpSlimT P w0 keep Q r (a.put o.dst undef) w
  | .fork s t,a,w=>wpSlimT P w0 keep Q s a w∧wpSlimT P w0 keep Q t a w
  | .fork3 s t u,a,w=>wpSlimT P w0 keep Q s a w∧wpSlimT P w0 keep Q t a w∧wpSlimT P w0 keep Q u a w

def slimStep (ops:Array Oper) (cs:List Nat) (i:Nat) (r:STr):STr :=
  match ops[i]? with
  | some o=>.step (cs.contains i) (Oper.slim ops o) r
  | none=>r
def slimTr (ops:Array Oper) (cs:List Nat):Tr→STr
  | .done=>.done
  | .step i r=>slimStep ops cs i (slimTr ops cs r)
  | .fork i s j t=>.fork (slimStep ops cs i (slimTr ops cs s)) (slimStep ops cs j (slimTr ops cs t))
  | .fork3 i s j t k u=>.fork3 (slimStep ops cs i (slimTr ops cs s)) (slimStep ops cs j (slimTr ops cs t)) (slimStep ops cs k (slimTr ops cs u))

theorem mixOp_slim {w0:World} {keep:Nat→Prop} {Q:Act→World→Prop} {r:Tr} {i:Nat} {a:Act} {w:World} (hS:Cls w0 keep w) 
    (ih:∀ a w,Cls w0 keep w→wpSlimT P w0 keep Q (slimTr ops cs r) a w→wpTr P ops (Cls w0 keep) cs Q r a w)
    (h:wpSlimT P w0 keep Q (slimStep ops cs i (slimTr ops cs r)) a w) :
    mixOp P ops (Cls w0 keep) cs i (fun a' w'=>Cls w0 keep w'∧wpTr P ops (Cls w0 keep) cs Q r a' w') a w:=by
  unfold slimStep at h
  unfold mixOp
  cases ho:ops[i]? with
  | none=>simp only [ho] at h ⊢;exact ⟨hS,ih _ _ hS h⟩
  | some o =>
    simp only [ho] at h ⊢
    simp only [wpSlimT,wanted_slim] at h
    split
    · rename_i hw
      simp only [hw,if_true] at h
      split
      · rename_i hc
        simp only [hc,if_true] at h
        unfold Chains at *
        rw [execOp_slim] at h
        exact chainUpon_mono (fun v w' hk=>⟨hk.1,ih _ _ hk.1 hk.2⟩) h
      · rename_i hc
        simp only [hc] at h
        obtain ⟨v,h2,h3⟩:=h
        refine ⟨v,fun W hW=>?_,hS,ih _ _ hS h3⟩
        have:=h2 W
        rw [hW.graft,execOp_slim] at this
        exact this
    · rename_i hw
      simp only [hw] at h
      exact ⟨hS,ih _ _ hS h⟩

theorem wpTr_of_slim {w0:World} {keep:Nat→Prop} {Q:Act→World→Prop}:∀ (t:Tr) (a:Act) (w:World),Cls w0 keep w →
    wpSlimT P w0 keep Q (slimTr ops cs t) a w→wpTr P ops (Cls w0 keep) cs Q t a w
  | .done,_,_,_,h=>h
  | .step _ r,a,w,hS,h=>mixOp_slim hS (fun a w hS h=>wpTr_of_slim r a w hS h) h
  | .fork _ s _ t,a,w,hS,h=>⟨mixOp_slim hS (fun a w hS h=>wpTr_of_slim s a w hS h) h.1,mixOp_slim hS (fun a w hS h=>wpTr_of_slim t a w hS h) h.2⟩
  | .fork3 _ s _ t _ u,a,w,hS,h=>⟨mixOp_slim hS (fun a w hS h=>wpTr_of_slim s a w hS h) h.1,mixOp_slim hS (fun a w hS h=>wpTr_of_slim t a w hS h) h.2.1,mixOp_slim hS (fun a w hS h=>wpTr_of_slim u a w hS h) h.2.2⟩

theorem wpSlimT_done {w0:World} {keep:Nat→Prop} {Q:Act→World→Prop} {a:Act} {w:World} (h:Q a w):wpSlimT P w0 keep Q .done a w:=h
theorem wpSlimT_id {w0:World} {keep:Nat→Prop} {Q:Act→World→Prop} {s:STr} {a:Act} {w:World} (h:wpSlimT P w0 keep Q s a w):wpSlimT P w0 keep Q s a w:=h
theorem wpSlimT_fork {w0:World} {keep:Nat→Prop} {Q:Act→World→Prop} {a:Act} {w:World} {s t:STr} (h1:wpSlimT P w0 keep Q s a w) (h2:wpSlimT P w0 keep Q t a w):wpSlimT P w0 keep Q (.fork s t) a w:=⟨h1,h2⟩
theorem wpSlimT_step {w0:World} {keep:Nat→Prop} {Q:Act→World→Prop} {c:Bool} {a:Act} {w:World} {o:SOp} {rest:STr}
    (h:∀ K:Act→World→Prop,(∀ a w,wpSlimT P w0 keep Q rest a w→K a w) →
      if o.wanted a then
        (if c then Chains P o.oper a w (fun v w'=>Cls w0 keep w'∧K (a.put o.dst v) w')
         else ∃ v,(∀ W,yieldsUpon (graft w0 keep W) v ((execOp a.eval o.oper).run P (graft w0 keep W)))∧K (a.put o.dst v) w)
      else K (a.put o.dst undef) w):wpSlimT P w0 keep Q (.step c o rest) a w :=
  h _ (fun _ _ h=>h)

theorem wp_region_tree {id:Nat} {Q:Exit→Act→World→Prop} {a:Act} {w:World} {l:List Oper} (keep:Nat→Prop) (cs:List Nat) (t:Tr) (hm:P.follows .mixedOrders=true) (hB:treeOk l cs t=true)
    (h:wpSlimT P w.drew keep (fun a' w'=>Q .normal a' w') (slimTr l.toArray cs t) a w.drew):(Code.region id l.toArray true).wp P Q a w :=
  wp_region_tr (Cls w.drew keep) cs t hm hB (Cls.refl _ _) (wpTr_of_slim t a w.drew (Cls.refl _ _) h)
end
end Go.Proofs.YtnjbkfeihbcalaaGreat
/- A region whose operations are guarded ('&&', '||') by what is not decided: no parting of the walk: the guarded run of operations is looked at under its guard, the test's value is one Bool. -/
set_option linter.unusedVariables false
namespace Go.Proofs.YtnjbkfeihbcalaaGreat

section
variable {P:Program} {w0:World} {keep:Nat→Prop}

theorem put_tmps (a:Act) (d:Tmp) (v:Value):(a.put (some d) v).tmps=a.tmps.setIfInBounds d v:=rfl
theorem put_defers (a:Act) (d:Option Tmp) (v:Value):(a.put d v).defers=a.defers:=by cases d <;> rfl
def AlikeBut (ds:List Tmp) (a a':Act):Prop:=a'.tmps.size=a.tmps.size∧a'.defers=a.defers∧∀ i,i ∉ ds→a'.tmps[i]? = a.tmps[i]?
theorem AlikeBut.refl (ds:List Tmp) (a:Act):AlikeBut ds a a:=⟨rfl,rfl,fun _ _=>rfl⟩
theorem AlikeBut.put {ds:List Tmp} {a a':Act} (h:AlikeBut ds a a') (d:Option Tmp) (v:Value) (hd:∀ t,d=some t→t ∈ ds):AlikeBut ds a (a'.put d v):=by
  cases d with
  | none=>exact h
  | some d =>
    refine ⟨by rw [put_tmps,Array.size_setIfInBounds];exact h.1,by rw [put_defers];exact h.2.1,fun i hi=>?_⟩
    rw [put_tmps,Array.getElem?_setIfInBounds,if_neg (fun e:d=i=>hi (by rw [← e];exact hd d rfl))]
    exact h.2.2 i hi
inductive UT where
  | done
  | step (c:Bool) (o:SOp) (r:UT)
  | unit (t:Tmp) (want:Bool) (b:UT) (c:Bool) (ty:TypeId) (d last:Tmp) (r:UT)

def UT.dsts:UT→List Tmp
  | .done=>[]
  | .step _ o r=>o.dst.toList ++ r.dsts
  | .unit _ _ b _ _ d _ r=>b.dsts ++ d :: r.dsts

def pickOp (t:Tmp) (want:Bool) (ty:TypeId) (d last:Tmp) (g:Option (Option Tmp × Bool)):SOp :=
  { dst:=some d,op:=.pick (.tmp t) (if want then .tmp last else .const (.bool true)) (if want then .const (.bool false) else .tmp last),type:=ty,guard:=g }

def orG (o:SOp) (g:Option (Option Tmp × Bool)):SOp:={ o with guard:=match o.guard with | some x=>some x | none=>g }

def UT.flat (g:Option (Option Tmp × Bool)):UT→STr→STr
  | .done,k=>k
  | .step c o r,k=>.step c (orG o g) (r.flat g k)
  | .unit t want b c ty d last r,k=>b.flat (some (some t,want)) (.step c (pickOp t want ty d last g) (r.flat g k))

def UT.ok (zs:Option (List Tmp)):UT→Bool
  | .done=>true
  | .step _ o r=>(match o.guard,zs with | some (some t,_),some z=>z.contains t | some (none,_),_=>true | _,_=>true) && r.ok (zs.map fun z=>o.dst.toList ++ z)
  | .unit t _ b _ _ d last r=>!b.dsts.contains t && d != t && b.ok (some []) && (match zs with | some z=>z.contains t | none=>true) && r.ok (zs.map fun z=>d :: (b.dsts ++ z))

theorem orG_some {o:SOp} {g x} (h:o.guard=some x):orG o g=o:=by
  obtain ⟨a,b,c,d⟩:=o
  simp only at h
  subst h
  rfl
theorem orG_wanted {o:SOp} {t:Tmp} {want:Bool} {a:Act} (h:o.guard=none):(orG o (some (some t,want))).wanted a=((match a.tmps[t]? with | some (.bool b)=>some b | _=>none) == some want):=by
  unfold SOp.wanted orG
  first | (simp [h];done) | (simp [h];rfl)
theorem orG_none (o:SOp):orG o none=o:=by
  obtain ⟨a,b,c,d⟩:=o
  cases d <;> rfl

def slotIs (a:Act) (t:Tmp):Option Bool:=match a.tmps[t]? with | some (.bool b)=>some b | _=>none
theorem slotIs_put_ne {a:Act} {t:Tmp} {d:Option Tmp} (v:Value) (h:d ≠ some t):slotIs (a.put d v) t=slotIs a t:=by
  unfold slotIs
  cases d with
  | none=>rfl
  | some d=>rw [put_tmps,Array.getElem?_setIfInBounds,if_neg (fun e=>h (by rw [e]))]
def Holds (g:Option (Tmp × Bool)) (a:Act) (ds:List Tmp):Prop:=match g with | none=>True | some (t,want)=>slotIs a t=some want∧t ∉ ds
def gOf (g:Option (Tmp × Bool)):Option (Option Tmp × Bool):=g.map fun x=>(some x.1,x.2)

theorem Holds.wanted {g:Option (Tmp × Bool)} {a:Act} {ds:List Tmp} (h:Holds g a ds) (o:SOp):(orG o (gOf g)).wanted a=o.wanted a:=by
  cases hg:o.guard with
  | some x=>rw [orG_some hg]
  | none =>
    have h1:o.wanted a=true:=by unfold SOp.wanted;rw [hg]
    rw [h1]
    cases g with
    | none=>rw [show gOf none=none from rfl,orG_none];exact h1
    | some x =>
      obtain ⟨t,want⟩:=x
      show (orG o (some (some t,want))).wanted a=true
      rw [orG_wanted hg]
      have:=h.1
      unfold slotIs at this
      rw [this]
      simp
theorem Holds.put {g:Option (Tmp × Bool)} {a:Act} {ds:List Tmp} (h:Holds g a ds) {d:Option Tmp} (hd:∀ t,d=some t→t ∈ ds) (v:Value):Holds g (a.put d v) ds:=by
  cases g with
  | none=>trivial
  | some x =>
    obtain ⟨t,want⟩:=x
    refine ⟨?_,h.2⟩
    rw [slotIs_put_ne _ (fun e=>h.2 (hd t e))]
    exact h.1
end
end Go.Proofs.YtnjbkfeihbcalaaGreat
/- A region that draws its order, in a round of a range over a function: a tree of orders serves there too. -/
set_option linter.unusedVariables false
namespace Go.Proofs.YtnjbkfeihbcalaaGreat

section
variable {P:Program} {ops:Array Oper} {md:Region.Mode} {S:World→Prop} {cs:List Nat} {l n:Nat}

theorem RowsIn.of_rows {row:String} {args:Array Value} {w:World} {R:Value→World→Prop} (h:Rows P row args w R):RowsIn (Fence.wide.inRound l) n P row args w R:=fun c cs hr=>by
 obtain ⟨v,w',h1,h2⟩:=h c cs
 exact ⟨v,w',h1,stepsIn_wide.2 h2⟩
theorem Chains.wpIn {o:Oper} {a:Act} {w:World} {K:Value→World→Prop} {next:Act→World→Prop} {Q:Exit→Act→World→Prop} (hd:∀ c,o.op ≠ .defer c)
  (h:Chains P o a w K) (hk:∀ v w',K v w'→next (a.put o.dst v) w'):o.wpIn (Fence.wide.inRound l) n P a w next Q:=by
 unfold Chains at h
 refine ⟨fun _ _=>trivial,?_⟩
 rw [Fence.inRound_round,Oper.semAt_some l _ _ hd]
 generalize (execOp a.eval o).run P w=r at *
 cases r with
 | halt x w'=>exact h.elim
 | ok x w' =>
  cases x <;> simp only [chainUpon] at h <;> simp only [Oper.uponIn]
  case value v=>exact hk _ _ h
  case skip=>exact hk _ _ h
  case enter f args=>exact ⟨(fun h=>by cases h),((callsIn_wide.2 h).inRound l).mono fun e w'' ⟨v,he,hv⟩=>by subst he;exact hk _ _ hv⟩
  case row row args=>exact ⟨(fun h=>by cases h),(RowsIn.of_rows h).mono fun v w'' hv=>hk _ _ hv⟩

def noDefer (ops:Array Oper):Bool:=ops.all fun o=>match o.op with | .defer _=>false | _=>true
theorem noDefer_at (h:noDefer ops=true) {i:Nat} {o:Oper} (hi:ops[i]? = some o):∀ c,o.op ≠ .defer c:=fun c e=>by
 have:=Array.all_eq_true.1 h i (Array.getElem?_eq_some_iff.1 hi).1
 rw [(Array.getElem?_eq_some_iff.1 hi).2,e] at this
 cases this

theorem wpOpIn_of_mixOp {i:Nat} {a:Act} {w:World} {K K':Act→World→Prop} {Q':Exit→Act→World→Prop} (hn:noDefer ops=true) (hS:S w) (h:∀ a w,K a w→K' a w)
  (hh:mixOp P ops S cs i K a w):wpOpIn (Fence.wide.inRound l) n P ops Q' i K' a w:=by
 unfold mixOp at hh
 unfold wpOpIn
 split
 ·rename_i ho;simp only [ho] at hh;exact h _ _ hh
 ·rename_i o ho
  have hd:=noDefer_at hn ho
  simp only [ho] at hh
  split
  ·rename_i hw
   simp only [hw,if_true] at hh
   by_cases hc:cs.contains i=true
   ·simp only [hc,if_true] at hh
    exact Chains.wpIn hd hh fun v w' hk=>h _ _ hk
   ·simp only [hc] at hh
    obtain ⟨v,h1,h2⟩:=hh
    have h3:=h1 w hS
    refine ⟨fun _ _=>trivial,?_⟩
    rw [Fence.inRound_round,Oper.semAt_some l _ _ hd]
    generalize (execOp a.eval o).run P w=r at *
    cases r with
    | halt x w'=>exact h3.elim
    | ok x w' =>
     cases x <;> simp only [yieldsUpon] at h3 <;> simp only [Oper.uponIn]
     case value u=>obtain ⟨e1,e2⟩:=h3;rw [e1,e2];exact h _ _ h2
     case skip=>obtain ⟨e1,e2⟩:=h3;rw [e1,← e2];exact h _ _ h2
  ·rename_i hw
   simp only [hw] at hh
   exact ⟨fun _ _=>trivial,h _ _ hh⟩

theorem wpAnyIn_of_mix {Q:Act→World→Prop} {Q':Exit→Act→World→Prop} (hn:noDefer ops=true) (hQ:∀ a w,Q a w→Q' .normal a w):∀ (fuel:Nat) (listed:Array Bool) (a:Act) (w:World),S w →
  wpAnyM P md ops S cs Q fuel listed a w→wpAnyIn (Fence.wide.inRound l) n P md ops Q' fuel listed a w
 | 0,_,_,_,_,h=>⟨h.1,hQ _ _ h.2⟩
 | fuel+1,_,_,_,hw,h=>⟨fun h0=>hQ _ _ (h.1 h0),fun i hi=>wpOpIn_of_mixOp hn hw (fun a' w' hk=>wpAnyIn_of_mix hn hQ fuel _ a' w' hk.1 hk.2) (h.2 i hi)⟩

theorem wpIn_region_tree {id:Nat} {Q:Exit→Act→World→Prop} {a:Act} {w:World} {ol:List Oper} (keep:Nat→Prop) (cs:List Nat) (t:Tr) (hm:P.follows .mixedOrders=true) (hB:treeOk ol cs t=true) (hnd:noDefer ol.toArray=true)
  (h:wpSlimT P w.drew keep (fun a' w'=>Q .normal a' w') (slimTr ol.toArray cs t) a w.drew):(Code.region id ol.toArray true).wpIn (Fence.wide.inRound l) n P Q a w:=by
 have h:=wpTr_of_slim t a w.drew (Cls.refl w.drew keep) h
 simp only [treeOk,Bool.and_eq_true,beq_iff_eq] at hB
 obtain ⟨⟨hn,hl⟩,hch⟩:=hB
 refine wpIn_region_any hm (wpAnyIn_of_mix (S:=Cls w.drew keep) (cs:=cs) (Q:=fun a' w'=>Q .normal a' w') hnd (fun _ _ h=>h) _ _ _ _ (Cls.refl _ _) ?_)
 have:=wpAnyM_tr (S:=Cls w.drew keep) (cs:=cs) (md:=.any) hn t (Array.replicate ol.length false) a w.drew (Cls.refl _ _) (fun j o _ hl=>by simp [Array.getElem?_replicate] at hl;split at hl <;> simp at hl) hch h
 rw [hl] at this
 simpa using this
end
end Go.Proofs.YtnjbkfeihbcalaaGreat
