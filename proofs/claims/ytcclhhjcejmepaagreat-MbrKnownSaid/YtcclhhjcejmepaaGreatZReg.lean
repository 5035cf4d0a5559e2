import Derived.IntWalk
import Derived.Lib.Hide
import Derived.Still
import Derived.Deep.Draws
import Derived.OrdersIn
import Derived.RangeFuncCalls
import Derived.TacticsIn
set_option linter.all false
namespace Go.Proofs.YtcclhhjcejmepaaGreat
theorem Hd {p : Prop} (h : p) : Go.RowKit.Hid p := h
section
variable {P:Program} {ops:Array Oper} {md:Region.Mode} {S:World→Prop} {cs:List Nat}
def zbj (w:World) (v:Value):Result Next→Prop
  | .ok (.value u) w'=>w'=w∧u=v
  | .ok .skip w'=>w'=w∧v=undef
  | _=>False
def zrp (P:Program) (S:World→Prop) (o:Oper) (a:Act) (v:Value):Prop:=∀w,S w→zbj w v ((execOp a.eval o).run P w)
theorem zjx {w:World} {v u:Value} {r:Result Next} (h:zbj w v r) (h':zbj w u r):v=u:=by
  cases r with
  | halt x w'=>exact h.elim
  | ok n w' =>
    cases n<;>simp only[zbj] at h h'<;>first|exact h.elim|(rw[←h.2,←h'.2])|(rw[h.2,h'.2])
def zb6 (P:Program) (K:Value→World→Prop):Result Next→Prop
  | .ok (.value v) w'=>K v w'
  | .ok .skip w'=>K undef w'
  | .ok (.enter f args) w'=>Calls P f args w' (fun e w''=>∃v,e=.returned v∧K v w'')
  | .ok (.row row args) w'=>Rows P row args w' K
  | _=>False
def zbz (P:Program) (o:Oper) (a:Act) (w:World) (K:Value→World→Prop):Prop:=zb6 P K ((execOp a.eval o).run P w)
theorem za3 {K K':Value→World→Prop} (h:∀v w,K v w→K' v w) {r:Result Next} (hr:zb6 P K r):zb6 P K' r:=by
  cases r with
  | halt x w'=>exact hr.elim
  | ok n w' =>
    cases n<;>simp only[zb6] at hr ⊢ <;> first|exact h _ _ hr|exact hr.elim|exact hr.mono (fun e w'' ⟨v,he,hk⟩=>⟨v,he,h _ _ hk⟩)|exact hr.mono (fun v w'' hk=>h _ _ hk)
theorem zfd {K:Value→World→Prop} {r:Result Next} (hr:zb6 P K r):∃v w,K v w:=by
  cases r with
  | halt x w'=>exact hr.elim
  | ok n w' =>
    cases n<;>simp only[zb6] at hr
    case value v=>exact⟨_,_,hr⟩
    case skip=>exact⟨_,_,hr⟩
    case enter f args =>
      obtain⟨e,w'',fr,⟨v,_,hk⟩,_⟩:=hr [];exact⟨_,_,hk⟩
    case row row args =>
      obtain⟨v,w'',hk,_⟩:=hr default [];exact⟨_,_,hk⟩
theorem zbz.wp {o:Oper} {a:Act} {w:World} {K:Value→World→Prop} {next:Act→World→Prop} {Q:Exit→Act→World→Prop}
    (h:zbz P o a w K) (hk:∀v w',K v w'→next (a.put o.dst v) w'):o.wp P a w next Q:=by
  unfold zbz at h;unfold Oper.wp;generalize (execOp a.eval o).run P w=r at *;cases r with
  | halt x w'=>exact h.elim
  | ok n w' =>
    cases n<;>simp only[zb6] at h<;>simp only[Oper.upon]
    case value v=>exact hk _ _ h
    case skip=>exact hk _ _ h
    case enter f args=>exact h.mono fun e w'' ⟨v,he,hv⟩=>by subst he;exact hk _ _ hv
    case row row args=>exact h.mono fun v w'' hv=>hk _ _ hv
def mixOp (P:Program) (ops:Array Oper) (S:World→Prop) (cs:List Nat) (i:Nat) (K:Act→World→Prop) (a:Act) (w:World):Prop :=
  match ops[i]? with
  | none=>K a w
  | some o =>
    if Region.wanted o (yielded ops a.tmps) then
      (if cs.contains i then zbz P o a w (fun v w'=>K (a.put o.dst v) w') else ∃v,zrp P S o a v∧K (a.put o.dst v) w)
    else K (a.put o.dst undef) w
theorem zcs {i:Nat} {a:Act} {w:World} {K K':Act→World→Prop} (h:∀a w,K a w→K' a w) (hh:mixOp P ops S cs i K a w):mixOp P ops S cs i K' a w:=by
  unfold mixOp at *;split
  · exact h _ _ (by simpa[*] using hh)
  · rename_i o ho
    simp only[ho] at hh;split
    · rename_i hw
      simp only[hw,if_true] at hh;split
      · rename_i hc
        simp only[hc,if_true] at hh;exact za3 (fun v w hk=>h _ _ hk) hh
      · rename_i hc
        simp only[hc] at hh;obtain⟨v,h1,h2⟩:=hh;exact⟨v,h1,h _ _ h2⟩
    · rename_i hw
      simp only[hw] at hh;exact h _ _ hh
def zc5 (P:Program) (md:Region.Mode) (ops:Array Oper) (S:World→Prop) (cs:List Nat) (Q:Act→World→Prop):Nat→Array Bool→Act→World→Prop
  | 0,listed,a,w=>Region.ready md ops listed=[]∧Q a w
  | fuel+1,listed,a,w =>
    (Region.ready md ops listed=[]→Q a w) ∧
    ∀i∈Region.ready md ops listed,mixOp P ops S cs i (fun a' w'=>S w'∧zc5 P md ops S cs Q fuel (listed.setIfInBounds i true) a' w') a w
theorem zlk {i:Nat} {a:Act} {w:World} {K K':Act→World→Prop} {Q':Exit→Act→World→Prop} (hS:S w) (h:∀a w,K a w→K' a w)
    (hh:mixOp P ops S cs i K a w):wpOp P ops Q' i K' a w:=by
  unfold mixOp at hh;unfold wpOp;split
  · rename_i ho;simp only[ho] at hh;exact h _ _ hh
  · rename_i o ho
    simp only[ho] at hh;split
    · rename_i hw
      simp only[hw,if_true] at hh;refine .inl ?_;by_cases hc:cs.contains i=true
      · simp only[hc,if_true] at hh
        exact hh.wp fun v w' hk=>h _ _ hk
      · simp only[hc] at hh
        obtain⟨v,h1,h2⟩:=hh;have h3:=h1 w hS;unfold Oper.wp;generalize (execOp a.eval o).run P w=r at *;cases r with
        | halt x w'=>exact h3.elim
        | ok n w' =>
          cases n<;>simp only[zbj] at h3<;>simp only[Oper.upon]
          case value u=>obtain⟨e1,e2⟩:=h3;rw[e1,e2];exact h _ _ h2
          case skip=>obtain⟨e1,e2⟩:=h3;rw[e1,←e2];exact h _ _ h2
    · rename_i hw
      simp only[hw] at hh;exact h _ _ hh
theorem zd6 {Q:Act→World→Prop} {Q':Exit→Act→World→Prop} (hQ:∀a w,Q a w→Q' .normal a w):∀(fuel:Nat) (listed:Array Bool) (a:Act) (w:World),S w →
    zc5 P md ops S cs Q fuel listed a w→wpAny P md ops Q' fuel listed a w
  | 0,_,_,_,_,h=>⟨h.1,hQ _ _ h.2⟩
  | fuel+1,_,_,_,hw,h=>⟨fun h0=>hQ _ _ (h.1 h0),fun i hi=>zlk hw (fun a' w' hk=>zd6 hQ fuel _ a' w' hk.1 hk.2) (h.2 i hi)⟩
def zbr (P:Program) (ops:Array Oper) (S:World→Prop) (o:Oper) (v:Value) (a:Act):Prop :=
  (Region.wanted o (yielded ops a.tmps)=true∧zrp P S o a v)∨(Region.wanted o (yielded ops a.tmps)=false∧v=undef)
theorem zbr.of_same {o:Oper} {v:Value} {a a':Act} (hy:zbr P ops S o v a) (he:execOp a'.eval o=execOp a.eval o)
    (hw:Region.wanted o (yielded ops a'.tmps)=Region.wanted o (yielded ops a.tmps)):zbr P ops S o v a':=by
  unfold zbr zrp at *;rw[he,hw];exact hy
theorem zbr.det {o:Oper} {v u:Value} {a:Act} {w:World} (hS:S w) (h:zbr P ops S o v a) (h':zbr P ops S o u a):v=u:=by
  rcases h with ⟨h1,h2⟩|⟨h1,h2⟩<;>rcases h' with ⟨h3,h4⟩|⟨h3,h4⟩
  · exact zjx (h2 w hS) (h4 w hS)
  · rw[h1] at h3;cases h3
  · rw[h1] at h3;cases h3
  · rw[h2,h4]
theorem zbr.mixOp {i:Nat} {o:Oper} {v:Value} {a:Act} {w:World} (hi:ops[i]? = some o) (hc:Region.wanted o (yielded ops a.tmps)=false∨cs.contains i=false) (hy:zbr P ops S o v a)
    {K:Act→World→Prop} (h:K (a.put o.dst v) w):mixOp P ops S cs i K a w:=by
  unfold Go.Proofs.YtcclhhjcejmepaaGreat.mixOp;simp only[hi];rcases hy with ⟨hw,hv⟩|⟨hw,rfl⟩
  · have hc':cs.contains i=false:=by
      rcases hc with hc|hc
      · rw[hw] at hc;cases hc
      · exact hc
    simp only[hw,if_true,hc',Bool.false_eq_true,if_false];exact⟨v,hv,h⟩
  · simp only[hw,Bool.false_eq_true,if_false];exact h
theorem zhq {i:Nat} {o:Oper} {a:Act} {w:World} {K:Act→World→Prop} (hi:ops[i]? = some o) (hc:Region.wanted o (yielded ops a.tmps)=false∨cs.contains i=false) (h:mixOp P ops S cs i K a w) :
    ∃v,zbr P ops S o v a∧K (a.put o.dst v) w:=by
  unfold mixOp at h;simp only[hi] at h;by_cases hw:Region.wanted o (yielded ops a.tmps)=true
  · have hc':cs.contains i=false:=by
      rcases hc with hc|hc
      · rw[hw] at hc;cases hc
      · exact hc
    simp only[hw,if_true,hc',Bool.false_eq_true,if_false] at h;obtain⟨v,h1,h2⟩:=h;exact⟨v,.inl ⟨hw,h1⟩,h2⟩
  · simp only[hw] at h
    exact⟨undef,.inr ⟨by simpa using hw,rfl⟩,h⟩
theorem zv1 {j:Nat} {oi oj:Oper} {v:Value} (hj:ops[j]? = some oj) (hap:oi.apart ops oj=true)
    (hsi:∀cs b,oi.op≠.select cs b) (hsj:∀cs b,oj.op≠.select cs b) {K:Act→World→Prop} {a:Act} {w:World}
    (hy:zbr P ops S oi v a) (h:mixOp P ops S cs j K (a.put oi.dst v) w) :
    mixOp P ops S cs j (fun a' w'=>zbr P ops S oi v a'∧K (a'.put oi.dst v) w') a w:=by
  obtain⟨h1,h2,h3⟩:=Oper.apart_spec hap;have keep:∀(a:Act),zbr P ops S oi v a→∀u,zbr P ops S oi v (a.put oj.dst u):=fun a hy u =>
    hy.of_same (execOp_put oi hsi a oj.dst u h3) (wanted_put oi a oj.dst u h3)
  unfold mixOp at *;simp only[hj] at *;rw[wanted_put oj a oi.dst v h1] at h;split
  · rename_i hw
    simp only[hw,if_true] at h;split
    · rename_i hc
      simp only[hc,if_true] at h;unfold zbz at *;rw[execOp_put oj hsj a oi.dst v h1] at h;exact za3 (fun u w' hk=>⟨keep a hy u,by rw[←Act.put_comm a v u h2];exact hk⟩) h
    · rename_i hc
      simp only[hc] at h;obtain⟨u,hu,hn⟩:=h;refine⟨u,?_,keep a hy u,by rw[←Act.put_comm a v u h2];exact hn⟩;unfold zrp at *;rwa[execOp_put oj hsj a oi.dst v h1] at hu
  · rename_i hw
    simp only[hw] at h;exact⟨keep a hy _,by rw[←Act.put_comm a v undef h2];exact h⟩
theorem zc4 {Q:Act→World→Prop} {i:Nat} {oi:Oper} {v:Value} (hi:ops[i]? = some oi) (hsel:∀(j:Nat) (o:Oper) cs b,ops[j]? = some o→o.op≠.select cs b) :
    ∀(fuel:Nat) (listed:Array Bool) (a:Act) (w:World),S w →
      (∀j oj,ops[j]? = some oj→j≠i→listed.getD j true=false→(∀e∈oj.after,Region.binds md e=true→e.on≠i)→oi.apart ops oj=true) →
      i∈Region.ready md ops listed→(Region.wanted oi (yielded ops a.tmps)=false∨cs.contains i=false)→zbr P ops S oi v a →
      zc5 P md ops S cs Q fuel (listed.setIfInBounds i true) (a.put oi.dst v) w→zc5 P md ops S cs Q (fuel+1) listed a w:=by
  intro fuel
  induction fuel with
  | zero =>
    intro listed a w hS _ hr hc hy H;refine⟨fun h=>(by rw[h] at hr;cases hr),fun j hj=>?_⟩;by_cases hji:j=i
    · subst hji;exact hy.mixOp hi hc ⟨hS,H⟩
    · have:=ready_mono hj hji
      rw[H.1] at this;cases this
  | succ fuel ih =>
    intro listed a w hS hfree hr hc hy H;refine⟨fun h=>(by rw[h] at hr;cases hr),fun j hj=>?_⟩;by_cases hji:j=i
    · subst hji;exact hy.mixOp hi hc ⟨hS,H⟩
    · have h1:=H.2 j (ready_mono hj hji)
      obtain⟨hjun,oj,hoj,hall⟩:=mem_ready.1 hj;have hnot:∀e∈oj.after,Region.binds md e=true→e.on≠i:=fun e he hb heq=>by
        have h1:=hall e he hb;have h0:=(mem_ready.1 hr).1;rw[heq] at h1;rcases Nat.lt_or_ge i listed.size with h'|h'
        · simp[h'] at h0 h1;rw[h0] at h1;cases h1
        · simp[Array.getElem?_eq_none h'] at h1
      have hap:=hfree j oj hoj hji hjun hnot;have h2:=zv1 hoj hap (fun cs b=>hsel i oi cs b hi) (fun cs b=>hsel j oj cs b hoj) hy h1;have hfree':∀k ok,ops[k]? = some ok→k≠i→(listed.setIfInBounds j true).getD k true=false →
          (∀e∈ok.after,Region.binds md e=true→e.on≠i)→oi.apart ops ok=true:=fun k ok hk hki hun hno=>by
        refine hfree k ok hk hki ?_ hno;by_cases hjk:j=k
        · subst hjk;exact hjun
        · rw[getD_set_ne true hjk] at hun;exact hun
      have hcj:∀u,Region.wanted oi (yielded ops (a.put oj.dst u).tmps)=Region.wanted oi (yielded ops a.tmps):=fun u=>wanted_put oi a oj.dst u (Oper.apart_spec hap).2.2;have hc2:mixOp P ops S cs j (fun a' w'=>(Region.wanted oi (yielded ops a'.tmps)=false∨cs.contains i=false)∧zbr P ops S oi v a'∧(S w'∧zc5 P md ops S cs Q fuel ((listed.setIfInBounds i true).setIfInBounds j true) (a'.put oi.dst v) w')) a w:=by
        unfold mixOp at h2 ⊢;simp only[hoj] at h2 ⊢;split
        · rename_i hw
          simp only[hw,if_true] at h2;split
          · rename_i hcc
            simp only[hcc,if_true] at h2;exact za3 (fun u w' hk=>⟨by rw[hcj];exact hc,hk⟩) h2
          · rename_i hcc
            simp only[hcc] at h2;obtain⟨u,hu,hn⟩:=h2;exact⟨u,hu,by rw[hcj];exact hc,hn⟩
        · rename_i hw
          simp only[hw] at h2;exact⟨by rw[hcj];exact hc,h2⟩
      refine zcs (fun a' w' h3=>⟨h3.2.2.1,ih (listed.setIfInBounds j true) a' w' h3.2.2.1 hfree' (ready_mono hr (Ne.symm hji)) h3.1 h3.2.1 ?_⟩) hc2;rw[Array.setIfInBounds_comm _ _ hji];exact h3.2.2.2
def reach (md:Region.Mode) (ops:Array Oper):Nat→Nat→Nat→Bool
  | 0,_,_=>false
  | f+1,j,i =>
    match ops[j]? with
    | none=>false
    | some o=>o.after.any (fun e=>Region.binds md e && e.on == i) || o.after.any (fun e=>Region.binds md e && reach md ops f e.on i)
def zxx (md:Region.Mode) (ops:Array Oper) (listed:Array Bool):Prop :=
  ∀j o,ops[j]? = some o→listed.getD j false=true→∀e∈o.after,Region.binds md e=true→listed.getD e.on false=true
theorem zxx.step {listed:Array Bool} (h:zxx md ops listed) {i:Nat} (hi:i∈Region.ready md ops listed):zxx md ops (listed.setIfInBounds i true):=by
  intro j o hj hl e he hb;by_cases hij:i=j
  · subst hij
    obtain⟨_,o',ho',hall⟩:=mem_ready.1 hi;rw[hj] at ho';cases ho';exact getD_set_true (hall e he hb)
  · rw[getD_set_ne false hij] at hl
    exact getD_set_true (h j o hj hl e he hb)
theorem zxx.reach {listed:Array Bool} (h:zxx md ops listed):∀(f j i:Nat),reach md ops f j i=true→listed.getD j false=true→listed.getD i false=true
  | 0,_,_,hr,_=>by simp[Go.Proofs.YtcclhhjcejmepaaGreat.reach] at hr
  | f+1,j,i,hr,hl=>by
    unfold Go.Proofs.YtcclhhjcejmepaaGreat.reach at hr;cases ho:ops[j]? with
    | none=>simp[ho] at hr
    | some o =>
      simp only[ho,Bool.or_eq_true] at hr;rcases hr with hr|hr
      · obtain⟨e,he,hb⟩:=Array.any_eq_true'.1 hr
        simp only[Bool.and_eq_true,beq_iff_eq] at hb;rw[←hb.2];exact h j o ho hl e he hb.1
      · obtain⟨e,he,hb⟩:=Array.any_eq_true'.1 hr
        simp only[Bool.and_eq_true] at hb;exact zxx.reach h f e.on i hb.2 (h j o ho hl e he hb.1)
theorem zf7 {listed:Array Bool} (h:zxx md ops listed) {f j i:Nat} (hr:reach md ops f j i=true) (hi:listed.getD i false=false):j∉Region.ready md ops listed:=by
  intro hj;obtain⟨_,o,ho,hall⟩:=mem_ready.1 hj;cases f with
  | zero=>simp[reach] at hr
  | succ f =>
    unfold reach at hr;simp only[ho,Bool.or_eq_true] at hr;have:listed.getD i false=true:=by
      rcases hr with hr|hr
      · obtain⟨e,he,hb⟩:=Array.any_eq_true'.1 hr
        simp only[Bool.and_eq_true,beq_iff_eq] at hb;rw[←hb.2];exact hall e he hb.1
      · obtain⟨e,he,hb⟩:=Array.any_eq_true'.1 hr
        simp only[Bool.and_eq_true] at hb;exact h.reach f e.on i hb.2 (hall e he hb.1)
    rw[hi] at this;cases this
theorem zge {i:Nat} {listed:Array Bool} (h:i∈Region.ready md ops listed):listed.getD i false=false:=by
  have h0:=(mem_ready.1 h).1;rcases Nat.lt_or_ge i listed.size with h'|h'
  · simp[h'] at h0 ⊢;exact h0
  · simp[Array.getElem?_eq_none h']
theorem zhg {Q:Act→World→Prop} {i f:Nat} {oi:Oper} (hi:ops[i]? = some oi) (hsel:∀(j:Nat) (o:Oper) cs b,ops[j]? = some o→o.op≠.select cs b) :
    ∀(fuel:Nat) (listed:Array Bool) (a:Act) (w:World),S w→zxx md ops listed →
      (∀j oj,ops[j]? = some oj→j≠i→listed.getD j true=false→(∀e∈oj.after,Region.binds md e=true→e.on≠i)→oi.apart ops oj=true) →
      (∀j,cs.contains j=true→j≠i→listed.getD j false=true∨reach md ops f j i=true) →
      i∈Region.ready md ops listed→cs.contains i=true→Region.wanted oi (yielded ops a.tmps)=true →
      zbz P oi a w (fun v w'=>S w'∧zc5 P md ops S cs Q fuel (listed.setIfInBounds i true) (a.put oi.dst v) w')→zc5 P md ops S cs Q (fuel+1) listed a w:=by
  intro fuel
  induction fuel with
  | zero =>
    intro listed a w hS _ _ _ hr hc hw H;refine⟨fun h=>(by rw[h] at hr;cases hr),fun j hj=>?_⟩;by_cases hji:j=i
    · subst hji
      unfold mixOp;simp only[hi,hw,if_true,hc];exact H
    · obtain⟨v,w',_,h2⟩:=zfd H
      have:=ready_mono hj hji
      rw[h2.1] at this;cases this
  | succ fuel ih =>
    intro listed a w hS hD hfree hch hr hc hw H;refine⟨fun h=>(by rw[h] at hr;cases hr),fun j hj=>?_⟩;by_cases hji:j=i
    · subst hji
      unfold mixOp;simp only[hi,hw,if_true,hc];exact H
    · obtain⟨hjun,oj,hoj,hall⟩:=mem_ready.1 hj
      have hiun:=zge hr;have hjc:cs.contains j=false:=by
        cases hcj:cs.contains j with
        | false=>rfl
        | true =>
          rcases hch j hcj hji with h|h
          · have:=zge hj
            rw[h] at this;cases this
          · exact absurd hj (zf7 hD h hiun)
      have hnot:∀e∈oj.after,Region.binds md e=true→e.on≠i:=fun e he hb heq=>by have h1:=hall e he hb;rw[heq,hiun] at h1;cases h1
      have hap:=hfree j oj hoj hji hjun hnot;obtain⟨h1,h2,h3⟩:=Oper.apart_spec hap;have hselj:=fun cs b=>hsel j oj cs b hoj;have hseli:=fun cs b=>hsel i oi cs b hi;have hafter:∀v w',(S w'∧zc5 P md ops S cs Q (fuel+1) (listed.setIfInBounds i true) (a.put oi.dst v) w') →
          ∃u,zbr P ops S oj u a∧S w'∧zc5 P md ops S cs Q fuel ((listed.setIfInBounds i true).setIfInBounds j true) ((a.put oi.dst v).put oj.dst u) w':=by
        rintro v w' ⟨hS',hk⟩;obtain⟨u,hy,hk2⟩:=zhq hoj (.inr hjc) (hk.2 j (ready_mono hj hji));exact⟨u,hy.of_same (execOp_put oj hselj a oi.dst v h1).symm (wanted_put oj a oi.dst v h1).symm,hk2⟩
      obtain⟨v0,w0,hk0⟩:=zfd H;obtain⟨u,hyu,hS0,_⟩:=hafter v0 w0 hk0;refine hyu.mixOp hoj (.inr hjc) ⟨hS,ih (listed.setIfInBounds j true) (a.put oj.dst u) w hS (hD.step hj) ?_ ?_ (ready_mono hr (Ne.symm hji)) hc ?_ ?_⟩
      · intro k ok hk hki hun hno
        refine hfree k ok hk hki ?_ hno;by_cases hjk:j=k
        · subst hjk;exact hjun
        · rw[getD_set_ne true hjk] at hun;exact hun
      · intro k hk hki
        rcases hch k hk hki with h|h
        · exact .inl (getD_set_true h)
        · exact .inr h
      · rw[wanted_put oi a oj.dst u h3];exact hw
      · unfold zbz at *
        rw[execOp_put oi hseli a oj.dst u h3];refine za3 (fun v w' hk=>?_) H;obtain⟨u',hy',hS',hk'⟩:=hafter v w' hk;have hu:u'=u:=zbr.det hS' hy' hyu;subst hu;refine⟨hS',?_⟩;rw[Array.setIfInBounds_comm _ _ hji,←Act.put_comm a v u' h2];exact hk'
def Cls (w0:World) (keep:Nat→Prop) (W:World):Prop:=∀k,keep k→W.heap[k]? = w0.heap[k]?
open Classical in
noncomputable def graft (w0:World) (keep:Nat→Prop) (W:World):World:=if Cls w0 keep W then W else w0
theorem Cls.refl (w0:World) (keep:Nat→Prop):Cls w0 keep w0:=fun _ _=>rfl
theorem Cls.graft {w0 W:World} {keep:Nat→Prop} (h:Cls w0 keep W):graft w0 keep W=W:=if_pos h
theorem zwq (w0:World) (keep:Nat→Prop) (W:World):Cls w0 keep (graft w0 keep W):=by
  unfold Go.Proofs.YtcclhhjcejmepaaGreat.graft;split
  · assumption
  · exact Cls.refl _ _
theorem Cls.cell {w0 W:World} {keep:Nat→Prop} (h:Cls w0 keep W) {p:Addr} (hp:keep p.block):W.cell? p=w0.cell? p:=by unfold World.cell?;rw[h p.block hp]
theorem Cls.frozen {w0 W:World} {keep:Nat→Prop} (h:Cls w0 keep W) {p:Addr} (hp:keep p.block):W.frozen? p=w0.frozen? p:=by unfold World.frozen?;rw[h p.block hp]
theorem g_C {w0:World} {keep:Nat→Prop} (W:World) {p:Addr} (hp:keep p.block):(graft w0 keep W).cell? p=w0.cell? p:=(zwq w0 keep W).cell hp
theorem Cls.drew {w0 W:World} {keep:Nat→Prop} (h:Cls w0 keep W):Cls w0 keep W.drew:=h
theorem Cls.drewN {w0 W:World} {keep:Nat→Prop} (h:Cls w0 keep W) (n:Nat):Cls w0 keep (W.drewN n):=h
theorem Cls.setCell {w0 W:World} {keep:Nat→Prop} (h:Cls w0 keep W) (p:Addr) (u:Value) (hp:¬keep p.block):Cls w0 keep (W.setCell p u):=fun k hk =>
  (RowKit.Below.heap_setCell W p u k (fun e=>hp (e ▸ hk))).trans (h k hk)
theorem Cls.alloc {w0 W:World} {keep:Nat→Prop} (h:Cls w0 keep W) (o:Obj) (hp:¬keep W.heap.size):Cls w0 keep (W.alloc o):=fun k hk=>by show (W.heap.push o)[k]? = _;have hne:k≠W.heap.size:=fun e=>hp (by rw[←e];exact hk);rw[Array.getElem?_push,if_neg hne];exact h k hk
theorem Cls.below {w0 W W':World} {keep:Nat→Prop} {B:Nat} (h:Cls w0 keep W) (hb:RowKit.Below B W W') (hp:∀k,keep k→k<B):Cls w0 keep W':=fun k hk =>
  (hb.block k (hp k hk)).trans (h k hk)
theorem Cls.grown {w0 W W':World} {keep:Nat→Prop} {row:Option Nat} (h:Cls w0 keep W) (hb:W.grownBy W' row) (hp:∀k,keep k→k<W.heap.size∧some k≠row):Cls w0 keep W':=fun k hk =>
  (hb.block k (hp k hk).1 (hp k hk).2).trans (h k hk)
structure SOp where
  dst:Option Tmp
  op:Op
  type:TypeId
  guard:Option (Option Tmp×Bool)
def SOp.oper (s : SOp) : Oper := { dst := s.dst, op := s.op, type := s.type, pos := "", after := #[], guard := none }
def Oper.slim (ops:Array Oper) (o:Oper):SOp:={ dst:=o.dst,op:=o.op,type:=o.type,guard:=o.guard.map fun g=>((ops[g.1]?).bind (·.dst),g.2) }
theorem zfm (ρ:Operand→Value) (o:Oper):execOp ρ (Oper.slim ops o).oper=execOp ρ o:=by obtain⟨dst,op,type,pos,after,guard⟩:=o;rfl
def SOp.wanted (s:SOp) (a:Act):Bool :=
  match s.guard with
  | none=>true
  | some (t,want)=>(match t.bind fun d=>a.tmps[d]? with|some (.bool b)=>some b|_=>none) == some want
theorem zil (o:Oper) (a:Act):(Oper.slim ops o).wanted a=Region.wanted o (yielded ops a.tmps):=by
  unfold SOp.wanted Region.wanted Oper.slim;cases o.guard with
  | none=>rfl
  | some g=>rfl
theorem h_D (w:World) (k:Nat):w.drew.heap[k]? = w.heap[k]?:=rfl
theorem h_N (w:World) (n k:Nat):(w.drewN n).heap[k]? = w.heap[k]?:=rfl
theorem h_A (w:World) (o:Obj) (k:Nat) (h:k≠w.heap.size):(w.alloc o).heap[k]? = w.heap[k]?:=by show (w.heap.push o)[k]? = _;rw[Array.getElem?_push,if_neg h]
theorem h_I (w:World) (o:Obj) (k:Nat):(w.alloc o).heap[k]? = if k=w.heap.size then some o else w.heap[k]?:=by show (w.heap.push o)[k]? = _;rw[Array.getElem?_push]
theorem h_S (w:World) (p:Addr) (u:Value) (k:Nat) (h:k≠p.block):(w.setCell p u).heap[k]? = w.heap[k]?:=RowKit.Below.heap_setCell w p u k h
attribute [go_sem] SOp.wanted SOp.oper
attribute [go_sem] zbz zb6 zbj
end
section
variable {P:Program} {ops:Array Oper} {md:Region.Mode} {S:World→Prop} {cs:List Nat}
inductive Tr where
  | done
  | step (i:Nat) (r:Tr)
  | fork (i:Nat) (s:Tr) (j:Nat) (t:Tr)
  | fork3 (i:Nat) (s:Tr) (j:Nat) (t:Tr) (k:Nat) (u:Tr)
def Tr.sq (l:List Nat) (t:Tr):Tr:=l.foldr Tr.step t
def Tr.len:Tr→Nat
  | .done=>0
  | .step _ r=>r.len+1
  | .fork _ s _ _=>s.len+1
  | .fork3 _ s _ _ _ _=>s.len+1
def Tr.ok (md:Region.Mode) (ops:Array Oper) (cs:List Nat):Tr→Array Bool→Bool
  | .done,l=>(Region.ready md ops l).isEmpty
  | .step i r,l=>(Region.ready md ops l).contains i && Region.free md ops l i && (!cs.contains i || cs.all fun j=>j == i || l.getD j false || reach md ops 8 j i) && r.ok md ops cs (l.setIfInBounds i true)
  | .fork i s j t,l=>(Region.ready md ops l) == [i,j] && s.len == t.len && s.ok md ops cs (l.setIfInBounds i true) && t.ok md ops cs (l.setIfInBounds j true)
  | .fork3 i s j t k u,l=>(Region.ready md ops l) == [i,j,k] && s.len == t.len && s.len == u.len && s.ok md ops cs (l.setIfInBounds i true) && t.ok md ops cs (l.setIfInBounds j true) && u.ok md ops cs (l.setIfInBounds k true)
def zop (P:Program) (ops:Array Oper) (S:World→Prop) (cs:List Nat) (Q:Act→World→Prop):Tr→Act→World→Prop
  | .done,a,w=>Q a w
  | .step i r,a,w=>mixOp P ops S cs i (fun a' w'=>S w'∧zop P ops S cs Q r a' w') a w
  | .fork i s j t,a,w=>mixOp P ops S cs i (fun a' w'=>S w'∧zop P ops S cs Q s a' w') a w∧mixOp P ops S cs j (fun a' w'=>S w'∧zop P ops S cs Q t a' w') a w
  | .fork3 i s j t k u,a,w=>mixOp P ops S cs i (fun a' w'=>S w'∧zop P ops S cs Q s a' w') a w∧mixOp P ops S cs j (fun a' w'=>S w'∧zop P ops S cs Q t a' w') a w∧mixOp P ops S cs k (fun a' w'=>S w'∧zop P ops S cs Q u a' w') a w
theorem zcd {Q:Act→World→Prop} (hs:Region.noSelect ops=true):∀(t:Tr) (listed:Array Bool) (a:Act) (w:World),S w→zxx md ops listed →
    t.ok md ops cs listed=true→zop P ops S cs Q t a w→zc5 P md ops S cs Q t.len listed a w
  | .done,listed,a,w,_,_,hB,h=>⟨by simpa[Tr.ok] using hB,h⟩
  | .fork i s j t,listed,a,w,hS,hD,hB,h=>by
    simp only[Tr.ok,Bool.and_eq_true,beq_iff_eq] at hB;obtain⟨⟨⟨hr,hl⟩,h1⟩,h2⟩:=hB;have hi:i∈Region.ready md ops listed:=by rw[hr];simp
    have hj:j∈Region.ready md ops listed:=by rw[hr];simp
    refine⟨fun h0=>(by rw[hr] at h0;cases h0),fun k hk=>?_⟩;rw[hr] at hk;simp only[List.mem_cons,List.not_mem_nil,or_false] at hk;rcases hk with rfl|rfl
    · exact zcs (fun a' w' hh=>⟨hh.1,zcd hs s _ a' w' hh.1 (hD.step hi) h1 hh.2⟩) h.1
    · exact zcs (fun a' w' hh=>⟨hh.1,by rw[hl];exact zcd hs t _ a' w' hh.1 (hD.step hj) h2 hh.2⟩) h.2
  | .fork3 i s j t k u,listed,a,w,hS,hD,hB,h=>by
    simp only[Tr.ok,Bool.and_eq_true,beq_iff_eq] at hB;obtain⟨⟨⟨⟨⟨hr,hl⟩,hl2⟩,h1⟩,h2⟩,h3⟩:=hB;have hi:i∈Region.ready md ops listed:=by rw[hr];simp
    have hj:j∈Region.ready md ops listed:=by rw[hr];simp
    have hk3:k∈Region.ready md ops listed:=by rw[hr];simp
    refine⟨fun h0=>(by rw[hr] at h0;cases h0),fun q hq=>?_⟩;rw[hr] at hq;simp only[List.mem_cons,List.not_mem_nil,or_false] at hq;rcases hq with rfl|rfl|rfl
    · exact zcs (fun a' w' hh=>⟨hh.1,zcd hs s _ a' w' hh.1 (hD.step hi) h1 hh.2⟩) h.1
    · exact zcs (fun a' w' hh=>⟨hh.1,by rw[hl];exact zcd hs t _ a' w' hh.1 (hD.step hj) h2 hh.2⟩) h.2.1
    · exact zcs (fun a' w' hh=>⟨hh.1,by rw[hl2];exact zcd hs u _ a' w' hh.1 (hD.step hk3) h3 hh.2⟩) h.2.2
  | .step k r,listed,a,w,hS,hD,hB,h=>by
    simp only[Tr.ok,Bool.and_eq_true] at hB;obtain⟨⟨⟨hr,hf⟩,hc⟩,hB'⟩:=hB;have hr':k∈Region.ready md ops listed:=by simpa using hr
    obtain⟨o,h0⟩:∃o,ops[k]? = some o:=by obtain⟨_,o,ho,_⟩:=mem_ready.1 hr';exact⟨o,ho⟩
    have hgo:∀a' w',S w'→zop P ops S cs Q r a' w'→zc5 P md ops S cs Q r.len (listed.setIfInBounds k true) a' w':=fun a' w' hS' hh =>
      zcd hs r _ a' w' hS' (hD.step hr') hB' hh
    simp only[zop] at h;unfold mixOp at h;simp only[h0] at h;by_cases hw:Region.wanted o (yielded ops a.tmps)=true
    · simp only[hw,if_true] at h
      by_cases hcs:cs.contains k=true
      · simp only[hcs,if_true] at h
        refine zhg (f:=8) h0 (Region.noSelect_spec hs) r.len listed a w hS hD (Region.free_spec h0 hf) (fun j hj hjk=>?_) hr' hcs hw (za3 (fun v w' hk=>⟨hk.1,hgo _ _ hk.1 hk.2⟩) h);simp only[hcs,Bool.not_true,Bool.false_or,List.all_eq_true] at hc;have:=hc j (by simpa using hj);simp only[Bool.or_eq_true,beq_iff_eq] at this;rcases this with (h1|h1)|h1
        · exact absurd h1 hjk
        · exact .inl h1
        · exact .inr h1
      · simp only[hcs] at h
        obtain⟨v,h1,h2⟩:=h;exact zc4 h0 (Region.noSelect_spec hs) r.len listed a w hS (Region.free_spec h0 hf) hr' (.inr (by simpa using hcs)) (.inl ⟨hw,h1⟩) (hgo _ _ h2.1 h2.2)
    · simp only[hw] at h
      exact zc4 h0 (Region.noSelect_spec hs) r.len listed a w hS (Region.free_spec h0 hf) hr' (.inl (by simpa using hw)) (.inr ⟨by simpa using hw,rfl⟩) (hgo _ _ h.1 h.2)
def zkh (l:List Oper) (cs:List Nat) (t:Tr):Bool:=Region.noSelect l.toArray && (t.len == l.length) && t.ok .any l.toArray cs (Array.replicate l.length false)
theorem zmx {id:Nat} {Q:Exit→Act→World→Prop} {a:Act} {w:World} {l:List Oper} (S:World→Prop) (cs:List Nat) (t:Tr) (hm:P.follows .mixedOrders=true) (hB:zkh l cs t=true) (hS:S w.drew)
    (h:zop P l.toArray S cs (fun a' w'=>Q .normal a' w') t a w.drew):(Code.region id l.toArray true).wp P Q a w:=by
  simp only[zkh,Bool.and_eq_true,beq_iff_eq] at hB;obtain⟨⟨hn,hl⟩,hch⟩:=hB;refine wp_region_any hm (zd6 (S:=S) (cs:=cs) (Q:=fun a' w'=>Q .normal a' w') (fun _ _ h=>h) _ _ _ _ hS ?_);have:=zcd (S:=S) (cs:=cs) (md:=.any) hn t (Array.replicate l.length false) a w.drew hS (fun j o _ hl=>by simp[Array.getElem?_replicate] at hl;split at hl<;>simp at hl) hch h;rw[hl] at this;simpa using this
inductive STr where
  | done
  | step (c:Bool) (o:SOp) (r:STr)
  | fork (s t:STr)
  | fork3 (s t u:STr)
def zan (P:Program) (w0:World) (keep:Nat→Prop) (Q:Act→World→Prop):STr→Act→World→Prop
  | .done,a,w=>Q a w
  | .step c o r,a,w =>
    if o.wanted a then
      (if c then zbz P o.oper a w (fun v w'=>Cls w0 keep w'∧zan P w0 keep Q r (a.put o.dst v) w')
       else ∃v,(∀W,zbj (graft w0 keep W) v ((execOp a.eval o.oper).run P (graft w0 keep W)))∧zan P w0 keep Q r (a.put o.dst v) w)
    else zan P w0 keep Q r (a.put o.dst undef) w
  | .fork s t,a,w=>zan P w0 keep Q s a w∧zan P w0 keep Q t a w
  | .fork3 s t u,a,w=>zan P w0 keep Q s a w∧zan P w0 keep Q t a w∧zan P w0 keep Q u a w
def zbp (ops:Array Oper) (cs:List Nat) (i:Nat) (r:STr):STr :=
  match ops[i]? with
  | some o=>.step (cs.contains i) (Oper.slim ops o) r
  | none=>r
def zbn (ops:Array Oper) (cs:List Nat):Tr→STr
  | .done=>.done
  | .step i r=>zbp ops cs i (zbn ops cs r)
  | .fork i s j t=>.fork (zbp ops cs i (zbn ops cs s)) (zbp ops cs j (zbn ops cs t))
  | .fork3 i s j t k u=>.fork3 (zbp ops cs i (zbn ops cs s)) (zbp ops cs j (zbn ops cs t)) (zbp ops cs k (zbn ops cs u))
theorem zcr {w0:World} {keep:Nat→Prop} {Q:Act→World→Prop} {r:Tr} {i:Nat} {a:Act} {w:World} (hS:Cls w0 keep w)
    (ih:∀a w,Cls w0 keep w→zan P w0 keep Q (zbn ops cs r) a w→zop P ops (Cls w0 keep) cs Q r a w)
    (h:zan P w0 keep Q (zbp ops cs i (zbn ops cs r)) a w) :
    mixOp P ops (Cls w0 keep) cs i (fun a' w'=>Cls w0 keep w'∧zop P ops (Cls w0 keep) cs Q r a' w') a w:=by
  unfold zbp at h;unfold mixOp;cases ho:ops[i]? with
  | none=>simp only[ho] at h ⊢;exact⟨hS,ih _ _ hS h⟩
  | some o =>
    simp only[ho] at h ⊢;simp only[zan,zil] at h;split
    · rename_i hw
      simp only[hw,if_true] at h;split
      · rename_i hc
        simp only[hc,if_true] at h;unfold zbz at *;rw[zfm] at h;exact za3 (fun v w' hk=>⟨hk.1,ih _ _ hk.1 hk.2⟩) h
      · rename_i hc
        simp only[hc] at h;obtain⟨v,h2,h3⟩:=h;refine⟨v,fun W hW=>?_,hS,ih _ _ hS h3⟩;have:=h2 W;rw[hW.graft,zfm] at this;exact this
    · rename_i hw
      simp only[hw] at h;exact⟨hS,ih _ _ hS h⟩
theorem zbg {w0:World} {keep:Nat→Prop} {Q:Act→World→Prop}:∀(t:Tr) (a:Act) (w:World),Cls w0 keep w →
    zan P w0 keep Q (zbn ops cs t) a w→zop P ops (Cls w0 keep) cs Q t a w
  | .done,_,_,_,h=>h
  | .step _ r,a,w,hS,h=>zcr hS (fun a w hS h=>zbg r a w hS h) h
  | .fork _ s _ t,a,w,hS,h=>⟨zcr hS (fun a w hS h=>zbg s a w hS h) h.1,zcr hS (fun a w hS h=>zbg t a w hS h) h.2⟩
  | .fork3 _ s _ t _ u,a,w,hS,h=>⟨zcr hS (fun a w hS h=>zbg s a w hS h) h.1,zcr hS (fun a w hS h=>zbg t a w hS h) h.2.1,zcr hS (fun a w hS h=>zbg u a w hS h) h.2.2⟩
theorem w_D {w0:World} {keep:Nat→Prop} {Q:Act→World→Prop} {a:Act} {w:World} (h:Q a w):zan P w0 keep Q .done a w:=h
theorem w_I {w0:World} {keep:Nat→Prop} {Q:Act→World→Prop} {s:STr} {a:Act} {w:World} (h:zan P w0 keep Q s a w):zan P w0 keep Q s a w:=h
theorem zaf {w0:World} {keep:Nat→Prop} {Q:Act→World→Prop} {a:Act} {w:World} {s t:STr} (h1:zan P w0 keep Q s a w) (h2:zan P w0 keep Q t a w):zan P w0 keep Q (.fork s t) a w:=⟨h1,h2⟩
theorem w_S {w0:World} {keep:Nat→Prop} {Q:Act→World→Prop} {c:Bool} {a:Act} {w:World} {o:SOp} {rest:STr}
    (h:∀K:Act→World→Prop,(∀a w,zan P w0 keep Q rest a w→K a w) →
      if o.wanted a then
        (if c then zbz P o.oper a w (fun v w'=>Cls w0 keep w'∧K (a.put o.dst v) w')
         else ∃v,(∀W,zbj (graft w0 keep W) v ((execOp a.eval o.oper).run P (graft w0 keep W)))∧K (a.put o.dst v) w)
      else K (a.put o.dst undef) w):zan P w0 keep Q (.step c o rest) a w :=
  h _ (fun _ _ h=>h)
theorem w_T {id:Nat} {Q:Exit→Act→World→Prop} {a:Act} {w:World} {l:List Oper} (keep:Nat→Prop) (cs:List Nat) (t:Tr) (hm:P.follows .mixedOrders=true) (hB:zkh l cs t=true)
    (h:zan P w.drew keep (fun a' w'=>Q .normal a' w') (zbn l.toArray cs t) a w.drew):(Code.region id l.toArray true).wp P Q a w :=
  zmx (Cls w.drew keep) cs t hm hB (Cls.refl _ _) (zbg t a w.drew (Cls.refl _ _) h)
end
section
variable {P:Program} {w0:World} {keep:Nat→Prop}
def zct:List Tmp→(Nat→Value)→Act→Act
  | [],_,a=>a
  | d :: ds,js,a=>zct ds js (a.put (some d) (js d))
theorem zet (a:Act) (d:Tmp) (v:Value):(a.put (some d) v).tmps=a.tmps.setIfInBounds d v:=rfl
theorem zkq (a:Act) (d:Option Tmp) (v:Value):(a.put d v).defers=a.defers:=by cases d<;>rfl
theorem zfk (js:Nat→Value):∀(ds:List Tmp) (a:Act),(zct ds js a).defers=a.defers
  | [],_=>rfl
  | d :: ds,a=>by rw[zct,zfk js ds,zkq]
theorem znu (js:Nat→Value):∀(ds:List Tmp) (a:Act),(zct ds js a).tmps.size=a.tmps.size
  | [],_=>rfl
  | d :: ds,a=>by rw[zct,znu js ds,zet,Array.size_setIfInBounds]
theorem zph (js:Nat→Value):∀(ds:List Tmp) (a:Act) (i:Nat),(zct ds js a).tmps[i]? = if i∈ds then (if i<a.tmps.size then some (js i) else none) else a.tmps[i]?
  | [],a,i=>by simp[zct]
  | d :: ds,a,i=>by
    rw[zct,zph js ds,zet,Array.size_setIfInBounds,Array.getElem?_setIfInBounds];by_cases h1:i∈ds
    · simp[h1]
    · by_cases h2:d=i
      · subst h2;simp[h1]
      · have:¬i=d:=fun e=>h2 e.symm
        simp[h1,h2,this]
def zba (ds:List Tmp) (a a':Act):Prop:=a'.tmps.size=a.tmps.size∧a'.defers=a.defers∧∀i,i∉ds→a'.tmps[i]? = a.tmps[i]?
theorem zba.refl (ds:List Tmp) (a:Act):zba ds a a:=⟨rfl,rfl,fun _ _=>rfl⟩
theorem zba.put {ds:List Tmp} {a a':Act} (h:zba ds a a') (d:Option Tmp) (v:Value) (hd:∀t,d=some t→t∈ds):zba ds a (a'.put d v):=by
  cases d with
  | none=>exact h
  | some d =>
    refine⟨by rw[zet,Array.size_setIfInBounds];exact h.1,by rw[zkq];exact h.2.1,fun i hi=>?_⟩;rw[zet,Array.getElem?_setIfInBounds,if_neg (fun e:d=i=>hi (by rw[←e];exact hd d rfl))];exact h.2.2 i hi
theorem zba.junk_eq {ds:List Tmp} {a a':Act} (h:zba ds a a'):a'=zct ds (fun i=>a'.tmps.getD i undef) a:=by
  obtain⟨h1,h2,h3⟩:=h;obtain⟨t',d'⟩:=a';have e1:t'=(zct ds (fun i=>t'.getD i undef) a).tmps:=by
    apply Array.ext_getElem?;intro i;rw[zph];by_cases hi:i∈ds
    · rw[if_pos hi]
      by_cases hl:i<a.tmps.size
      · rw[if_pos hl]
        have:i<t'.size:=by rw[h1];exact hl
        simp[this]
      · rw[if_neg hl]
        exact Array.getElem?_eq_none (by rw[h1];omega)
    · rw[if_neg hi];exact h3 i hi
  have e2:d'=(zct ds (fun i=>t'.getD i undef) a).defers:=by rw[zfk];exact h2
  show Act.mk t' d'=_;generalize zct ds (fun i=>t'.getD i undef) a=b at e1 e2;obtain⟨bt,bd⟩:=b;simp only at e1 e2;rw[e1,e2]
inductive UT where
  | done
  | step (c:Bool) (o:SOp) (r:UT)
  | unit (t:Tmp) (want:Bool) (b:UT) (c:Bool) (ty:TypeId) (d last:Tmp) (r:UT)
def UT.dsts:UT→List Tmp
  | .done=>[]
  | .step _ o r=>o.dst.toList++r.dsts
  | .unit _ _ b _ _ d _ r=>b.dsts++d :: r.dsts
def ze9 (t:Tmp) (want:Bool) (ty:TypeId) (d last:Tmp) (g:Option (Option Tmp×Bool)):SOp :=
  { dst:=some d,op:=.pick (.tmp t) (if want then .tmp last else .const (.bool true)) (if want then .const (.bool false) else .tmp last),type:=ty,guard:=g }
def orG (o:SOp) (g:Option (Option Tmp×Bool)):SOp:={ o with guard:=match o.guard with|some x=>some x|none=>g }
def UT.flat (g:Option (Option Tmp×Bool)):UT→STr→STr
  | .done,k=>k
  | .step c o r,k=>.step c (orG o g) (r.flat g k)
  | .unit t want b c ty d last r,k=>b.flat (some (some t,want)) (.step c (ze9 t want ty d last g) (r.flat g k))
def UT.ok (zs:Option (List Tmp)):UT→Bool
  | .done=>true
  | .step _ o r=>(match o.guard,zs with|some (some t,_),some z=>z.contains t|some (none,_),_=>true|_,_=>true) && r.ok (zs.map fun z=>o.dst.toList++z)
  | .unit t _ b _ _ d last r=>!b.dsts.contains t && d != t && b.ok (some []) && (match zs with|some z=>z.contains t|none=>true) && r.ok (zs.map fun z=>d :: (b.dsts++z))
def zj0 (P:Program) (w0:World) (keep:Nat→Prop):UT→(Act→World→Prop)→Act→World→Prop
  | .done,Q,a,w=>Q a w
  | .step c o r,Q,a,w =>
    if o.wanted a then
      (if c then zbz P o.oper a w (fun v w'=>Cls w0 keep w'∧zj0 P w0 keep r Q (a.put o.dst v) w')
       else ∃v,(∀W,zbj (graft w0 keep W) v ((execOp a.eval o.oper).run P (graft w0 keep W)))∧zj0 P w0 keep r Q (a.put o.dst v) w)
    else zj0 P w0 keep r Q (a.put o.dst undef) w
  | .unit t want b c ty d last r,Q,a,w=>∃(cv x:Bool) (R:World→Prop),a.tmps[t]? = some (.bool cv)∧R w ∧
      (cv=want→zj0 P w0 keep b (fun a' w'=>a'.tmps[last]? = some (.bool x)∧R w') a w) ∧
      ∀js w1,R w1→zj0 P w0 keep r Q ((zct b.dsts js a).put (some d) (.bool (bif want then cv && x else cv || x))) w1
theorem zdh:∀(u:UT) (ds:List Tmp) (a0:Act) {Q:Act→World→Prop} {a:Act} {w:World},(∀t,t∈u.dsts→t∈ds)→zba ds a0 a→zj0 P w0 keep u Q a w →
    zj0 P w0 keep u (fun a' w'=>Q a' w'∧zba ds a0 a') a w
  | .done,_,_,_,_,_,_,h,hh=>⟨hh,h⟩
  | .step c o r,ds,a0,_,a,w,hd,h,hh=>by
    have hput:∀v,zba ds a0 (a.put o.dst v):=fun v=>h.put o.dst v fun t ht=>hd t (by simp[UT.dsts,ht]);have hr:∀t,t∈r.dsts→t∈ds:=fun t ht=>hd t (by simp[UT.dsts,ht]);simp only[zj0] at hh ⊢;split
    · rename_i hw
      simp only[hw,if_true] at hh;split
      · rename_i hc
        simp only[hc,if_true] at hh;exact za3 (fun v w' hk=>⟨hk.1,zdh r ds a0 hr (hput v) hk.2⟩) hh
      · rename_i hc
        simp only[hc] at hh;obtain⟨v,h1,h2⟩:=hh;exact⟨v,h1,zdh r ds a0 hr (hput v) h2⟩
    · rename_i hw
      simp only[hw] at hh;exact zdh r ds a0 hr (hput _) hh
  | .unit t want b c ty d last r,ds,a0,_,a,w,hd,h,⟨cv,x,R,h1,hR,h2,h3⟩=>by refine⟨cv,x,R,h1,hR,h2,fun js w1 hw=>?_⟩;refine zdh r ds a0 (fun t ht=>hd t (by simp[UT.dsts,ht])) ?_ (h3 js w1 hw);refine zba.put ?_ (some d) _ (fun t ht=>hd t (by cases ht;simp[UT.dsts]));refine⟨(znu _ _ _).trans h.1,(zfk _ _ _).trans h.2.1,fun i hi=>?_⟩;rw[zph,if_neg (fun e=>hi (hd i (by simp[UT.dsts,e])))];exact h.2.2 i hi
theorem zqs {o:SOp} {g x} (h:o.guard=some x):orG o g=o:=by obtain⟨a,b,c,d⟩:=o;simp only at h;subst h;rfl
theorem zks {o:SOp} {t:Tmp} {want:Bool} {a:Act} (h:o.guard=none):(orG o (some (some t,want))).wanted a=((match a.tmps[t]? with|some (.bool b)=>some b|_=>none) == some want):=by
  unfold SOp.wanted orG
  first|(simp[h];done)|(simp[h];rfl)
theorem zo9 (o:SOp) (g):(orG o g).dst=o.dst:=rfl
theorem zyq (o:SOp) (g):(orG o g).oper=o.oper:=rfl
theorem zyr (o:SOp):orG o none=o:=by obtain⟨a,b,c,d⟩:=o;cases d<;>rfl
def zbm (a:Act) (t:Tmp):Option Bool:=match a.tmps[t]? with|some (.bool b)=>some b|_=>none
theorem zm9 {a:Act} {t:Tmp} {b:Bool} (h:a.tmps[t]? = some (.bool b)):zbm a t=some b:=by unfold zbm;rw[h]
theorem zik {o:SOp} {t:Tmp} {want:Bool} {a:Act} (h:o.guard=some (some t,want)):o.wanted a=(zbm a t == some want):=by unfold SOp.wanted zbm;rw[h];rfl
theorem zij {o:SOp} {want:Bool} {a:Act} (h:o.guard=some (none,want)):o.wanted a=false:=by unfold SOp.wanted;rw[h];rfl
theorem ziw (a:Act) (t:Tmp):zbm (a.put (some t) undef) t=none:=by unfold zbm;rw[zet,Array.getElem?_setIfInBounds,if_pos rfl];split<;>rename_i h<;>split at h<;>simp_all[undef]
theorem zcm {a:Act} {t:Tmp} {d:Option Tmp} (v:Value) (h:d≠some t):zbm (a.put d v) t=zbm a t:=by
  unfold zbm;cases d with
  | none=>rfl
  | some d=>rw[zet,Array.getElem?_setIfInBounds,if_neg (fun e=>h (by rw[e]))]
theorem zhi {a:Act} {t:Tmp} (d:Option Tmp) (h:d=some t∨zbm a t=none):zbm (a.put d undef) t=none:=by
  by_cases e:d=some t
  · rw[e];exact ziw a t
  · rw[zcm _ e];exact h.resolve_left e
theorem zfw {Q:Act→World→Prop}:∀(u:UT) (t:Tmp) (want:Bool) (z:List Tmp) (ds:List Tmp) (a0:Act) (k:STr) {a:Act} {w:World},u.ok (some z)=true→t∉u.dsts→zbm a t≠some want→(∀y,y∈z→zbm a y=none) →
    (∀y,y∈u.dsts→y∈ds)→zba ds a0 a→(∀a',zba ds a0 a'→(∀y,y∈u.dsts∨y∈z→zbm a' y=none)→zan P w0 keep Q k a' w)→zan P w0 keep Q (u.flat (some (some t,want)) k) a w
  | .done,_,_,_,_,_,_,_,_,_,_,_,hz,_,h,hk=>hk _ h fun y hy=>hz y (hy.resolve_left (by simp[UT.dsts]))
  | .step c o r,t,want,z,ds,a0,k,a,w,hok,ht,hs,hz,hd,h,hk=>by
    simp only[UT.ok,Bool.and_eq_true] at hok;have hdst:o.dst≠some t:=fun e=>ht (by simp[UT.dsts,e]);have hw:(orG o (some (some t,want))).wanted a=false:=by
      cases hg:o.guard with
      | none =>
        rw[zks hg];have:zbm a t≠some want:=hs;unfold zbm at this;simpa using this
      | some x =>
        rw[zqs hg];obtain⟨y,b⟩:=x;cases y with
        | none=>exact zij hg
        | some y =>
          rw[zik hg,hz y (by have:=hok.1;rw[hg] at this;simpa using this)];rfl
    simp only[UT.flat,zan,hw,Bool.false_eq_true,if_false];refine zfw r t want (o.dst.toList++z) ds a0 k (by simpa using hok.2) (fun e=>ht (by simp[UT.dsts,e])) ?_ ?_ (fun y hy=>hd y (by simp[UT.dsts,hy])) (h.put o.dst undef fun y hy=>hd y (by simp[UT.dsts,hy])) ?_
    · rw[zo9,zcm _ hdst];exact hs
    · intro y hy
      rw[zo9];refine zhi _ ?_;rcases List.mem_append.1 hy with hy|hy
      · exact .inl (by simpa using hy)
      · exact .inr (hz y hy)
    · intro a' h1 h2
      refine hk a' h1 fun y hy=>h2 y ?_;simp only[UT.dsts,List.mem_append] at hy ⊢;rcases hy with (hy|hy)|hy
      · exact .inr (.inl hy)
      · exact .inl hy
      · exact .inr (.inr hy)
  | .unit t' want' b c ty d last r,t,want,z,ds,a0,k,a,w,hok,ht,hs,hz,hd,h,hk=>by
    simp only[UT.ok,Bool.and_eq_true,bne_iff_ne,ne_eq,Bool.not_eq_true',List.contains_eq_mem,decide_eq_false_iff_not,decide_eq_true_eq] at hok;obtain⟨⟨⟨⟨ho1,ho2⟩,ho3⟩,ho4⟩,ho5⟩:=hok;have hn:zbm a t'=none:=hz t' ho4;simp only[UT.flat];refine zfw b t' want' [] (b.dsts) a _ ho3 ho1 (by rw[hn];simp) (fun y hy=>by cases hy) (fun _ hy=>hy) (zba.refl _ _) ?_;intro a1 h1 h1z;have hst:∀y,y∉b.dsts→zbm a1 y=zbm a y:=fun y hy=>by unfold zbm;rw[h1.2.2 y hy]
    have htb:t∉b.dsts:=fun e=>ht (by simp[UT.dsts,e]);have htd:(some d:Option Tmp)≠some t:=fun e=>ht (by cases e;simp[UT.dsts]);have hw:(ze9 t' want' ty d last (some (some t,want))).wanted a1=false:=by rw[zik (t:=t) (want:=want) rfl,hst t htb];simpa using hs
    simp only[zan,hw,Bool.false_eq_true,if_false];have ha1:zba ds a0 a1:=⟨h1.1.trans h.1,h1.2.1.trans h.2.1,fun i hi=>(h1.2.2 i (fun e=>hi (hd i (by simp[UT.dsts,e])))).trans (h.2.2 i hi)⟩;refine zfw r t want (d :: (b.dsts++z)) ds a0 k (by simpa using ho5) (fun e=>ht (by simp[UT.dsts,e])) ?_ ?_ (fun y hy=>hd y (by simp[UT.dsts,hy])) (ha1.put (some d) undef fun y hy=>hd y (by cases hy;simp[UT.dsts])) ?_
    · show zbm (a1.put (some d) undef) t≠some want
      rw[zcm _ htd,hst t htb];exact hs
    · intro y hy
      show zbm (a1.put (some d) undef) y=none;refine zhi _ ?_;simp only[List.mem_cons,List.mem_append] at hy;rcases hy with rfl|hy|hy
      · exact .inl rfl
      · exact .inr (h1z y (.inl hy))
      · by_cases hb:y∈b.dsts
        · exact .inr (h1z y (.inl hb))
        · exact .inr ((hst y hb).trans (hz y hy))
    · intro a' h2 h3
      refine hk a' h2 fun y hy=>h3 y ?_;simp only[UT.dsts,List.mem_append,List.mem_cons] at hy ⊢;rcases hy with (hy|rfl|hy)|hy
      · exact .inr (.inr (.inl hy))
      · exact .inr (.inl rfl)
      · exact .inl hy
      · exact .inr (.inr (.inr hy))
theorem UT.ok_none:∀(u:UT) {zs:Option (List Tmp)},u.ok zs=true→u.ok none=true
  | .done,_,_=>rfl
  | .step c o r,zs,h=>by
    simp only[UT.ok,Bool.and_eq_true] at h ⊢;refine⟨?_,by simpa using UT.ok_none r h.2⟩;cases o.guard with
    | none=>rfl
    | some x=>obtain⟨y,b⟩:=x;cases y<;>rfl
  | .unit t want b c ty d last r,zs,h=>by simp only[UT.ok,Bool.and_eq_true] at h ⊢;exact⟨⟨⟨h.1.1.1,h.1.1.2⟩,trivial⟩,by simpa using UT.ok_none r h.2⟩
def Holds (g:Option (Tmp×Bool)) (a:Act) (ds:List Tmp):Prop:=match g with|none=>True|some (t,want)=>zbm a t=some want∧t∉ds
def gOf (g:Option (Tmp×Bool)):Option (Option Tmp×Bool):=g.map fun x=>(some x.1,x.2)
theorem Holds.wanted {g:Option (Tmp×Bool)} {a:Act} {ds:List Tmp} (h:Holds g a ds) (o:SOp):(orG o (gOf g)).wanted a=o.wanted a:=by
  cases hg:o.guard with
  | some x=>rw[zqs hg]
  | none =>
    have h1:o.wanted a=true:=by unfold SOp.wanted;rw[hg]
    rw[h1];cases g with
    | none=>rw[show gOf none=none from rfl,zyr];exact h1
    | some x =>
      obtain⟨t,want⟩:=x;show (orG o (some (some t,want))).wanted a=true;rw[zks hg];have:=h.1;unfold zbm at this;rw[this];simp
theorem Holds.put {g:Option (Tmp×Bool)} {a:Act} {ds:List Tmp} (h:Holds g a ds) {d:Option Tmp} (hd:∀t,d=some t→t∈ds) (v:Value):Holds g (a.put d v) ds:=by
  cases g with
  | none=>trivial
  | some x =>
    obtain⟨t,want⟩:=x;refine⟨?_,h.2⟩;rw[zcm _ (fun e=>h.2 (hd t e))];exact h.1
theorem Holds.less {g:Option (Tmp×Bool)} {a:Act} {ds ds':List Tmp} (h:Holds g a ds) (hd:∀t,t∈ds'→t∈ds):Holds g a ds':=by
  cases g with
  | none=>trivial
  | some x=>exact⟨h.1,fun e=>h.2 (hd _ e)⟩
theorem Holds.alike {g:Option (Tmp×Bool)} {a a':Act} {ds ds':List Tmp} (h:Holds g a ds) (hd:∀t,t∈ds'→t∈ds) (ha:zba ds' a a'):Holds g a' ds:=by
  cases g with
  | none=>trivial
  | some x =>
    obtain⟨t,want⟩:=x;refine⟨?_,h.2⟩;have:zbm a' t=zbm a t:=by unfold zbm;rw[ha.2.2 t (fun e=>h.2 (hd t e))]
    rw[this];exact h.1
theorem zya (a:Act) (W:World) (t:Tmp) (want:Bool) (ty:TypeId) (d last:Tmp) (g) (cv x:Bool) (h1:a.tmps[t]? = some (.bool cv)) (h2:cv=want→a.tmps[last]? = some (.bool x)) :
    (execOp a.eval (ze9 t want ty d last g).oper).run P W=.ok (.value (.bool (bif want then cv && x else cv || x))) W:=by
  have e1:a.eval (.tmp t)=.bool cv:=by unfold Act.eval;simp[Array.getD_eq_getD_getElem?,h1]
  have e2:cv=want→a.eval (.tmp last)=.bool x:=fun h=>by unfold Act.eval;simp[Array.getD_eq_getD_getElem?,h2 h]
  have e3:∀b:Bool,a.eval (.const (.bool b))=.bool b:=fun b=>rfl;unfold ze9 SOp.oper;simp only[execOp,e1,asBool];cases want<;>cases cv<;>simp_all[bind,pure,Sem.bind]
theorem zcx {Q:Act→World→Prop}:∀(u:UT) (g:Option (Tmp×Bool)) (k:STr) {Q':Act→World→Prop} {a:Act} {w:World},u.ok none=true→Holds g a u.dsts→Cls w0 keep w→zj0 P w0 keep u Q' a w →
    (∀a' w',Cls w0 keep w'→Q' a' w'→zan P w0 keep Q k a' w')→zan P w0 keep Q (u.flat (gOf g) k) a w
  | .done,_,_,_,_,_,_,_,hS,h,hk=>hk _ _ hS h
  | .step c o r,g,k,Q',a,w,hok,hg,hS,h,hk=>by
    simp only[UT.ok,Bool.and_eq_true] at hok;have hok':r.ok none=true:=by simpa using hok.2
    have hput:∀v,Holds g (a.put o.dst v) r.dsts:=fun v=>(hg.put (d:=o.dst) (fun t ht=>by simp[UT.dsts,ht]) v).less (fun t ht=>by simp[UT.dsts,ht]);simp only[UT.flat,zan,hg.wanted,zo9,zyq];simp only[zj0] at h;split
    · rename_i hw
      simp only[hw,if_true] at h;split
      · rename_i hc
        simp only[hc,if_true] at h;exact za3 (fun v w' hh=>⟨hh.1,zcx r g k hok' (hput v) hh.1 hh.2 hk⟩) h
      · rename_i hc
        simp only[hc] at h;obtain⟨v,h1,h2⟩:=h;exact⟨v,h1,zcx r g k hok' (hput v) hS h2 hk⟩
    · rename_i hw
      simp only[hw] at h;exact zcx r g k hok' (hput _) hS h hk
  | .unit t' want' b c ty d last r,g,k,Q',a,w,hok,hg,hS,⟨cv,x,R,h1,hR,h2,h3⟩,hk=>by
    simp only[UT.ok,Bool.and_eq_true,bne_iff_ne,ne_eq,Bool.not_eq_true',List.contains_eq_mem,decide_eq_false_iff_not] at hok;obtain⟨⟨⟨⟨ho1,ho2⟩,ho3⟩,_⟩,ho5⟩:=hok;have ho5':r.ok none=true:=by simpa using ho5
    have hrest:∀a1 w1,R w1→Cls w0 keep w1→zba b.dsts a a1→(cv=want'→a1.tmps[last]? = some (.bool x))→zan P w0 keep Q (.step c (ze9 t' want' ty d last (gOf g)) (r.flat (gOf g) k)) a1 w1:=by
      intro a1 w1 hw1 hS1 hal hl;have ht1:a1.tmps[t']? = some (.bool cv):=by rw[hal.2.2 t' ho1];exact h1
      have hg1:Holds g a1 (UT.unit t' want' b c ty d last r).dsts:=hg.alike (fun t ht=>by simp[UT.dsts,ht]) hal;have hw:(ze9 t' want' ty d last (gOf g)).wanted a1=true:=by
        have:=hg1.wanted (ze9 t' want' ty d last none)
        rw[show orG (ze9 t' want' ty d last none) (gOf g)=ze9 t' want' ty d last (gOf g) from by
          unfold orG ze9;cases g<;>rfl] at this
        rw[this];rfl
      have hrun:=fun W=>zya (P:=P) a1 W t' want' ty d last (gOf g) cv x ht1 hl;have hnext:zan P w0 keep Q (r.flat (gOf g) k) (a1.put (some d) (.bool (bif want' then cv && x else cv || x))) w1:=by have h4:=h3 (fun i=>a1.tmps.getD i undef) w1 hw1;rw[←hal.junk_eq] at h4;exact zcx r g k ho5' ((hg1.put (d:=some d) (fun t ht=>by cases ht;simp[UT.dsts]) _).less (fun t ht=>by simp[UT.dsts,ht])) hS1 h4 hk
      simp only[zan,hw,if_true];split
      · unfold zbz
        rw[hrun w1];exact⟨hS1,hnext⟩
      · refine⟨_,fun W=>?_,hnext⟩
        rw[hrun];exact⟨rfl,rfl⟩
    simp only[UT.flat];by_cases hcv:cv=want'
    · have h5:=zdh b b.dsts a (fun _ h=>h) (zba.refl _ _) (h2 hcv)
      refine zcx b (some (t',want')) _ (UT.ok_none b ho3) ⟨by rw[zm9 h1,hcv],ho1⟩ hS h5 ?_;rintro a' w' hc ⟨⟨h6,h8⟩,h7⟩;exact hrest a' w' h8 hc h7 fun _=>h6
    · refine zfw b t' want' [] b.dsts a _ ho3 ho1 (by rw[zm9 h1];simpa using hcv) (fun y hy=>by cases hy) (fun _ hy=>hy) (zba.refl _ _) ?_
      intro a1 h6 _;exact hrest a1 w hR hS h6 fun h=>absurd h hcv
inductive UTr where
  | done
  | step (i:Nat) (r:UTr)
  | unit (j:Nat) (want:Bool) (b:UTr) (p:Nat) (last:Nat) (r:UTr)
def zgg (ops:Array Oper) (i:Nat):Tmp:=((ops[i]?).bind (·.dst)).getD 0
def ztv (g:Option (Nat×Bool)) (o:Oper):Oper:=if o.guard.isSome && o.guard.map (·.1) == g.map (·.1) then { o with guard:=none } else o
def zkc (ops:Array Oper) (ch:Nat→Bool) (g:Option (Nat×Bool)):UTr→UT
  | .done=>.done
  | .step i r =>
    match ops[i]? with
    | some o=>.step (ch i) (Oper.slim ops (ztv g o)) (zkc ops ch g r)
    | none=>zkc ops ch g r
  | .unit j want b p last r=>.unit (zgg ops j) want (zkc ops ch (some (j,want)) b) (ch p) (((ops[p]?).map (·.type)).getD 0) (zgg ops p) (zgg ops last) (zkc ops ch g r)
def lin (ops:Array Oper):Nat→Nat→STr
  | _,0=>.done
  | k,n+1 =>
    match ops[k]? with
    | some o=>.step true (Oper.slim ops o) (lin ops (k+1) n)
    | none=>lin ops (k+1) n
theorem zcl {ops:Array Oper} {Q:Exit→Act→World→Prop}:∀(n k:Nat) (a:Act) (w:World),zan P w0 keep (fun a w=>Q .normal a w) (lin ops k n) a w→wpOps P ops Q (List.range' k n) a w
  | 0,_,_,_,h=>h
  | n+1,k,a,w,h=>by
    rw[List.range'_succ];unfold lin at h;unfold wpOps;cases ho:ops[k]? with
    | none=>simp only[ho] at h ⊢;exact zcl n (k+1) a w h
    | some o =>
      simp only[ho] at h ⊢;simp only[zan,zil] at h;by_cases hw:Region.wanted o (yielded ops a.tmps)=true
      · simp only[hw,if_true] at h ⊢
        unfold zbz at h;rw[zfm] at h;exact .inl (zbz.wp (K:=fun v w'=>Cls w0 keep w'∧zan P w0 keep (fun a w=>Q .normal a w) (lin ops (k+1) n) (a.put o.dst v) w') h fun v w' hk=>zcl n (k+1) _ _ hk.2)
      · simp only[hw] at h ⊢
        exact zcl n (k+1) _ _ h
theorem zzx (w0 w:World):Cls w0 (fun _=>False) w:=fun _ h=>h.elim
theorem zbk {id:Nat} {Q:Exit→Act→World→Prop} {a:Act} {w:World} {l:List Oper} (u:UTr)
    (hE:(zkc l.toArray (fun _=>true) none u).flat none .done=lin l.toArray 0 l.length) (hok:(zkc l.toArray (fun _=>true) none u).ok none=true)
    (h:zj0 P w (fun _=>False) (zkc l.toArray (fun _=>true) none u) (fun a' w'=>Q .normal a' w') a w):(Code.region id l.toArray false).wp P Q a w:=by
  refine wp_region ?_;have h1:=zcx (Q:=fun a' w'=>Q .normal a' w') _ none .done hok trivial (zzx w w) h (fun a' w' _ hh=>hh);rw[show gOf none=none from rfl,hE] at h1;have h2:=zcl l.length 0 a w h1;rw[←List.range_eq_range'] at h2;exact h2
theorem za7 {id:Nat} {Q:Exit→Act→World→Prop} {a:Act} {w:World} {l:List Oper} (keep:Nat→Prop) (cs:List Nat) (t:Tr) (u:UTr) (hm:P.follows .mixedOrders=true) (hB:zkh l cs t=true)
    (hE:(zkc l.toArray (fun i=>cs.contains i) none u).flat none .done=zbn l.toArray cs t) (hok:(zkc l.toArray (fun i=>cs.contains i) none u).ok none=true)
    (h:zj0 P w.drew keep (zkc l.toArray (fun i=>cs.contains i) none u) (fun a' w'=>Q .normal a' w') a w.drew):(Code.region id l.toArray true).wp P Q a w:=by
  refine w_T keep cs t hm hB ?_;have h1:=zcx (Q:=fun a' w'=>Q .normal a' w') _ none .done hok trivial (Cls.refl _ _) h (fun a' w' _ hh=>hh);rwa[show gOf none=none from rfl,hE] at h1
theorem zah {Q:Act→World→Prop} {a:Act} {w:World} (h:Q a w):zj0 P w0 keep .done Q a w:=h
theorem zac {Q:Act→World→Prop} {c:Bool} {a:Act} {w:World} {o:SOp} {r:UT}
    (h:∀K:Act→World→Prop,(∀a w,zj0 P w0 keep r Q a w→K a w) →
      if o.wanted a then
        (if c then zbz P o.oper a w (fun v w'=>Cls w0 keep w'∧K (a.put o.dst v) w')
         else ∃v,(∀W,zbj (graft w0 keep W) v ((execOp a.eval o.oper).run P (graft w0 keep W)))∧K (a.put o.dst v) w)
      else K (a.put o.dst undef) w):zj0 P w0 keep (.step c o r) Q a w :=
  h _ (fun _ _ h=>h)
theorem zax {Q:Act→World→Prop} {t:Tmp} {want:Bool} {b:UT} {c:Bool} {ty:TypeId} {d last:Tmp} {r:UT} {a:Act} {w:World} {cv x:Bool} (h1:a.tmps[t]? = some (.bool cv))
    (h2:cv=want→zj0 P w0 keep b (fun a' w'=>a'.tmps[last]? = some (.bool x)∧w'=w) a w)
    (h3:∀js,zj0 P w0 keep r Q ((zct b.dsts js a).put (some d) (.bool (bif want then cv && x else cv || x))) w):zj0 P w0 keep (.unit t want b c ty d last r) Q a w :=
  ⟨cv,x,fun w'=>w'=w,h1,rfl,h2,fun js _ e=>by subst e;exact h3 js⟩
theorem zap {Q:Act→World→Prop} {t:Tmp} {want:Bool} {b:UT} {c:Bool} {ty:TypeId} {d last:Tmp} {r:UT} {a:Act} {w:World} {cv x:Bool} (h1:a.tmps[t]? = some (.bool cv))
    (h2:cv=want→zj0 P w0 keep b (fun a' w'=>a'.tmps[last]? = some (.bool x)∧RowKit.Below w.heap.size w w') a w)
    (h3:∀js w1,RowKit.Below w.heap.size w w1→zj0 P w0 keep r Q ((zct b.dsts js a).put (some d) (.bool (bif want then cv && x else cv || x))) w1):zj0 P w0 keep (.unit t want b c ty d last r) Q a w :=
  ⟨cv,x,fun w'=>RowKit.Below w.heap.size w w',h1,RowKit.Below.refl _ _,h2,h3⟩
end
section
variable {P:Program} {ops:Array Oper} {md:Region.Mode} {S:World→Prop} {cs:List Nat} {l n:Nat}
theorem RowsIn.of_rows {row:String} {args:Array Value} {w:World} {R:Value→World→Prop} (h:Rows P row args w R):RowsIn (Fence.wide.inRound l) n P row args w R:=fun c cs hr=>by obtain⟨v,w',h1,h2⟩:=h c cs;exact⟨v,w',h1,stepsIn_wide.2 h2⟩
theorem zbz.wpIn {o:Oper} {a:Act} {w:World} {K:Value→World→Prop} {next:Act→World→Prop} {Q:Exit→Act→World→Prop} (hd:∀c,o.op≠.defer c)
  (h:zbz P o a w K) (hk:∀v w',K v w'→next (a.put o.dst v) w'):o.wpIn (Fence.wide.inRound l) n P a w next Q:=by
 unfold zbz at h;refine⟨fun _ _=>trivial,?_⟩;rw[Fence.inRound_round,Oper.semAt_some l _ _ hd];generalize (execOp a.eval o).run P w=r at *;cases r with
 | halt x w'=>exact h.elim
 | ok x w' =>
  cases x<;>simp only[zb6] at h<;>simp only[Oper.uponIn]
  case value v=>exact hk _ _ h
  case skip=>exact hk _ _ h
  case enter f args=>exact⟨(fun h=>by cases h),((callsIn_wide.2 h).inRound l).mono fun e w'' ⟨v,he,hv⟩=>by subst he;exact hk _ _ hv⟩
  case row row args=>exact⟨(fun h=>by cases h),(RowsIn.of_rows h).mono fun v w'' hv=>hk _ _ hv⟩
def zl7 (ops:Array Oper):Bool:=ops.all fun o=>match o.op with | .defer _=>false|_=>true
theorem zst (h:zl7 ops=true) {i:Nat} {o:Oper} (hi:ops[i]? = some o):∀c,o.op≠.defer c:=fun c e=>by
 have:=Array.all_eq_true.1 h i (Array.getElem?_eq_some_iff.1 hi).1
 rw[(Array.getElem?_eq_some_iff.1 hi).2,e] at this;cases this
theorem zii {i:Nat} {a:Act} {w:World} {K K':Act→World→Prop} {Q':Exit→Act→World→Prop} (hn:zl7 ops=true) (hS:S w) (h:∀a w,K a w→K' a w)
  (hh:mixOp P ops S cs i K a w):wpOpIn (Fence.wide.inRound l) n P ops Q' i K' a w:=by
 unfold mixOp at hh;unfold wpOpIn;split
 ·rename_i ho;simp only[ho] at hh;exact h _ _ hh
 ·rename_i o ho;have hd:=zst hn ho;simp only[ho] at hh;split
  ·rename_i hw;simp only[hw,if_true] at hh;by_cases hc:cs.contains i=true
   ·simp only[hc,if_true] at hh;exact zbz.wpIn hd hh fun v w' hk=>h _ _ hk
   ·simp only[hc] at hh;obtain⟨v,h1,h2⟩:=hh;have h3:=h1 w hS;refine⟨fun _ _=>trivial,?_⟩;rw[Fence.inRound_round,Oper.semAt_some l _ _ hd];generalize (execOp a.eval o).run P w=r at *;cases r with
    | halt x w'=>exact h3.elim
    | ok x w' =>
     cases x<;>simp only[zbj] at h3<;>simp only[Oper.uponIn]
     case value u=>obtain⟨e1,e2⟩:=h3;rw[e1,e2];exact h _ _ h2
     case skip=>obtain⟨e1,e2⟩:=h3;rw[e1,←e2];exact h _ _ h2
  ·rename_i hw;simp only[hw] at hh;exact⟨fun _ _=>trivial,h _ _ hh⟩
theorem ze8 {Q:Act→World→Prop} {Q':Exit→Act→World→Prop} (hn:zl7 ops=true) (hQ:∀a w,Q a w→Q' .normal a w):∀(fuel:Nat) (listed:Array Bool) (a:Act) (w:World),S w →
  zc5 P md ops S cs Q fuel listed a w→wpAnyIn (Fence.wide.inRound l) n P md ops Q' fuel listed a w
 | 0,_,_,_,_,h=>⟨h.1,hQ _ _ h.2⟩
 | fuel+1,_,_,_,hw,h=>⟨fun h0=>hQ _ _ (h.1 h0),fun i hi=>zii hn hw (fun a' w' hk=>ze8 hn hQ fuel _ a' w' hk.1 hk.2) (h.2 i hi)⟩
theorem zak {id:Nat} {Q:Exit→Act→World→Prop} {a:Act} {w:World} {ol:List Oper} (keep:Nat→Prop) (cs:List Nat) (t:Tr) (hm:P.follows .mixedOrders=true) (hB:zkh ol cs t=true) (hnd:zl7 ol.toArray=true)
  (h:zan P w.drew keep (fun a' w'=>Q .normal a' w') (zbn ol.toArray cs t) a w.drew):(Code.region id ol.toArray true).wpIn (Fence.wide.inRound l) n P Q a w:=by
 have h:=zbg t a w.drew (Cls.refl w.drew keep) h;simp only[zkh,Bool.and_eq_true,beq_iff_eq] at hB;obtain⟨⟨hn,hl⟩,hch⟩:=hB;refine wpIn_region_any hm (ze8 (S:=Cls w.drew keep) (cs:=cs) (Q:=fun a' w'=>Q .normal a' w') hnd (fun _ _ h=>h) _ _ _ _ (Cls.refl _ _) ?_);have:=zcd (S:=Cls w.drew keep) (cs:=cs) (md:=.any) hn t (Array.replicate ol.length false) a w.drew (Cls.refl _ _) (fun j o _ hl=>by simp[Array.getElem?_replicate] at hl;split at hl<;>simp at hl) hch h;rw[hl] at this;simpa using this
end
theorem TQ:(∀l t,Tr.sq l t=l.foldr Tr.step t)∧(∀(f:Nat→Tr→Tr) b a l,(a::l).foldr f b=f a (l.foldr f b))∧(∀(f:Nat→Tr→Tr) b,[].foldr f b=b)∧(∀o c,zbn o c .done=.done)∧(∀o c i r,zbn o c (.step i r)=zbp o c i (zbn o c r))∧(∀o c i s j t,zbn o c (.fork i s j t)=.fork (zbp o c i (zbn o c s)) (zbp o c j (zbn o c t)))∧(∀o c i s j t k u,zbn o c (.fork3 i s j t k u)=.fork3 (zbp o c i (zbn o c s)) (zbp o c j (zbn o c t)) (zbp o c k (zbn o c u)))∧(∀o c i r,zbp o c i r=match o[i]? with|some x=>.step (c.contains i) (Oper.slim o x) r|none=>r)∧(∀(a:Nat) l x,(a::l).contains x=(x==a || l.contains x))∧(∀x:Nat,[].contains x=false)∧(∀{α β:Type} (f:α→β),none.map f=none)∧(∀{α β:Type} (f:α→β) a,(some a).map f=some (f a))∧(∀{α:Type} (l:List α) (i:Nat),l.toArray[i]? = l[i]?)∧(∀{α:Type} (a:α) l,(a::l)[0]? = some a)∧(∀{α:Type} (a:α) l i,(a::l)[i+1]? = l[i]?)∧(∀{α β:Type} (a:α) (f:α→Option β),(some a).bind f=f a)∧(∀x:Nat,(x==x)=true)∧(∀b,(b || false)=b)∧(∀n,0+n=n):=⟨fun _ _=>rfl,fun _ _ _ _=>rfl,fun _ _=>rfl,fun _ _=>by simp only[zbn],fun _ _ _ _=>by simp only[zbn],fun _ _ _ _ _ _=>by simp only[zbn],fun _ _ _ _ _ _ _ _=>by simp only[zbn],fun _ _ _ _=>by rfl,fun _ _ _=>List.contains_cons,fun _=>rfl,fun _=>rfl,fun _ _=>rfl,fun _ _=>by simp,fun _ _=>rfl,fun _ _ _=>by simp,fun _ _=>rfl,fun _=>by simp,fun _=>by simp,fun _=>by simp⟩
theorem hgK (k:Nat→Prop):∀(w0 W:World) (p:Addr),k p.block→(graft w0 k W).cell? p=w0.cell? p:=fun w0 W p h=>g_C (w0:=w0) (keep:=k) W h
theorem zE1 {α:Type _} {l:List α} {i:Nat} (h:i<l.length):l[i]? = some l[i]:=List.getElem?_eq_getElem h
theorem zE2 {α:Type _} {l:List α} {i:Nat} {a:α}:l.getD i a=l[i]?.getD a:=List.getD_eq_getElem?_getD
theorem zE3 (n:Nat):n≤n:=Nat.le_refl n
theorem TR:(∀l:List Value,l.toArray.size=l.length)∧(∀(a:Value) l,(a::l).length=l.length+1)∧(([]:List Value).length=0)∧(∀n (a:Value),Array.replicate (n+1) a=(Array.replicate n a).push a)∧(∀a:Value,Array.replicate 0 a=#[])∧(∀(l:List Value) a,l.toArray.push a=(l++[a]).toArray)∧(∀l m:List Value,l.toArray++m.toArray=(l++m).toArray)∧(∀l:List Value,[]++l=l)∧(∀(a:Value) l m,a::l++m=a::(l++m)):=⟨fun _=>by simp,fun _ _=>by simp,rfl,fun _ _=>Array.replicate_succ,fun _=>Array.replicate_zero,fun _ _=>by simp,fun _ _=>by simp,fun _=>rfl,fun _ _ _=>rfl⟩
theorem zE4 {α:Type _} (a:α):∃x,a=x:=⟨a,rfl⟩
theorem zE5 {α:Type _} (a:α):∃x,x=a:=⟨a,rfl⟩
theorem zE6 (x:Int) (h:-9223372036854775808≤x∧x≤9223372036854775807):IntKind.i64.wrap x=x:=IntWalk.i64_in x h
abbrev Zaa:=@Go.RowKit.Below.refl
abbrev Zab:=@Go.RowKit.Below.alloc
abbrev Zac:=@Go.RowKit.Below.drew
abbrev Zad:=@List.mem_of_getElem?
abbrev Zae:=@List.getElem?_map
abbrev Zaf:=@Nat.lt_of_lt_of_le
abbrev Zag:=@List.length_map
abbrev Zah:=@List.getElem?_eq_some_iff
abbrev Zai:=@Nat.mul_le_mul
abbrev Zaj:=@List.mem_range
abbrev Zak:=@List.length_append
abbrev Zal:=@List.append_nil
abbrev Zam:=@Int.toNat_natCast
abbrev Zan:=@List.length_take
abbrev Zao:=@And.intro
abbrev Zap:=@World.putObj_heap_other
abbrev Zaq:=@List.mem_singleton
abbrev Zar:=@Nat.mul_le_mul_right
abbrev Zas:=@List.cons_append
abbrev Zat:=@Nat.le_trans
abbrev Zau:=@List.mem_map
abbrev Zav:=@List.nil_append
abbrev Zaw:=@List.map_append
abbrev Zax:=@List.getElem?_range
abbrev Zay:=@Bool.and_eq_true
abbrev Zaz:=@List.take_add_one
abbrev Zba:=@List.mem_append
abbrev Zbb:=@List.mem_range'_1
abbrev Zbc:=@List.eq_nil_of_length_eq_zero
abbrev Zbd:=@IntWalk.i64_in
abbrev Zbe:=@Nat.zero_add
abbrev Zbf:=@List.mem_cons
abbrev Zbg:=@List.length_range
abbrev Zbh:=@List.range_succ
abbrev Zbi:=@Nat.add_sub_cancel_left
abbrev Zbj:=@List.getElem?_cons_zero
abbrev Zbk:=@List.mem_filter
abbrev Zbl:=@Nat.mod_eq_of_lt
abbrev Zbm:=@List.getElem?_eq_none
abbrev Zbn:=@Nat.min_eq_left
abbrev Zbo:=@Array.getElem?_setIfInBounds
abbrev Zbp:=@Nat.zero_le
abbrev Zbq:=@List.pairwise_iff_getElem
abbrev Zbr:=@List.flatMap_cons
abbrev Zbs:=@List.take_length
abbrev Zbt:=@List.length_cons
abbrev Zbu:=@List.map_congr_left
abbrev Zbv:=@Option.map_some
abbrev Zbw:=@Nat.one_mul
abbrev Zbx:=@List.getElem_mem
abbrev Zby:=@List.filter_cons
abbrev Zbz:=@List.pairwise_map
abbrev Zca:=@List.take_of_length_le
abbrev Zcb:=@List.mem_cons_of_mem
abbrev Zcc:=@Nat.add_mul
abbrev Zcd:=@Option.some.inj
abbrev Zce:=@List.length_filter_le
abbrev Zcf:=@Nat.lt_or_ge
abbrev Zcg:=@World.frozen?_setCell
abbrev Zch:=@List.getElem?_append_right
abbrev Zci:=@Nat.mul_comm
abbrev Zcj:=@List.filter_append
abbrev Zck:=@Nat.mod_lt
abbrev Zcl:=@World.putObj_heap_same
abbrev Zcm:=@Nat.not_lt_zero
abbrev Zcn:=@World.cell?_setCell_other
abbrev Zco:=@List.ext_getElem
