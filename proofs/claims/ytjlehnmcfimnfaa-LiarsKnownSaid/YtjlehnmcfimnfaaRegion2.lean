/-
  A region that draws its order, where two operations that change the world may come up in either order: a tree of orders serves.
-/
import Derived.Test.YtjlehnmcfimnfaaRegion
set_option linter.unusedVariables false
namespace Go.Proofs.Ytjlehnmcfimnfaa

section
variable {P : Program} {ops : Array Oper} {md : Region.Mode} {S : World → Prop} {cs : List Nat}

/-- A tree of orders. -/
inductive Tr where
  | done
  | step (i : Nat) (r : Tr)
  | fork (i : Nat) (s : Tr) (j : Nat) (t : Tr)
  | fork3 (i : Nat) (s : Tr) (j : Nat) (t : Tr) (k : Nat) (u : Tr)

def Tr.len : Tr → Nat
  | .done => 0
  | .step _ r => r.len + 1
  | .fork _ s _ _ => s.len + 1
  | .fork3 _ s _ _ _ _ => s.len + 1

def Tr.ok (md : Region.Mode) (ops : Array Oper) (cs : List Nat) : Tr → Array Bool → Bool
  | .done, l => (Region.ready md ops l).isEmpty
  | .step i r, l => (Region.ready md ops l).contains i && Region.free md ops l i && (!cs.contains i || cs.all fun j => j == i || l.getD j false || reach md ops 8 j i) && r.ok md ops cs (l.setIfInBounds i true)
  | .fork i s j t, l => (Region.ready md ops l) == [i, j] && s.len == t.len && s.ok md ops cs (l.setIfInBounds i true) && t.ok md ops cs (l.setIfInBounds j true)
  | .fork3 i s j t k u, l => (Region.ready md ops l) == [i, j, k] && s.len == t.len && s.len == u.len && s.ok md ops cs (l.setIfInBounds i true) && t.ok md ops cs (l.setIfInBounds j true) && u.ok md ops cs (l.setIfInBounds k true)

def wpTr (P : Program) (ops : Array Oper) (S : World → Prop) (cs : List Nat) (Q : Act → World → Prop) : Tr → Act → World → Prop
  | .done, a, w => Q a w
  | .step i r, a, w => mixOp P ops S cs i (fun a' w' => S w' ∧ wpTr P ops S cs Q r a' w') a w
  | .fork i s j t, a, w => mixOp P ops S cs i (fun a' w' => S w' ∧ wpTr P ops S cs Q s a' w') a w ∧ mixOp P ops S cs j (fun a' w' => S w' ∧ wpTr P ops S cs Q t a' w') a w
  | .fork3 i s j t k u, a, w => mixOp P ops S cs i (fun a' w' => S w' ∧ wpTr P ops S cs Q s a' w') a w ∧ mixOp P ops S cs j (fun a' w' => S w' ∧ wpTr P ops S cs Q t a' w') a w ∧ mixOp P ops S cs k (fun a' w' => S w' ∧ wpTr P ops S cs Q u a' w') a w

theorem wpAnyM_tr {Q : Act → World → Prop} (hs : Region.noSelect ops = true) : ∀ (t : Tr) (listed : Array Bool) (a : Act) (w : World), S w → Down md ops listed →
    t.ok md ops cs listed = true → wpTr P ops S cs Q t a w → wpAnyM P md ops S cs Q t.len listed a w
  | .done, listed, a, w, _, _, hB, h => ⟨by simpa [Tr.ok] using hB, h⟩
  | .fork i s j t, listed, a, w, hS, hD, hB, h => by
    simp only [Tr.ok, Bool.and_eq_true, beq_iff_eq] at hB
    obtain ⟨⟨⟨hr, hl⟩, h1⟩, h2⟩ := hB
    have hi : i ∈ Region.ready md ops listed := by rw [hr]; simp
    have hj : j ∈ Region.ready md ops listed := by rw [hr]; simp
    refine ⟨fun h0 => (by rw [hr] at h0; cases h0), fun k hk => ?_⟩
    rw [hr] at hk
    simp only [List.mem_cons, List.not_mem_nil, or_false] at hk
    rcases hk with rfl | rfl
    · exact mixOp_mono (fun a' w' hh => ⟨hh.1, wpAnyM_tr hs s _ a' w' hh.1 (hD.step hi) h1 hh.2⟩) h.1
    · exact mixOp_mono (fun a' w' hh => ⟨hh.1, by rw [hl]; exact wpAnyM_tr hs t _ a' w' hh.1 (hD.step hj) h2 hh.2⟩) h.2
  | .fork3 i s j t k u, listed, a, w, hS, hD, hB, h => by
    simp only [Tr.ok, Bool.and_eq_true, beq_iff_eq] at hB
    obtain ⟨⟨⟨⟨⟨hr, hl⟩, hl2⟩, h1⟩, h2⟩, h3⟩ := hB
    have hi : i ∈ Region.ready md ops listed := by rw [hr]; simp
    have hj : j ∈ Region.ready md ops listed := by rw [hr]; simp
    have hk3 : k ∈ Region.ready md ops listed := by rw [hr]; simp
    refine ⟨fun h0 => (by rw [hr] at h0; cases h0), fun q hq => ?_⟩
    rw [hr] at hq
    simp only [List.mem_cons, List.not_mem_nil, or_false] at hq
    rcases hq with rfl | rfl | rfl
    · exact mixOp_mono (fun a' w' hh => ⟨hh.1, wpAnyM_tr hs s _ a' w' hh.1 (hD.step hi) h1 hh.2⟩) h.1
    · exact mixOp_mono (fun a' w' hh => ⟨hh.1, by rw [hl]; exact wpAnyM_tr hs t _ a' w' hh.1 (hD.step hj) h2 hh.2⟩) h.2.1
    · exact mixOp_mono (fun a' w' hh => ⟨hh.1, by rw [hl2]; exact wpAnyM_tr hs u _ a' w' hh.1 (hD.step hk3) h3 hh.2⟩) h.2.2
  | .step k r, listed, a, w, hS, hD, hB, h => by
    simp only [Tr.ok, Bool.and_eq_true] at hB
    obtain ⟨⟨⟨hr, hf⟩, hc⟩, hB'⟩ := hB
    have hr' : k ∈ Region.ready md ops listed := by simpa using hr
    obtain ⟨o, h0⟩ : ∃ o, ops[k]? = some o := by
      obtain ⟨_, o, ho, _⟩ := mem_ready.1 hr'
      exact ⟨o, ho⟩
    have hgo : ∀ a' w', S w' → wpTr P ops S cs Q r a' w' → wpAnyM P md ops S cs Q r.len (listed.setIfInBounds k true) a' w' := fun a' w' hS' hh =>
      wpAnyM_tr hs r _ a' w' hS' (hD.step hr') hB' hh
    simp only [wpTr] at h
    unfold mixOp at h
    simp only [h0] at h
    by_cases hw : Region.wanted o (yielded ops a.tmps) = true
    · simp only [hw, if_true] at h
      by_cases hcs : cs.contains k = true
      · simp only [hcs, if_true] at h
        refine wpAnyM_chain (f := 8) h0 (Region.noSelect_spec hs) r.len listed a w hS hD (Region.free_spec h0 hf) (fun j hj hjk => ?_) hr' hcs hw (chainUpon_mono (fun v w' hk => ⟨hk.1, hgo _ _ hk.1 hk.2⟩) h)
        simp only [hcs, Bool.not_true, Bool.false_or, List.all_eq_true] at hc
        have := hc j (by simpa using hj)
        simp only [Bool.or_eq_true, beq_iff_eq] at this
        rcases this with (h1 | h1) | h1
        · exact absurd h1 hjk
        · exact .inl h1
        · exact .inr h1
      · simp only [hcs] at h
        obtain ⟨v, h1, h2⟩ := h
        exact wpAnyM_first h0 (Region.noSelect_spec hs) r.len listed a w hS (Region.free_spec h0 hf) hr' (.inr (by simpa using hcs)) (.inl ⟨hw, h1⟩) (hgo _ _ h2.1 h2.2)
    · simp only [hw] at h
      exact wpAnyM_first h0 (Region.noSelect_spec hs) r.len listed a w hS (Region.free_spec h0 hf) hr' (.inl (by simpa using hw)) (.inr ⟨by simpa using hw, rfl⟩) (hgo _ _ h.1 h.2)

def treeOk (l : List Oper) (cs : List Nat) (t : Tr) : Bool := Region.noSelect l.toArray && (t.len == l.length) && t.ok .any l.toArray cs (Array.replicate l.length false)

theorem wp_region_tr {id : Nat} {Q : Exit → Act → World → Prop} {a : Act} {w : World} {l : List Oper} (S : World → Prop) (cs : List Nat) (t : Tr) (hm : P.follows .mixedOrders = true) (hB : treeOk l cs t = true) (hS : S w.drew)
    (h : wpTr P l.toArray S cs (fun a' w' => Q .normal a' w') t a w.drew) : (Code.region id l.toArray true).wp P Q a w := by
  simp only [treeOk, Bool.and_eq_true, beq_iff_eq] at hB
  obtain ⟨⟨hn, hl⟩, hch⟩ := hB
  refine wp_region_any hm (wpAny_of_mix (S := S) (cs := cs) (Q := fun a' w' => Q .normal a' w') (fun _ _ h => h) _ _ _ _ hS ?_)
  have := wpAnyM_tr (S := S) (cs := cs) (md := .any) hn t (Array.replicate l.length false) a w.drew hS (fun j o _ hl => by simp [Array.getElem?_replicate] at hl; split at hl <;> simp at hl) hch h
  rw [hl] at this
  simpa using this

/-- The tree as the walk looks at it. -/
inductive STr where
  | done
  | step (c : Bool) (o : SOp) (r : STr)
  | fork (s t : STr)
  | fork3 (s t u : STr)

def wpSlimT (P : Program) (w0 : World) (keep : Nat → Prop) (Q : Act → World → Prop) : STr → Act → World → Prop
  | .done, a, w => Q a w
  | .step c o r, a, w =>
    if o.wanted a then
      (if c then Chains P o.oper a w (fun v w' => Cls w0 keep w' ∧ wpSlimT P w0 keep Q r (a.put o.dst v) w')
       else ∃ v, (∀ W, yieldsUpon (graft w0 keep W) v ((execOp a.eval o.oper).run P (graft w0 keep W))) ∧ wpSlimT P w0 keep Q r (a.put o.dst v) w)
    else wpSlimT P w0 keep Q r (a.put o.dst undef) w
  | .fork s t, a, w => wpSlimT P w0 keep Q s a w ∧ wpSlimT P w0 keep Q t a w
  | .fork3 s t u, a, w => wpSlimT P w0 keep Q s a w ∧ wpSlimT P w0 keep Q t a w ∧ wpSlimT P w0 keep Q u a w

def slimStep (ops : Array Oper) (cs : List Nat) (i : Nat) (r : STr) : STr :=
  match ops[i]? with
  | some o => .step (cs.contains i) (Oper.slim ops o) r
  | none => r
def slimTr (ops : Array Oper) (cs : List Nat) : Tr → STr
  | .done => .done
  | .step i r => slimStep ops cs i (slimTr ops cs r)
  | .fork i s j t => .fork (slimStep ops cs i (slimTr ops cs s)) (slimStep ops cs j (slimTr ops cs t))
  | .fork3 i s j t k u => .fork3 (slimStep ops cs i (slimTr ops cs s)) (slimStep ops cs j (slimTr ops cs t)) (slimStep ops cs k (slimTr ops cs u))

theorem mixOp_slim {w0 : World} {keep : Nat → Prop} {Q : Act → World → Prop} {r : Tr} {i : Nat} {a : Act} {w : World} (hS : Cls w0 keep w) 
    (ih : ∀ a w, Cls w0 keep w → wpSlimT P w0 keep Q (slimTr ops cs r) a w → wpTr P ops (Cls w0 keep) cs Q r a w)
    (h : wpSlimT P w0 keep Q (slimStep ops cs i (slimTr ops cs r)) a w) :
    mixOp P ops (Cls w0 keep) cs i (fun a' w' => Cls w0 keep w' ∧ wpTr P ops (Cls w0 keep) cs Q r a' w') a w := by
  unfold slimStep at h
  unfold mixOp
  cases ho : ops[i]? with
  | none => simp only [ho] at h ⊢; exact ⟨hS, ih _ _ hS h⟩
  | some o =>
    simp only [ho] at h ⊢
    simp only [wpSlimT, wanted_slim] at h
    split
    · rename_i hw
      simp only [hw, if_true] at h
      split
      · rename_i hc
        simp only [hc, if_true] at h
        unfold Chains at *
        rw [execOp_slim] at h
        exact chainUpon_mono (fun v w' hk => ⟨hk.1, ih _ _ hk.1 hk.2⟩) h
      · rename_i hc
        simp only [hc] at h
        obtain ⟨v, h2, h3⟩ := h
        refine ⟨v, fun W hW => ?_, hS, ih _ _ hS h3⟩
        have := h2 W
        rw [hW.graft, execOp_slim] at this
        exact this
    · rename_i hw
      simp only [hw] at h
      exact ⟨hS, ih _ _ hS h⟩

theorem wpTr_of_slim {w0 : World} {keep : Nat → Prop} {Q : Act → World → Prop} : ∀ (t : Tr) (a : Act) (w : World), Cls w0 keep w →
    wpSlimT P w0 keep Q (slimTr ops cs t) a w → wpTr P ops (Cls w0 keep) cs Q t a w
  | .done, _, _, _, h => h
  | .step _ r, a, w, hS, h => mixOp_slim hS (fun a w hS h => wpTr_of_slim r a w hS h) h
  | .fork _ s _ t, a, w, hS, h => ⟨mixOp_slim hS (fun a w hS h => wpTr_of_slim s a w hS h) h.1, mixOp_slim hS (fun a w hS h => wpTr_of_slim t a w hS h) h.2⟩
  | .fork3 _ s _ t _ u, a, w, hS, h => ⟨mixOp_slim hS (fun a w hS h => wpTr_of_slim s a w hS h) h.1, mixOp_slim hS (fun a w hS h => wpTr_of_slim t a w hS h) h.2.1, mixOp_slim hS (fun a w hS h => wpTr_of_slim u a w hS h) h.2.2⟩

theorem wpSlimT_done {w0 : World} {keep : Nat → Prop} {Q : Act → World → Prop} {a : Act} {w : World} (h : Q a w) : wpSlimT P w0 keep Q .done a w := h
theorem wpSlimT_fork {w0 : World} {keep : Nat → Prop} {Q : Act → World → Prop} {a : Act} {w : World} {s t : STr} (h1 : wpSlimT P w0 keep Q s a w) (h2 : wpSlimT P w0 keep Q t a w) : wpSlimT P w0 keep Q (.fork s t) a w := ⟨h1, h2⟩
theorem wpSlimT_fork3 {w0 : World} {keep : Nat → Prop} {Q : Act → World → Prop} {a : Act} {w : World} {s t u : STr} (h1 : wpSlimT P w0 keep Q s a w) (h2 : wpSlimT P w0 keep Q t a w) (h3 : wpSlimT P w0 keep Q u a w) : wpSlimT P w0 keep Q (.fork3 s t u) a w := ⟨h1, h2, h3⟩
theorem wpSlimT_step {w0 : World} {keep : Nat → Prop} {Q : Act → World → Prop} {c : Bool} {a : Act} {w : World} {o : SOp} {rest : STr}
    (h : ∀ K : Act → World → Prop, (∀ a w, wpSlimT P w0 keep Q rest a w → K a w) →
      if o.wanted a then
        (if c then Chains P o.oper a w (fun v w' => Cls w0 keep w' ∧ K (a.put o.dst v) w')
         else ∃ v, (∀ W, yieldsUpon (graft w0 keep W) v ((execOp a.eval o.oper).run P (graft w0 keep W))) ∧ K (a.put o.dst v) w)
      else K (a.put o.dst undef) w) : wpSlimT P w0 keep Q (.step c o rest) a w :=
  h _ (fun _ _ h => h)

/-- The class: the worlds that agree with the world behind the draw on the blocks to keep. -/
theorem wp_region_tree {id : Nat} {Q : Exit → Act → World → Prop} {a : Act} {w : World} {l : List Oper} (keep : Nat → Prop) (cs : List Nat) (t : Tr) (hm : P.follows .mixedOrders = true) (hB : treeOk l cs t = true)
    (h : wpSlimT P w.drew keep (fun a' w' => Q .normal a' w') (slimTr l.toArray cs t) a w.drew) : (Code.region id l.toArray true).wp P Q a w :=
  wp_region_tr (Cls w.drew keep) cs t hm hB (Cls.refl _ _) (wpTr_of_slim t a w.drew (Cls.refl _ _) h)
end
end Go.Proofs.Ytjlehnmcfimnfaa
