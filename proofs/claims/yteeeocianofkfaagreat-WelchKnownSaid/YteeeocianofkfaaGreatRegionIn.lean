/-
  A region that draws its order, in a round of a range over a function: a tree of orders serves there too.
-/
import Derived.Test.YteeeocianofkfaaGreatReg
import Derived.OrdersIn
import Derived.RangeFuncCalls
import Derived.TacticsIn
set_option linter.unusedVariables false
namespace Go.Proofs.YteeeocianofkfaaGreat

section
variable {P : Program} {ops : Array Oper} {md : Region.Mode} {S : World → Prop} {cs : List Nat} {l n : Nat}

theorem RowsIn.of_rows {row : String} {args : Array Value} {w : World} {R : Value → World → Prop} (h : Rows P row args w R) : RowsIn (Fence.wide.inRound l) n P row args w R := fun c cs hr => by
  obtain ⟨v, w', h1, h2⟩ := h c cs
  exact ⟨v, w', h1, stepsIn_wide.2 h2⟩
theorem Chains.wpIn {o : Oper} {a : Act} {w : World} {K : Value → World → Prop} {next : Act → World → Prop} {Q : Exit → Act → World → Prop} (hd : ∀ c, o.op ≠ .defer c)
    (h : Chains P o a w K) (hk : ∀ v w', K v w' → next (a.put o.dst v) w') : o.wpIn (Fence.wide.inRound l) n P a w next Q := by
  unfold Chains at h
  refine ⟨fun _ _ => trivial, ?_⟩
  rw [Fence.inRound_round, Oper.semAt_some l _ _ hd]
  generalize (execOp a.eval o).run P w = r at *
  cases r with
  | halt x w' => exact h.elim
  | ok x w' =>
    cases x <;> simp only [chainUpon] at h <;> simp only [Oper.uponIn]
    case value v => exact hk _ _ h
    case skip => exact hk _ _ h
    case enter f args => exact ⟨(fun h => by cases h), ((callsIn_wide.2 h).inRound l).mono fun e w'' ⟨v, he, hv⟩ => by subst he; exact hk _ _ hv⟩
    case row row args => exact ⟨(fun h => by cases h), (RowsIn.of_rows h).mono fun v w'' hv => hk _ _ hv⟩

/-- No operation lays a deferred call. -/
def noDefer (ops : Array Oper) : Bool := ops.all fun o => match o.op with | .defer _ => false | _ => true
theorem noDefer_at (h : noDefer ops = true) {i : Nat} {o : Oper} (hi : ops[i]? = some o) : ∀ c, o.op ≠ .defer c := fun c e => by
  have := Array.all_eq_true.1 h i (Array.getElem?_eq_some_iff.1 hi).1
  rw [(Array.getElem?_eq_some_iff.1 hi).2, e] at this
  cases this

theorem wpOpIn_of_mixOp {i : Nat} {a : Act} {w : World} {K K' : Act → World → Prop} {Q' : Exit → Act → World → Prop} (hn : noDefer ops = true) (hS : S w) (h : ∀ a w, K a w → K' a w)
    (hh : mixOp P ops S cs i K a w) : wpOpIn (Fence.wide.inRound l) n P ops Q' i K' a w := by
  unfold mixOp at hh
  unfold wpOpIn
  split
  · rename_i ho; simp only [ho] at hh; exact h _ _ hh
  · rename_i o ho
    have hd := noDefer_at hn ho
    simp only [ho] at hh
    split
    · rename_i hw
      simp only [hw, if_true] at hh
      by_cases hc : cs.contains i = true
      · simp only [hc, if_true] at hh
        exact Chains.wpIn hd hh fun v w' hk => h _ _ hk
      · simp only [hc] at hh
        obtain ⟨v, h1, h2⟩ := hh
        have h3 := h1 w hS
        refine ⟨fun _ _ => trivial, ?_⟩
        rw [Fence.inRound_round, Oper.semAt_some l _ _ hd]
        generalize (execOp a.eval o).run P w = r at *
        cases r with
        | halt x w' => exact h3.elim
        | ok x w' =>
          cases x <;> simp only [yieldsUpon] at h3 <;> simp only [Oper.uponIn]
          case value u => obtain ⟨e1, e2⟩ := h3; rw [e1, e2]; exact h _ _ h2
          case skip => obtain ⟨e1, e2⟩ := h3; rw [e1, ← e2]; exact h _ _ h2
    · rename_i hw
      simp only [hw] at hh
      exact ⟨fun _ _ => trivial, h _ _ hh⟩

theorem wpAnyIn_of_mix {Q : Act → World → Prop} {Q' : Exit → Act → World → Prop} (hn : noDefer ops = true) (hQ : ∀ a w, Q a w → Q' .normal a w) : ∀ (fuel : Nat) (listed : Array Bool) (a : Act) (w : World), S w →
    wpAnyM P md ops S cs Q fuel listed a w → wpAnyIn (Fence.wide.inRound l) n P md ops Q' fuel listed a w
  | 0, _, _, _, _, h => ⟨h.1, hQ _ _ h.2⟩
  | fuel + 1, _, _, _, hw, h => ⟨fun h0 => hQ _ _ (h.1 h0), fun i hi => wpOpIn_of_mixOp hn hw (fun a' w' hk => wpAnyIn_of_mix hn hQ fuel _ a' w' hk.1 hk.2) (h.2 i hi)⟩

theorem wpIn_region_tree {id : Nat} {Q : Exit → Act → World → Prop} {a : Act} {w : World} {ol : List Oper} (keep : Nat → Prop) (cs : List Nat) (t : Tr) (hm : P.follows .mixedOrders = true) (hB : treeOk ol cs t = true) (hnd : noDefer ol.toArray = true)
    (h : wpSlimT P w.drew keep (fun a' w' => Q .normal a' w') (slimTr ol.toArray cs t) a w.drew) : (Code.region id ol.toArray true).wpIn (Fence.wide.inRound l) n P Q a w := by
  have h := wpTr_of_slim t a w.drew (Cls.refl w.drew keep) h
  simp only [treeOk, Bool.and_eq_true, beq_iff_eq] at hB
  obtain ⟨⟨hn, hl⟩, hch⟩ := hB
  refine wpIn_region_any hm (wpAnyIn_of_mix (S := Cls w.drew keep) (cs := cs) (Q := fun a' w' => Q .normal a' w') hnd (fun _ _ h => h) _ _ _ _ (Cls.refl _ _) ?_)
  have := wpAnyM_tr (S := Cls w.drew keep) (cs := cs) (md := .any) hn t (Array.replicate ol.length false) a w.drew (Cls.refl _ _) (fun j o _ hl => by simp [Array.getElem?_replicate] at hl; split at hl <;> simp at hl) hch h
  rw [hl] at this
  simpa using this
end
end Go.Proofs.YteeeocianofkfaaGreat
