/-
  A range over a function that reads what it tells; a body that may leave it.
-/
import Derived.Test.YteeeocianofkfaaGreatMat
namespace Go.Proofs.YteeeocianofkfaaGreat
open Go.RowKit
set_option linter.unusedVariables false

/-- The law: a body that may leave the loop. -/
theorem wp_range_stopT {α : Type} {P : Program} {g : Operand} {ps : Array Tmp} {assign body : Code} {Q : Exit → Act → World → Prop} {a : Act} {w : World}
    {gf : Nat} {lb : Array Value} (hg : a.eval g = .func (.func gf) #[] lb) (eg : ∀ args w, (callFunc gf args).run P w = .ok (.enter gf args) w)
    {encs : α → Array Value} {Sx Sp : List α → Prop} {N : Nat} {T : List Nat} {w0 : World} (hseq : SeqStopsK Fence.wide 5 P gf lb encs (KS T) Sx Sp N w0) (hb0 : Below w0.heap.size w0 w) (hps : ∀ x, (encs x).size = ps.size)
    (S : List Nat) (hT : ∀ b ∈ T, b < w.heap.size ∧ b ∉ S) (hS : ∀ x ∈ S, x < w.heap.size) (I : List α → World → Prop) (hI : OwnFrom w.heap.size I) (Ix : Code → List α → World → Prop) (hIx : ∀ c, OwnFrom w.heap.size (Ix c)) (h0 : I [] w) (a₂ a₁ : α → Act)
    (ha₂ : ∀ x, ({ tmps := (ps.zip (encs x)).foldl (fun t (p, v) => t.setIfInBounds p v) a.tmps, defers := [] } : Act) = a₂ x)
    (hassign : ∀ (l : Nat) (x : α) (W : World) (K : Act → World → Prop), K (a₁ x) W → assign.wpIn (Fence.wide.inRound l) 4 P (Exit.then K (fun _ _ _ => False)) (a₂ x) W)
    (hbody : ∀ (l : Nat) (pre : List α) (x : α) (W : World), I pre W → pre.length < N → w.heap.size ≤ W.heap.size →
      body.wpIn (Fence.wide.inRound l) 4 P (fun e a' W' => (e = .normal ∧ Kp S W W' ∧ I (pre ++ [x]) W') ∨ (e = .ret ∧ Kp S W W' ∧ Ix .ret (pre ++ [x]) W')) (a₁ x) W)
    (hdone : ∀ (D : Nat) (xs : List α) (W : World), w.heap.size ≤ D → Sx xs → I xs W → W.heap[D]? = some (.deferred (some [])) → Q .normal { a with defers := { target := .collected D, args := #[] } :: a.defers } W)
    (hstop : ∀ (D : Nat) (c : Code) (pre : List α) (W : World), w.heap.size ≤ D → Sp pre → Ix c pre W → W.heap[D]? = some (.deferred (some [])) → c.wp P Q { a with defers := { target := .collected D, args := #[] } :: a.defers } W) :
    (Code.rangeFunc g ps assign body).wp P Q a w := by
  refine (wpIn_wide (n := 6)).1 ?_
  refine wpIn_rangeFunc_ownG rfl (by decide) (gf := gf) (lb := lb) hg trivial eg hseq (fun h k b hb => (k b hb).trans (h b hb))
    (fun W l o o' h _ _ _ b hb => World.putObj_heap_other (by have := (hT b hb).1; omega)) hb0 hps (fun pre W => I pre W ∧ w.heap.size ≤ W.heap.size) Ix
    (OwnFrom.and hI (fun _ W W' row hs hg hr => Nat.le_trans hs hg.size)) hIx ⟨h0, Nat.le_refl _⟩ a₁ (fun l x W K hK => by rw [ha₂]; exact hassign l x W K hK) ?body (fun D xs W hD hs h hK => hdone D xs W hD hs h.1 hK) (fun D c pre W hD hp hx hK => wpIn_wide.2 (hstop D c pre W hD hp hx hK))
  case body =>
    intro l pre x W ⟨h, hw⟩ hlt
    refine wpIn_mono (hbody l pre x W h hlt hw) ?_
    rintro e a' W' (⟨rfl, hk, hi⟩ | ⟨rfl, hk, hi⟩)
    · exact ⟨hk.keepsFrom fun x hx => hS x hx, fun b hb => hk.block b (by have := (hT b hb).1; omega) (hT b hb).2, hi, Nat.le_trans hw hk.size⟩
    · exact ⟨hk.keepsFrom fun x hx => hS x hx, hi⟩
end Go.Proofs.YteeeocianofkfaaGreat
