/-
  A range over a function whose rounds write what the iterator reads: what a round does is told to the iterator, for what it gave.
-/
import Derived.Test.YteeeocianofkfaaGreatMat
namespace Go.Proofs.YteeeocianofkfaaGreat
open Go.RowKit
set_option linter.unusedVariables false

/-- An iterator that learns what each round did with what it was given. -/
def SeqR {α : Type} (P : Program) (gf : Nat) (lb : Array Value) (encs : α → Array Value) (R : α → World → World → Prop) (S : List α → Prop) (N : Nat) (w : World) : Prop :=
  ∀ (l : Nat) (J : List α → World → Prop) (W : World), Below w.heap.size w W → AbidesFrom W.heap.size J →
    (∀ pre x W1, J pre W1 → pre.length < N → YieldAt Fence.wide 4 P l (encs x) W1 fun e W' => e = .returned (.bool true) ∧ J (pre ++ [x]) W' ∧ R x W1 W') → J [] W →
    CallsIn Fence.wide 5 P gf (#[.func (.yield l) #[] #[]] ++ lb) W fun e W' => (∃ v, e = .returned v) ∧ ∃ xs, S xs ∧ J xs W'

theorem wp_range_R {α : Type} {P : Program} {g : Operand} {ps : Array Tmp} {assign body : Code} {Q : Exit → Act → World → Prop} {a : Act} {w : World}
    {gf : Nat} {lb : Array Value} (hg : a.eval g = .func (.func gf) #[] lb) (eg : ∀ args w, (callFunc gf args).run P w = .ok (.enter gf args) w)
    {encs : α → Array Value} {R : α → World → World → Prop} {S : List α → Prop} {N : Nat} {w0 : World} (hseq : SeqR P gf lb encs R S N w0) (hb0 : Below w0.heap.size w0 w) (hps : ∀ x, (encs x).size = ps.size)
    (hR1 : ∀ x W l o' W', w.heap.size ≤ l → R x (W.putObj l o') W' → R x W W') (hR2 : ∀ x W W' l o', w.heap.size ≤ l → R x W W' → R x W (W'.putObj l o'))
    (T : List Nat) (hT : ∀ x ∈ T, x < w.heap.size) (I : List α → World → Prop) (hI : OwnFrom w.heap.size I) (h0 : I [] w) (a₂ a₁ : α → Act)
    (ha₂ : ∀ x, ({ tmps := (ps.zip (encs x)).foldl (fun t (p, v) => t.setIfInBounds p v) a.tmps, defers := [] } : Act) = a₂ x)
    (hassign : ∀ (l : Nat) (x : α) (W : World) (K : Act → World → Prop), K (a₁ x) W → assign.wpIn (Fence.wide.inRound l) 4 P (Exit.then K (fun _ _ _ => False)) (a₂ x) W)
    (hbody : ∀ (l : Nat) (pre : List α) (x : α) (W : World), I pre W → pre.length < N → w.heap.size ≤ W.heap.size →
      body.wpIn (Fence.wide.inRound l) 4 P (fun e _ W' => e = .normal ∧ Kp T W W' ∧ R x W W' ∧ I (pre ++ [x]) W') (a₁ x) W)
    (hdone : ∀ (D : Nat) (xs : List α) (W : World), w.heap.size ≤ D → S xs → I xs W → W.heap[D]? = some (.deferred (some [])) → Q .normal { a with defers := { target := .collected D, args := #[] } :: a.defers } W) :
    (Code.rangeFunc g ps assign body).wp P Q a w := by
  refine (wpIn_wide (n := 6)).1 (wpIn_rangeFunc ?_)
  intro fn hfn
  have hro : Fence.wide.round = none := rfl
  rw [hro]
  obtain ⟨L, hL⟩ : ∃ L, L = w.heap.size + 1 := ⟨_, rfl⟩
  obtain ⟨rec, hrec⟩ : ∃ rec : LoopState → Option Code → Loop, rec = fun st pe => { state := st, pending := pe, fn, tmps := a.tmps, params := ps, assign, body, defers := w.heap.size } := ⟨_, rfl⟩
  obtain ⟨V, hV⟩ : ∃ V, V = (w.alloc (.deferred (some []))).alloc (.loop (rec .ready none)) := ⟨_, rfl⟩
  have hsV : V.heap.size = L + 1 := by rw [hV, hL]; simp
  have hVL : V.heap[L]? = some (.loop (rec .ready none)) := by
    rw [hV, hL]
    have := World.alloc_heap_new (w.alloc (.deferred (some []))) (.loop (rec .ready none))
    rwa [World.size_alloc] at this
  have hVK : V.heap[w.heap.size]? = some (.deferred (some [])) := by rw [hV]; exact (Below.heap_alloc _ _ _ (by simp)).trans (World.alloc_heap_new w _)
  have hVI : I [] V := by rw [hV]; exact hI.alloc _ (hI.alloc _ h0)
  have hbV : Below w0.heap.size w0 V := by
    rw [hV]
    exact hb0.trans ((((Below.refl _ w).alloc (Nat.le_refl _) _).alloc (by simp) _).mono hb0.size)
  refine ⟨L, [{ target := .collected w.heap.size, args := #[] }], V, { target := .fn (.func gf) lb, args := #[.func (.yield L) #[] #[]] }, V, gf, #[.func (.yield L) #[] #[]] ++ lb, V, ?enter, ?res, ?leads, ?inv, fun _ => by decide, ?call⟩
  case enter => rw [hV, hrec, hL]; exact run_enterLoop_outer _ _ _ _ _
  case res => simp only [resolve, hg]; simp [go_sem]
  case leads => intro f' hf'; exact trivial
  case inv => simp [invoke, go_sem, eg]
  case call =>
    have hold : ∀ {A B : World} {row : Option Nat}, (∀ r, row = some r → V.heap.size ≤ r ∧ ∃ o : Obj, A.heap[r]? = some o ∧ o.isWalk = true) → (∀ r, row = some r → w.heap.size ≤ r ∧ ∃ o : Obj, A.heap[r]? = some o ∧ o.isCells = false) := fun hr r e => by
      obtain ⟨h1, o, h2, h3⟩ := hr r e
      exact ⟨by omega, o, h2, Obj.not_cells_of_walk h3⟩
    refine (hseq L (fun pre W => (I pre W ∧ w.heap.size ≤ W.heap.size) ∧ W.heap[L]? = some (.loop (rec .ready none)) ∧ W.heap[w.heap.size]? = some (.deferred (some []))) V hbV ?abide ?round ⟨⟨hVI, by omega⟩, hVL, hVK⟩).mono ?behind
    case abide =>
      intro s A B row hs hg' hr
      exact ⟨⟨hI s A B row hs.1.1 hg' (hold (B := B) hr), Nat.le_trans hs.1.2 hg'.size⟩, (grownBy_keeps hg' (fun r e => (hr r e).2) hs.2.1 rfl).trans hs.2.1, (grownBy_keeps hg' (fun r e => (hr r e).2) hs.2.2 rfl).trans hs.2.2⟩
    case round =>
      rintro pre x W ⟨⟨hi, hw⟩, hl, hk⟩ hlen
      have hlt : L < W.heap.size := lt_of_heap hl
      have hy := run_yield (P := P) (args := encs x) hl (by rw [hrec]; exact hps x)
      rw [hrec] at hy
      refine ⟨fn, _, assign, body, hy, roundIn_of_wpIn hfn ?_⟩
      have := ha₂ x
      rw [this]
      refine hassign _ x W _ ⟨_, run_beginRound hl (by rw [hrec]), ?_⟩
      obtain ⟨W2, hW2⟩ : ∃ W2, W2 = W.putObj L (.loop { rec .ready none with state := .busy }) := ⟨_, rfl⟩
      have h2l : W2.heap[L]? = some (.loop { rec .ready none with state := .busy }) := by rw [hW2]; exact World.putObj_heap_same hlt
      have h2k : W2.heap[w.heap.size]? = some (.deferred (some [])) := by rw [hW2]; exact (World.putObj_heap_other (by omega)).trans hk
      have h2i : I pre W2 := by rw [hW2]; exact hI.putObj _ hi (by omega) hl rfl
      have h2s : w.heap.size ≤ W2.heap.size := by rw [hW2]; simpa using hw
      rw [← hW2]
      refine wpIn_mono (hbody _ pre x W2 h2i hlen h2s) ?_
      rintro e a' W3 ⟨rfl, hkp, hR, h3i⟩
      have hkf : KeepsFrom w.heap.size W2 W3 := hkp.keepsFrom hT
      have h3l := hkf.same _ _ (by omega) h2l rfl
      have hend := run_endRound (P := P) (none : Option Code) h3l
      rw [hrec] at hend
      refine ⟨_, _, hend, rfl, ⟨⟨hI.putObj _ h3i (by omega) h3l rfl, ?_⟩, ?_, ?_⟩, ?_⟩
      · have := hkp.size
        simp
        omega
      · rw [hrec]
        exact World.putObj_heap_same (lt_of_heap h3l)
      · exact (World.putObj_heap_other (by omega)).trans (hkf.same _ _ (Nat.le_refl _) h2k rfl)
      · rw [hW2] at hR
        exact hR2 _ _ _ _ _ (by omega) (hR1 _ _ _ _ _ (by omega) hR)
    case behind =>
      rintro e W2 ⟨⟨v, rfl⟩, xs, hS, ⟨hi, hw⟩, hl, hk⟩
      exact ⟨none, _, by have := run_endLoop (P := P) hl (by rw [hrec]; simp); rw [hrec] at this; exact this, hdone _ xs _ (Nat.le_refl _) hS (hI.putObj _ hi (by omega) hl rfl) ((World.putObj_heap_other (by omega)).trans hk)⟩
end Go.Proofs.YteeeocianofkfaaGreat
