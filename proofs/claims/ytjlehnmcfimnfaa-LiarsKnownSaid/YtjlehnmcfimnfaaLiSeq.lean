/-
  Values' closure; AppendSeq and Collect; the program's Order and Pick.
-/
import Derived.RangeFuncNested
import Derived.RangeFuncBound
import Derived.RangeFuncCalls
import Derived.RangeFuncLeaves
import Derived.RangeFuncBox
import Derived.Shelf.Abstract
import Derived.Shelf.RegionOpen
import Derived.WalkKit
import Derived.OwnWalkIn
import Derived.TacticsInMore
import Derived.LoopNIn
import Derived.LoopIn
import Derived.Maps.AppendAt
import Derived.Test.YtjlehnmcfimnfaaLiIn
namespace Go.Proofs.Ytjlehnmcfimnfaa
open Go.RowKit Go.Shelf
set_option linter.unusedSimpArgs false
set_option linter.unusedVariables false
attribute [local go_sem] Oper.semAt_some

/-- What lay between two marks lies there. -/
def Kx (B0 n₁ : Nat) (W W' : World) : Prop := ∀ k, B0 ≤ k → k < n₁ → W'.heap[k]? = W.heap[k]?
theorem Kx.refl (B0 n₁ : Nat) (W : World) : Kx B0 n₁ W W := fun _ _ _ => rfl
theorem Kx.trans {B0 n₁ : Nat} {A B C : World} (h : Kx B0 n₁ A B) (k : Kx B0 n₁ B C) : Kx B0 n₁ A C := fun j h0 h1 => (k j h0 h1).trans (h j h0 h1)
theorem Kx.cell {B0 n₁ : Nat} {A B : World} (h : Kx B0 n₁ A B) {p : Addr} (h0 : B0 ≤ p.block) (h1 : p.block < n₁) : B.cell? p = A.cell? p := by
  unfold World.cell?
  rw [h p.block h0 h1]
theorem Kx.of_below {B0 n₁ : Nat} {A B : World} (h : Below n₁ A B) : Kx B0 n₁ A B := fun k _ h1 => h.block k h1
theorem kx_putObj {B0 n₁ : Nat} (W : World) (l : Nat) (o : Obj) (h : n₁ ≤ l) : Kx B0 n₁ W (W.putObj l o) := fun k _ h1 => World.putObj_heap_other (by omega)

set_option maxRecDepth 100000 in
set_option maxHeartbeats 2000000 in
/-- Values' closure, whatever is done with what it tells. -/
theorem seq1_in (F : Fence) (n : Nat) (hf : F.fn 45) (hro : F.round = none) (hn : 1 ≤ n) (l Bs B0 n₁ : Nat) (w0 : World) (sv : Value) (zs : List Int) (hl : zs.length ≤ 1000000000) (hI : OwnI B0 w0 sv zs) (hn₁ : n₁ = w0.heap.size) (J Jx : List Int → World → Prop)
    (hY : ∀ pre x W, J pre W → pre.length < zs.length → YieldAt F (n - 1) Try.prog l #[.int .i64 x] W fun e W' =>
      (e = .returned (.bool true) ∧ J (pre ++ [x]) W' ∧ Kx B0 n₁ W W') ∨ (e = .returned (.bool false) ∧ Jx (pre ++ [x]) W'))
    (W : World) (hBs : W.cell? ⟨Bs, 0, none⟩ = some sv) (hW : Kx B0 n₁ w0 W) (h0 : J [] W) :
    CallsIn F n Try.prog 45 #[.func (.yield l) #[] #[], .pointer (some ⟨Bs, 0, none⟩)] W fun e W' => (∃ v, e = .returned v) ∧
      ((∃ ys, ys = zs ∧ J ys W') ∨ (∃ pre, pre <+: zs ∧ Jx pre W')) := by
  obtain ⟨a, cap, rfl⟩ := hI.rd.form
  have HI := Lib.hid hI
  clear hI
  refine callsIn_of_wp Try.func45 rfl hf ?_ hro
  simp only [Try.ntmps45, List.size_toArray, List.length_cons, List.length_nil, Nat.reduceAdd, Nat.reduceSub, Array.replicate_succ, Array.replicate_zero, List.push_toArray, List.append_toArray, List.nil_append, List.cons_append]
  gi_wp2
  gi_loopw [7] (fun i wr => ∃ k : Nat, k ≤ zs.length ∧ i = .int .i64 k ∧ J (zs.take k) wr ∧ Kx B0 n₁ w0 wr)
    (fun i _ => zs.length - (intOf i).toNat)
  case atStart => exact ⟨0, Nat.zero_le _, rfl, h0, hW⟩
  case round =>
    obtain ⟨k, hk, rfl, hJs, hnx⟩ := hrel
    by_cases hlt : k < zs.length
    · obtain ⟨x, hx⟩ : ∃ x, zs[k]? = some x := ⟨_, List.getElem?_eq_getElem hlt⟩
      obtain ⟨b, hab, hcap, hcx⟩ : ∃ b, a = some ⟨b, 0, none⟩ ∧ zs.length ≤ cap ∧ wr.cell? ⟨b, k, none⟩ = some (.int .i64 x) := by
        rcases HI.out with ⟨_, h2⟩ | ⟨g, cap', cur, h1, h2, h3, h4, h5, h6⟩
        · rw [h2] at hlt; simp at hlt
        · cases h1
          exact ⟨g, rfl, h4, (hnx.cell (p := ⟨g, k, none⟩) h2 (by rw [hn₁]; exact lt_of_heap h3)).trans (cell_heap h3 (h6 k x hx)).1⟩
      subst hab
      have htk : zs.take (k + 1) = zs.take k ++ [x] := by rw [List.take_add_one, hx]; rfl
      obtain ⟨fn, tmps, assign, body, hy, hR⟩ := hY _ x wr hJs (by rw [List.length_take]; omega)
      gi_wp2
      refine hR.mono ?_
      rintro e W3 (⟨rfl, hJ3, hk3⟩ | ⟨rfl, hJx3⟩)
      · gi_wp2
        go_roundw
        case rel => exact ⟨k + 1, by omega, by simp, by rw [htk]; exact hJ3, hnx.trans hk3⟩
        case measure => simp [intOf]; omega
      · gi_wp2
        refine bodyPost_ret (results_none rfl _ _ _) rfl ?_
        exact ⟨⟨_, rfl⟩, .inr ⟨_, by rw [← htk]; exact List.take_prefix _ _, hJx3⟩⟩
    · obtain rfl : k = zs.length := by omega
      gi_wp2
      go_end0
      exact ⟨⟨_, rfl⟩, .inl ⟨zs, rfl, by rw [List.take_length] at hJs; exact hJs⟩⟩
theorem seq_stops (F : Fence) (n : Nat) (hf : F.fn 45) (hro : F.round = none) (hn : 1 ≤ n) (pb B0 n₁ : Nat) (w0 : World) (sv : Value) (zs : List Int) (hl : zs.length ≤ 1000000000) (hI : OwnI B0 w0 sv zs) (hc : w0.cell? ⟨pb, 0, none⟩ = some sv) (hn₁ : n₁ = w0.heap.size) :
    SeqStopsK F n Try.prog 45 #[.pointer (some ⟨pb, 0, none⟩)] (fun x : Int => #[Value.int .i64 x]) (Kx B0 n₁) (fun ys => ys = zs) (fun pre => pre <+: zs) zs.length w0 := fun l J Jx W hW _ _ hY h0 =>
  seq1_in F n hf hro hn l pb B0 n₁ w0 sv zs hl hI hn₁ J Jx hY W ((hW.cell (p := ⟨pb, 0, none⟩) (block_lt_of_cell hc)).trans hc) (.of_below (by rw [hn₁]; exact hW)) h0

theorem own_mono {w : World} {B B' e size n : Nat} {v : Value} {xs : List Value} (h : w.ownsRow B e size v n xs) (hb : B' ≤ B) : w.ownsRow B' e size v n xs := by
  refine ⟨h.1, ?_⟩
  rcases h.2 with h | ⟨g, cap, cur, h1, h2, h3⟩
  · exact .inl h
  · exact .inr ⟨g, cap, cur, h1, Nat.le_trans hb h2, h3⟩
/-- What a round that appends leaves. -/
theorem box_step {W w1 : World} {B0 n₁ n₂ nb B : Nat} {t e : TypeId} {size : Nat} {v v' : Value} {k m : Nat} {xs ys : List Value} {tmp : Obj}
    (hv : Boxed W B t v) (hte : t ≠ e) (hrow : W.ownsRow n₂ e size v k xs) (h12 : n₁ ≤ n₂) (hn₂ : n₂ ≤ W.heap.size) (hB : B < B0 ∨ n₁ ≤ B) (hnb : nb ≤ B) (hnb2 : nb ≤ n₂)
    (hown' : w1.ownsRow n₂ e size v' m ys) (hgrow : (W.alloc tmp).grownBy w1 v.ownBlock) :
    Boxed w1 B t v ∧ Boxed (w1.setCell ⟨B, 0, none⟩ v') B t v' ∧ (w1.setCell ⟨B, 0, none⟩ v').ownsRow n₂ e size v' m ys ∧ KeepsOthers W (w1.setCell ⟨B, 0, none⟩ v') ∧ Below nb W (w1.setCell ⟨B, 0, none⟩ v') ∧ Kx B0 n₁ W (w1.setCell ⟨B, 0, none⟩ v') := by
  obtain ⟨h1, h2, _, h4, h5⟩ := hv.appended hte (own_mono hrow hnb2) (Nat.le_trans hnb2 hn₂) hnb (own_mono hown' hnb2) hgrow
  refine ⟨h1, h2, hown'.kept (grownBy_setCell' w1 B v') (.inr (h1.not_row hte hown').symm), h4, h5, fun j hj0 hj1 => ?_⟩
  rw [Below.heap_setCell _ _ _ j (by intro e; simp at e; omega)]
  have hjW : j < W.heap.size := by omega
  rw [hgrow.block j (by simp; omega) (fun e => by
    rcases hrow.2 with ⟨rfl, _⟩ | ⟨g, cap, cur, rfl, hg, _⟩
    · simp [Value.ownBlock] at e
    · have : g = j := by simpa [Value.ownBlock] using e.symm
      omega)]
  exact Below.heap_alloc W _ j hjW

def ColPost (zs : List Int) (w : World) (e : Ending) (w' : World) : Prop := ∃ v, e = .returned v ∧ OwnI w.heap.size w' v zs ∧ Below w.heap.size w w'
set_option maxRecDepth 100000 in
set_option maxHeartbeats 2000000 in
theorem appendseq_any (sq : Value) (zs : List Int) (B0 : Nat) (w : World) (hs : SeqI B0 w sq zs) (hl : zs.length ≤ 1000000000) :
    Calls Try.prog 41 #[.slice none 0 0, sq] w (ColPost zs w) := by
  obtain ⟨pb, rv, rfl, hpb, hc, hI⟩ := hs
  refine (callsIn_wide (n := 6)).1 ?_
  have hro : Fence.wide.round = none := rfl
  obtain ⟨i0, hi, hz0, hz1, hz2⟩ := info_parts int_info
  refine callsIn_of_wp_marks Try.func41 rfl trivial ?_ rfl
  simp only [Try.ntmps41, List.size_toArray, List.length_cons, List.length_nil, Nat.reduceAdd, Nat.reduceSub, Array.replicate_succ, Array.replicate_zero, List.push_toArray, List.append_toArray, List.nil_append, List.cons_append]
  gi_wp2
  have bO := Boxed.new w 25 (.slice none 0 0)
  have hB0 : Below w.heap.size w (w.alloc (.cells #[.slice none 0 0] 25)) := (Below.refl _ w).alloc (Nat.le_refl _) _
  refine wpIn_rangeFunc_ownG rfl (by decide) (gf := 45) (lb := #[.pointer (some ⟨pb, 0, none⟩)]) rfl trivial (enters_of Try.func45 (by kernel_rfl) rfl)
    (seq_stops Fence.wide (6 - 1) trivial rfl (by omega) pb B0 w.heap.size w rv zs hl hI hc rfl) (fun h k => h.trans k) (fun W l o o' h _ _ _ => kx_putObj W l o' (by simp at h; omega)) hB0 (fun _ => rfl)
    (fun pre W => (∃ v, Boxed W w.heap.size 25 v ∧ W.ownsRow w.heap.size 3 1 v pre.length (pre.map (Value.int .i64)) ∧ True) ∧ Below w.heap.size w W)
    (fun _ _ _ => False)
    (OwnFrom.and (Own.from (holdsRow_own w.heap.size w.heap.size 25 3 1 (fun pre : List Int => pre.length) (fun pre : List Int => pre.map (Value.int .i64)) (fun _ _ => True)) _) (ownFrom_below (Nat.le_refl _) (by simp)))
    (fun _ _ _ _ _ hs _ _ => hs)
    ⟨⟨_, bO, World.ownsRow_nil _ _ _ _, trivial⟩, hB0⟩
    (fun x => { tmps := #[.slice none 0 0, .func (.func 45) #[] #[.pointer (some ⟨pb, 0, none⟩)], .pointer (some ⟨w.heap.size, 0, none⟩), undef, .slice none 0 0, .int .i64 x, .func (.func 45) #[] #[.pointer (some ⟨pb, 0, none⟩)], .int .i64 x, undef, undef, undef, undef, undef], defers := [] }) ?assign ?body ?done ?stop
  case assign =>
    intro l x W K hK
    gi_wp2
    exact hK
  case body =>
    rintro l pre x W ⟨⟨v, hv, hrow, -⟩, hB⟩ hlt
    have hc := hv.cell
    gi_wp2_with (gi_at_builtin; refine wpListIn_append_own _ rfl _ _ 25 rfl w.heap.size 3 i0 (.int .i64 0) 1 8 Try.underlying25 hi hz0 hz1 hz2 rfl (by decide) _ _ _ rfl (hrow.alloc _) ⟨W.heap.size, 0, none⟩ 1 1 [.int .i64 x] rfl rfl (cell_one_new _ _ _) (by simp [Value.oneCell']) (by unfold maxLen; omega) (by omega) (by have := hB.size; simp; omega) ?_; intro v' w1 hown' hgrow _; obtain ⟨g', cap', rfl⟩ := ownsRow_succ hown'; obtain ⟨hv1, hv2, hr2, hk2, hb2, hx2⟩ := box_step (B0 := B0) (n₁ := w.heap.size) (nb := w.heap.size) hv (by decide) hrow (Nat.le_refl _) hB.size (.inr (Nat.le_refl _)) (Nat.le_refl _) (Nat.le_refl _) hown' hgrow; have hc1 := hv1.cell; have hf1 := hv1.frozen)
    exact ⟨hk2.from _, hx2, ⟨_, hv2, by rw [List.length_append, List.map_append]; exact hr2, trivial⟩, hB.trans hb2⟩
  case done =>
    rintro D ys W hD rfl ⟨⟨v, hv, hrow, -⟩, hB⟩ hK
    have hc := hv.cell
    gi_wp2
    refine ⟨by simp, .inl ⟨_, _, rfl, run_takeDeferred hK, ?_⟩⟩
    exact ⟨_, results_tmp rfl _ _ _, v, rfl, OwnI.of_owns (ownsRow_putObj hrow _ hK rfl), hB.trans (belowK_b (w := w) (Nat.le_refl _) W D _ _ (by simp at hD; omega) hK rfl rfl)⟩
  case stop =>
    rintro D c pre W _ _ h _
    exact h.elim
theorem collect_any (sq : Value) (zs : List Int) (B0 : Nat) (w : World) (hs : SeqI B0 w sq zs) (hl : zs.length ≤ 1000000000) :
    Calls Try.prog 29 #[sq] w (ColPost zs w) := by
  have H := Lib.hid (appendseq_any sq zs B0 w hs hl)
  obtain ⟨pb, rv, rfl, -⟩ := hs
  go_enter Try.func29, Try.ntmps29
  go_wp2_with (go_at_call 41; (with_reducible refine H.out.mono ?_); rintro e w1 ⟨v, rfl, hrd, hb⟩)
  go_ret
  exact ⟨v, rfl, hrd, hb⟩
/-- As OrdPost; the row is the caller's own. -/
def OrdOwn (n : Nat) (C : Nat → Nat) (l : List Int) (w : World) (e : Ending) (w' : World) : Prop := ∃ v R, e = .returned v ∧ OrdOf n C l R ∧ OwnI w.heap.size w' v R ∧ Below w.heap.size w w'
theorem porder_own (tb bm n : Nat) (C : Nat → Nat) (v : Value) (l : List Int) (w : World) (h : PT w tb bm n C) (hr : IRd w v l) (hl : l.length ≤ 1000000000) :
    Calls Try.prog 13 #[.pointer (some ⟨tb, 0, none⟩), v] w (OrdOwn n C l w) := by
  have hn2 := h.n2
  have HI := Lib.hid (inorder_any tb bm n C v l w h hr hl)
  clear h hr
  go_enter Try.func13, Try.ntmps13
  go_wp2_with (first
    | (go_at_call 28; (with_reducible refine HI.out.mono ?_); rintro e w1 ⟨sv, S, rfl, hord, hsq, hb1⟩; have hSl := hord.len; have HC := Lib.hid (collect_any sv S w.heap.size w1 hsq (by omega)); clear hsq)
    | (go_at_call 29; (with_reducible refine HC.out.mono ?_); rintro e w2 ⟨cv, rfl, hrd, hb2⟩))
  go_ret
  exact ⟨cv, S, rfl, hord, hrd.mono hb1.size, hb1.trans (hb2.mono hb1.size)⟩
theorem porder_any (tb bm n : Nat) (C : Nat → Nat) (v : Value) (l : List Int) (w : World) (h : PT w tb bm n C) (hr : IRd w v l) (hl : l.length ≤ 1000000000) :
    Calls Try.prog 13 #[.pointer (some ⟨tb, 0, none⟩), v] w (OrdPost n C l w) := by
  refine (porder_own tb bm n C v l w h hr hl).mono ?_
  rintro e w' ⟨v', R, rfl, h1, h2, h3⟩
  exact ⟨v', R, rfl, h1, h2.rd, h3⟩
theorem porder_nil (v : Value) (l : List Int) (w : World) (hr : IRd w v l) (hl : l.length ≤ 1000000000) :
    Calls Try.prog 13 #[.pointer none, v] w (ColPost [] w) := by
  have HI := Lib.hid (inorder_nil v l w hr hl)
  clear hr
  go_enter Try.func13, Try.ntmps13
  go_wp2_with (first
    | (go_at_call 28; (with_reducible refine HI.out.mono ?_); rintro e w1 ⟨sv, S, rfl, rfl, hsq, hb1⟩; have HC := Lib.hid (collect_any sv [] w.heap.size w1 hsq (by simp)); clear hsq)
    | (go_at_call 29; (with_reducible refine HC.out.mono ?_); rintro e w2 ⟨cv, rfl, hrd, hb2⟩))
  go_ret
  exact ⟨cv, rfl, hrd.mono hb1.size, hb1.trans (hb2.mono hb1.size)⟩
end Go.Proofs.Ytjlehnmcfimnfaa
