/-
  The program's Pick.
-/
import Derived.Test.YtjlehnmcfimnfaaLiSeq
namespace Go.Proofs.Ytjlehnmcfimnfaa
open Go.RowKit Go.Shelf
set_option linter.unusedSimpArgs false
set_option linter.unusedVariables false
attribute [local go_sem] Oper.semAt_some

def TakePost (Rp : List Int → Prop) (m : Int) (w : World) (e : Ending) (w' : World) : Prop := ∃ v S, e = .returned v ∧ Rp S ∧ OwnI w.heap.size w' v (S.take m.toNat) ∧ Below w.heap.size w w'
set_option maxRecDepth 100000 in
set_option maxHeartbeats 2000000 in
theorem pick_gen (tp : Option Addr) (v : Value) (m : Int) (Rp : List Int → Prop) (hRp : ∀ S, Rp S → S.length ≤ 1000000000) (w : World)
    (hin : ∀ W, Below w.heap.size w W → Calls Try.prog 28 #[.pointer tp, v] W (SeqPost Rp W)) :
    Calls Try.prog 10 #[.pointer tp, v, .int .i64 m] w (TakePost Rp m w) := by
  refine (callsIn_wide (n := 6)).1 ?_
  have hro : Fence.wide.round = none := rfl
  obtain ⟨i0, hi, hz0, hz1, hz2⟩ := info_parts int_info
  have HIN := Lib.hid hin
  clear hin
  obtain ⟨w1, hw1⟩ : ∃ w1, w1 = w.alloc (.cells #[.int .i64 m] 3) := ⟨_, rfl⟩
  have hw1s : w1.heap.size = w.heap.size + 1 := by rw [hw1]; simp
  have hb1 : Below w.heap.size w w1 := by rw [hw1]; exact (Below.refl _ w).alloc (Nat.le_refl _) _
  have hc1 : w1.cell? ⟨w.heap.size, 0, none⟩ = some (.int .i64 m) := by rw [hw1]; exact (Boxed.new w _ _).cell
  have hb2 : Below w1.heap.size w1 (w1.alloc (.cells #[.slice none 0 0] 25)) := (Below.refl _ w1).alloc (Nat.le_refl _) _
  have bO := Boxed.new w1 25 (.slice none 0 0)
  have hsz2 : (w1.alloc (.cells #[.slice none 0 0] 25)).heap.size = w.heap.size + 2 := by simp [hw1s]
  rw [hw1s] at bO
  have HI := Lib.hid (HIN.out (w1.alloc (.cells #[.slice none 0 0] 25)) (hb1.trans (hb2.mono hb1.size)))
  refine callsIn_of_wp_marks Try.func10 rfl trivial ?_ rfl
  simp only [Try.ntmps10, List.size_toArray, List.length_cons, List.length_nil, Nat.reduceAdd, Nat.reduceSub, Array.replicate_succ, Array.replicate_zero, List.push_toArray, List.append_toArray, List.nil_append, List.cons_append]
  gi_wp2_with (refine ⟨trivial, ?_⟩; gi_at_call 28; rw [← hw1]; (with_reducible refine (callsIn_wide.2 HI.out).mono ?_); rintro e w3 ⟨sq, S, rfl, hS, ⟨pb, rv, rfl, hpb, hc, hI⟩, hb3⟩)
  have hSl := hRp S hS
  rw [hsz2] at hpb hI hb3
  have hb3s := hb3.size
  have bO3 : Boxed w3 (w.heap.size + 1) 25 (.slice none 0 0) := (hb3.block _ (by omega)).trans bO
  have hB0 : Below (w.heap.size + 1) w1 w3 := (hb2.mono (by omega)).trans (hb3.mono (by omega))
  rw [hsz2] at hb3s
  have hcn3 : w3.cell? ⟨w.heap.size, 0, none⟩ = some (.int .i64 m) := (hB0.cell (p := ⟨w.heap.size, 0, none⟩) (Nat.lt_succ_self _)).trans hc1
  refine wpIn_rangeFunc_ownG rfl (by decide) (gf := 45) (lb := #[.pointer (some ⟨pb, 0, none⟩)]) rfl trivial (enters_of Try.func45 (by kernel_rfl) rfl)
    (seq_stops Fence.wide (6 - 1) trivial rfl (by omega) pb (w.heap.size + 2) w3.heap.size w3 rv S hSl hI hc rfl) (fun h k => h.trans k) (fun W l o o' h _ _ _ => kx_putObj W l o' h) (Below.refl _ _) (fun _ => rfl)
    (fun pre W => (∃ v, Boxed W (w.heap.size + 1) 25 v ∧ W.ownsRow w3.heap.size 3 1 v pre.length (pre.map (Value.int .i64)) ∧ pre.length ≤ m.toNat) ∧ Below (w.heap.size + 1) w3 W)
    (fun c pre W => c = .exit 0 ∧ ∃ pre0 x, pre = pre0 ++ [x] ∧ m ≤ (pre0.length : Int) ∧ ((∃ v, Boxed W (w.heap.size + 1) 25 v ∧ W.ownsRow w3.heap.size 3 1 v pre0.length (pre0.map (Value.int .i64)) ∧ pre0.length ≤ m.toNat) ∧ Below (w.heap.size + 1) w3 W))
    (OwnFrom.and (Own.from (holdsRow_own w3.heap.size (w.heap.size + 1) 25 3 1 (fun pre : List Int => pre.length) (fun pre : List Int => pre.map (Value.int .i64)) (fun pre _ => pre.length ≤ m.toNat)) _) (ownFrom_below (by omega) (by omega)))
    ?hix
    ⟨⟨_, bO3, World.ownsRow_nil _ _ _ _, by simp⟩, Below.refl _ _⟩
    (fun x => { tmps := #[.pointer tp, v, .int .i64 m, undef, undef, .pointer (some ⟨w.heap.size, 0, none⟩), .slice none 0 0, .pointer (some ⟨w.heap.size + 1, 0, none⟩), .int .i64 x, .pointer tp, v, .func (.func 45) #[] #[.pointer (some ⟨pb, 0, none⟩)], .int .i64 x, undef, undef, undef, undef, undef, undef, undef, undef, undef], defers := [] }) ?assign ?body ?done ?stop
  case hix =>
    rintro c s X Y row ⟨rfl, pre0, x, rfl, hm, hs⟩ hg hr
    exact ⟨rfl, pre0, x, rfl, hm, (OwnFrom.and (Own.from (holdsRow_own w3.heap.size (w.heap.size + 1) 25 3 1 (fun pre : List Int => pre.length) (fun pre : List Int => pre.map (Value.int .i64)) (fun pre _ => pre.length ≤ m.toNat)) w3.heap.size) (ownFrom_below (w₀ := w3) (n₀ := w.heap.size + 1) (by omega) (by omega))) pre0 X Y row hs hg hr⟩
  case assign =>
    intro l x W K hK
    gi_wp2
    exact hK
  case body =>
    rintro l pre x W ⟨⟨v, hv, hrow, hpm⟩, hB⟩ hlt
    have hc := hv.cell
    have hcn : W.cell? ⟨w.heap.size, 0, none⟩ = some (.int .i64 m) := (hB.cell (p := ⟨w.heap.size, 0, none⟩) (Nat.lt_succ_self _)).trans hcn3
    obtain ⟨va, vcap, rfl⟩ : ∃ a cap, v = .slice a pre.length cap := (IRd.of_owns hrow).form
    by_cases hge : m ≤ (pre.length : Int)
    · gi_wp2
      exact ⟨KeepsFrom.refl _ _, rfl, pre, x, rfl, hge, ⟨_, hv, hrow, hpm⟩, hB⟩
    · gi_wp2_with (gi_at_builtin; refine wpListIn_append_own _ rfl _ _ 25 rfl w3.heap.size 3 i0 (.int .i64 0) 1 8 Try.underlying25 hi hz0 hz1 hz2 rfl (by decide) _ _ _ rfl (hrow.alloc _) ⟨W.heap.size, 0, none⟩ 1 1 [.int .i64 x] rfl rfl (cell_one_new _ _ _) (by simp [Value.oneCell']) (by unfold maxLen; omega) (by omega) (by have := hB.size; simp; omega) ?_; intro v' w4 hown' hgrow _; obtain ⟨g', cap', rfl⟩ := ownsRow_succ hown'; obtain ⟨hv1, hv2, hr2, hk2, hb2, hx2⟩ := box_step (B0 := w.heap.size + 2) (n₁ := w3.heap.size) (nb := w.heap.size + 1) hv (by decide) hrow (Nat.le_refl _) hB.size (.inl (Nat.lt_succ_self _)) (Nat.le_refl _) (by omega) hown' hgrow; have hc1 := hv1.cell; have hf1 := hv1.frozen)
      exact ⟨hk2.from _, hx2, ⟨_, hv2, by rw [List.length_append, List.map_append]; exact hr2, by rw [List.length_append]; simp; omega⟩, hB.trans hb2⟩
  case done =>
    rintro D ys W hD rfl ⟨⟨v', hv, hrow, hpm⟩, hB⟩ hK
    have hc := hv.cell
    gi_wp2
    refine ⟨by simp, .inl ⟨_, _, rfl, run_takeDeferred hK, ?_⟩⟩
    exact ⟨_, results_tmp rfl _ _ _, v', ys, rfl, hS, by rw [List.take_of_length_le hpm]; exact (OwnI.of_owns (ownsRow_putObj hrow _ hK rfl)).mono (by omega), ((hb1.trans (hB0.mono (by omega))).trans (hB.mono (by omega))).trans (belowK_b (w := w) (Nat.le_refl _) W D _ _ (by omega) hK rfl rfl)⟩
  case stop =>
    rintro D c pre W hD hpre ⟨rfl, pre0, x, rfl, hge, ⟨v', hv, hrow, hpm⟩, hB⟩ hK
    have hc := hv.cell
    have htk : S.take m.toNat = pre0 := by
      obtain ⟨t, ht⟩ := hpre
      rw [← ht, List.append_assoc]
      have : m.toNat = pre0.length := by omega
      rw [this]
      exact List.take_left
    gi_wp2
    refine ⟨by simp, .inl ⟨_, _, rfl, run_takeDeferred hK, ?_⟩⟩
    exact ⟨_, results_tmp rfl _ _ _, v', S, rfl, hS, by rw [htk]; exact (OwnI.of_owns (ownsRow_putObj hrow _ hK rfl)).mono (by omega), ((hb1.trans (hB0.mono (by omega))).trans (hB.mono (by omega))).trans (belowK_b (w := w) (Nat.le_refl _) W D _ _ (by omega) hK rfl rfl)⟩
def PickOwn (n : Nat) (C : Nat → Nat) (l : List Int) (m : Int) (w : World) (e : Ending) (w' : World) : Prop := ∃ v R, e = .returned v ∧ OrdOf n C l R ∧ OwnI w.heap.size w' v (R.take m.toNat) ∧ Below w.heap.size w w'
theorem ppick_own (tb bm n : Nat) (C : Nat → Nat) (v : Value) (l : List Int) (m : Int) (w : World) (h : PT w tb bm n C) (hr : IRd w v l) (hl : l.length ≤ 1000000000) :
    Calls Try.prog 10 #[.pointer (some ⟨tb, 0, none⟩), v, .int .i64 m] w (PickOwn n C l m w) := by
  have hn2 := h.n2
  refine (pick_gen (some ⟨tb, 0, none⟩) v m (OrdOf n C l) (fun S hS => by have := hS.len; omega) w (fun W hW => inorder_any tb bm n C v l W (h.below hW) (hr.below hW) hl)).mono ?_
  rintro e w' ⟨v', S, rfl, h1, h2, h3⟩
  exact ⟨v', S, rfl, h1, h2, h3⟩
theorem ppick_any (tb bm n : Nat) (C : Nat → Nat) (v : Value) (l : List Int) (m : Int) (w : World) (h : PT w tb bm n C) (hr : IRd w v l) (hl : l.length ≤ 1000000000) :
    Calls Try.prog 10 #[.pointer (some ⟨tb, 0, none⟩), v, .int .i64 m] w (PickPost n C l m w) := by
  refine (ppick_own tb bm n C v l m w h hr hl).mono ?_
  rintro e w' ⟨v', R, rfl, h1, h2, h3⟩
  exact ⟨v', R, rfl, h1, h2.rd, h3⟩
theorem ppick_nil (v : Value) (l : List Int) (m : Int) (w : World) (hr : IRd w v l) (hl : l.length ≤ 1000000000) :
    Calls Try.prog 10 #[.pointer none, v, .int .i64 m] w (ColPost [] w) := by
  refine (pick_gen none v m (fun S => S = []) (fun S hS => by rw [hS]; simp) w (fun W hW => inorder_nil v l W (hr.below hW) hl)).mono ?_
  rintro e w' ⟨v', S, rfl, rfl, h2, h3⟩
  exact ⟨v', rfl, by simpa using h2, h3⟩
end Go.Proofs.Ytjlehnmcfimnfaa
