/-
  inOrder: the row that is gone over.
-/
import Derived.Test.YtjlehnmcfimnfaaLiSort2
namespace Go.Proofs.Ytjlehnmcfimnfaa
open Go.RowKit
set_option linter.unusedSimpArgs false
set_option linter.unusedVariables false

theorem OwnI.mono {B B' : Nat} {w : World} {v : Value} {l : List Int} (h : OwnI B w v l) (hb : B' ≤ B) : OwnI B' w v l := by
  rcases h with h | ⟨g, cap, cur, h1, h2, h3⟩
  · exact .inl h
  · exact .inr ⟨g, cap, cur, h1, Nat.le_trans hb h2, h3⟩
/-- A function that goes over a row: Values' closure, bound to a box that holds the row. -/
def SeqI (B : Nat) (w : World) (v : Value) (R : List Int) : Prop := ∃ pb rv, v = .func (.func 45) #[] #[.pointer (some ⟨pb, 0, none⟩)] ∧ B ≤ pb ∧ w.cell? ⟨pb, 0, none⟩ = some rv ∧ OwnI B w rv R
theorem SeqI.mono {B B' : Nat} {w : World} {v : Value} {l : List Int} (h : SeqI B w v l) (hb : B' ≤ B) : SeqI B' w v l := by
  obtain ⟨pb, rv, h1, h2, h3, h4⟩ := h
  exact ⟨pb, rv, h1, Nat.le_trans hb h2, h3, h4.mono hb⟩
theorem values_any (v : Value) (R : List Int) (B : Nat) (w : World) (h : OwnI B w v R) (hB : B ≤ w.heap.size) :
    Calls Try.prog 39 #[v] w fun e w' => ∃ v', e = .returned v' ∧ SeqI B w' v' R ∧ Below w.heap.size w w' := by
  obtain ⟨a, cap, rfl⟩ := h.rd.form
  have H := Lib.hid h
  clear h
  go_enter Try.func39, Try.ntmps39
  go_wp2
  go_ret
  have hb : Below w.heap.size w (w.alloc (.cells #[.slice a R.length cap] 25)) := (Below.refl _ _).alloc (Nat.le_refl _) _
  exact ⟨_, rfl, ⟨w.heap.size, _, rfl, hB, cell_of_row _ _ 0 _ _ (0, 0) (heap_newA _ _), H.out.below hb⟩, hb⟩

def InPost (p : Int → Bool) (n : Nat) (C : Nat → Nat) (l : List Int) (w : World) (e : Ending) (w' : World) : Prop := ∃ v' zs, e = .returned v' ∧ zs.Perm (l.filter fun x => !p x) ∧ SortedN n C zs ∧ SeqI w.heap.size w' v' (Lib.compact zs) ∧ Below w.heap.size w w'
set_option maxHeartbeats 1000000 in
theorem inorder_gen (tp : Option Addr) (p : Int → Bool) (n : Nat) (C : Nat → Nat) (v : Value) (l : List Int) (w : World) (hr : IRd w v l) (hl : l.length ≤ 1000000000)
    (hdel : ∀ (x : Int) (W : World), Below (w.heap.size + 1) (w.alloc (.cells #[.pointer tp] 26)) W → Calls Try.prog 34 #[.int .i64 x, .pointer (some ⟨w.heap.size, 0, none⟩)] W fun e w' => e = .returned (.bool (p x)) ∧ W = w')
    (hcmp : l.filter (fun x => !p x) ≠ [] → ∀ (x y : Int) (W : World), Below (w.heap.size + 1) (w.alloc (.cells #[.pointer tp] 26)) W → Calls Try.prog 36 #[.int .i64 x, .int .i64 y, .pointer (some ⟨w.heap.size, 0, none⟩)] W fun e w' => e = .returned (.int .i64 (cfN n C x y)) ∧ ∃ q os', w' = Go.Sort.grow (W.drewN q) os') :
    Calls Try.prog 28 #[.pointer tp, v] w (InPost p n C l w) := by
  obtain ⟨a, cap, rfl⟩ := hr.form
  have hlf : (l.filter fun x => !p x).length ≤ l.length := List.length_filter_le _ _
  have hb0 : Below w.heap.size w (w.alloc (.cells #[.pointer tp] 26)) := (Below.refl _ _).alloc (Nat.le_refl _) _
  have hsz : (w.alloc (.cells #[.pointer tp] 26)).heap.size = w.heap.size + 1 := by simp
  have hcl := clone_any (.slice a l.length cap) l (w.alloc (.cells #[.pointer tp] 26)) (hr.below hb0) hl
  rw [hsz] at hcl
  have HCL := Lib.hid hcl
  have HDEL := Lib.hid hdel
  have HCMP := Lib.hid hcmp
  clear hdel hcmp hr hcl
  go_enter Try.func28, Try.ntmps28
  go_upto_region 2 with (first
    | (go_at_call 33; (with_reducible refine HCL.out.mono ?_); rintro e w1 ⟨cv, rfl, ho1, hb1⟩; have HD := Lib.hid (delete_any cv l p w.heap.size (w.heap.size + 1) w1 ho1 hl (by have := hb1.size; omega) (fun x W hW => HDEL.out x W (hb1.trans hW))); clear ho1)
    | (go_at_call 32; (with_reducible refine HD.out.mono ?_); rintro e w2 ⟨dv, rfl, ho2, hb2⟩))
  have hb02 := hb1.trans hb2
  have hb2s := hb02.size
  have HS := Lib.hid (sort_any n C dv _ w.heap.size (w.heap.size + 1) w2 ho2 (by omega) (by omega) (fun hne x y W hW => HCMP.out hne x y W (hb02.trans hW)))
  clear HD ho2
  go_upto_region 3 with (go_at_call 35; (with_reducible refine HS.out.mono ?_); rintro e w3 ⟨rfl, zs, hperm, hsorted, ho3, hb3⟩)
  have hb03 := hb02.trans hb3
  have hb3s := hb03.size
  have hzl : zs.length ≤ 1000000000 := by have := hperm.length_eq; omega
  have HC := Lib.hid (compact_any dv zs (w.heap.size + 1) w3 ho3 hzl (by omega))
  have HPM := Lib.hid hperm
  have HSO := Lib.hid hsorted
  clear HS ho3 hperm hsorted
  go_wp2_with (first
    | (go_at_call 40; (with_reducible refine HC.out.mono ?_); rintro e w4 ⟨kv, rfl, hrd4, hb4⟩; have HV := Lib.hid (values_any kv (Lib.compact zs) (w.heap.size + 1) w4 hrd4 (by have := hb4.size; omega)); clear hrd4)
    | (go_at_call 39; (with_reducible refine HV.out.mono ?_); rintro e w5 ⟨sv, rfl, hseq, hb5⟩))
  go_ret
  have hb04 := hb03.trans hb4
  have hb05 := hb04.trans (hb5.mono (by have := hb04.size; rw [hsz] at this; exact this))
  refine ⟨sv, zs, rfl, HPM.out, HSO.out, hseq.mono (Nat.le_succ _), ?_⟩
  exact hb0.trans (hb05.mono (by omega))

def SeqPost (R : List Int → Prop) (w : World) (e : Ending) (w' : World) : Prop := ∃ v' S, e = .returned v' ∧ R S ∧ SeqI w.heap.size w' v' S ∧ Below w.heap.size w w'
theorem inorder_any (tb bm n : Nat) (C : Nat → Nat) (v : Value) (l : List Int) (w : World) (h : PT w tb bm n C) (hr : IRd w v l) (hl : l.length ≤ 1000000000) :
    Calls Try.prog 28 #[.pointer (some ⟨tb, 0, none⟩), v] w (SeqPost (OrdOf n C l) w) := by
  have hb0 : Below w.heap.size w (w.alloc (.cells #[.pointer (some ⟨tb, 0, none⟩)] 26)) := (Below.refl _ _).alloc (Nat.le_refl _) _
  have h0 := h.below hb0
  have hc0 : (w.alloc (.cells #[.pointer (some ⟨tb, 0, none⟩)] 26)).cell? ⟨w.heap.size, 0, none⟩ = some (.pointer (some ⟨tb, 0, none⟩)) := cell_of_row _ _ 0 _ _ (0, 0) (heap_newA _ _)
  have hsz : (w.alloc (.cells #[.pointer (some ⟨tb, 0, none⟩)] 26)).heap.size = w.heap.size + 1 := by simp
  have key : ∀ W, Below (w.heap.size + 1) (w.alloc (.cells #[.pointer (some ⟨tb, 0, none⟩)] 26)) W → PT W tb bm n C ∧ W.cell? ⟨w.heap.size, 0, none⟩ = some (.pointer (some ⟨tb, 0, none⟩)) := fun W hW => ⟨h0.below (by rw [hsz]; exact hW), (hW.cell (Nat.lt_succ_self _)).trans hc0⟩
  refine (inorder_gen (some ⟨tb, 0, none⟩) (fun x => !isN n x) n C v l w hr hl (fun x W hW => ?_) (fun _ x y W hW => ?_)).mono ?_
  · exact del1_any tb bm n _ C W (key W hW).1 (key W hW).2 x
  · exact order2_any tb bm n _ C x y W (key W hW).1 (key W hW).2
  · rintro e w' ⟨v', zs, rfl, hp, hs, hq, hb⟩
    exact ⟨v', _, rfl, ord_of_sorted n C l zs hs (by simpa using hp), hq, hb⟩
theorem inorder_nil (v : Value) (l : List Int) (w : World) (hr : IRd w v l) (hl : l.length ≤ 1000000000) :
    Calls Try.prog 28 #[.pointer none, v] w (SeqPost (fun S => S = []) w) := by
  have hc0 : (w.alloc (.cells #[.pointer none] 26)).cell? ⟨w.heap.size, 0, none⟩ = some (.pointer none) := cell_of_row _ _ 0 _ _ (0, 0) (heap_newA _ _)
  have hsz : (w.alloc (.cells #[.pointer none] 26)).heap.size = w.heap.size + 1 := by simp
  refine (inorder_gen none (fun x => true) 0 (fun _ => 0) v l w hr hl (fun x W hW => ?_) (fun hne => absurd (by simp) hne)).mono ?_
  · exact del1_nil _ W ((hW.cell (Nat.lt_succ_self _)).trans hc0) x
  · rintro e w' ⟨v', zs, rfl, hp, hs, hq, hb⟩
    have : zs = [] := by
      rw [show l.filter (fun x => !true) = [] from List.filter_eq_nil_iff.2 (fun a _ => by simp)] at hp
      exact hp.eq_nil
    subst this
    exact ⟨v', _, rfl, rfl, hq, hb⟩
end Go.Proofs.Ytjlehnmcfimnfaa
