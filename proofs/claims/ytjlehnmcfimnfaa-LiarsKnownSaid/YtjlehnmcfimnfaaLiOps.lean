/-
  The tallies' methods but Order and Pick.
-/
import Derived.Test.YtjlehnmcfimnfaaLiBase
import Derived.Deep.QuietTactic
import Derived.BigQuiet
namespace Go.Proofs.Ytjlehnmcfimnfaa
open Go.RowKit
set_option linter.unusedSimpArgs false
set_option linter.unusedVariables false

theorem cntN_yes {n : Nat} {C : Nat → Nat} {k : Nat} (h : k < n) : cntN n C (k : Int) = C k := by
  unfold cntN
  rw [if_pos ⟨by omega, by omega⟩]
  simp
theorem cntN_no {n : Nat} {C : Nat → Nat} {x : Int} (h : ¬ (0 ≤ x ∧ x < n)) : cntN n C x = 0 := if_neg h

set_option maxHeartbeats 400000 in
theorem pcount_any (tb bm n : Nat) (C : Nat → Nat) (x : Int) (w : World) (h : PT w tb bm n C) :
    Calls Try.prog 15 #[.pointer (some ⟨tb, 0, none⟩), .int .i64 x] w fun e w' => e = .returned (.int .i64 (cntN n C x : Nat)) ∧ w = w' := by
  have hn := h.n2
  obtain ⟨-, c1⟩ := h.cells
  have his := pis_any tb bm n C x w h
  by_cases hx : 0 ≤ x ∧ x < n
  · have e1 : isN n x = true := (isN_iff n x).2 hx
    rw [e1] at his
    obtain ⟨k, rfl⟩ : ∃ k : Nat, x = k := ⟨x.toNat, by omega⟩
    have hl := h.mp.look k (by omega) (by omega)
    rw [cntN_yes (by omega)]
    have HIS := Lib.hid his
    clear his e1 hx h
    go_enter Try.func15, Try.ntmps15
    go_wp2_with (go_at_call 27; refine HIS.out.mono ?_; rintro e w1 ⟨rfl, rfl⟩)
    go_ret
    exact ⟨rfl, rfl⟩
  · have e1 : isN n x = false := (isN_not n x).2 hx
    rw [e1] at his
    rw [cntN_no hx]
    have HIS := Lib.hid his
    clear his e1 hx h
    go_enter Try.func15, Try.ntmps15
    go_wp2_with (go_at_call 27; refine HIS.out.mono ?_; rintro e w1 ⟨rfl, rfl⟩)
    go_ret
    exact ⟨rfl, rfl⟩
set_option maxHeartbeats 400000 in
theorem pcount_nil (x : Int) (w : World) :
    Calls Try.prog 15 #[.pointer none, .int .i64 x] w fun e w' => e = .returned (.int .i64 0) ∧ w = w' := by
  go_enter Try.func15, Try.ntmps15
  go_wp2_with (go_at_call 27; refine (pis_nil x _).mono ?_; rintro e w1 ⟨rfl, rfl⟩)
  go_ret
  exact ⟨rfl, rfl⟩
set_option maxHeartbeats 400000 in
theorem rcount_any (tb g n : Nat) (C : Nat → Nat) (x : Int) (w : World) (h : RT w tb g n C) :
    Calls Try.prog 23 #[.pointer (some ⟨tb, 0, none⟩), .int .i64 x] w fun e w' => e = .returned (.int .i64 (cntN n C x : Nat)) ∧ w = w' := by
  have hn := h.n2
  obtain ⟨c0, hc⟩ := h.cells
  have his := ris_any tb g n C x w h
  by_cases hx : 0 ≤ x ∧ x < n
  · have e1 : isN n x = true := (isN_iff n x).2 hx
    rw [e1] at his
    obtain ⟨k, rfl⟩ : ∃ k : Nat, x = k := ⟨x.toNat, by omega⟩
    have hk : k < n := by omega
    obtain ⟨c1, -⟩ := hc k hk
    rw [cntN_yes hk]
    have HIS := Lib.hid his
    clear his e1 hx h hc
    go_enter Try.func23, Try.ntmps23
    go_wp2_with (go_at_call 30; refine HIS.out.mono ?_; rintro e w1 ⟨rfl, rfl⟩)
    go_ret
    exact ⟨rfl, rfl⟩
  · have e1 : isN n x = false := (isN_not n x).2 hx
    rw [e1] at his
    rw [cntN_no hx]
    have HIS := Lib.hid his
    clear his e1 hx h hc
    go_enter Try.func23, Try.ntmps23
    go_wp2_with (go_at_call 30; refine HIS.out.mono ?_; rintro e w1 ⟨rfl, rfl⟩)
    go_ret
    exact ⟨rfl, rfl⟩

theorem cntN_le (n : Nat) (C : Nat → Nat) (x : Int) (h : ∀ k, C k ≤ 1000000) : cntN n C x ≤ 1000000 := by
  unfold cntN
  split
  · exact h _
  · omega
set_option maxHeartbeats 400000 in
theorem pout_any (tb bm n : Nat) (C : Nat → Nat) (x : Int) (w : World) (h : PT w tb bm n C) :
    Calls Try.prog 14 #[.pointer (some ⟨tb, 0, none⟩), .int .i64 x] w fun e w' => e = .returned (.bool (decide (3 ≤ cntN n C x))) ∧ w = w' := by
  have hc := pcount_any tb bm n C x w h
  have hle := cntN_le n C x h.C2
  have HC := Lib.hid hc
  have hd : ((decide (3 ≤ cntN n C x)) : Bool) = decide ((3 : Int) ≤ (cntN n C x : Nat)) := by rw [decide_eq_decide]; omega
  rw [hd]
  obtain ⟨c, hcc⟩ : ∃ c, c = cntN n C x := ⟨_, rfl⟩
  rw [← hcc] at HC hle ⊢
  clear hc h hd hcc
  go_enter Try.func14, Try.ntmps14
  go_wp2_with (go_at_call 15; refine HC.out.mono ?_; rintro e w1 ⟨rfl, rfl⟩)
  go_ret
  exact ⟨rfl, rfl⟩
set_option maxHeartbeats 400000 in
theorem pout_nil (x : Int) (w : World) :
    Calls Try.prog 14 #[.pointer none, .int .i64 x] w fun e w' => e = .returned (.bool false) ∧ w = w' := by
  go_enter Try.func14, Try.ntmps14
  go_wp2_with (go_at_call 15; refine (pcount_nil x _).mono ?_; rintro e w1 ⟨rfl, rfl⟩)
  go_ret
  exact ⟨rfl, rfl⟩

/-- What Forget answers. -/
def fgErr (n : Nat) (x : Int) : Int := if 0 ≤ x ∧ x < n then 0 else 2
/-- What is left behind Forget. -/
def fgC (n : Nat) (C : Nat → Nat) (x : Int) : Nat → Nat := if 0 ≤ x ∧ x < n then fun j => if j = x.toNat then 0 else C j else C
def PForget (tb bm n : Nat) (C : Nat → Nat) (x : Int) (w : World) (e : Ending) (w' : World) : Prop := e = .returned (.int .i64 (fgErr n x)) ∧ PT w' tb bm n (fgC n C x) ∧ w.grownBy w' (some bm)
theorem grown_refl (w : World) (r : Option Nat) : w.grownBy w r := ⟨rfl, rfl, rfl, Nat.le_refl _, fun _ _ _ => rfl⟩
set_option maxHeartbeats 400000 in
theorem pforget_any (tb bm n : Nat) (C : Nat → Nat) (x : Int) (w : World) (h : PT w tb bm n C) :
    Calls Try.prog 18 #[.pointer (some ⟨tb, 0, none⟩), .int .i64 x] w (PForget tb bm n C x w) := by
  have hn := h.n2
  obtain ⟨-, c1⟩ := h.cells
  have his := pis_any tb bm n C x w h
  by_cases hx : 0 ≤ x ∧ x < n
  · have e1 : isN n x = true := (isN_iff n x).2 hx
    rw [e1] at his
    obtain ⟨k, rfl⟩ : ∃ k : Nat, x = k := ⟨x.toNat, by omega⟩
    have hk : k < n := by omega
    obtain ⟨w9, hrun, hm9, hg9⟩ := h.mp.del k hk (by omega) 0
    have hne : tb ≠ bm := fun e => by
      obtain ⟨D, hD, _⟩ := h.mp
      obtain ⟨es, cl, hb, _⟩ := hD
      have := h.tl
      rw [e, hb] at this
      cases this
    have H9 : Hid (PT w9 tb bm n (fgC n C (k : Int)) ∧ w.grownBy w9 (some bm)) := Lib.hid ⟨⟨h.n1, h.n2, fun j => by
        unfold fgC
        rw [if_pos hx]
        have := h.C2 j
        show (if j = _ then 0 else C j) ≤ 1000000
        split <;> omega, (hg9.block tb (lt_of_heap h.tl) (fun e => hne (by cases e; rfl))).trans h.tl, by unfold fgC; rw [if_pos hx]; simpa using hm9⟩, hg9⟩
    have HE : Hid (fgErr n (k : Int) = 0) := Lib.hid (if_pos hx)
    have HIS := Lib.hid his
    clear his e1 hx h hm9 hg9 hne
    go_enter Try.func18, Try.ntmps18
    go_wp2_with (go_at_call 27; refine HIS.out.mono ?_; rintro e w1 ⟨rfl, rfl⟩)
    go_ret
    exact ⟨by rw [HE.out] <;> rfl, H9.out⟩
  · have e1 : isN n x = false := (isN_not n x).2 hx
    rw [e1] at his
    have HIS := Lib.hid his
    have HH := Lib.hid h
    have HX := Lib.hid hx
    clear his e1 hx h
    go_enter Try.func18, Try.ntmps18
    go_wp2_with (go_at_call 27; refine HIS.out.mono ?_; rintro e w1 ⟨rfl, rfl⟩)
    go_ret
    exact ⟨by unfold fgErr; rw [if_neg HX.out] <;> rfl, by unfold fgC; rw [if_neg HX.out]; exact HH.out, grown_refl _ _⟩
set_option maxHeartbeats 400000 in
theorem pforget_nil (x : Int) (w : World) :
    Calls Try.prog 18 #[.pointer none, .int .i64 x] w fun e w' => e = .returned (.int .i64 1) ∧ w = w' := by
  go_enter Try.func18, Try.ntmps18
  go_wp2
  go_ret
  exact ⟨rfl, rfl⟩

/-- A count of the reference's is stored. -/
theorem RT.put {w : World} {tb g n : Nat} {C : Nat → Nat} (h : RT w tb g n C) {k : Nat} (hk : k < n) (v : Nat) (hv : v ≤ 1000000) : RT (w.setCell ⟨g, k, none⟩ (.int .i64 v)) tb g n (fun j => if j = k then v else C j) ∧ w.grownBy (w.setCell ⟨g, k, none⟩ (.int .i64 v)) (some g) := by
  have hne : tb ≠ g := fun e => by
    have h1 := h.tl
    have h2 := h.row
    rw [e, h2] at h1
    have h3 := Option.some.inj h1
    have h4 : (3 : Nat) = 54 := by injection h3
    exact absurd h4 (by decide)
  have hg : w.grownBy (w.setCell ⟨g, k, none⟩ (.int .i64 v)) (some g) := ⟨rfl, rfl, rfl, by simp, fun j hj hne => by
    unfold World.setCell
    simp only [Array.getElem?_modify]
    rw [if_neg (fun e => hne (by rw [e]))]⟩
  refine ⟨⟨h.n1, h.n2, fun j => ?_, (hg.block tb (lt_of_heap h.tl) (fun e => hne (by cases e; rfl))).trans h.tl, ?_⟩, hg⟩
  · have := h.C2 j
    split <;> omega
  · rw [heap_set_same h.row k _]
    congr 2
    apply Array.ext_getElem?
    intro i
    rw [Array.getElem?_setIfInBounds]
    simp only [List.getElem?_toArray, List.getElem?_map, List.size_toArray, List.length_map, List.length_range]
    by_cases hi : i < n
    · rw [List.getElem?_range hi]
      by_cases e : k = i
      · subst e
        simp [hk]
      · rw [if_neg e]
        have : ¬ i = k := fun e2 => e e2.symm
        simp [this]
    · rw [List.getElem?_eq_none (by simpa using hi)]
      have : ¬ k = i := by omega
      simp [this]
def RForget (tb g n : Nat) (C : Nat → Nat) (x : Int) (w : World) (e : Ending) (w' : World) : Prop := e = .returned (.int .i64 (fgErr n x)) ∧ RT w' tb g n (fgC n C x) ∧ w.grownBy w' (some g)
set_option maxHeartbeats 400000 in
theorem rforget_any (tb g n : Nat) (C : Nat → Nat) (x : Int) (w : World) (h : RT w tb g n C) :
    Calls Try.prog 19 #[.pointer (some ⟨tb, 0, none⟩), .int .i64 x] w (RForget tb g n C x w) := by
  have hn := h.n2
  obtain ⟨c0, hc⟩ := h.cells
  have his := ris_any tb g n C x w h
  by_cases hx : 0 ≤ x ∧ x < n
  · have e1 : isN n x = true := (isN_iff n x).2 hx
    rw [e1] at his
    obtain ⟨k, rfl⟩ : ∃ k : Nat, x = k := ⟨x.toNat, by omega⟩
    have hk : k < n := by omega
    obtain ⟨c1, f1⟩ := hc k hk
    have hp := h.put hk 0 (by omega)
    have HP : Hid (RT (w.setCell ⟨g, k, none⟩ (.int .i64 0)) tb g n (fgC n C (k : Int)) ∧ w.grownBy (w.setCell ⟨g, k, none⟩ (.int .i64 0)) (some g)) := Lib.hid ⟨by unfold fgC; rw [if_pos hx]; simpa using hp.1, hp.2⟩
    have HE : Hid (fgErr n (k : Int) = 0) := Lib.hid (if_pos hx)
    have HIS := Lib.hid his
    clear his e1 hx h hc hp
    go_enter Try.func19, Try.ntmps19
    go_wp2_with (go_at_call 30; refine HIS.out.mono ?_; rintro e w1 ⟨rfl, rfl⟩)
    go_ret
    exact ⟨by rw [HE.out] <;> rfl, HP.out⟩
  · have e1 : isN n x = false := (isN_not n x).2 hx
    rw [e1] at his
    have HIS := Lib.hid his
    have HH := Lib.hid h
    have HX := Lib.hid hx
    clear his e1 hx h hc
    go_enter Try.func19, Try.ntmps19
    go_wp2_with (go_at_call 30; refine HIS.out.mono ?_; rintro e w1 ⟨rfl, rfl⟩)
    go_ret
    exact ⟨by unfold fgErr; rw [if_neg HX.out] <;> rfl, by unfold fgC; rw [if_neg HX.out]; exact HH.out, grown_refl _ _⟩
end Go.Proofs.Ytjlehnmcfimnfaa
