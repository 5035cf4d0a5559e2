/-
  The program's Permits.
-/
import Derived.Test.YtggecoekoilahaaIdPKey
namespace Go.Proofs.Ytggecoekoilahaa
open Go.RowKit
set_option linter.unusedSimpArgs false
set_option linter.unusedVariables false

set_option maxHeartbeats 1000000 in
theorem index_perm (v : Value) (l : List RC) (p : RC → Bool) (kb : Nat) (w : World) (h : RowRd w v l) (hl : l.length ≤ 1000)
    (hp : ∀ (c : RC) (W : World), Below w.heap.size w W → Calls Try.prog 22 #[c.val, .pointer (some ⟨kb, 0, none⟩)] W fun e w' => e = .returned (.bool (p c)) ∧ Below W.heap.size W w') :
    Calls Try.prog 32 #[v, .func (.func 22) #[] #[.pointer (some ⟨kb, 0, none⟩)]] w (IdxPost l p w) := by
  obtain ⟨a, cap, rfl⟩ := h.form
  have H := Lib.hid h
  have HP := Lib.hid hp
  clear h hp
  go_enter Try.func32, Try.ntmps32
  go_wp2
  go_loopw [8] (fun i wr => ∃ I : Nat, I ≤ l.length ∧ i = .int .i64 I ∧ Below w.heap.size w wr ∧ Hid (∀ i c, i < I → l[i]? = some c → p c = false)) (fun i _ => l.length - (intOf i).toNat)
  case atStart => exact ⟨0, by omega, rfl, Below.refl _ _, Lib.hid (fun i c hi => by omega)⟩
  case round =>
    obtain ⟨I, hI, rfl, hB, hN⟩ := hrel
    by_cases hlt : I < l.length
    · obtain ⟨c, hc⟩ : ∃ c, l[I]? = some c := ⟨_, List.getElem?_eq_getElem hlt⟩
      obtain ⟨-, b, o, rfl, hb, c0, c1, c2, c3, c4, c5, c6, c7⟩ := RowRd.at (H.out.below hB) hc
      have HC := Lib.hid hc
      have HCALL := Lib.hid (HP.out c wr hB)
      clear hc
      obtain ⟨pc, hpc⟩ : ∃ x, x = p c := ⟨_, rfl⟩
      rw [← hpc] at HCALL
      have HPC := Lib.hid hpc
      clear hpc
      go_wp2_with (go_at_call 22; (with_reducible refine HCALL.out.mono ?_); rintro e wc ⟨rfl, hbc⟩; cases pc)
      all_goals have hB2 := hB.trans (hbc.mono hB.size)
      · have HN2 : Hid (∀ i c', i < I + 1 → l[i]? = some c' → p c' = false) := Lib.hid (fun i c' hi hc' => by
          by_cases e : i = I
          · subst e
            have : c' = c := by have := HC.out; rw [hc'] at this; exact Option.some.inj this
            subst this
            exact HPC.out.symm
          · exact hN.out i c' (by omega) hc')
        go_roundw
        case rel => exact ⟨I + 1, by omega, by go_num, hB2, HN2⟩
        case measure => simp [intOf]; omega
      · go_ret
        exact ⟨I, rfl, hB2, .inr ⟨I, rfl, hlt, hN.out, fun c' hc' => by
          have : c' = c := by have := HC.out; rw [hc'] at this; exact Option.some.inj this
          subst this
          exact HPC.out.symm⟩⟩
    · obtain rfl : I = l.length := by omega
      go_wp2
      go_ret
      exact ⟨-1, rfl, hB, .inl ⟨rfl, fun i c hc => hN.out i c (by rcases Nat.lt_or_ge i l.length with h | h; exact h; rw [List.getElem?_eq_none h] at hc; cases hc) hc⟩⟩

set_option maxHeartbeats 1000000 in
theorem perm1_any (c : RC) (v : Value) (l : List CM) (kb : Nat) (w W : World) (h : RowRd w v (rcs l)) (hl : l.length ≤ 1000) (hr : AllRd w l) (hR : rightM (rcs l)) (hb : Below w.heap.size w W) (hc : W.cell? ⟨kb, 0, none⟩ = some v) (hkb : kb < W.heap.size) :
    Calls Try.prog 22 #[c.val, .pointer (some ⟨kb, 0, none⟩)] W fun e w' => e = .returned (.bool (!goesKey l c.key)) ∧ Below W.heap.size W w' := by
  have HOF := Lib.hid (fun W' (hb' : Below W.heap.size W W') => of_any v (rcs l) c.key W' (h.below (hb.trans (hb'.mono hb.size))) (by rw [rcs_length]; omega))
  obtain ⟨g, hg⟩ : ∃ g, g = goesKey l c.key := ⟨_, rfl⟩
  have HAT := Lib.hid (ofatom l c.key w hr)
  rw [← hg] at HAT ⊢
  have hlen : (ofM l c.key).length ≤ 10 := ofM_ten hR
  have HLEN := Lib.hid hlen
  have HB := Lib.hid hb
  clear h hr hR hlen hb hg
  obtain ⟨cl, kd, key, va, vl, vc, fr, to, co, ga, gl, gc⟩ := c
  simp only [RC.val] at *
  go_enter Try.func22, Try.ntmps22
  go_wp2_with (first | (go_at_call 24; refine (HOF.out _ ((Below.refl _ _).alloc (Nat.le_refl _) _)).mono ?_; rintro e wd ⟨v', rfl, hr, hbd⟩; have HR2 := Lib.hid hr; clear hr; have hbW : Below W.heap.size W wd := ((Below.refl _ _).alloc (Nat.le_refl _) _).trans (hbd.mono (by simp))) | (go_at_call 23; (with_reducible refine (HAT.out _ _ HR2.out (HB.out.trans (hbW.mono HB.out.size)) HLEN.out).mono ?_); rintro e we ⟨rfl, hbe⟩))
  go_ret
  exact ⟨rfl, hbW.trans (hbe.mono hbW.size)⟩

set_option maxHeartbeats 1000000 in
theorem contains_perm (v : Value) (l : List CM) (kb : Nat) (w W : World) (h : RowRd w v (rcs l)) (hl : l.length ≤ 1000) (hr : AllRd w l) (hR : rightM (rcs l)) (hb : Below w.heap.size w W) (hc : W.cell? ⟨kb, 0, none⟩ = some v) (hkb : kb < W.heap.size) :
    Calls Try.prog 21 #[v, .func (.func 22) #[] #[.pointer (some ⟨kb, 0, none⟩)]] W fun e w' => e = .returned (.bool (!l.all fun m => goesKey l m.c.key)) ∧ Below W.heap.size W w' := by
  have HIDX := Lib.hid (index_perm v (rcs l) (fun c => !goesKey l c.key) kb W (h.below hb) (by rw [rcs_length]; omega) (fun c W' hb' => perm1_any c v l kb w W' h hl hr hR (hb.trans (hb'.mono hb.size)) ((hb'.cell (p := ⟨kb, 0, none⟩) hkb).trans hc) (Nat.lt_of_lt_of_le hkb hb'.size)))
  clear h hr hR hb hc
  go_enter Try.func21, Try.ntmps21
  go_wp2_with (go_at_call 32; (with_reducible refine HIDX.out.mono ?_); rintro e w1 ⟨r, rfl, hb1, hr⟩; have HR := Lib.hid hr; clear hr)
  go_ret
  refine ⟨?_, hb1⟩
  have key : decide ((0 : Int) ≤ r) = !l.all fun m => goesKey l m.c.key := by
    rcases HR.out with ⟨h1, h2⟩ | ⟨I, h1, h2, h3, h4⟩
    · have : (l.all fun m => goesKey l m.c.key) = true := by
        rw [List.all_eq_true]
        intro m hm
        obtain ⟨i, hi⟩ := List.getElem?_of_mem hm
        have := h2 i m.c (rcs_at hi)
        simpa using this
      rw [this, h1]
      rfl
    · rw [rcs_length] at h2
      have hm : l[I]? = some l[I] := List.getElem?_eq_getElem h2
      have h5 := h4 _ (rcs_at hm)
      have : (l.all fun m => goesKey l m.c.key) = false := by
        rw [List.all_eq_false]
        exact ⟨l[I], List.getElem_mem h2, by simpa using h5⟩
      rw [this]
      exact decide_eq_true (by omega)
  rw [← key]
  rfl

set_option maxRecDepth 100000 in
set_option maxHeartbeats 1000000 in
theorem permits_any (v : Value) (l : List CM) (w : World) (h : RowRd w v (rcs l)) (hl : l.length ≤ 1000) (hr : AllRd w l) (hk : KeysOk l) :
    Calls Try.prog 8 #[v] w (RetB (rightM (rcs l) ∧ ∀ m ∈ l, goesKey l m.c.key = true) w) := by
  obtain ⟨a, cap, rfl⟩ := h.form
  have hB0 : Below w.heap.size w (w.alloc (.cells #[.slice a (rcs l).length cap] 22)) := (Below.refl _ _).alloc (Nat.le_refl _) _
  have hX := heap_newA w (.cells #[.slice a (rcs l).length cap] 22)
  have HRI := Lib.hid (right_any (.slice a (rcs l).length cap) (rcs l) _ (h.below hB0) (by rw [rcs_length]; omega) hk.rcs)
  have HCF := Lib.hid (fun (hR : rightM (rcs l)) W (hb : Below (w.alloc (.cells #[.slice a (rcs l).length cap] 22)).heap.size (w.alloc (.cells #[.slice a (rcs l).length cap] 22)) W) =>
    contains_perm (.slice a (rcs l).length cap) l w.heap.size w W h hl hr hR (hB0.trans (hb.mono hB0.size)) ((hb.cell (p := ⟨w.heap.size, 0, none⟩) (by simp)).trans (cell_of_row _ w.heap.size 0 _ _ (0, 0) hX)) (by have := hb.size; simp at this; omega))
  have HB0 := Lib.hid hB0
  have HX := Lib.hid hX
  obtain ⟨g, hg⟩ : ∃ g, g = l.all fun m => goesKey l m.c.key := ⟨_, rfl⟩
  rw [← hg] at HCF
  have HG := Lib.hid hg
  clear h hr hk hB0 hX hg
  obtain ⟨W0, hW0⟩ : ∃ W0, W0 = w.alloc (.cells #[.slice a (rcs l).length cap] 22) := ⟨_, rfl⟩
  rw [← hW0] at HRI HCF HB0 HX
  have HW0 := Lib.hid hW0
  clear hW0
  go_enter Try.func8, Try.ntmps8
  go_upto_region 1 with fail
  rw [← HW0.out]
  have c0 : W0.cell? ⟨w.heap.size, 0, none⟩ = some (.slice a (rcs l).length cap) := cell_of_row _ w.heap.size 0 _ _ (0, 0) HX.out
  have hb0 := lt_of_heap HX.out
  generalize hq : w.heap.size = q at *
  have HQ := Lib.hid hq
  clear hq
  refine wp_region_units (.step 0 (.step 1 (.step 2 (.unit 2 true (.step 3 (.step 4 (.step 5 (.step 6 .done)))) 7 6 (.step 8 .done))))) (by kernel_rfl) (by kernel_rfl) ?_
  simp only [mkUT, dstOf, bare, Oper.slim, List.contains_cons, List.contains_nil, Option.map_none, Option.map_some, List.getElem?_toArray, List.getElem?_cons_zero, List.getElem?_cons_succ, Option.bind_some, beq_self_eq_true, Bool.or_false, Nat.reduceBEq, Nat.reduceAdd, Nat.zero_add, Option.getD_some, Option.isSome_some, Option.isSome_none, Bool.false_and, Bool.true_and, Bool.false_eq_true, if_false, if_true, Option.some_beq_some, Option.some_beq_none, Option.none_beq_some, reduceCtorEq, ite_true, ite_false]
  repeat ((with_reducible refine wpUT_step (fun K hK => ?_)); go_simp; first | (refine hK _ _ ?_; clear hK K) | (refine ⟨by (intro kk hkk; first | exact hkk.elim | (simp (disch := (simp; omega)) only [hp_drew, hp_drewN, hp_alloc, hp_set]; done) | (simp [hp_drew, hp_drewN, hp_alloc_if, hkk]; done) | fail), hK _ _ ?_⟩; clear hK K)| (go_at_call 13; (with_reducible refine HRI.out.mono ?_); rintro e wc ⟨rb, rfl, hrb, hbc⟩; have HRB := Lib.hid hrb; clear hrb; have c1 := (hbc.cell (p := ⟨q, 0, none⟩) hb0).trans c0; have hb1 := Nat.lt_of_lt_of_le hb0 hbc.size; refine ⟨_, rfl, (fun kk hkk => hkk.elim), hK _ _ ?_⟩; clear hK K) | (go_at_call 21; (with_reducible refine (HCF.out (HRB.out.1 hgd) _ hbc).mono ?_); rintro e wd ⟨rfl, hbd⟩; refine ⟨_, rfl, (fun kk hkk => hkk.elim), hK _ _ ?_⟩; clear hK K))
  refine wpUT_unit_below (x := ?_) (by rfl) ?_ ?_
  rotate_left
  · intro hgd
    repeat ((with_reducible refine wpUT_step (fun K hK => ?_)); go_simp; first | (refine hK _ _ ?_; clear hK K) | (refine ⟨by (intro kk hkk; first | exact hkk.elim | (simp (disch := (simp; omega)) only [hp_drew, hp_drewN, hp_alloc, hp_set]; done) | (simp [hp_drew, hp_drewN, hp_alloc_if, hkk]; done) | fail), hK _ _ ?_⟩; clear hK K)| (go_at_call 13; (with_reducible refine HRI.out.mono ?_); rintro e wc ⟨rb, rfl, hrb, hbc⟩; have HRB := Lib.hid hrb; clear hrb; have c1 := (hbc.cell (p := ⟨q, 0, none⟩) hb0).trans c0; have hb1 := Nat.lt_of_lt_of_le hb0 hbc.size; refine ⟨_, rfl, (fun kk hkk => hkk.elim), hK _ _ ?_⟩; clear hK K) | (go_at_call 21; (with_reducible refine (HCF.out (HRB.out.1 hgd) _ hbc).mono ?_); rintro e wd ⟨rfl, hbd⟩; refine ⟨_, rfl, (fun kk hkk => hkk.elim), hK _ _ ?_⟩; clear hK K))
    exact wpUT_done ⟨by rfl, by (repeat' (first | (with_reducible exact RowKit.Below.refl _ _) | (with_reducible assumption) | (with_reducible refine RowKit.Below.drew ?_) | (with_reducible refine RowKit.Below.alloc ?_ ?_ _) | omega | (simp; done) | (simp; omega)))⟩
  intro js wu hbu
  simp only [UT.dsts, junk, SOp.dst, Option.toList_some, Option.toList_none, List.cons_append, List.nil_append, List.append_nil, cond_true, cond_false]
  repeat ((with_reducible refine wpUT_step (fun K hK => ?_)); go_simp; first | (refine hK _ _ ?_; clear hK K) | (refine ⟨by (intro kk hkk; first | exact hkk.elim | (simp (disch := (simp; omega)) only [hp_drew, hp_drewN, hp_alloc, hp_set]; done) | (simp [hp_drew, hp_drewN, hp_alloc_if, hkk]; done) | fail), hK _ _ ?_⟩; clear hK K)| (go_at_call 13; (with_reducible refine HRI.out.mono ?_); rintro e wc ⟨rb, rfl, hrb, hbc⟩; have HRB := Lib.hid hrb; clear hrb; have c1 := (hbc.cell (p := ⟨q, 0, none⟩) hb0).trans c0; have hb1 := Nat.lt_of_lt_of_le hb0 hbc.size; refine ⟨_, rfl, (fun kk hkk => hkk.elim), hK _ _ ?_⟩; clear hK K) | (go_at_call 21; (with_reducible refine (HCF.out (HRB.out.1 hgd) _ hbc).mono ?_); rintro e wd ⟨rfl, hbd⟩; refine ⟨_, rfl, (fun kk hkk => hkk.elim), hK _ _ ?_⟩; clear hK K))
  refine wpUT_done ?_
  go_wp2
  go_ret
  refine ⟨_, rfl, ?_, ?_⟩
  · rw [Bool.and_eq_true, HRB.out, HG.out]
    simp
  · have := HB0.out
    rw [HQ.out]
    exact this.trans ((hbc.trans (hbu.mono hbc.size)).mono (by omega))
end Go.Proofs.Ytggecoekoilahaa
