/-
  The program's Right.
-/
import Derived.Test.YtggecoekoilahaaIdRightPlain
import Derived.Test.YtggecoekoilahaaIdCnt
import Derived.Test.YtggecoekoilahaaIdOf2
import Derived.IntWalk
namespace Go.Proofs.Ytggecoekoilahaa
open Go.RowKit
set_option linter.unusedSimpArgs false
set_option linter.unusedVariables false

set_option maxRecDepth 100000 in
set_option maxHeartbeats 2000000 in
theorem right_any (v : Value) (l : List RC) (w : World) (h : RowRd w v l) (hl : l.length ≤ 1000) (hk : ∀ c ∈ l, c.key.size ≤ maxLen) :
    Calls Try.prog 13 #[v] w (RetB (rightM l) w) := by
  obtain ⟨a, cap, rfl⟩ := h.form
  have H := Lib.hid h
  have HK := Lib.hid hk
  clear h hk
  have hmm := @run_makeMap Try.prog
  go_enter Try.func13, Try.ntmps13
  go_wp2
  clear hmm
  have HC0 := Lib.hid (CntIs.made w)
  generalize hgB : w.heap.size = B at *
  have HGB := Lib.hid hgB
  clear hgB
  go_loopw [13] (fun i wr => ∃ I : Nat, I ≤ l.length ∧ i = .int .i64 I ∧ Below B w wr ∧ Hid (CntIs wr B I (fun s => (cntKey (l.take I) s : Nat))) ∧ Hid (GoodUpto l I)) (fun i _ => l.length - (intOf i).toNat)
  case atStart => exact ⟨0, by omega, rfl, by have := HGB.out; subst this; exact (Below.refl _ _).alloc (Nat.le_refl _) _, HC0, Lib.hid (fun i c hi => by omega)⟩
  case round =>
    obtain ⟨I, hI, rfl, hB, hC, hG⟩ := hrel
    by_cases hlt : I < l.length
    · obtain ⟨c, hc⟩ : ∃ c, l[I]? = some c := ⟨_, List.getElem?_eq_getElem hlt⟩
      obtain ⟨-, b, o, rfl, hb, c0, c1, c2, c3, c4, c5, c6, c7⟩ := (H.out.below (by have := HGB.out; subst this; exact hB)).at hc
      have HC := Lib.hid hc
      clear hc
      go_upto_region 5 with fail
      generalize hw2 : wr.alloc (.cells #[.int .i64 c.cl, .int .u8 c.kd, .string c.key, .slice c.va c.vl c.vc, .int .i64 c.fr, .int .i64 c.to, .int .i64 c.co, .slice c.ga c.gl c.gc] 30) = W
      have hBW : Below B w W := by rw [← hw2]; exact hB.alloc (by have := hB.size; have := HGB.out; omega) _
      have hX : W.heap[wr.heap.size]? = some (.cells #[.int .i64 c.cl, .int .u8 c.kd, .string c.key, .slice c.va c.vl c.vc, .int .i64 c.fr, .int .i64 c.to, .int .i64 c.co, .slice c.ga c.gl c.gc] 30) := by rw [← hw2]; exact heap_newA _ _
      have hCW : CntIs W B I (fun s => (cntKey (l.take I) s : Nat)) := hC.out.kept (row := none) (by rw [← hw2]; exact World.grownBy_alloc _ _ _) (by simp)
      obtain ⟨x0, x1, x2, x3, x4, x5, x6, x7⟩ := cells8 hX
      have hbx := lt_of_heap hX
      have hB5 : B < wr.heap.size := hC.out.lt
      have HX := Lib.hid hX
      have HCW := Lib.hid hCW
      clear hw2 hX hCW hC hB hb c0 c1 c2 c3 c4 c5 c6 c7
      generalize wr.heap.size = B5 at *
      clear wr
      refine wp_region_units (.step 0 (.step 1 (.step 2 (.step 3 (.unit 3 false (.step 4 (.step 5 (.step 6 .done))) 7 6 (.step 8 (.unit 8 false (.step 9 (.step 10 (.step 11 .done))) 12 11 (.step 13 (.unit 13 false (.step 14 (.step 15 (.step 16 (.step 17 (.unit 17 true (.step 18 (.step 19 (.step 20 (.step 21 (.step 22 .done))))) 23 22 .done))))) 24 23 .done))))))))) (by kernel_rfl) (by kernel_rfl) ?_
      simp only [mkUT, dstOf, bare, Oper.slim, List.contains_cons, List.contains_nil, Option.map_none, Option.map_some, List.getElem?_toArray, List.getElem?_cons_zero, List.getElem?_cons_succ, Option.bind_some, beq_self_eq_true, Bool.or_false, Nat.reduceBEq, Nat.reduceAdd, Nat.zero_add, Option.getD_some, Option.isSome_some, Option.isSome_none, Bool.false_and, Bool.true_and, Bool.false_eq_true, if_false, if_true, Option.some_beq_some, Option.some_beq_none, Option.none_beq_some, reduceCtorEq, ite_true, ite_false]
      repeat ((with_reducible refine wpUT_step (fun K hK => ?_)); go_simp; first | (refine hK _ _ ?_; clear hK K) | (refine ⟨by (intro kk hkk; first | exact hkk.elim | (simp (disch := (simp; omega)) only [hp_drew, hp_drewN, hp_alloc, hp_set]; done) | (simp [hp_drew, hp_drewN, hp_alloc_if, hkk]; done) | fail), hK _ _ ?_⟩; clear hK K))
      refine wpUT_unit (x := ?_) (by rfl) ?_ ?_
      rotate_left
      · intro hgd
        repeat ((with_reducible refine wpUT_step (fun K hK => ?_)); go_simp; first | (refine hK _ _ ?_; clear hK K) | (refine ⟨by (intro kk hkk; first | exact hkk.elim | (simp (disch := (simp; omega)) only [hp_drew, hp_drewN, hp_alloc, hp_set]; done) | (simp [hp_drew, hp_drewN, hp_alloc_if, hkk]; done) | fail), hK _ _ ?_⟩; clear hK K))
        exact wpUT_done ⟨by rfl, rfl⟩
      intro js
      simp only [UT.dsts, junk, SOp.dst, Option.toList_some, Option.toList_none, List.cons_append, List.nil_append, List.append_nil, cond_true, cond_false]
      repeat ((with_reducible refine wpUT_step (fun K hK => ?_)); go_simp; first | (refine hK _ _ ?_; clear hK K) | (refine ⟨by (intro kk hkk; first | exact hkk.elim | (simp (disch := (simp; omega)) only [hp_drew, hp_drewN, hp_alloc, hp_set]; done) | (simp [hp_drew, hp_drewN, hp_alloc_if, hkk]; done) | fail), hK _ _ ?_⟩; clear hK K))
      refine wpUT_unit (x := ?_) (by rfl) ?_ ?_
      rotate_left
      · intro hgd
        repeat ((with_reducible refine wpUT_step (fun K hK => ?_)); go_simp; first | (refine hK _ _ ?_; clear hK K) | (refine ⟨by (intro kk hkk; first | exact hkk.elim | (simp (disch := (simp; omega)) only [hp_drew, hp_drewN, hp_alloc, hp_set]; done) | (simp [hp_drew, hp_drewN, hp_alloc_if, hkk]; done) | fail), hK _ _ ?_⟩; clear hK K))
        exact wpUT_done ⟨by rfl, rfl⟩
      intro js
      simp only [UT.dsts, junk, SOp.dst, Option.toList_some, Option.toList_none, List.cons_append, List.nil_append, List.append_nil, cond_true, cond_false]
      repeat ((with_reducible refine wpUT_step (fun K hK => ?_)); go_simp; first | (refine hK _ _ ?_; clear hK K) | (refine ⟨by (intro kk hkk; first | exact hkk.elim | (simp (disch := (simp; omega)) only [hp_drew, hp_drewN, hp_alloc, hp_set]; done) | (simp [hp_drew, hp_drewN, hp_alloc_if, hkk]; done) | fail), hK _ _ ?_⟩; clear hK K))
      refine wpUT_unit (x := ?_) (by rfl) ?_ ?_
      rotate_left
      · intro hgd
        repeat ((with_reducible refine wpUT_step (fun K hK => ?_)); go_simp; first | (refine hK _ _ ?_; clear hK K) | (refine ⟨by (intro kk hkk; first | exact hkk.elim | (simp (disch := (simp; omega)) only [hp_drew, hp_drewN, hp_alloc, hp_set]; done) | (simp [hp_drew, hp_drewN, hp_alloc_if, hkk]; done) | fail), hK _ _ ?_⟩; clear hK K))
        refine wpUT_unit (x := ?_) (by rfl) ?_ ?_
        rotate_left
        · intro hgd
          repeat ((with_reducible refine wpUT_step (fun K hK => ?_)); go_simp; first | (refine hK _ _ ?_; clear hK K) | (refine ⟨by (intro kk hkk; first | exact hkk.elim | (simp (disch := (simp; omega)) only [hp_drew, hp_drewN, hp_alloc, hp_set]; done) | (simp [hp_drew, hp_drewN, hp_alloc_if, hkk]; done) | fail), hK _ _ ?_⟩; clear hK K))
          exact wpUT_done ⟨by rfl, rfl⟩
        intro js
        simp only [UT.dsts, junk, SOp.dst, Option.toList_some, Option.toList_none, List.cons_append, List.nil_append, List.append_nil, cond_true, cond_false]
        try go_simp
        exact wpUT_done ⟨by rfl, rfl⟩
      intro js
      simp only [UT.dsts, junk, SOp.dst, Option.toList_some, Option.toList_none, List.cons_append, List.nil_append, List.append_nil, cond_true, cond_false]
      try go_simp
      refine wpUT_done ?_
      try go_simp
      obtain ⟨bad, hbad⟩ : ∃ x, x = c.bad := ⟨_, rfl⟩
      rw [show (((decide (c.kd < 1) || decide (3 < c.kd)) || decide (c.fr < 0)) || (c.to != -1 && decide (c.to ≤ c.fr))) = bad from hbad.symm]
      have HBAD := Lib.hid hbad
      clear hbad
      have hWw : Below w.heap.size w W := by have := HGB.out; subst this; exact hBW
      cases bad
      case true =>
        go_wp2
        go_ret
        exact ⟨false, rfl, ⟨(fun h => (by cases h)), fun hr => absurd (hr I c HC.out).1 (by rw [← HBAD.out]; decide)⟩, hWw⟩
      case false =>
        have HCALL := Lib.hid (counts_any c W)
        have hcs := cntKey_succ l c.key I c HC.out
        have hcl := cntKey_le (l.take I) c.key
        have htk : (l.take I).length ≤ I := List.length_take_le _ _
        have hks : c.key.size ≤ maxLen := HK.out c (List.mem_of_getElem? HC.out)
        obtain ⟨cn, hcn⟩ : ∃ x, x = c.counts := ⟨_, rfl⟩
        rw [← hcn] at HCALL hcs
        have HCN := Lib.hid hcn
        have HCS := Lib.hid hcs
        have HKS := Lib.hid hks
        clear hcn hcs hks
        have hN0 : cntKey (l.take I) c.key ≤ 1000 := by omega
        cases cn
        · have hN1 : cntKey (l.take (I + 1)) c.key = cntKey (l.take I) c.key := by rw [HCS.out]; simp
          have hsame : ∀ s, cntKey (l.take (I + 1)) s = cntKey (l.take I) s := fun s => by rw [cntKey_succ l s I c HC.out, ← HCN.out]; simp
          have HSAME := Lib.hid hsame
          have HN1 := Lib.hid hN1
          clear hsame hN1 hcl htk
          by_cases h10 : cntKey (l.take I) c.key ≤ 10
          · have f1 : decide ((10 : Int) < (cntKey (l.take I) c.key : Int)) = false := decide_eq_false (by omega)
            have HG2 := Lib.hid (hG.out.next HC.out HBAD.out.symm (by rw [HN1.out]; exact h10))
            clear h10
            go_wp2_with (go_at_call 11; (with_reducible refine HCALL.out.mono ?_); rintro e wc ⟨rfl, hbc⟩; have hlook := (HCW.out.below hbc).look c.key HKS.out; obtain ⟨y0, y1, y2, y3, y4, y5, y6, y7⟩ := cells8 ((hbc.block _ hbx).trans HX.out); have HBC := Lib.hid hbc; clear hbc)
            have HB2 := Lib.hid (hBW.trans (HBC.out.mono (by have := hBW.size; have := HCW.out.lt; omega)))
            have HC2 : Hid (CntIs wc B (I + 1) (fun s => (cntKey (l.take (I + 1)) s : Nat))) := Lib.hid (((HCW.out.below HBC.out).mono (by omega)).same (fun s => by rw [HSAME.out s]))
            clear hlook y0 y1 y2 y3 y4 y5 y6 y7
            go_roundw
            case rel => exact ⟨I + 1, by omega, by go_num, HB2.out, HC2, HG2⟩
            case measure => simp [intOf]; omega
          · have f1 : decide ((10 : Int) < (cntKey (l.take I) c.key : Int)) = true := decide_eq_true (by omega)
            have H11 := Lib.hid h10
            clear h10
            go_wp2_with (go_at_call 11; (with_reducible refine HCALL.out.mono ?_); rintro e wc ⟨rfl, hbc⟩; have hlook := (HCW.out.below hbc).look c.key HKS.out; obtain ⟨y0, y1, y2, y3, y4, y5, y6, y7⟩ := cells8 ((hbc.block _ hbx).trans HX.out); have HBC := Lib.hid hbc; clear hbc)
            go_ret
            refine ⟨false, rfl, ⟨(fun h => (by cases h)), fun hr => ?_⟩, hWw.trans (HBC.out.mono hWw.size)⟩
            exact absurd (Nat.le_trans (cntKey_mono l c.key I) (hr I c HC.out).2.2) H11.out
        · have hN1 : cntKey (l.take (I + 1)) c.key = cntKey (l.take I) c.key + 1 := by rw [HCS.out]; simp
          have hsame : ∀ s : ByteArray, (if s.toList = c.key.toList then ((cntKey (l.take I) c.key : Int) + 1) else (cntKey (l.take I) s : Int)) = (cntKey (l.take (I + 1)) s : Nat) := fun s => by
            by_cases e : s.toList = c.key.toList
            · rw [if_pos e, cntKey_same _ s c.key e, hN1]; rfl
            · rw [if_neg e, cntKey_succ l s I c HC.out, if_neg (by simp; intro h; exact absurd h.symm e)]
              rfl
          have hwf : (Lit.int .i64 ((cntKey (l.take I) c.key : Int) + 1)).wf = true := by simp [Lit.wf, IntKind.min, IntKind.max, IntKind.bits, IntKind.signed]; omega
          have HSAME := Lib.hid hsame
          have HWF := Lib.hid hwf
          clear hsame hwf hcl htk
          have hput := fun wc (hbc : Below W.heap.size W wc) => (HCW.out.below hbc).put (by unfold maxLen; omega) c.key HKS.out ((cntKey (l.take I) c.key : Int) + 1) HWF.out
          have HPUT := Lib.hid hput
          have HN1 := Lib.hid hN1
          clear hput
          by_cases h10 : cntKey (l.take (I + 1)) c.key ≤ 10
          · have f1 : decide ((10 : Int) < (cntKey (l.take (I + 1)) c.key : Int)) = false := decide_eq_false (by omega)
            have HG2 := Lib.hid (hG.out.next HC.out HBAD.out.symm h10)
            clear h10 hN1
            go_wp2_with (go_at_call 11; (with_reducible refine HCALL.out.mono ?_); rintro e wc ⟨rfl, hbc⟩; have hlook := (HCW.out.below hbc).look c.key HKS.out; obtain ⟨w9, hp9, hc9, hg9⟩ := HPUT.out wc hbc; have hX9 := (hbc.block _ hbx).trans HX.out; obtain ⟨y0, y1, y2, y3, y4, y5, y6, y7⟩ := cells8 hX9; have HC9 := Lib.hid (hc9.same HSAME.out); have hlook9 := HC9.out.look c.key HKS.out; obtain ⟨u0, u1, u2, u3, u4, u5, u6, u7⟩ := cells8 (gb_block hg9 hX9 (by omega)); have HBC := Lib.hid hbc; have HG9 := Lib.hid hg9; clear hbc hg9 hc9 hX9)
            have HB2 := Lib.hid ((hBW.trans (HBC.out.mono (by have := hBW.size; have := HCW.out.lt; omega))).grown HG9.out (by have := hBW.size; have := HBC.out.size; have := HCW.out.lt; omega) (fun k hk => by cases hk; exact Nat.le_refl _))
            clear hlook hlook9 hp9 y0 y1 y2 y3 y4 y5 y6 y7 u0 u1 u2 u3 u4 u5 u6 u7
            go_roundw
            case rel => exact ⟨I + 1, by omega, by go_num, HB2.out, HC9, HG2⟩
            case measure => simp [intOf]; omega
          · have f1 : decide ((10 : Int) < (cntKey (l.take (I + 1)) c.key : Int)) = true := decide_eq_true (by omega)
            have H11 := Lib.hid h10
            clear h10 hN1
            go_wp2_with (go_at_call 11; (with_reducible refine HCALL.out.mono ?_); rintro e wc ⟨rfl, hbc⟩; have hlook := (HCW.out.below hbc).look c.key HKS.out; obtain ⟨w9, hp9, hc9, hg9⟩ := HPUT.out wc hbc; have hX9 := (hbc.block _ hbx).trans HX.out; obtain ⟨y0, y1, y2, y3, y4, y5, y6, y7⟩ := cells8 hX9; have HC9 := Lib.hid (hc9.same HSAME.out); have hlook9 := HC9.out.look c.key HKS.out; obtain ⟨u0, u1, u2, u3, u4, u5, u6, u7⟩ := cells8 (gb_block hg9 hX9 (by omega)); have HBC := Lib.hid hbc; have HG9 := Lib.hid hg9; clear hbc hg9 hc9 hX9)
            go_ret
            refine ⟨false, rfl, ⟨(fun h => (by cases h)), fun hr => ?_⟩, (hWw.trans (HBC.out.mono hWw.size)).grown HG9.out (by have := hWw.size; have := HBC.out.size; omega) (fun k hk => by cases hk; have := HGB.out; omega)⟩
            exact absurd (Nat.le_trans (cntKey_mono l c.key (I + 1)) (hr I c HC.out).2.2) H11.out
    · obtain rfl : I = l.length := by omega
      have hWr : Below w.heap.size w wr := by have := HGB.out; subst this; exact hB
      have HCL := Lib.hid (clone_any (.slice a l.length cap) l wr (H.out.below hWr) hl)
      obtain ⟨hgood, h10⟩ := hG.out.all
      have HGOOD := Lib.hid hgood
      have H10 := Lib.hid h10
      have HWR := Lib.hid hWr
      clear hgood h10 hC hG hB hWr
      go_wp2_with fail
      refine HCL.out.mono ?_
      rintro e w1 ⟨v', rfl, ho, hb1⟩
      have HSO := Lib.hid (sort_any v' l.length l wr.heap.size w1 ho hl hb1.size)
      have HB1 := Lib.hid hb1
      clear ho hb1
      go_wp2_with fail
      refine HSO.out.mono ?_
      rintro e w2 ⟨rfl, l', hperm, hsorted, hrow, hb2⟩
      have hlen : l'.length = l.length := hperm.length_eq
      obtain ⟨a', cap', rfl⟩ := hrow.form
      have HROW := Lib.hid hrow
      have HPERM := Lib.hid hperm
      have HSORT := Lib.hid hsorted
      have HB2 := Lib.hid (HWR.out.trans ((HB1.out.trans hb2).mono HWR.out.size))
      clear hperm hsorted hrow hb2
      have hl' : l'.length ≤ 1000 := by omega
      have HIFF := Lib.hid (right_sorted l l' HPERM.out HSORT.out HGOOD.out H10.out)
      clear hlen hlt hI
      go_wp2
      go_loopw [7] (fun i wk => ∃ J : Nat, 1 ≤ J ∧ J ≤ l'.length + 1 ∧ i = .int .i64 J ∧ Below w2.heap.size w2 wk ∧ Hid (∀ (i : Nat) a b, i + 1 < J → l'[i]? = some a → l'[i + 1]? = some b → adjBad a b = false)) (fun i _ => l'.length + 1 - (intOf i).toNat)
      case atStart => exact ⟨1, by omega, by omega, by go_num, Below.refl _ _, Lib.hid (fun i a b hi => by omega)⟩
      case round =>
        obtain ⟨J, hJ1, hJ, rfl, hBk, hAdj⟩ := hrel
        have hw2r : Below w.heap.size w wr := HB2.out.trans (hBk.mono (by have := HB2.out.size; omega))
        have HW2R := Lib.hid hw2r
        clear hw2r
        by_cases hlt : J < l'.length
        · obtain ⟨M, hKJ⟩ : ∃ M, J = M + 1 := ⟨J - 1, by omega⟩
          obtain ⟨c, hc⟩ : ∃ c, l'[M]? = some c := ⟨_, List.getElem?_eq_getElem (by omega)⟩
          obtain ⟨d, hd⟩ : ∃ d, l'[J]? = some d := ⟨_, List.getElem?_eq_getElem hlt⟩
          subst hKJ
          obtain ⟨-, b, o, rfl, hb, c0, c1, c2, c3, c4, c5, c6, c7⟩ := RowRd.at (HROW.out.below hBk) hc
          obtain ⟨-, b', o', hab, hb', d0, d1, d2, d3, d4, d5, d6, d7⟩ := RowRd.at (HROW.out.below hBk) hd
          cases hab
          have HC := Lib.hid hc
          have HD := Lib.hid hd
          have hM : M < l'.length := by omega
          have hM2 : (M : Int) + 1 < (l'.length : Int) := by omega
          have hM3 : ((M : Int) + 1).toNat = M + 1 := by omega
          have hM0 : (0 : Int) ≤ (M : Int) + 1 := by omega
          have hJe : IntKind.i64.wrap (M : Int) = (M : Int) := IntWalk.i64_in _ (by omega)
          clear hc hd
          go_upto_region 17 with fail
          have hgr := fun (w0 W : World) (p : Addr) (hp : (fun k => k < wr.heap.size) p.block) => graft_cell (w0 := w0) (keep := (fun k => k < wr.heap.size)) W hp
          refine wp_region_tree (fun k => k < wr.heap.size) [9, 10, 11, 12] (.step 0 (.step 1 (.step 2 (.step 3 (.step 4 (.step 5 (.step 6 (.step 7 (.step 8 (.fork 9 (.step 10 (.step 11 (.step 12 .done))) 10 (.step 9 (.step 11 (.step 12 .done))))))))))))) (by kernel_rfl) (by kernel_rfl) ?_
          simp only [slimTr, slimStep, Oper.slim, List.contains_cons, List.contains_nil, Option.map_none, Option.map_some, List.getElem?_toArray, List.getElem?_cons_zero, List.getElem?_cons_succ, Option.bind_some, beq_self_eq_true, Bool.or_false, Nat.reduceBEq, Nat.reduceAdd, Nat.zero_add]
          repeat ((with_reducible refine wpSlimT_step (fun K hK => ?_)); go_simp; first | (refine hK _ _ ?_; clear hK K) | (refine ⟨by (intro kk hkk; first | (simp (disch := (simp; omega)) only [hp_drew, hp_drewN, hp_alloc, hp_set]; done) | (simp [hp_drew, hp_drewN, hp_alloc_if, hkk]; done) | fail), hK _ _ ?_⟩; clear hK K))
          refine wpSlimT_fork ?_ ?_
          all_goals
            repeat ((with_reducible refine wpSlimT_step (fun K hK => ?_)); go_simp; first | (refine hK _ _ ?_; clear hK K) | (refine ⟨by (intro kk hkk; first | (simp (disch := (simp; omega)) only [hp_drew, hp_drewN, hp_alloc, hp_set]; done) | (simp [hp_drew, hp_drewN, hp_alloc_if, hkk]; done) | fail), hK _ _ ?_⟩; clear hK K))
            refine wpSlimT_done ?_
          all_goals clear hgr
          all_goals
            go_upto_region 18 with fail
            refine wp_region_units (.step 0 (.step 1 (.step 2 (.step 3 (.step 4 (.step 5 (.unit 5 true (.step 6 (.step 7 (.step 8 (.step 9 (.unit 9 false (.step 10 (.step 11 (.step 12 (.step 13 (.step 14 .done))))) 15 14 .done))))) 16 15 .done))))))) (by kernel_rfl) (by kernel_rfl) ?_
            simp only [mkUT, dstOf, bare, Oper.slim, List.contains_cons, List.contains_nil, Option.map_none, Option.map_some, List.getElem?_toArray, List.getElem?_cons_zero, List.getElem?_cons_succ, Option.bind_some, beq_self_eq_true, Bool.or_false, Nat.reduceBEq, Nat.reduceAdd, Nat.zero_add, Option.getD_some, Option.isSome_some, Option.isSome_none, Bool.false_and, Bool.true_and, Bool.false_eq_true, if_false, if_true, Option.some_beq_some, Option.some_beq_none, Option.none_beq_some, reduceCtorEq, ite_true, ite_false]
            repeat ((with_reducible refine wpUT_step (fun K hK => ?_)); go_simp; first | (refine hK _ _ ?_; clear hK K) | (refine ⟨by (intro kk hkk; first | exact hkk.elim | (simp (disch := (simp; omega)) only [hp_drew, hp_drewN, hp_alloc, hp_set]; done) | (simp [hp_drew, hp_drewN, hp_alloc_if, hkk]; done) | fail), hK _ _ ?_⟩; clear hK K))
            refine wpUT_unit (x := ?_) (by rfl) ?_ ?_
            rotate_left
            · intro hgd
              repeat ((with_reducible refine wpUT_step (fun K hK => ?_)); go_simp; first | (refine hK _ _ ?_; clear hK K) | (refine ⟨by (intro kk hkk; first | exact hkk.elim | (simp (disch := (simp; omega)) only [hp_drew, hp_drewN, hp_alloc, hp_set]; done) | (simp [hp_drew, hp_drewN, hp_alloc_if, hkk]; done) | fail), hK _ _ ?_⟩; clear hK K))
              refine wpUT_unit (x := ?_) (by rfl) ?_ ?_
              rotate_left
              · intro hgd
                repeat ((with_reducible refine wpUT_step (fun K hK => ?_)); go_simp; first | (refine hK _ _ ?_; clear hK K) | (refine ⟨by (intro kk hkk; first | exact hkk.elim | (simp (disch := (simp; omega)) only [hp_drew, hp_drewN, hp_alloc, hp_set]; done) | (simp [hp_drew, hp_drewN, hp_alloc_if, hkk]; done) | fail), hK _ _ ?_⟩; clear hK K))
                exact wpUT_done ⟨by rfl, rfl⟩
              intro js
              simp only [UT.dsts, junk, SOp.dst, Option.toList_some, Option.toList_none, List.cons_append, List.nil_append, List.append_nil, cond_true, cond_false]
              try go_simp
              exact wpUT_done ⟨by rfl, rfl⟩
            intro js
            simp only [UT.dsts, junk, SOp.dst, Option.toList_some, Option.toList_none, List.cons_append, List.nil_append, List.append_nil, cond_true, cond_false]
            try go_simp
            refine wpUT_done ?_
            try go_simp
            obtain ⟨ab, hab⟩ : ∃ x, x = adjBad c d := ⟨_, rfl⟩
            rw [show ((c.cl == d.cl) && ((c.to == -1) || decide (d.fr ≤ c.to))) = ab from hab.symm]
            have HAB := Lib.hid hab
            clear hab
            cases ab
            case true =>
              go_wp2
              go_ret
              refine ⟨false, rfl, ⟨(fun h => (by cases h)), fun hr => ?_⟩, ?_⟩
              · have := HIFF.out.2 hr M c d HC.out HD.out
                rw [← HAB.out] at this
                cases this
              · exact (((HW2R.out.alloc HW2R.out.size _).alloc (by simp; have := HW2R.out.size; omega) _)).drew
            case false =>
              have HA2 : Hid (∀ (i : Nat) a b, i + 1 < M + 1 + 1 → l'[i]? = some a → l'[i + 1]? = some b → adjBad a b = false) := Lib.hid (fun i a b hi ha hb => by
                by_cases e : i = M
                · subst e
                  have e1 : a = c := by have := HC.out; rw [ha] at this; exact Option.some.inj this
                  have e2 : b = d := by have := HD.out; rw [hb] at this; exact Option.some.inj this
                  subst e1
                  subst e2
                  exact HAB.out.symm
                · exact hAdj.out i a b (by omega) ha hb)
              go_wp2
              go_roundw
              case rel => exact ⟨M + 1 + 1, by omega, by omega, by go_num, ((hBk.alloc hBk.size _).alloc (by simp; have := hBk.size; omega) _).drew, HA2⟩
              case measure => simp [intOf]; omega
        · have HALL : Hid (∀ (i : Nat) a b, l'[i]? = some a → l'[i + 1]? = some b → adjBad a b = false) := Lib.hid (fun i a b ha hb => hAdj.out i a b (by have := (List.getElem?_eq_some_iff.1 hb).1; omega) ha hb)
          have flt : decide ((J : Int) < (l'.length : Int)) = false := decide_eq_false (by omega)
          go_wp2
          go_ret
          exact ⟨true, rfl, ⟨fun _ => HIFF.out.1 HALL.out, fun _ => rfl⟩, HW2R.out⟩
end Go.Proofs.Ytggecoekoilahaa
