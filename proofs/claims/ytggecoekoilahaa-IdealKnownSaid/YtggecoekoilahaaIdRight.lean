/-
  The reference's Right.
-/
import Derived.Test.YtggecoekoilahaaIdRef1
namespace Go.Proofs.Ytggecoekoilahaa
open Go.RowKit
set_option linter.unusedSimpArgs false
set_option linter.unusedVariables false

/-- May a call be as it is? -/
def RC.bad (c : RC) : Bool := ((decide (c.kd < 1) || decide (3 < c.kd)) || decide (c.fr < 0)) || (c.to != -1 && decide (c.to ≤ c.fr))
/-- Does d stand in c's way? -/
def RC.clash (c d : RC) : Bool := (d.cl == c.cl) && ((d.fr == c.fr) || (decide (d.fr < c.fr) && ((d.to == -1) || decide (c.fr ≤ d.to))))
/-- How many calls of a key count. -/
def cntKey (l : List RC) (key : ByteArray) : Nat := (l.filter fun d => (d.key.toList == key.toList) && d.counts).length
theorem cntKey_succ (l : List RC) (key : ByteArray) (k : Nat) (d : RC) (h : l[k]? = some d) : cntKey (l.take (k + 1)) key = cntKey (l.take k) key + if ((d.key.toList == key.toList) && d.counts) = true then 1 else 0 := by
  unfold cntKey
  rw [List.take_add_one, h, List.filter_append, List.length_append]
  congr 1
  simp only [Option.toList_some, List.filter_cons, List.filter_nil]
  split <;> rfl
theorem cntKey_le (l : List RC) (key : ByteArray) : cntKey l key ≤ l.length := List.length_filter_le _ _

def fineAt (l : List RC) (i : Nat) (c : RC) : Prop := c.bad = false ∧ (∀ k d, l[k]? = some d → k ≠ i → c.clash d = false) ∧ cntKey l c.key ≤ 10
/-- A history that is right. -/
def rightM (l : List RC) : Prop := ∀ i c, l[i]? = some c → fineAt l i c

def RetB (p : Prop) (w : World) (e : Ending) (w' : World) : Prop := ∃ b : Bool, e = .returned (.bool b) ∧ (b = true ↔ p) ∧ Below w.heap.size w w'

theorem cells8 {W : World} {B : Nat} {a b c d e f g h : Value} {ty : TypeId} (hh : W.heap[B]? = some (.cells #[a, b, c, d, e, f, g, h] ty)) :
    W.cell? ⟨B, 0, none⟩ = some a ∧ W.cell? ⟨B, 1, none⟩ = some b ∧ W.cell? ⟨B, 2, none⟩ = some c ∧ W.cell? ⟨B, 3, none⟩ = some d ∧ W.cell? ⟨B, 4, none⟩ = some e ∧ W.cell? ⟨B, 5, none⟩ = some f ∧ W.cell? ⟨B, 6, none⟩ = some g ∧ W.cell? ⟨B, 7, none⟩ = some h :=
  ⟨cell_of_row W _ 0 _ _ (0, 0) hh, cell_of_row W _ 1 _ _ (0, 0) hh, cell_of_row W _ 2 _ _ (0, 0) hh, cell_of_row W _ 3 _ _ (0, 0) hh, cell_of_row W _ 4 _ _ (0, 0) hh, cell_of_row W _ 5 _ _ (0, 0) hh, cell_of_row W _ 6 _ _ (0, 0) hh, cell_of_row W _ 7 _ _ (0, 0) hh⟩

set_option maxRecDepth 100000 in
set_option maxHeartbeats 4000000 in
theorem rright_any (v : Value) (l : List RC) (w : World) (h : RowRd w v l) (hl : l.length ≤ 1000) :
    Calls Try.prog 17 #[v] w (RetB (rightM l) w) := by
  obtain ⟨a, cap, rfl⟩ := h.form
  have H := Lib.hid h
  clear h
  go_enter Try.func17, Try.ntmps17
  go_wp2
  go_loopw [3] (fun i wr => ∃ I : Nat, I ≤ l.length ∧ i = .int .i64 I ∧ Below w.heap.size w wr ∧ Hid (∀ i' c, i' < I → l[i']? = some c → fineAt l i' c)) (fun i _ => l.length - (intOf i).toNat)
  case atStart => exact ⟨0, by omega, rfl, Below.refl _ _, Lib.hid (fun i' c hi => by omega)⟩
  case round =>
    obtain ⟨I, hI, rfl, hB, hF⟩ := hrel
    by_cases hlt : I < l.length
    · obtain ⟨c, hc⟩ : ∃ c, l[I]? = some c := ⟨_, List.getElem?_eq_getElem hlt⟩
      obtain ⟨_, b, o, rfl, hb, c0, c1, c2, c3, c4, c5, c6, c7⟩ := (H.out.below hB).at hc
      have HC := Lib.hid hc
      clear hc
      go_upto_region 5 with fail
      refine wp_region_units (.step 0 (.step 1 (.step 2 (.step 3 (.unit 3 false (.step 4 (.step 5 (.step 6 .done))) 7 6 (.step 8 (.unit 8 false (.step 9 (.step 10 (.step 11 .done))) 12 11 (.step 13 (.unit 13 false (.step 14 (.step 15 (.step 16 (.step 17 (.unit 17 true (.step 18 (.step 19 (.step 20 (.step 21 (.step 22 .done))))) 23 22 .done))))) 24 23 .done))))))))) (by kernel_rfl) (by kernel_rfl) ?_
      simp only [mkUT, dstOf, bare, Oper.slim, List.contains_cons, List.contains_nil, Option.map_none, Option.map_some, List.getElem?_toArray, List.getElem?_cons_zero, List.getElem?_cons_succ, Option.bind_some, beq_self_eq_true, Bool.or_false, Nat.reduceBEq, Nat.reduceAdd, Nat.zero_add, Option.getD_some, Option.isSome_some, Option.isSome_none, Bool.false_and, Bool.true_and, Bool.false_eq_true, if_false, if_true, Option.some_beq_some, Option.some_beq_none, Option.none_beq_some, reduceCtorEq, ite_true, ite_false]
      repeat ((with_reducible refine wpUT_step (fun K hK => ?_)); go_simp; first | (refine hK _ _ ?_; clear hK K) | (refine ⟨by (intro kk hkk; first | exact hkk.elim | (simp (disch := (simp; omega)) only [hp_drew, hp_drewN, hp_alloc, hp_set]; done) | (simp [hp_drew, hp_drewN, hp_alloc_if, hkk]; done) | fail), hK _ _ ?_⟩; clear hK K))
      refine wpUT_unit (x := ?_) (by rfl) ?_ ?_
      rotate_left
      · intro hgd
        repeat ((with_reducible refine wpUT_step (fun K hK => ?_)); go_simp; first | (refine hK _ _ ?_; clear hK K) | (refine ⟨by (intro kk hkk; first | exact hkk.elim | (simp (disch := (simp; omega)) only [hp_drew, hp_drewN, hp_alloc, hp_set]; done) | (simp [hp_drew, hp_drewN, hp_alloc_if, hkk]; done) | fail), hK _ _ ?_⟩; clear hK K))
        exact wpUT_done ⟨by rfl, rfl⟩
      intro js
      simp only [UT.dsts, junk, SOp.dst, Option.toList_some, Option.toList_none, List.cons_append, List.nil_append, List.append_nil, cond_true, cond_false]
      repeat ((with_reducible refine wpUT_step (fun K hK => ?_)); go_simp; first | (refine hK _ _ ?_; clear hK K) | (refine ⟨by (intro kk hkk; first | exact hkk.elim | (simp (disch := (simp; omega)) only [hp_drew, hp_drewN, hp_alloc, hp_set]; done) | (simp [hp_drew, hp_drewN, hp_alloc_if, hkk]; done) | fail), hK _ _ ?_⟩; clear hK K))
      refine wpUT_unit (x := ?_) (by rfl) ?_ ?_
      rotate_left
      · intro hgd
        repeat ((with_reducible refine wpUT_step (fun K hK => ?_)); go_simp; first | (refine hK _ _ ?_; clear hK K) | (refine ⟨by (intro kk hkk; first | exact hkk.elim | (simp (disch := (simp; omega)) only [hp_drew, hp_drewN, hp_alloc, hp_set]; done) | (simp [hp_drew, hp_drewN, hp_alloc_if, hkk]; done) | fail), hK _ _ ?_⟩; clear hK K))
        exact wpUT_done ⟨by rfl, rfl⟩
      intro js
      simp only [UT.dsts, junk, SOp.dst, Option.toList_some, Option.toList_none, List.cons_append, List.nil_append, List.append_nil, cond_true, cond_false]
      repeat ((with_reducible refine wpUT_step (fun K hK => ?_)); go_simp; first | (refine hK _ _ ?_; clear hK K) | (refine ⟨by (intro kk hkk; first | exact hkk.elim | (simp (disch := (simp; omega)) only [hp_drew, hp_drewN, hp_alloc, hp_set]; done) | (simp [hp_drew, hp_drewN, hp_alloc_if, hkk]; done) | fail), hK _ _ ?_⟩; clear hK K))
      refine wpUT_unit (x := ?_) (by rfl) ?_ ?_
      rotate_left
      · intro hgd
        repeat ((with_reducible refine wpUT_step (fun K hK => ?_)); go_simp; first | (refine hK _ _ ?_; clear hK K) | (refine ⟨by (intro kk hkk; first | exact hkk.elim | (simp (disch := (simp; omega)) only [hp_drew, hp_drewN, hp_alloc, hp_set]; done) | (simp [hp_drew, hp_drewN, hp_alloc_if, hkk]; done) | fail), hK _ _ ?_⟩; clear hK K))
        refine wpUT_unit (x := ?_) (by rfl) ?_ ?_
        rotate_left
        · intro hgd
          repeat ((with_reducible refine wpUT_step (fun K hK => ?_)); go_simp; first | (refine hK _ _ ?_; clear hK K) | (refine ⟨by (intro kk hkk; first | exact hkk.elim | (simp (disch := (simp; omega)) only [hp_drew, hp_drewN, hp_alloc, hp_set]; done) | (simp [hp_drew, hp_drewN, hp_alloc_if, hkk]; done) | fail), hK _ _ ?_⟩; clear hK K))
          exact wpUT_done ⟨by rfl, rfl⟩
        intro js
        simp only [UT.dsts, junk, SOp.dst, Option.toList_some, Option.toList_none, List.cons_append, List.nil_append, List.append_nil, cond_true, cond_false]
        try go_simp
        exact wpUT_done ⟨by rfl, rfl⟩
      intro js
      simp only [UT.dsts, junk, SOp.dst, Option.toList_some, Option.toList_none, List.cons_append, List.nil_append, List.append_nil, cond_true, cond_false]
      try go_simp
      refine wpUT_done ?_
      try go_simp
      obtain ⟨bad, hbad⟩ : ∃ x, x = c.bad := ⟨_, rfl⟩
      rw [show (((decide (c.kd < 1) || decide (3 < c.kd)) || decide (c.fr < 0)) || (c.to != -1 && decide (c.to ≤ c.fr))) = bad from hbad.symm]
      have HBAD := Lib.hid hbad
      clear hbad
      cases bad
      case true =>
        go_wp2
        go_ret
        exact ⟨false, rfl, ⟨fun h => (by cases h), fun hr => absurd (hr I c HC.out).1 (by rw [← HBAD.out]; decide)⟩, hB.alloc hB.size _⟩
      case false =>
        go_wp2
        clear c0 c1 c2 c3 c4 c5 c6 c7
        generalize hw1 : wr.alloc (.cells #[.int .i64 c.cl, .int .u8 c.kd, .string c.key, .slice c.va c.vl c.vc, .int .i64 c.fr, .int .i64 c.to, .int .i64 c.co, .slice c.ga c.gl c.gc] 42) = w1
        have hB1 : Below w.heap.size w w1 := by rw [← hw1]; exact hB.alloc hB.size _
        have hX : w1.heap[wr.heap.size]? = some (.cells #[.int .i64 c.cl, .int .u8 c.kd, .string c.key, .slice c.va c.vl c.vc, .int .i64 c.fr, .int .i64 c.to, .int .i64 c.co, .slice c.ga c.gl c.gc] 42) := by rw [← hw1]; exact heap_newA _ _
        have HX := Lib.hid hX
        clear hw1 hX hB
        generalize wr.heap.size = B4 at *
        clear wr
        go_loopw [5, 6] (fun n k wk => ∃ K : Nat, K ≤ l.length ∧ k = .int .i64 K ∧ n = .int .i64 (cntKey (l.take K) c.key : Nat) ∧ Below w1.heap.size w1 wk ∧ Hid (∀ k' d, k' < K → l[k']? = some d → k' ≠ I → c.clash d = false)) (fun _ k _ => l.length - (intOf k).toNat)
        case atStart => exact ⟨0, by omega, rfl, rfl, Below.refl _ _, Lib.hid (fun k' d hk => by omega)⟩
        case round =>
          obtain ⟨K, hK, rfl, rfl, hBk, hN⟩ := hrel
          have hcl := cntKey_le (l.take K) c.key
          have htk : (l.take K).length ≤ K := List.length_take_le _ _
          by_cases hlt2 : K < l.length
          · obtain ⟨d, hd⟩ : ∃ d, l[K]? = some d := ⟨_, List.getElem?_eq_getElem hlt2⟩
            obtain ⟨_, b', o', hab, hb', d0, d1, d2, d3, d4, d5, d6, d7⟩ := (H.out.below (hB1.trans (hBk.mono hB1.size))).at hd
            cases hab
            obtain ⟨e0, e1, e2, e3, e4, e5, e6, e7⟩ := cells8 ((hBk.block _ (lt_of_heap HX.out)).trans HX.out)
            have hb4 : B4 < wr.heap.size := Nat.lt_of_lt_of_le (lt_of_heap HX.out) hBk.size
            have HD := Lib.hid hd
            clear hd
            go_upto_region 11 with fail
            have hgr := fun (w0 W : World) (p : Addr) (hp : (fun k => k < wr.heap.size) p.block) => graft_cell (w0 := w0) (keep := (fun k => k < wr.heap.size)) W hp
            refine wp_region_units_draw (fun k => k < wr.heap.size) [13] (.step 0 (.step 1 (.step 2 (.step 3 (.step 4 (.step 5 (.step 6 (.step 7 (.step 8 (.step 9 (.step 10 (.step 11 (.step 12 (.step 13 (.step 14 .done))))))))))))))) (.step 0 (.step 1 (.step 2 (.step 3 (.step 4 (.step 5 (.step 6 (.step 7 (.step 8 (.unit 8 true (.step 9 (.step 10 (.step 11 (.step 12 (.step 13 .done))))) 14 13 .done)))))))))) (by kernel_rfl) (by kernel_rfl) (by kernel_rfl) (by kernel_rfl) ?_
            simp only [mkUT, dstOf, bare, Oper.slim, List.contains_cons, List.contains_nil, Option.map_none, Option.map_some, List.getElem?_toArray, List.getElem?_cons_zero, List.getElem?_cons_succ, Option.bind_some, beq_self_eq_true, Bool.or_false, Nat.reduceBEq, Nat.reduceAdd, Nat.zero_add, Option.getD_some, Option.isSome_some, Option.isSome_none, Bool.false_and, Bool.true_and, Bool.false_eq_true, if_false, if_true, Option.some_beq_some, Option.some_beq_none, Option.none_beq_some, reduceCtorEq, ite_true, ite_false]
            repeat ((with_reducible refine wpUT_step (fun K hK => ?_)); go_simp; first | (refine hK _ _ ?_; clear hK K) | (refine ⟨by (intro kk hkk; first | exact hkk.elim | (simp (disch := (simp; omega)) only [hp_drew, hp_drewN, hp_alloc, hp_set]; done) | (simp [hp_drew, hp_drewN, hp_alloc_if, hkk]; done) | fail), hK _ _ ?_⟩; clear hK K)| (go_at_call 16; refine (rcounts_any d _).mono ?_; rintro e wc ⟨rfl, hbc⟩; refine ⟨_, rfl, (fun kk hkk => hbc.block kk (by simpa using hkk)), hK _ _ ?_⟩; clear hK K))
            refine wpUT_unit_below (x := ?_) (by rfl) ?_ ?_
            rotate_left
            · intro hgd
              repeat ((with_reducible refine wpUT_step (fun K hK => ?_)); go_simp; first | (refine hK _ _ ?_; clear hK K) | (refine ⟨by (intro kk hkk; first | exact hkk.elim | (simp (disch := (simp; omega)) only [hp_drew, hp_drewN, hp_alloc, hp_set]; done) | (simp [hp_drew, hp_drewN, hp_alloc_if, hkk]; done) | fail), hK _ _ ?_⟩; clear hK K)| (go_at_call 16; refine (rcounts_any d _).mono ?_; rintro e wc ⟨rfl, hbc⟩; refine ⟨_, rfl, (fun kk hkk => hbc.block kk (by simpa using hkk)), hK _ _ ?_⟩; clear hK K))
              exact wpUT_done ⟨by rfl, by (repeat' (first | (with_reducible exact RowKit.Below.refl _ _) | (with_reducible assumption) | (with_reducible refine RowKit.Below.drew ?_) | (with_reducible refine RowKit.Below.alloc ?_ ?_ _) | omega | (simp; done) | (simp; omega)))⟩
            intro js wu hbu
            simp only [UT.dsts, junk, SOp.dst, Option.toList_some, Option.toList_none, List.cons_append, List.nil_append, List.append_nil, cond_true, cond_false]
            try go_simp
            refine wpUT_done ?_
            try go_simp
            clear hgr
            have hu : Below wr.heap.size wr wu := ((Below.refl wr.heap.size wr).drew).trans hbu
            have hBu : Below w1.heap.size w1 wu := hBk.trans (hu.mono hBk.size)
            clear hbu hu d0 d1 d2 d3 d4 d5 d6 d7 e0 e1 e2 e3 e4 e5 e6 e7 hb' hb4 hBk
            obtain ⟨_, b', o', hab, hb', d0, d1, d2, d3, d4, d5, d6, d7⟩ := (H.out.below (hB1.trans (hBu.mono hB1.size))).at HD.out
            cases hab
            obtain ⟨e0, e1, e2, e3, e4, e5, e6, e7⟩ := cells8 ((hBu.block _ (lt_of_heap HX.out)).trans HX.out)
            have hb4 : B4 < wu.heap.size := Nat.lt_of_lt_of_le (lt_of_heap HX.out) hBu.size
            have hcs := cntKey_succ l c.key K d HD.out
            have HCS := Lib.hid hcs
            clear hcs
            obtain ⟨cn, hcn⟩ : ∃ x, x = ((d.key.toList == c.key.toList) && d.counts) := ⟨_, rfl⟩
            rw [show ((d.key.toList == c.key.toList) && d.counts) = cn from hcn.symm]
            have HCN := Lib.hid hcn
            clear hcn
            have hkn : ((K : Int) != (I : Int)) = decide (K ≠ I) := by
              by_cases e : K = I
              · subst e; simp
              · rw [decide_eq_true e]; simp only [bne_iff_ne, ne_eq]; omega
            have hcla : ((((K : Int) != (I : Int)) && (d.cl == c.cl)) && ((d.fr == c.fr) || (decide (d.fr < c.fr) && ((d.to == -1) || decide (c.fr ≤ d.to))))) = (decide (K ≠ I) && c.clash d) := by
              rw [hkn, Bool.and_assoc]
              rfl
            have HCLA := Lib.hid hcla
            clear hcla hkn
            cases cn
            case true =>
              go_upto_region 13 with fail
              have hgr := fun (w0 W : World) (p : Addr) (hp : (fun k => k < wu.heap.size) p.block) => graft_cell (w0 := w0) (keep := (fun k => k < wu.heap.size)) W hp
              refine wp_region_units_draw (fun k => k < wu.heap.size) [] (.step 0 (.step 1 (.step 2 (.step 3 (.step 4 (.step 5 (.step 6 (.step 7 (.step 8 (.step 9 (.step 10 (.step 11 (.step 12 (.step 13 (.step 14 (.step 15 (.step 16 (.step 17 (.step 18 (.step 19 (.step 20 (.step 21 (.step 22 (.step 23 (.step 24 (.step 25 (.step 26 (.step 27 (.step 28 (.step 29 (.step 30 (.step 31 (.step 32 (.step 33 (.step 34 (.step 35 (.step 36 (.step 37 (.step 38 (.step 39 (.step 40 (.step 41 (.step 42 (.step 43 (.step 44 (.step 45 (.step 46 (.step 47 (.step 48 (.step 49 (.step 50 .done))))))))))))))))))))))))))))))))))))))))))))))))))) (.step 0 (.step 1 (.step 2 (.step 3 (.unit 3 true (.step 4 (.step 5 (.step 6 (.step 7 (.step 8 (.step 9 (.step 10 (.step 11 .done)))))))) 12 11 (.step 13 (.unit 13 true (.step 14 (.step 15 (.step 16 (.step 17 (.step 18 (.step 19 (.step 20 (.step 21 (.step 22 (.unit 22 false (.step 23 (.step 24 (.step 25 (.step 26 (.step 27 (.step 28 (.step 29 (.step 30 (.step 31 (.unit 31 true (.step 32 (.step 33 (.step 34 (.step 35 (.step 36 (.step 37 (.step 38 (.unit 38 false (.step 39 (.step 40 (.step 41 (.step 42 (.step 43 (.step 44 (.step 45 (.step 46 .done)))))))) 47 46 .done)))))))) 48 47 .done)))))))))) 49 48 .done)))))))))) 50 49 .done))))))) (by kernel_rfl) (by kernel_rfl) (by kernel_rfl) (by kernel_rfl) ?_
              simp only [mkUT, dstOf, bare, Oper.slim, List.contains_cons, List.contains_nil, Option.map_none, Option.map_some, List.getElem?_toArray, List.getElem?_cons_zero, List.getElem?_cons_succ, Option.bind_some, beq_self_eq_true, Bool.or_false, Nat.reduceBEq, Nat.reduceAdd, Nat.zero_add, Option.getD_some, Option.isSome_some, Option.isSome_none, Bool.false_and, Bool.true_and, Bool.false_eq_true, if_false, if_true, Option.some_beq_some, Option.some_beq_none, Option.none_beq_some, reduceCtorEq, ite_true, ite_false]
              repeat ((with_reducible refine wpUT_step (fun K hK => ?_)); go_simp; first | (refine hK _ _ ?_; clear hK K) | (refine ⟨by (intro kk hkk; first | exact hkk.elim | (simp (disch := (simp; omega)) only [hp_drew, hp_drewN, hp_alloc, hp_set]; done) | (simp [hp_drew, hp_drewN, hp_alloc_if, hkk]; done) | fail), hK _ _ ?_⟩; clear hK K))
              refine wpUT_unit (x := ?_) (by rfl) ?_ ?_
              rotate_left
              · intro hgd
                repeat ((with_reducible refine wpUT_step (fun K hK => ?_)); go_simp; first | (refine hK _ _ ?_; clear hK K) | (refine ⟨by (intro kk hkk; first | exact hkk.elim | (simp (disch := (simp; omega)) only [hp_drew, hp_drewN, hp_alloc, hp_set]; done) | (simp [hp_drew, hp_drewN, hp_alloc_if, hkk]; done) | fail), hK _ _ ?_⟩; clear hK K))
                exact wpUT_done ⟨by rfl, rfl⟩
              intro js
              simp only [UT.dsts, junk, SOp.dst, Option.toList_some, Option.toList_none, List.cons_append, List.nil_append, List.append_nil, cond_true, cond_false]
              repeat ((with_reducible refine wpUT_step (fun K hK => ?_)); go_simp; first | (refine hK _ _ ?_; clear hK K) | (refine ⟨by (intro kk hkk; first | exact hkk.elim | (simp (disch := (simp; omega)) only [hp_drew, hp_drewN, hp_alloc, hp_set]; done) | (simp [hp_drew, hp_drewN, hp_alloc_if, hkk]; done) | fail), hK _ _ ?_⟩; clear hK K))
              refine wpUT_unit (x := ?_) (by rfl) ?_ ?_
              rotate_left
              · intro hgd
                repeat ((with_reducible refine wpUT_step (fun K hK => ?_)); go_simp; first | (refine hK _ _ ?_; clear hK K) | (refine ⟨by (intro kk hkk; first | exact hkk.elim | (simp (disch := (simp; omega)) only [hp_drew, hp_drewN, hp_alloc, hp_set]; done) | (simp [hp_drew, hp_drewN, hp_alloc_if, hkk]; done) | fail), hK _ _ ?_⟩; clear hK K))
                refine wpUT_unit (x := ?_) (by rfl) ?_ ?_
                rotate_left
                · intro hgd
                  repeat ((with_reducible refine wpUT_step (fun K hK => ?_)); go_simp; first | (refine hK _ _ ?_; clear hK K) | (refine ⟨by (intro kk hkk; first | exact hkk.elim | (simp (disch := (simp; omega)) only [hp_drew, hp_drewN, hp_alloc, hp_set]; done) | (simp [hp_drew, hp_drewN, hp_alloc_if, hkk]; done) | fail), hK _ _ ?_⟩; clear hK K))
                  refine wpUT_unit (x := ?_) (by rfl) ?_ ?_
                  rotate_left
                  · intro hgd
                    repeat ((with_reducible refine wpUT_step (fun K hK => ?_)); go_simp; first | (refine hK _ _ ?_; clear hK K) | (refine ⟨by (intro kk hkk; first | exact hkk.elim | (simp (disch := (simp; omega)) only [hp_drew, hp_drewN, hp_alloc, hp_set]; done) | (simp [hp_drew, hp_drewN, hp_alloc_if, hkk]; done) | fail), hK _ _ ?_⟩; clear hK K))
                    refine wpUT_unit (x := ?_) (by rfl) ?_ ?_
                    rotate_left
                    · intro hgd
                      repeat ((with_reducible refine wpUT_step (fun K hK => ?_)); go_simp; first | (refine hK _ _ ?_; clear hK K) | (refine ⟨by (intro kk hkk; first | exact hkk.elim | (simp (disch := (simp; omega)) only [hp_drew, hp_drewN, hp_alloc, hp_set]; done) | (simp [hp_drew, hp_drewN, hp_alloc_if, hkk]; done) | fail), hK _ _ ?_⟩; clear hK K))
                      exact wpUT_done ⟨by rfl, rfl⟩
                    intro js
                    simp only [UT.dsts, junk, SOp.dst, Option.toList_some, Option.toList_none, List.cons_append, List.nil_append, List.append_nil, cond_true, cond_false]
                    try go_simp
                    exact wpUT_done ⟨by rfl, rfl⟩
                  intro js
                  simp only [UT.dsts, junk, SOp.dst, Option.toList_some, Option.toList_none, List.cons_append, List.nil_append, List.append_nil, cond_true, cond_false]
                  try go_simp
                  exact wpUT_done ⟨by rfl, rfl⟩
                intro js
                simp only [UT.dsts, junk, SOp.dst, Option.toList_some, Option.toList_none, List.cons_append, List.nil_append, List.append_nil, cond_true, cond_false]
                try go_simp
                exact wpUT_done ⟨by rfl, rfl⟩
              intro js
              simp only [UT.dsts, junk, SOp.dst, Option.toList_some, Option.toList_none, List.cons_append, List.nil_append, List.append_nil, cond_true, cond_false]
              try go_simp
              refine wpUT_done ?_
              try go_simp
              clear hgr
              rw [HCLA.out]
              obtain ⟨cl, hcl'⟩ : ∃ x, x = (decide (K ≠ I) && c.clash d) := ⟨_, rfl⟩
              rw [show (decide (K ≠ I) && c.clash d) = cl from hcl'.symm]
              have HCL := Lib.hid hcl'
              clear hcl' d0 d1 d2 d3 d4 d5 d6 d7 e0 e1 e2 e3 e4 e5 e6 e7
              cases cl
              case true =>
                go_wp2
                go_ret
                refine ⟨false, rfl, ⟨fun h => (by cases h), fun hr => ?_⟩, hB1.trans (hBu.drew.mono hB1.size)⟩
                have h1 := HCL.out
                have h2 := (hr I c HC.out).2.1 K d HD.out
                by_cases e : K = I
                · rw [decide_eq_false (fun h => h e)] at h1; cases h1
                · rw [h2 e] at h1; simp at h1
              case false =>
                have HN2 : Hid (∀ k' d, k' < K + 1 → l[k']? = some d → k' ≠ I → c.clash d = false) := Lib.hid (fun k' d' hk hd' hne => by
                  by_cases e : k' = K
                  · subst e
                    have : d' = d := by have := HD.out; rw [hd'] at this; exact Option.some.inj this
                    subst this
                    have h1 := HCL.out
                    rw [decide_eq_true hne] at h1
                    simpa using h1.symm
                  · exact hN.out k' d' (by omega) hd' hne)
                go_wp2
                go_roundw
                case rel => exact ⟨K + 1, by omega, by go_num, by rw [HCS.out, ← HCN.out]; go_num, hBu.drew, HN2⟩
                case measure => simp [intOf]; omega
            case false =>
              go_upto_region 13 with fail
              have hgr := fun (w0 W : World) (p : Addr) (hp : (fun k => k < wu.heap.size) p.block) => graft_cell (w0 := w0) (keep := (fun k => k < wu.heap.size)) W hp
              refine wp_region_units_draw (fun k => k < wu.heap.size) [] (.step 0 (.step 1 (.step 2 (.step 3 (.step 4 (.step 5 (.step 6 (.step 7 (.step 8 (.step 9 (.step 10 (.step 11 (.step 12 (.step 13 (.step 14 (.step 15 (.step 16 (.step 17 (.step 18 (.step 19 (.step 20 (.step 21 (.step 22 (.step 23 (.step 24 (.step 25 (.step 26 (.step 27 (.step 28 (.step 29 (.step 30 (.step 31 (.step 32 (.step 33 (.step 34 (.step 35 (.step 36 (.step 37 (.step 38 (.step 39 (.step 40 (.step 41 (.step 42 (.step 43 (.step 44 (.step 45 (.step 46 (.step 47 (.step 48 (.step 49 (.step 50 .done))))))))))))))))))))))))))))))))))))))))))))))))))) (.step 0 (.step 1 (.step 2 (.step 3 (.unit 3 true (.step 4 (.step 5 (.step 6 (.step 7 (.step 8 (.step 9 (.step 10 (.step 11 .done)))))))) 12 11 (.step 13 (.unit 13 true (.step 14 (.step 15 (.step 16 (.step 17 (.step 18 (.step 19 (.step 20 (.step 21 (.step 22 (.unit 22 false (.step 23 (.step 24 (.step 25 (.step 26 (.step 27 (.step 28 (.step 29 (.step 30 (.step 31 (.unit 31 true (.step 32 (.step 33 (.step 34 (.step 35 (.step 36 (.step 37 (.step 38 (.unit 38 false (.step 39 (.step 40 (.step 41 (.step 42 (.step 43 (.step 44 (.step 45 (.step 46 .done)))))))) 47 46 .done)))))))) 48 47 .done)))))))))) 49 48 .done)))))))))) 50 49 .done))))))) (by kernel_rfl) (by kernel_rfl) (by kernel_rfl) (by kernel_rfl) ?_
              simp only [mkUT, dstOf, bare, Oper.slim, List.contains_cons, List.contains_nil, Option.map_none, Option.map_some, List.getElem?_toArray, List.getElem?_cons_zero, List.getElem?_cons_succ, Option.bind_some, beq_self_eq_true, Bool.or_false, Nat.reduceBEq, Nat.reduceAdd, Nat.zero_add, Option.getD_some, Option.isSome_some, Option.isSome_none, Bool.false_and, Bool.true_and, Bool.false_eq_true, if_false, if_true, Option.some_beq_some, Option.some_beq_none, Option.none_beq_some, reduceCtorEq, ite_true, ite_false]
              repeat ((with_reducible refine wpUT_step (fun K hK => ?_)); go_simp; first | (refine hK _ _ ?_; clear hK K) | (refine ⟨by (intro kk hkk; first | exact hkk.elim | (simp (disch := (simp; omega)) only [hp_drew, hp_drewN, hp_alloc, hp_set]; done) | (simp [hp_drew, hp_drewN, hp_alloc_if, hkk]; done) | fail), hK _ _ ?_⟩; clear hK K))
              refine wpUT_unit (x := ?_) (by rfl) ?_ ?_
              rotate_left
              · intro hgd
                repeat ((with_reducible refine wpUT_step (fun K hK => ?_)); go_simp; first | (refine hK _ _ ?_; clear hK K) | (refine ⟨by (intro kk hkk; first | exact hkk.elim | (simp (disch := (simp; omega)) only [hp_drew, hp_drewN, hp_alloc, hp_set]; done) | (simp [hp_drew, hp_drewN, hp_alloc_if, hkk]; done) | fail), hK _ _ ?_⟩; clear hK K))
                exact wpUT_done ⟨by rfl, rfl⟩
              intro js
              simp only [UT.dsts, junk, SOp.dst, Option.toList_some, Option.toList_none, List.cons_append, List.nil_append, List.append_nil, cond_true, cond_false]
              repeat ((with_reducible refine wpUT_step (fun K hK => ?_)); go_simp; first | (refine hK _ _ ?_; clear hK K) | (refine ⟨by (intro kk hkk; first | exact hkk.elim | (simp (disch := (simp; omega)) only [hp_drew, hp_drewN, hp_alloc, hp_set]; done) | (simp [hp_drew, hp_drewN, hp_alloc_if, hkk]; done) | fail), hK _ _ ?_⟩; clear hK K))
              refine wpUT_unit (x := ?_) (by rfl) ?_ ?_
              rotate_left
              · intro hgd
                repeat ((with_reducible refine wpUT_step (fun K hK => ?_)); go_simp; first | (refine hK _ _ ?_; clear hK K) | (refine ⟨by (intro kk hkk; first | exact hkk.elim | (simp (disch := (simp; omega)) only [hp_drew, hp_drewN, hp_alloc, hp_set]; done) | (simp [hp_drew, hp_drewN, hp_alloc_if, hkk]; done) | fail), hK _ _ ?_⟩; clear hK K))
                refine wpUT_unit (x := ?_) (by rfl) ?_ ?_
                rotate_left
                · intro hgd
                  repeat ((with_reducible refine wpUT_step (fun K hK => ?_)); go_simp; first | (refine hK _ _ ?_; clear hK K) | (refine ⟨by (intro kk hkk; first | exact hkk.elim | (simp (disch := (simp; omega)) only [hp_drew, hp_drewN, hp_alloc, hp_set]; done) | (simp [hp_drew, hp_drewN, hp_alloc_if, hkk]; done) | fail), hK _ _ ?_⟩; clear hK K))
                  refine wpUT_unit (x := ?_) (by rfl) ?_ ?_
                  rotate_left
                  · intro hgd
                    repeat ((with_reducible refine wpUT_step (fun K hK => ?_)); go_simp; first | (refine hK _ _ ?_; clear hK K) | (refine ⟨by (intro kk hkk; first | exact hkk.elim | (simp (disch := (simp; omega)) only [hp_drew, hp_drewN, hp_alloc, hp_set]; done) | (simp [hp_drew, hp_drewN, hp_alloc_if, hkk]; done) | fail), hK _ _ ?_⟩; clear hK K))
                    refine wpUT_unit (x := ?_) (by rfl) ?_ ?_
                    rotate_left
                    · intro hgd
                      repeat ((with_reducible refine wpUT_step (fun K hK => ?_)); go_simp; first | (refine hK _ _ ?_; clear hK K) | (refine ⟨by (intro kk hkk; first | exact hkk.elim | (simp (disch := (simp; omega)) only [hp_drew, hp_drewN, hp_alloc, hp_set]; done) | (simp [hp_drew, hp_drewN, hp_alloc_if, hkk]; done) | fail), hK _ _ ?_⟩; clear hK K))
                      exact wpUT_done ⟨by rfl, rfl⟩
                    intro js
                    simp only [UT.dsts, junk, SOp.dst, Option.toList_some, Option.toList_none, List.cons_append, List.nil_append, List.append_nil, cond_true, cond_false]
                    try go_simp
                    exact wpUT_done ⟨by rfl, rfl⟩
                  intro js
                  simp only [UT.dsts, junk, SOp.dst, Option.toList_some, Option.toList_none, List.cons_append, List.nil_append, List.append_nil, cond_true, cond_false]
                  try go_simp
                  exact wpUT_done ⟨by rfl, rfl⟩
                intro js
                simp only [UT.dsts, junk, SOp.dst, Option.toList_some, Option.toList_none, List.cons_append, List.nil_append, List.append_nil, cond_true, cond_false]
                try go_simp
                exact wpUT_done ⟨by rfl, rfl⟩
              intro js
              simp only [UT.dsts, junk, SOp.dst, Option.toList_some, Option.toList_none, List.cons_append, List.nil_append, List.append_nil, cond_true, cond_false]
              try go_simp
              refine wpUT_done ?_
              try go_simp
              clear hgr
              rw [HCLA.out]
              obtain ⟨cl, hcl'⟩ : ∃ x, x = (decide (K ≠ I) && c.clash d) := ⟨_, rfl⟩
              rw [show (decide (K ≠ I) && c.clash d) = cl from hcl'.symm]
              have HCL := Lib.hid hcl'
              clear hcl' d0 d1 d2 d3 d4 d5 d6 d7 e0 e1 e2 e3 e4 e5 e6 e7
              cases cl
              case true =>
                go_wp2
                go_ret
                refine ⟨false, rfl, ⟨fun h => (by cases h), fun hr => ?_⟩, hB1.trans (hBu.drew.mono hB1.size)⟩
                have h1 := HCL.out
                have h2 := (hr I c HC.out).2.1 K d HD.out
                by_cases e : K = I
                · rw [decide_eq_false (fun h => h e)] at h1; cases h1
                · rw [h2 e] at h1; simp at h1
              case false =>
                have HN2 : Hid (∀ k' d, k' < K + 1 → l[k']? = some d → k' ≠ I → c.clash d = false) := Lib.hid (fun k' d' hk hd' hne => by
                  by_cases e : k' = K
                  · subst e
                    have : d' = d := by have := HD.out; rw [hd'] at this; exact Option.some.inj this
                    subst this
                    have h1 := HCL.out
                    rw [decide_eq_true hne] at h1
                    simpa using h1.symm
                  · exact hN.out k' d' (by omega) hd' hne)
                go_wp2
                go_roundw
                case rel => exact ⟨K + 1, by omega, by go_num, by rw [HCS.out, ← HCN.out]; go_num, hBu.drew, HN2⟩
                case measure => simp [intOf]; omega
          · obtain rfl : K = l.length := by omega
            have htl : l.take l.length = l := List.take_length
            rw [htl] at hcl ⊢
            clear htl htk
            have hgo := hB1.trans (hBk.mono hB1.size)
            by_cases h10 : cntKey l c.key ≤ 10
            · have f1 : decide ((10 : Int) < (cntKey l c.key : Int)) = false := decide_eq_false (by omega)
              have HF : Hid (∀ i' c', i' < I + 1 → l[i']? = some c' → fineAt l i' c') := Lib.hid (fun i' c' hi hc' => by
                by_cases e : i' = I
                · subst e
                  have : c' = c := by have := HC.out; rw [hc'] at this; exact Option.some.inj this
                  subst this
                  exact ⟨HBAD.out.symm, fun k d hk => hN.out k d (by rcases Nat.lt_or_ge k l.length with h | h; exact h; rw [List.getElem?_eq_none h] at hk; cases hk) hk, h10⟩
                · exact hF.out i' c' (by omega) hc')
              go_wp2
              go_roundw
              case rel => exact ⟨I + 1, by omega, by go_num, hgo, HF⟩
              case measure => simp [intOf]; omega
            · have f1 : decide ((10 : Int) < (cntKey l c.key : Int)) = true := decide_eq_true (by omega)
              go_wp2
              go_ret
              exact ⟨false, rfl, ⟨fun h => (by cases h), fun hr => absurd (hr I c HC.out).2.2 h10⟩, hgo⟩
    · obtain rfl : I = l.length := by omega
      go_wp2
      go_ret
      exact ⟨true, rfl, ⟨fun _ i c hi => hF.out i c (by rcases Nat.lt_or_ge i l.length with h | h; exact h; rw [List.getElem?_eq_none h] at hi; cases hi) hi, fun _ => rfl⟩, hB⟩
end Go.Proofs.Ytggecoekoilahaa
