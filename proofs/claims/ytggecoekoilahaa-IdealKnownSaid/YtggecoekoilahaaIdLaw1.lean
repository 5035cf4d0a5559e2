/-
  What the laws of the chapter share: a history as the reference has it.
-/
import Derived.Test.YtggecoekoilahaaIdPPerm
namespace Go.Proofs.Ytggecoekoilahaa
open Go.RowKit
set_option linter.unusedSimpArgs false
set_option linter.unusedVariables false

set_option maxHeartbeats 1000000 in
theorem plain_any (c : RC) (w : World) : Calls Try.prog 30 #[c.val] w fun e w' => e = .returned c.val ∧ Below w.heap.size w w' := by
  obtain ⟨cl, kd, key, va, vl, vc, fr, to, co, ga, gl, gc⟩ := c
  simp only [RC.val]
  go_enter Try.func30, Try.ntmps30
  go_wp2
  exact bodyPost_ret (v := .agg #[.int .i64 cl, .int .u8 kd, .string key, .slice va vl vc, .int .i64 fr, .int .i64 to, .int .i64 co, .slice ga gl gc]) (by simp [results, Try.results30, go_sem]) rfl ⟨rfl, ((Below.refl _ _).alloc (Nat.le_refl _) _).alloc (by simp) _⟩

set_option maxRecDepth 100000 in
set_option maxHeartbeats 1000000 in
theorem rows_any (v : Value) (l : List RC) (w : World) (h : RowRd w v l) (hl : l.length ≤ 1000) :
    Calls Try.prog 15 #[v] w fun e w' => ∃ v', e = .returned v' ∧ RowRd w' v' l ∧ Below w.heap.size w w' := by
  obtain ⟨a, cap, rfl⟩ := h.form
  obtain ⟨i0, hi, hz0, hz1, hz2⟩ := info_parts rcall_info
  have H := Lib.hid h
  clear h
  go_enter Try.func15, Try.ntmps15
  go_wp2
  go_loopw [3, 4] (fun ov i wr => ∃ (V : Value) (I : Nat), V = ov ∧ I ≤ l.length ∧ i = .int .i64 I ∧ Hid (wr.ownsRow w.heap.size 42 8 V I (flat (l.take I))) ∧ Below w.heap.size w wr) (fun _ i _ => l.length - (intOf i).toNat)
  case atStart => exact ⟨_, 0, rfl, by omega, rfl, Lib.hid (World.ownsRow_nil _ _ _ _), Below.refl _ _⟩
  case round =>
    obtain ⟨ov, I, rfl, hI, rfl, hO, hB⟩ := hrel
    by_cases hlt : I < l.length
    · obtain ⟨c, hc⟩ : ∃ c, l[I]? = some c := ⟨_, List.getElem?_eq_getElem hlt⟩
      obtain ⟨-, b, o, rfl, hb, c0, c1, c2, c3, c4, c5, c6, c7⟩ := (H.out.below hB).at hc
      have HCALL := Lib.hid (plain_any c wr)
      have HE : Hid (flat (l.take (I + 1)) = flat (l.take I) ++ c.cells) := Lib.hid (by rw [List.take_add_one, hc, flat_append]; simp [flat])
      clear hc
      go_wp2_with (first | (go_at_call 30; (with_reducible refine HCALL.out.mono ?_); rintro e wu ⟨rfl, hbu⟩; have hOu := Lib.hid (own_below hO.out hbu); have hBu := hB.trans (hbu.mono hB.size)) | (at_builtin; refine wpList_append_own _ rfl (.tmp 11) (.tmp 17) 39 rfl w.heap.size 42 i0 (.agg #[.int .i64 0, .int .u8 0, .string ⟨#[]⟩, .slice none 0 0, .int .i64 0, .int .i64 0, .int .i64 0, .slice none 0 0]) 8 104 Try.underlying39 hi hz0 hz1 hz2 rfl (by decide) _ _ _ rfl (hOu.out.alloc _) ⟨wu.heap.size, 0, none⟩ 1 1 c.cells rfl (by rfl) (cells_news (heap_newA _ _)) (by intro u hu; exact flat_one [c] u (by simpa [flat] using hu)) (by unfold maxLen; omega) (by omega) (by simp; have := hBu.size; omega) ?_; intro v1 w3 hown1 hgrow1 _))
      have hB3 : Below w.heap.size w w3 := (hBu.alloc hBu.size _).grown hgrow1 (by simp; have := hBu.size; omega) (fun k hk => (hOu.out.lt k hk).1)
      have hO3 : Hid (w3.ownsRow w.heap.size 42 8 v1 (I + 1) (flat (l.take (I + 1)))) := Lib.hid (by rw [HE.out]; exact hown1)
      go_roundw
      case rel => exact ⟨_, I + 1, rfl, by omega, by go_num, hO3, hB3⟩
      case measure => simp [intOf]; omega
    · obtain rfl : I = l.length := by omega
      have hrow : RowRd wr ov l := by have h9 := RowRd.of_owns hO.out; rwa [List.take_length] at h9
      have HROW := Lib.hid hrow
      clear hrow hO
      go_wp2
      go_ret
      exact ⟨_, rfl, HROW.out, hB⟩

/-- At most so many calls, of which few count, and short ones? -/
def fewM (l : List CM) (top : Nat) : Prop := l.length ≤ top ∧ ∀ m ∈ l, cntKey (rcs l) m.c.key ≤ 6 ∧ m.c.vl ≤ 20 ∧ m.c.gl ≤ 20 ∧ m.c.key.size ≤ 20

set_option maxRecDepth 100000 in
set_option maxHeartbeats 2000000 in
theorem few_any (v : Value) (l : List CM) (top : Nat) (w : World) (h : RowRd w v (rcs l)) (htop : top ≤ 1000) :
    Calls Try.prog 14 #[v, .int .i64 (top : Nat)] w (RetB (fewM l top) w) := by
  obtain ⟨a, cap, rfl⟩ := h.form
  have H := Lib.hid h
  clear h
  have hll := rcs_length l
  rw [hll] at *
  clear hll
  by_cases hlen : l.length ≤ top
  case neg =>
    have f1 : decide (top < l.length) = true := decide_eq_true (by omega)
    have HN := Lib.hid hlen
    clear hlen
    go_enter Try.func14, Try.ntmps14
    go_wp2
    go_ret
    exact ⟨false, rfl, ⟨(fun h => (by cases h)), fun hf => absurd hf.1 HN.out⟩, Below.refl _ _⟩
  case pos =>
    have f1 : decide (top < l.length) = false := decide_eq_false (by omega)
    have hl : l.length ≤ 1000 := by omega
    have HLT := Lib.hid hlen
    clear hlen
    go_enter Try.func14, Try.ntmps14
    go_wp2
    clear f1
    go_loopw [5] (fun i wr => ∃ I : Nat, I ≤ l.length ∧ i = .int .i64 I ∧ Below w.heap.size w wr ∧ Hid (∀ m ∈ l.take I, cntKey (rcs l) m.c.key ≤ 6 ∧ m.c.vl ≤ 20 ∧ m.c.gl ≤ 20 ∧ m.c.key.size ≤ 20)) (fun i _ => l.length - (intOf i).toNat)
    case atStart => exact ⟨0, by omega, rfl, Below.refl _ _, Lib.hid (fun m hm => by simp at hm)⟩
    case round =>
      obtain ⟨I, hI, rfl, hB, hF⟩ := hrel
      by_cases hlt : I < l.length
      · obtain ⟨m, hm⟩ : ∃ m, l[I]? = some m := ⟨_, List.getElem?_eq_getElem hlt⟩
        have HM := Lib.hid hm
        clear hm
        go_wp2
        obtain ⟨w1, hw1⟩ : ∃ w1, w1 = wr := ⟨_, rfl⟩
        rw [← hw1] at hB
        rw [← hw1]
        clear hw1 wr
        go_loopw [6, 7] (fun n k wk => ∃ K : Nat, K ≤ l.length ∧ k = .int .i64 K ∧ n = .int .i64 (cntKey ((rcs l).take K) m.c.key : Nat) ∧ Below w.heap.size w wk) (fun _ k _ => l.length - (intOf k).toNat)
        case atStart => exact ⟨0, by omega, rfl, rfl, hB⟩
        case round =>
          obtain ⟨K, hK, rfl, rfl, hBk⟩ := hrel
          have hcl := cntKey_le ((rcs l).take K) m.c.key
          have htk : ((rcs l).take K).length ≤ K := List.length_take_le _ _
          obtain ⟨-, b, o, rfl, hb, c0, c1, c2, c3, c4, c5, c6, c7⟩ := RowRd.at (H.out.below hBk) (rcs_at HM.out)
          by_cases hlt2 : K < l.length
          · obtain ⟨d, hd⟩ : ∃ d, l[K]? = some d := ⟨_, List.getElem?_eq_getElem hlt2⟩
            obtain ⟨-, b', o', hab, hb', d0, d1, d2, d3, d4, d5, d6, d7⟩ := RowRd.at (H.out.below hBk) (rcs_at hd)
            cases hab
            have HCS := Lib.hid (cntKey_succ (rcs l) m.c.key K d.c (rcs_at hd))
            clear hd
            go_upto_region 10 with fail
            have hgr := fun (w0 W : World) (p : Addr) (hp : (fun k => k < wr.heap.size) p.block) => graft_cell (w0 := w0) (keep := (fun k => k < wr.heap.size)) W hp
            refine wp_region_units_draw (fun k => k < wr.heap.size) [16] (.step 0 (.step 1 (.step 2 (.step 3 (.step 4 (.step 5 (.step 6 (.step 7 (.step 8 (.step 9 (.step 10 (.step 11 (.step 12 (.step 13 (.step 14 (.step 15 (.step 16 (.step 17 .done)))))))))))))))))) (.step 0 (.step 1 (.step 2 (.step 3 (.step 4 (.step 5 (.step 6 (.step 7 (.step 8 (.step 9 (.step 10 (.step 11 (.unit 11 true (.step 12 (.step 13 (.step 14 (.step 15 (.step 16 .done))))) 17 16 .done))))))))))))) (by kernel_rfl) (by kernel_rfl) (by kernel_rfl) (by kernel_rfl) ?_
            simp only [mkUT, dstOf, bare, Oper.slim, List.contains_cons, List.contains_nil, Option.map_none, Option.map_some, List.getElem?_toArray, List.getElem?_cons_zero, List.getElem?_cons_succ, Option.bind_some, beq_self_eq_true, Bool.or_false, Nat.reduceBEq, Nat.reduceAdd, Nat.zero_add, Option.getD_some, Option.isSome_some, Option.isSome_none, Bool.false_and, Bool.true_and, Bool.false_eq_true, if_false, if_true, Option.some_beq_some, Option.some_beq_none, Option.none_beq_some, reduceCtorEq, ite_true, ite_false]
            repeat ((with_reducible refine wpUT_step (fun K hK => ?_)); go_simp; first | (refine hK _ _ ?_; clear hK K) | (refine ⟨by (intro kk hkk; first | exact hkk.elim | (simp (disch := (simp; omega)) only [hp_drew, hp_drewN, hp_alloc, hp_set]; done) | (simp [hp_drew, hp_drewN, hp_alloc_if, hkk]; done) | fail), hK _ _ ?_⟩; clear hK K)| (go_at_call 11; refine (counts_any d.c _).mono ?_; rintro e wc ⟨rfl, hbc⟩; refine ⟨_, rfl, (fun kk hkk => hbc.block kk (by simpa using hkk)), hK _ _ ?_⟩; clear hK K))
            refine wpUT_unit_below (x := ?_) (by rfl) ?_ ?_
            rotate_left
            · intro hgd
              repeat ((with_reducible refine wpUT_step (fun K hK => ?_)); go_simp; first | (refine hK _ _ ?_; clear hK K) | (refine ⟨by (intro kk hkk; first | exact hkk.elim | (simp (disch := (simp; omega)) only [hp_drew, hp_drewN, hp_alloc, hp_set]; done) | (simp [hp_drew, hp_drewN, hp_alloc_if, hkk]; done) | fail), hK _ _ ?_⟩; clear hK K)| (go_at_call 11; refine (counts_any d.c _).mono ?_; rintro e wc ⟨rfl, hbc⟩; refine ⟨_, rfl, (fun kk hkk => hbc.block kk (by simpa using hkk)), hK _ _ ?_⟩; clear hK K))
              exact wpUT_done ⟨by rfl, by (repeat' (first | (with_reducible exact RowKit.Below.refl _ _) | (with_reducible assumption) | (with_reducible refine RowKit.Below.drew ?_) | (with_reducible refine RowKit.Below.alloc ?_ ?_ _) | omega | (simp; done) | (simp; omega)))⟩
            intro js wu hbu
            simp only [UT.dsts, junk, SOp.dst, Option.toList_some, Option.toList_none, List.cons_append, List.nil_append, List.append_nil, cond_true, cond_false]
            try go_simp
            refine wpUT_done ?_
            try go_simp
            clear hgr
            have hu : Below wr.heap.size wr wu := ((Below.refl wr.heap.size wr).drew).trans hbu
            have hBu : Below w.heap.size w wu := hBk.trans (hu.mono hBk.size)
            clear c0 c1 c2 c3 c4 c5 c6 c7 d0 d1 d2 d3 d4 d5 d6 d7 hb hb' hbu hu hBk
            obtain ⟨cn, hcn⟩ : ∃ x, x = ((d.c.key.toList == m.c.key.toList) && d.c.counts) := ⟨_, rfl⟩
            rw [show ((d.c.key.toList == m.c.key.toList) && d.c.counts) = cn from hcn.symm]
            rw [← hcn] at HCS
            clear hcn
            cases cn
            all_goals
              go_wp2
              go_roundw
              case rel => exact ⟨K + 1, by omega, by go_num, by rw [HCS.out]; first | rfl | go_num, hBu⟩
              case measure => simp [intOf]; omega
          · obtain rfl : K = l.length := by omega
            have htl : (rcs l).take l.length = rcs l := by rw [← rcs_length l]; exact List.take_length
            rw [htl] at hcl ⊢
            clear htl htk
            have hl6 : cntKey (rcs l) m.c.key ≤ 1000 := by rw [rcs_length] at hcl; omega
            clear hcl
            go_upto_region 12 with fail
            refine wp_region_units (.step 0 (.step 1 (.step 2 (.unit 2 false (.step 3 (.step 4 (.step 5 (.step 6 (.step 7 (.step 8 (.step 9 .done))))))) 10 9 (.step 11 (.unit 11 false (.step 12 (.step 13 (.step 14 (.step 15 (.step 16 (.step 17 (.step 18 .done))))))) 19 18 (.step 20 (.unit 20 false (.step 21 (.step 22 (.step 23 (.step 24 (.step 25 (.step 26 (.step 27 .done))))))) 28 27 .done)))))))) (by kernel_rfl) (by kernel_rfl) ?_
            simp only [mkUT, dstOf, bare, Oper.slim, List.contains_cons, List.contains_nil, Option.map_none, Option.map_some, List.getElem?_toArray, List.getElem?_cons_zero, List.getElem?_cons_succ, Option.bind_some, beq_self_eq_true, Bool.or_false, Nat.reduceBEq, Nat.reduceAdd, Nat.zero_add, Option.getD_some, Option.isSome_some, Option.isSome_none, Bool.false_and, Bool.true_and, Bool.false_eq_true, if_false, if_true, Option.some_beq_some, Option.some_beq_none, Option.none_beq_some, reduceCtorEq, ite_true, ite_false]
            repeat ((with_reducible refine wpUT_step (fun K hK => ?_)); go_simp; first | (refine hK _ _ ?_; clear hK K) | (refine ⟨by (intro kk hkk; first | exact hkk.elim | (simp (disch := (simp; omega)) only [hp_drew, hp_drewN, hp_alloc, hp_set]; done) | (simp [hp_drew, hp_drewN, hp_alloc_if, hkk]; done) | fail), hK _ _ ?_⟩; clear hK K))
            refine wpUT_unit (x := ?_) (by rfl) ?_ ?_
            rotate_left
            · intro hgd
              repeat ((with_reducible refine wpUT_step (fun K hK => ?_)); go_simp; first | (refine hK _ _ ?_; clear hK K) | (refine ⟨by (intro kk hkk; first | exact hkk.elim | (simp (disch := (simp; omega)) only [hp_drew, hp_drewN, hp_alloc, hp_set]; done) | (simp [hp_drew, hp_drewN, hp_alloc_if, hkk]; done) | fail), hK _ _ ?_⟩; clear hK K))
              exact wpUT_done ⟨by rfl, rfl⟩
            intro js
            simp only [UT.dsts, junk, SOp.dst, Option.toList_some, Option.toList_none, List.cons_append, List.nil_append, List.append_nil, cond_true, cond_false]
            repeat ((with_reducible refine wpUT_step (fun K hK => ?_)); go_simp; first | (refine hK _ _ ?_; clear hK K) | (refine ⟨by (intro kk hkk; first | exact hkk.elim | (simp (disch := (simp; omega)) only [hp_drew, hp_drewN, hp_alloc, hp_set]; done) | (simp [hp_drew, hp_drewN, hp_alloc_if, hkk]; done) | fail), hK _ _ ?_⟩; clear hK K))
            refine wpUT_unit (x := ?_) (by rfl) ?_ ?_
            rotate_left
            · intro hgd
              repeat ((with_reducible refine wpUT_step (fun K hK => ?_)); go_simp; first | (refine hK _ _ ?_; clear hK K) | (refine ⟨by (intro kk hkk; first | exact hkk.elim | (simp (disch := (simp; omega)) only [hp_drew, hp_drewN, hp_alloc, hp_set]; done) | (simp [hp_drew, hp_drewN, hp_alloc_if, hkk]; done) | fail), hK _ _ ?_⟩; clear hK K))
              exact wpUT_done ⟨by rfl, rfl⟩
            intro js
            simp only [UT.dsts, junk, SOp.dst, Option.toList_some, Option.toList_none, List.cons_append, List.nil_append, List.append_nil, cond_true, cond_false]
            repeat ((with_reducible refine wpUT_step (fun K hK => ?_)); go_simp; first | (refine hK _ _ ?_; clear hK K) | (refine ⟨by (intro kk hkk; first | exact hkk.elim | (simp (disch := (simp; omega)) only [hp_drew, hp_drewN, hp_alloc, hp_set]; done) | (simp [hp_drew, hp_drewN, hp_alloc_if, hkk]; done) | fail), hK _ _ ?_⟩; clear hK K))
            refine wpUT_unit (x := ?_) (by rfl) ?_ ?_
            rotate_left
            · intro hgd
              repeat ((with_reducible refine wpUT_step (fun K hK => ?_)); go_simp; first | (refine hK _ _ ?_; clear hK K) | (refine ⟨by (intro kk hkk; first | exact hkk.elim | (simp (disch := (simp; omega)) only [hp_drew, hp_drewN, hp_alloc, hp_set]; done) | (simp [hp_drew, hp_drewN, hp_alloc_if, hkk]; done) | fail), hK _ _ ?_⟩; clear hK K))
              exact wpUT_done ⟨by rfl, rfl⟩
            intro js
            simp only [UT.dsts, junk, SOp.dst, Option.toList_some, Option.toList_none, List.cons_append, List.nil_append, List.append_nil, cond_true, cond_false]
            try go_simp
            refine wpUT_done ?_
            try go_simp
            obtain ⟨ab, hab⟩ : ∃ x : Bool, x = (((decide ((6 : Int) < (cntKey (rcs l) m.c.key : Int)) || decide ((20 : Int) < (m.c.vl : Int))) || decide ((20 : Int) < (m.c.gl : Int))) || decide ((20 : Int) < (m.c.key.size : Int))) := ⟨_, rfl⟩
            rw [← hab]
            have HAB : Hid (ab = false ↔ (cntKey (rcs l) m.c.key ≤ 6 ∧ m.c.vl ≤ 20 ∧ m.c.gl ≤ 20 ∧ m.c.key.size ≤ 20)) := Lib.hid (by
              rw [hab]
              simp only [Bool.or_eq_false_iff, decide_eq_false_iff_not]
              omega)
            clear hab c0 c1 c2 c3 c4 c5 c6 c7 hb
            cases ab
            · have HF2 : Hid (∀ k ∈ l.take (I + 1), cntKey (rcs l) k.c.key ≤ 6 ∧ k.c.vl ≤ 20 ∧ k.c.gl ≤ 20 ∧ k.c.key.size ≤ 20) := Lib.hid (by
                intro k hk
                rw [List.take_add_one, HM.out, List.mem_append] at hk
                rcases hk with hk | hk
                · exact hF.out k hk
                · obtain rfl : k = m := by simpa using hk
                  exact HAB.out.1 rfl)
              go_wp2
              go_roundw
              case rel => exact ⟨I + 1, by omega, by go_num, hBk, HF2⟩
              case measure => simp [intOf]; omega
            · have HNF : Hid (¬ fewM l top) := Lib.hid (fun hf => by
                have := HAB.out.2 (hf.2 m (List.mem_of_getElem? HM.out))
                cases this)
              go_wp2
              go_ret
              exact ⟨false, rfl, ⟨(fun h => (by cases h)), fun hf => absurd hf HNF.out⟩, hBk⟩
      · obtain rfl : I = l.length := by omega
        go_wp2
        go_ret
        exact ⟨true, rfl, ⟨fun _ => ⟨HLT.out, fun m hm => hF.out m (by rw [List.take_length]; exact hm)⟩, fun _ => rfl⟩, hB⟩
end Go.Proofs.Ytggecoekoilahaa
