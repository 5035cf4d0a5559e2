/-
  The reference's goes: can the calls that are left be put behind others?
-/
import Derived.Test.YtggecoekoilahaaIdGoesDef
import Derived.Maps.AppendAt
namespace Go.Proofs.Ytggecoekoilahaa
open Go.RowKit
set_option linter.unusedSimpArgs false
set_option linter.unusedVariables false

set_option maxRecDepth 100000 in
set_option maxHeartbeats 2000000 in
/-- The first loop, over. -/
theorem goes_over (v : Value) (there : Bool) (value : Value) (l : List CM) (w : World) (h : RowRd w v (rcs l)) (hl : l.length ≤ 1000) (ho : overM l = true) :
    Calls Try.prog 31 #[v, .bool there, value] w fun e w' => e = .returned (.bool true) ∧ Below w.heap.size w w' := by
  obtain ⟨a, cap, rfl⟩ := h.form
  have H := Lib.hid h
  have HO := Lib.hid ho
  clear h ho
  have hll := rcs_length l
  rw [hll] at *
  clear hll
  go_enter Try.func31, Try.ntmps31
  go_wp2
  go_loopw [7, 8] (fun ov i wr => ∃ I : Nat, I ≤ l.length ∧ i = .int .i64 I ∧ ov = .bool ((l.take I).all fun m => m.c.to == -1) ∧ wr = w) (fun _ i _ => l.length - (intOf i).toNat)
  case atStart => exact ⟨0, by omega, rfl, by simp, rfl⟩
  case round =>
    obtain ⟨I, hI, rfl, rfl, rfl⟩ := hrel
    by_cases hlt : I < l.length
    · obtain ⟨m, hm⟩ : ∃ m, l[I]? = some m := ⟨_, List.getElem?_eq_getElem hlt⟩
      have h0 := H.out
      obtain ⟨_, b, o, rfl, hb, c0, c1, c2, c3, c4, c5, c6, c7⟩ := RowRd.at h0 (rcs_at hm)
      have hs := take_all_succ hm (fun m => m.c.to == -1)
      have HS := Lib.hid hs
      generalize hA : (l.take I).all (fun m => m.c.to == -1) = A at *
      have HA := Lib.hid hA
      clear hA hs h0 hm
      go_upto_region 5 with fail
      refine wp_region_units (.step 0 (.step 1 (.unit 1 true (.step 2 (.step 3 (.step 4 (.step 5 (.step 6 (.step 7 .done)))))) 8 7 (.step 9 .done)))) (by kernel_rfl) (by kernel_rfl) ?_
      simp only [mkUT, dstOf, bare, Oper.slim, List.contains_cons, List.contains_nil, Option.map_none, Option.map_some, List.getElem?_toArray, List.getElem?_cons_zero, List.getElem?_cons_succ, Option.bind_some, beq_self_eq_true, Bool.or_false, Nat.reduceBEq, Nat.reduceAdd, Nat.zero_add, Option.getD_some, Option.isSome_some, Option.isSome_none, Bool.false_and, Bool.true_and, Bool.false_eq_true, if_false, if_true, Option.some_beq_some, Option.some_beq_none, Option.none_beq_some, reduceCtorEq, ite_true, ite_false]
      repeat ((with_reducible refine wpUT_step (fun K hK => ?_)); go_simp; first | (refine hK _ _ ?_; clear hK K) | (refine ⟨by (intro kk hkk; first | exact hkk.elim | (simp (disch := (simp; omega)) only [hp_drew, hp_drewN, hp_alloc, hp_set]; done) | (simp [hp_drew, hp_drewN, hp_alloc_if, hkk]; done) | fail), hK _ _ ?_⟩; clear hK K))
      refine wpUT_unit (x := ?_) (by rfl) ?_ ?_
      rotate_left
      · intro hgd
        repeat ((with_reducible refine wpUT_step (fun K hK => ?_)); go_simp; first | (refine hK _ _ ?_; clear hK K) | (refine ⟨by (intro kk hkk; first | exact hkk.elim | (simp (disch := (simp; omega)) only [hp_drew, hp_drewN, hp_alloc, hp_set]; done) | (simp [hp_drew, hp_drewN, hp_alloc_if, hkk]; done) | fail), hK _ _ ?_⟩; clear hK K))
        exact wpUT_done ⟨by rfl, rfl⟩
      intro js
      simp only [UT.dsts, junk, SOp.dst, Option.toList_some, Option.toList_none, List.cons_append, List.nil_append, List.append_nil, cond_true, cond_false]
      repeat ((with_reducible refine wpUT_step (fun K hK => ?_)); go_simp; first | (refine hK _ _ ?_; clear hK K) | (refine ⟨by (intro kk hkk; first | exact hkk.elim | (simp (disch := (simp; omega)) only [hp_drew, hp_drewN, hp_alloc, hp_set]; done) | (simp [hp_drew, hp_drewN, hp_alloc_if, hkk]; done) | fail), hK _ _ ?_⟩; clear hK K))
      refine wpUT_done ?_
      go_wp2
      go_roundw
      case rel => exact ⟨I + 1, by omega, by go_num, by rw [HS.out], by first | rfl | trivial⟩
      case measure => simp [intOf]; omega
    · obtain rfl : I = l.length := by omega
      have ht : (l.take l.length).all (fun m => m.c.to == -1) = true := by rw [List.take_length]; exact HO.out
      rw [ht]
      clear ht
      go_wp2
      go_ret
      exact ⟨rfl, Below.refl _ _⟩

theorem strOf_beq {l m : List Nat} (hl : ∀ x ∈ l, x < 256) (hm : ∀ x ∈ m, x < 256) : ((strOf l).toList == (strOf m).toList) = decide (l = m) := by
  rw [ByteArray.toList_eq, ByteArray.toList_eq]
  by_cases h : l = m
  · subst h; simp
  · rw [decide_eq_false h]
    have : (strOf l).data.toList ≠ (strOf m).data.toList := fun e => h ((strOf_inj hl hm).1 (by
      have e2 : (strOf l).data = (strOf m).data := Array.toList_inj.1 e
      cases h1 : strOf l; cases h2 : strOf m; rw [h1, h2] at e2; simp only at e2; rw [e2]))
    exact beq_false_of_ne this
theorem skip_eq (l : List CM) (m : CM) (there : Bool) (val : List Nat) (hg : ∀ x ∈ m.got, x < 256) (hv : ∀ x ∈ val, x < 256) :
    ((!firstM l m || ((m.c.kd == 2) && !((m.c.co == 0) == there))) || (((m.c.kd == 2) && there) && !((strOf m.got).toList == (strOf val).toList))) = !(firstM l m && passM there val m) := by
  rw [strOf_beq hg hv]
  unfold passM
  cases firstM l m <;> cases (m.c.kd == 2) <;> cases (m.c.co == 0) <;> cases there <;> cases decide (m.got = val) <;> rfl
theorem rcall_info : (Try.prog.info? 42).map (fun i => (i.zero, i.size, i.bytes)) = some (some (.agg #[.int .i64 0, .int .u8 0, .string ⟨#[]⟩, .slice none 0 0, .int .i64 0, .int .i64 0, .int .i64 0, .slice none 0 0]), 8, 104) := by kernel_rfl
set_option maxRecDepth 100000 in
set_option maxHeartbeats 4000000 in
theorem goes_any : ∀ (n : Nat) (v : Value) (there : Bool) (value : Value) (l : List CM) (val : List Nat) (w : World), l.length = n → n ≤ 1000 → RowRd w v (rcs l) → AllRd w l → BytesRd w value val →
    Calls Try.prog 31 #[v, .bool there, value] w fun e w' => e = .returned (.bool (goesM n l there val)) ∧ Below w.heap.size w w' := by
  intro n
  induction n with
  | zero =>
    intro v there value l val w hn h1 h hr hv
    obtain rfl := List.eq_nil_of_length_eq_zero hn
    exact goes_over v there value [] w h (by simp) rfl
  | succ n ih =>
    intro v there value l val w hn h1 h hr hv
    cases ho : overM l with
    | true =>
      rw [show goesM (n + 1) l there val = true by simp [goesM, ho]]
      exact goes_over v there value l w h (by omega) ho
    | false =>
      rw [show goesM (n + 1) l there val = anyUpto n l there val l.length by simp [goesM, ho, anyUpto]]
      obtain ⟨a, cap, rfl⟩ := h.form
      obtain ⟨i0, hi, hz0, hz1, hz2⟩ := info_parts rcall_info
      have IH := Lib.hid ih
      have H := Lib.hid h
      have HO := Lib.hid ho
      have HR := Lib.hid hr
      have HV := Lib.hid hv
      have HL := Lib.hid hn
      have hl1 : l.length ≤ 1000 := by omega
      clear ih h ho hr hv hn
      have hll := rcs_length l
      rw [hll] at *
      clear hll
      go_enter Try.func31, Try.ntmps31
      go_wp2
      go_loopw [7, 8] (fun ov i wr => ∃ I : Nat, I ≤ l.length ∧ i = .int .i64 I ∧ ov = .bool ((l.take I).all fun m => m.c.to == -1) ∧ w = wr) (fun _ i _ => l.length - (intOf i).toNat)
      case atStart => exact ⟨0, by omega, rfl, by simp, rfl⟩
      case round =>
        obtain ⟨I, hI, rfl, rfl, rfl⟩ := hrel
        by_cases hlt : I < l.length
        · obtain ⟨m, hm⟩ : ∃ m, l[I]? = some m := ⟨_, List.getElem?_eq_getElem hlt⟩
          have h0 := H.out
          obtain ⟨_, b, o, rfl, hb, c0, c1, c2, c3, c4, c5, c6, c7⟩ := RowRd.at h0 (rcs_at hm)
          have hs := take_all_succ hm (fun m => m.c.to == -1)
          have HS := Lib.hid hs
          generalize hA : (l.take I).all (fun m => m.c.to == -1) = A at *
          have HA := Lib.hid hA
          clear hA hs h0 hm
          go_upto_region 5 with fail
          refine wp_region_units (.step 0 (.step 1 (.unit 1 true (.step 2 (.step 3 (.step 4 (.step 5 (.step 6 (.step 7 .done)))))) 8 7 (.step 9 .done)))) (by kernel_rfl) (by kernel_rfl) ?_
          simp only [mkUT, dstOf, bare, Oper.slim, List.contains_cons, List.contains_nil, Option.map_none, Option.map_some, List.getElem?_toArray, List.getElem?_cons_zero, List.getElem?_cons_succ, Option.bind_some, beq_self_eq_true, Bool.or_false, Nat.reduceBEq, Nat.reduceAdd, Nat.zero_add, Option.getD_some, Option.isSome_some, Option.isSome_none, Bool.false_and, Bool.true_and, Bool.false_eq_true, if_false, if_true, Option.some_beq_some, Option.some_beq_none, Option.none_beq_some, reduceCtorEq, ite_true, ite_false]
          repeat ((with_reducible refine wpUT_step (fun K hK => ?_)); go_simp; first | (refine hK _ _ ?_; clear hK K) | (refine ⟨by (intro kk hkk; first | exact hkk.elim | (simp (disch := (simp; omega)) only [hp_drew, hp_drewN, hp_alloc, hp_set]; done) | (simp [hp_drew, hp_drewN, hp_alloc_if, hkk]; done) | fail), hK _ _ ?_⟩; clear hK K))
          refine wpUT_unit (x := ?_) (by rfl) ?_ ?_
          rotate_left
          · intro hgd
            repeat ((with_reducible refine wpUT_step (fun K hK => ?_)); go_simp; first | (refine hK _ _ ?_; clear hK K) | (refine ⟨by (intro kk hkk; first | exact hkk.elim | (simp (disch := (simp; omega)) only [hp_drew, hp_drewN, hp_alloc, hp_set]; done) | (simp [hp_drew, hp_drewN, hp_alloc_if, hkk]; done) | fail), hK _ _ ?_⟩; clear hK K))
            exact wpUT_done ⟨by rfl, rfl⟩
          intro js
          simp only [UT.dsts, junk, SOp.dst, Option.toList_some, Option.toList_none, List.cons_append, List.nil_append, List.append_nil, cond_true, cond_false]
          repeat ((with_reducible refine wpUT_step (fun K hK => ?_)); go_simp; first | (refine hK _ _ ?_; clear hK K) | (refine ⟨by (intro kk hkk; first | exact hkk.elim | (simp (disch := (simp; omega)) only [hp_drew, hp_drewN, hp_alloc, hp_set]; done) | (simp [hp_drew, hp_drewN, hp_alloc_if, hkk]; done) | fail), hK _ _ ?_⟩; clear hK K))
          refine wpUT_done ?_
          go_wp2
          go_roundw
          case rel => exact ⟨I + 1, by omega, by go_num, by rw [HS.out], by first | rfl | trivial⟩
          case measure => simp [intOf]; omega
        · obtain rfl : I = l.length := by omega
          have ht : (l.take l.length).all (fun m => m.c.to == -1) = false := by rw [List.take_length]; exact HO.out
          rw [ht]
          clear ht
          go_wp2
          go_loopw [9] (fun i wr => ∃ J : Nat, J ≤ l.length ∧ i = .int .i64 J ∧ Below w.heap.size w wr ∧ Hid (anyUpto n l there val J = false)) (fun i _ => l.length - (intOf i).toNat)
          case atStart => exact ⟨0, by omega, rfl, Below.refl _ _, Lib.hid rfl⟩
          case round =>
            obtain ⟨J, hJ, rfl, hB, hF⟩ := hrel
            by_cases hlt : J < l.length
            · obtain ⟨m, hm⟩ : ∃ m, l[J]? = some m := ⟨_, List.getElem?_eq_getElem hlt⟩
              have HM := Lib.hid hm
              clear hm
              go_wp2
              obtain ⟨w1, hw1⟩ : ∃ w1, w1 = wr := ⟨_, rfl⟩
              go_loopw [10, 11] (fun f k wk => ∃ K : Nat, K ≤ l.length ∧ k = .int .i64 K ∧ f = .bool ((l.take K).all fun k => !k.c.ahead m.c) ∧ Below w.heap.size w wk) (fun _ k _ => l.length - (intOf k).toNat)
              case atStart => exact ⟨0, by omega, rfl, by simp, hB⟩
              case round =>
                obtain ⟨K, hK, rfl, rfl, hBk⟩ := hrel
                by_cases hlt2 : K < l.length
                · obtain ⟨d, hd⟩ : ∃ d, l[K]? = some d := ⟨_, List.getElem?_eq_getElem hlt2⟩
                  have h0 := H.out.below hBk
                  obtain ⟨_, b, o, rfl, hb, c0, c1, c2, c3, c4, c5, c6, c7⟩ := RowRd.at h0 (rcs_at HM.out)
                  obtain ⟨_, b', o', hab, hb', d0, d1, d2, d3, d4, d5, d6, d7⟩ := RowRd.at h0 (rcs_at hd)
                  cases hab
                  have hs := take_all_succ hd (fun k => !k.c.ahead m.c)
                  have HS := Lib.hid hs
                  generalize hA : (l.take K).all (fun k => !k.c.ahead m.c) = A at *
                  have HA := Lib.hid hA
                  clear hA hs h0 hd
                  go_upto_region 15 with fail
                  have hgr := fun (w0 W : World) (p : Addr) (hp : (fun k => k < wr.heap.size) p.block) => graft_cell (w0 := w0) (keep := (fun k => k < wr.heap.size)) W hp
                  refine wp_region_units_draw (fun k => k < wr.heap.size) [10] (.step 0 (.step 1 (.step 2 (.step 3 (.step 4 (.step 5 (.step 6 (.step 7 (.step 8 (.step 9 (.step 10 (.step 11 (.step 12 (.step 13 .done)))))))))))))) (.step 0 (.step 1 (.unit 1 true (.step 2 (.step 3 (.step 4 (.step 5 (.step 6 (.step 7 (.step 8 (.step 9 (.step 10 (.step 11 .done)))))))))) 12 11 (.step 13 .done)))) (by kernel_rfl) (by kernel_rfl) (by kernel_rfl) (by kernel_rfl) ?_
                  simp only [mkUT, dstOf, bare, Oper.slim, List.contains_cons, List.contains_nil, Option.map_none, Option.map_some, List.getElem?_toArray, List.getElem?_cons_zero, List.getElem?_cons_succ, Option.bind_some, beq_self_eq_true, Bool.or_false, Nat.reduceBEq, Nat.reduceAdd, Nat.zero_add, Option.getD_some, Option.isSome_some, Option.isSome_none, Bool.false_and, Bool.true_and, Bool.false_eq_true, if_false, if_true, Option.some_beq_some, Option.some_beq_none, Option.none_beq_some, reduceCtorEq, ite_true, ite_false]
                  repeat ((with_reducible refine wpUT_step (fun K hK => ?_)); go_simp; first | (refine hK _ _ ?_; clear hK K) | (refine ⟨by (intro kk hkk; first | exact hkk.elim | (simp (disch := (simp; omega)) only [hp_drew, hp_drewN, hp_alloc, hp_set]; done) | (simp [hp_drew, hp_drewN, hp_alloc_if, hkk]; done) | fail), hK _ _ ?_⟩; clear hK K)| (go_at_call 41; refine (ahead_any _ _ _).mono ?_; rintro e wc ⟨rfl, hbc⟩; refine ⟨_, rfl, (fun kk hkk => hbc.block kk (by simpa using hkk)), hK _ _ ?_⟩; clear hK K))
                  refine wpUT_unit_below (x := ?_) (by rfl) ?_ ?_
                  rotate_left
                  · intro hgd
                    repeat ((with_reducible refine wpUT_step (fun K hK => ?_)); go_simp; first | (refine hK _ _ ?_; clear hK K) | (refine ⟨by (intro kk hkk; first | exact hkk.elim | (simp (disch := (simp; omega)) only [hp_drew, hp_drewN, hp_alloc, hp_set]; done) | (simp [hp_drew, hp_drewN, hp_alloc_if, hkk]; done) | fail), hK _ _ ?_⟩; clear hK K)| (go_at_call 41; refine (ahead_any _ _ _).mono ?_; rintro e wc ⟨rfl, hbc⟩; refine ⟨_, rfl, (fun kk hkk => hbc.block kk (by simpa using hkk)), hK _ _ ?_⟩; clear hK K))
                    exact wpUT_done ⟨by rfl, by (repeat' (first | (with_reducible exact RowKit.Below.refl _ _) | (with_reducible assumption) | (with_reducible refine RowKit.Below.drew ?_) | (with_reducible refine RowKit.Below.alloc ?_ ?_ _) | omega | (simp; done) | (simp; omega)))⟩
                  intro js wu hbu
                  simp only [UT.dsts, junk, SOp.dst, Option.toList_some, Option.toList_none, List.cons_append, List.nil_append, List.append_nil, cond_true, cond_false]
                  repeat ((with_reducible refine wpUT_step (fun K hK => ?_)); go_simp; first | (refine hK _ _ ?_; clear hK K) | (refine ⟨by (intro kk hkk; first | exact hkk.elim | (simp (disch := (simp; omega)) only [hp_drew, hp_drewN, hp_alloc, hp_set]; done) | (simp [hp_drew, hp_drewN, hp_alloc_if, hkk]; done) | fail), hK _ _ ?_⟩; clear hK K)| (go_at_call 41; refine (ahead_any _ _ _).mono ?_; rintro e wc ⟨rfl, hbc⟩; refine ⟨_, rfl, (fun kk hkk => hbc.block kk (by simpa using hkk)), hK _ _ ?_⟩; clear hK K))
                  refine wpUT_done ?_
                  clear hgr
                  have hu : Below w.heap.size w wu := hBk.trans ((((Below.refl wr.heap.size wr).drew).trans hbu).mono hBk.size)
                  go_wp2
                  go_roundw
                  case rel => exact ⟨K + 1, by omega, by go_num, by rw [HS.out], by first | exact hu | exact hu.drew⟩
                  case measure => simp [intOf]; omega
                · obtain rfl : K = l.length := by omega
                  have ht : (l.take l.length).all (fun k => !k.c.ahead m.c) = firstM l m := by rw [List.take_length]; rfl
                  rw [ht]
                  clear ht
                  obtain ⟨_, b, o, rfl, hb, c0, c1, c2, c3, c4, c5, c6, c7⟩ := RowRd.at (H.out.below hBk) (rcs_at HM.out)
                  go_upto_region 17 with fail
                  generalize hw2 : wr.alloc (.cells #[.int .i64 m.c.cl, .int .u8 m.c.kd, .string m.c.key, .slice m.c.va m.c.vl m.c.vc, .int .i64 m.c.fr, .int .i64 m.c.to, .int .i64 m.c.co, .slice m.c.ga m.c.gl m.c.gc] 42) = W
                  have hBW : Below w.heap.size w W := by rw [← hw2]; exact hBk.alloc hBk.size _
                  have hX : W.heap[wr.heap.size]? = some (.cells #[.int .i64 m.c.cl, .int .u8 m.c.kd, .string m.c.key, .slice m.c.va m.c.vl m.c.vc, .int .i64 m.c.fr, .int .i64 m.c.to, .int .i64 m.c.co, .slice m.c.ga m.c.gl m.c.gc] 42) := by rw [← hw2]; exact heap_newA _ _
                  have HX := Lib.hid hX
                  clear hw2 hX hBk hb c0 c1 c2 c3 c4 c5 c6 c7
                  generalize wr.heap.size = B4 at *
                  clear wr
                  obtain ⟨e0, e1, e2, e3, e4, e5, e6, e7⟩ := cells8 HX.out
                  have cg := ((HR.out m (List.mem_of_getElem? HM.out)).below hBW).2.conv
                  have cv := (HV.out.below hBW).conv
                  refine wp_region_units (.step 0 (.step 1 (.step 2 (.unit 2 false (.step 3 (.step 4 (.step 5 (.step 6 (.unit 6 true (.step 7 (.step 8 (.step 9 (.step 10 (.step 11 .done))))) 12 11 .done))))) 13 12 (.step 14 (.unit 14 false (.step 15 (.step 16 (.step 17 (.step 18 (.unit 18 true (.step 19 .done) 20 19 (.step 21 (.unit 21 true (.step 22 (.step 23 (.step 24 (.step 25 (.step 26 (.step 27 .done)))))) 28 27 .done))))))) 29 28 .done)))))) (by kernel_rfl) (by kernel_rfl) ?_
                  simp only [mkUT, dstOf, bare, Oper.slim, List.contains_cons, List.contains_nil, Option.map_none, Option.map_some, List.getElem?_toArray, List.getElem?_cons_zero, List.getElem?_cons_succ, Option.bind_some, beq_self_eq_true, Bool.or_false, Nat.reduceBEq, Nat.reduceAdd, Nat.zero_add, Option.getD_some, Option.isSome_some, Option.isSome_none, Bool.false_and, Bool.true_and, Bool.false_eq_true, if_false, if_true, Option.some_beq_some, Option.some_beq_none, Option.none_beq_some, reduceCtorEq, ite_true, ite_false]
                  repeat ((with_reducible refine wpUT_step (fun K hK => ?_)); go_simp; first | (refine hK _ _ ?_; clear hK K) | (refine ⟨by (intro kk hkk; first | exact hkk.elim | (simp (disch := (simp; omega)) only [hp_drew, hp_drewN, hp_alloc, hp_set]; done) | (simp [hp_drew, hp_drewN, hp_alloc_if, hkk]; done) | fail), hK _ _ ?_⟩; clear hK K))
                  refine wpUT_unit (x := ?_) (by rfl) ?_ ?_
                  rotate_left
                  · intro hgd
                    repeat ((with_reducible refine wpUT_step (fun K hK => ?_)); go_simp; first | (refine hK _ _ ?_; clear hK K) | (refine ⟨by (intro kk hkk; first | exact hkk.elim | (simp (disch := (simp; omega)) only [hp_drew, hp_drewN, hp_alloc, hp_set]; done) | (simp [hp_drew, hp_drewN, hp_alloc_if, hkk]; done) | fail), hK _ _ ?_⟩; clear hK K))
                    refine wpUT_unit (x := ?_) (by rfl) ?_ ?_
                    rotate_left
                    · intro hgd
                      repeat ((with_reducible refine wpUT_step (fun K hK => ?_)); go_simp; first | (refine hK _ _ ?_; clear hK K) | (refine ⟨by (intro kk hkk; first | exact hkk.elim | (simp (disch := (simp; omega)) only [hp_drew, hp_drewN, hp_alloc, hp_set]; done) | (simp [hp_drew, hp_drewN, hp_alloc_if, hkk]; done) | fail), hK _ _ ?_⟩; clear hK K))
                      exact wpUT_done ⟨by rfl, rfl⟩
                    intro js
                    simp only [UT.dsts, junk, SOp.dst, Option.toList_some, Option.toList_none, List.cons_append, List.nil_append, List.append_nil, cond_true, cond_false]
                    try go_simp
                    exact wpUT_done ⟨by rfl, rfl⟩
                  intro js
                  simp only [UT.dsts, junk, SOp.dst, Option.toList_some, Option.toList_none, List.cons_append, List.nil_append, List.append_nil, cond_true, cond_false]
                  repeat ((with_reducible refine wpUT_step (fun K hK => ?_)); go_simp; first | (refine hK _ _ ?_; clear hK K) | (refine ⟨by (intro kk hkk; first | exact hkk.elim | (simp (disch := (simp; omega)) only [hp_drew, hp_drewN, hp_alloc, hp_set]; done) | (simp [hp_drew, hp_drewN, hp_alloc_if, hkk]; done) | fail), hK _ _ ?_⟩; clear hK K))
                  refine wpUT_unit (x := ?_) (by rfl) ?_ ?_
                  rotate_left
                  · intro hgd
                    repeat ((with_reducible refine wpUT_step (fun K hK => ?_)); go_simp; first | (refine hK _ _ ?_; clear hK K) | (refine ⟨by (intro kk hkk; first | exact hkk.elim | (simp (disch := (simp; omega)) only [hp_drew, hp_drewN, hp_alloc, hp_set]; done) | (simp [hp_drew, hp_drewN, hp_alloc_if, hkk]; done) | fail), hK _ _ ?_⟩; clear hK K))
                    refine wpUT_unit (x := ?_) (by rfl) ?_ ?_
                    rotate_left
                    · intro hgd
                      repeat ((with_reducible refine wpUT_step (fun K hK => ?_)); go_simp; first | (refine hK _ _ ?_; clear hK K) | (refine ⟨by (intro kk hkk; first | exact hkk.elim | (simp (disch := (simp; omega)) only [hp_drew, hp_drewN, hp_alloc, hp_set]; done) | (simp [hp_drew, hp_drewN, hp_alloc_if, hkk]; done) | fail), hK _ _ ?_⟩; clear hK K))
                      exact wpUT_done ⟨by rfl, rfl⟩
                    intro js
                    simp only [UT.dsts, junk, SOp.dst, Option.toList_some, Option.toList_none, List.cons_append, List.nil_append, List.append_nil, cond_true, cond_false]
                    repeat ((with_reducible refine wpUT_step (fun K hK => ?_)); go_simp; first | (refine hK _ _ ?_; clear hK K) | (refine ⟨by (intro kk hkk; first | exact hkk.elim | (simp (disch := (simp; omega)) only [hp_drew, hp_drewN, hp_alloc, hp_set]; done) | (simp [hp_drew, hp_drewN, hp_alloc_if, hkk]; done) | fail), hK _ _ ?_⟩; clear hK K))
                    refine wpUT_unit (x := ?_) (by rfl) ?_ ?_
                    rotate_left
                    · intro hgd
                      repeat ((with_reducible refine wpUT_step (fun K hK => ?_)); go_simp; first | (refine hK _ _ ?_; clear hK K) | (refine ⟨by (intro kk hkk; first | exact hkk.elim | (simp (disch := (simp; omega)) only [hp_drew, hp_drewN, hp_alloc, hp_set]; done) | (simp [hp_drew, hp_drewN, hp_alloc_if, hkk]; done) | fail), hK _ _ ?_⟩; clear hK K))
                      exact wpUT_done ⟨by rfl, rfl⟩
                    intro js
                    simp only [UT.dsts, junk, SOp.dst, Option.toList_some, Option.toList_none, List.cons_append, List.nil_append, List.append_nil, cond_true, cond_false]
                    try go_simp
                    exact wpUT_done ⟨by rfl, rfl⟩
                  intro js
                  simp only [UT.dsts, junk, SOp.dst, Option.toList_some, Option.toList_none, List.cons_append, List.nil_append, List.append_nil, cond_true, cond_false]
                  try go_simp
                  refine wpUT_done ?_
                  try go_simp
                  have hsk := skip_eq l m there val (HR.out m (List.mem_of_getElem? HM.out)).2.1 HV.out.1
                  rw [hsk]
                  obtain ⟨go, hgo⟩ : ∃ x, x = (firstM l m && passM there val m) := ⟨_, rfl⟩
                  rw [← hgo]
                  have HGO := Lib.hid hgo
                  have hus := anyUpto_succ (n := n) (there := there) (value := val) HM.out
                  have HUS := Lib.hid hus
                  clear hsk hgo hus cg cv
                  cases go
                  case false =>
                    have HF2 : Hid (anyUpto n l there val (J + 1) = false) := Lib.hid (by rw [HUS.out, hF.out, ← Bool.and_assoc, ← HGO.out]; rfl)
                    simp only [Bool.not_false]
                    go_wp2
                    go_roundw
                    case rel => exact ⟨J + 1, by omega, by go_num, hBW, HF2⟩
                    case measure => simp [intOf]; omega
                  case true =>
                    simp only [Bool.not_true]
                    have hrow : RowRd W (.slice (some ⟨b, o, none⟩) l.length cap) (rcs l) := by have h9 := RowRd.below H.out hBW; rwa [rcs_length] at h9
                    have HROW := Lib.hid hrow
                    have hnw : ∀ j u, (flat ((rcs l).take J))[j]? = some u → W.cell? ((⟨b, o, none⟩ : Addr).add j) = some u := by simpa using RowRd.part hrow 0 J (by rw [rcs_length]; omega)
                    have HNW := Lib.hid hnw
                    have hcap := RowRd.cap_le hrow
                    rw [rcs_length] at hcap
                    have hJc : J ≤ cap := by omega
                    clear hrow hnw
                    have hgoal : ∀ v2 w4 cnt, w4.ownsRow W.heap.size 42 8 v2 cnt (flat ((rcs l).take J) ++ flat ((rcs l).drop (J + 1))) → Below W.heap.size W w4 → RowRd w4 v2 (rcs (l.eraseIdx J)) := by
                      intro v2 w4 cnt ho2 _
                      have e9 : rcs (l.eraseIdx J) = (rcs l).take J ++ (rcs l).drop (J + 1) := by unfold rcs; rw [← List.map_take, ← List.map_drop, ← List.map_append, List.eraseIdx_eq_take_drop_succ]
                      rw [e9]
                      rw [← flat_append] at ho2
                      exact RowRd.of_owns ho2
                    have HGOAL := Lib.hid hgoal
                    clear hgoal
                    have hle : (l.eraseIdx J).length = n := by rw [List.length_eraseIdx, if_pos hlt]; have := HL.out; omega
                    have HLE := Lib.hid hle
                    clear hle
                    by_cases hc : cap = J + 1
                    · subst hc
                      go_upto_region 21 with (first | (at_builtin; refine wpList_append_own _ rfl (.tmp 91) (.tmp 94) 39 rfl W.heap.size 42 i0 (.agg #[.int .i64 0, .int .u8 0, .string ⟨#[]⟩, .slice none 0 0, .int .i64 0, .int .i64 0, .int .i64 0, .slice none 0 0]) 8 104 Try.underlying39 hi hz0 hz1 hz2 rfl (by decide) (.slice none 0 0) 0 [] rfl (World.ownsRow_nil _ _ _ _) ⟨b, o, none⟩ J (J + 1) (flat ((rcs l).take J)) rfl (by rw [flat_length, List.length_take, rcs_length]; omega) HNW.out (flat_one _) (by unfold maxLen; omega) (by omega) (Nat.le_refl _) ?_; intro v1 w3 hown1 hgrow1 _; simp only [Nat.zero_add, List.nil_append] at hown1; have HO1 := Lib.hid hown1; have HG1 := Lib.hid hgrow1; have hB3 := (Below.refl W.heap.size W).grown hgrow1 (Nat.le_refl _) (fun k h => by cases h); have HB3 := Lib.hid hB3; clear hown1 hgrow1 hB3) | (at_builtin; refine wpList_append_own _ rfl (.tmp 96) (.tmp 100) 39 rfl W.heap.size 42 i0 (.agg #[.int .i64 0, .int .u8 0, .string ⟨#[]⟩, .slice none 0 0, .int .i64 0, .int .i64 0, .int .i64 0, .slice none 0 0]) 8 104 Try.underlying39 hi hz0 hz1 hz2 rfl (by decide) _ J (flat ((rcs l).take J)) rfl HO1.out _ _ _ (flat ((rcs l).drop (J + 1))) rfl (by rw [flat_length, List.length_drop, rcs_length] <;> omega) (by intro j u hj; rw [List.drop_eq_nil_of_le (by rw [rcs_length]; omega)] at hj; simp [flat] at hj) (flat_one _) (by unfold maxLen; omega) (by omega) HB3.out.size ?_; intro v2 w4 hown2 hgrow2 _))
                      have hb4 : Below W.heap.size W w4 := HB3.out.grown hgrow2 HB3.out.size (fun k hk => (HO1.out.lt k hk).1)
                      have HR4 := Lib.hid (HGOAL.out _ _ _ hown2 hb4)
                      have hB4 : Below w.heap.size w w4 := hBW.trans (hb4.mono hBW.size)
                      have hx4 := (hb4.block _ (Array.getElem?_eq_some_iff.1 HX.out).1).trans HX.out
                      have HA4 : Hid (AllRd w4 (l.eraseIdx J)) := Lib.hid (fun k hk => (HR.out k (List.mem_of_mem_eraseIdx hk)).below hB4)
                      have HV4 := Lib.hid (HV.out.below hB4)
                      have HM4 := Lib.hid ((HR.out m (List.mem_of_getElem? HM.out)).1.below hB4)
                      obtain ⟨e0, e1, e2, e3, e4, e5, e6, e7⟩ := cells8 hx4
                      have HB4 := Lib.hid hB4
                      clear hown2 hgrow2 HB3 HG1 HO1 hb4 hx4 HNW HROW hB4 HX HGOAL
                      by_cases k1 : m.c.kd = 1
                      · have f1 : (m.c.kd == 1) = true := by simpa using k1
                        have f2 : (m.c.kd == 3) = false := by rw [k1]; rfl
                        have hN : nowM there m = true := by simp [nowM, k1]
                        have hLf : leftM val m = m.val := by simp [leftM, k1]
                        have HN := Lib.hid hN
                        have HLf := Lib.hid hLf
                        clear k1 hN hLf
                        cases hg : goesM n (l.eraseIdx J) true m.val
                        · have HG := Lib.hid hg
                          have HCALL := Lib.hid (IH.out _ true _ (l.eraseIdx J) m.val w4 HLE.out (by omega) HR4.out HA4.out HM4.out)
                          have HF2 : Hid (anyUpto n l there val (J + 1) = false) := Lib.hid (by rw [HUS.out, hF.out, HN.out, HLf.out, HG.out]; simp)
                          clear hg
                          go_wp2_with (go_at_call 31; (with_reducible refine HCALL.out.mono ?_); rintro e w5 ⟨he, hb5⟩; rw [HG.out] at he; subst he)
                          have hB5 := HB4.out.trans (hb5.mono HB4.out.size)
                          go_roundw
                          case rel => exact ⟨J + 1, by omega, by go_num, hB5, HF2⟩
                          case measure => simp [intOf]; omega
                        · have HG := Lib.hid hg
                          have HCALL := Lib.hid (IH.out _ true _ (l.eraseIdx J) m.val w4 HLE.out (by omega) HR4.out HA4.out HM4.out)
                          have HF2 : Hid (anyUpto n l there val l.length = true) := Lib.hid (anyUpto_mono (a := J + 1) (by omega) (by rw [HUS.out, HN.out, HLf.out, HG.out, ← Bool.and_assoc, ← HGO.out]; simp))
                          clear hg
                          go_wp2_with (go_at_call 31; (with_reducible refine HCALL.out.mono ?_); rintro e w5 ⟨he, hb5⟩; rw [HG.out] at he; subst he)
                          have hB5 := HB4.out.trans (hb5.mono HB4.out.size)
                          go_ret
                          exact ⟨by rw [HF2.out] <;> rfl, hB5⟩
                      have f1 : (m.c.kd == 1) = false := by simpa using k1
                      by_cases k3 : m.c.kd = 3
                      · have f2 : (m.c.kd == 3) = true := by simpa using k3
                        have hN : nowM there m = false := by simp [nowM, k3]
                        have hLf : leftM val m = [] := by simp [leftM, k3]
                        have HN := Lib.hid hN
                        have HLf := Lib.hid hLf
                        have HNIL := Lib.hid (BytesRd.nil w4)
                        clear k1 k3 hN hLf
                        cases hg : goesM n (l.eraseIdx J) false []
                        · have HG := Lib.hid hg
                          have HCALL := Lib.hid (IH.out _ false _ (l.eraseIdx J) [] w4 HLE.out (by omega) HR4.out HA4.out HNIL.out)
                          have HF2 : Hid (anyUpto n l there val (J + 1) = false) := Lib.hid (by rw [HUS.out, hF.out, HN.out, HLf.out, HG.out]; simp)
                          clear hg
                          go_wp2_with (go_at_call 31; (with_reducible refine HCALL.out.mono ?_); rintro e w5 ⟨he, hb5⟩; rw [HG.out] at he; subst he)
                          have hB5 := HB4.out.trans (hb5.mono HB4.out.size)
                          go_roundw
                          case rel => exact ⟨J + 1, by omega, by go_num, hB5, HF2⟩
                          case measure => simp [intOf]; omega
                        · have HG := Lib.hid hg
                          have HCALL := Lib.hid (IH.out _ false _ (l.eraseIdx J) [] w4 HLE.out (by omega) HR4.out HA4.out HNIL.out)
                          have HF2 : Hid (anyUpto n l there val l.length = true) := Lib.hid (anyUpto_mono (a := J + 1) (by omega) (by rw [HUS.out, HN.out, HLf.out, HG.out, ← Bool.and_assoc, ← HGO.out]; simp))
                          clear hg
                          go_wp2_with (go_at_call 31; (with_reducible refine HCALL.out.mono ?_); rintro e w5 ⟨he, hb5⟩; rw [HG.out] at he; subst he)
                          have hB5 := HB4.out.trans (hb5.mono HB4.out.size)
                          go_ret
                          exact ⟨by rw [HF2.out] <;> rfl, hB5⟩
                      · have f2 : (m.c.kd == 3) = false := by simpa using k3
                        have hN : nowM there m = there := by simp [nowM, k1, k3]
                        have hLf : leftM val m = val := by simp [leftM, k1, k3]
                        have HN := Lib.hid hN
                        have HLf := Lib.hid hLf
                        clear k1 k3 hN hLf
                        cases hg : goesM n (l.eraseIdx J) there val
                        · have HG := Lib.hid hg
                          have HCALL := Lib.hid (IH.out _ there _ (l.eraseIdx J) val w4 HLE.out (by omega) HR4.out HA4.out HV4.out)
                          have HF2 : Hid (anyUpto n l there val (J + 1) = false) := Lib.hid (by rw [HUS.out, hF.out, HN.out, HLf.out, HG.out]; simp)
                          clear hg
                          go_wp2_with (go_at_call 31; (with_reducible refine HCALL.out.mono ?_); rintro e w5 ⟨he, hb5⟩; rw [HG.out] at he; subst he)
                          have hB5 := HB4.out.trans (hb5.mono HB4.out.size)
                          go_roundw
                          case rel => exact ⟨J + 1, by omega, by go_num, hB5, HF2⟩
                          case measure => simp [intOf]; omega
                        · have HG := Lib.hid hg
                          have HCALL := Lib.hid (IH.out _ there _ (l.eraseIdx J) val w4 HLE.out (by omega) HR4.out HA4.out HV4.out)
                          have HF2 : Hid (anyUpto n l there val l.length = true) := Lib.hid (anyUpto_mono (a := J + 1) (by omega) (by rw [HUS.out, HN.out, HLf.out, HG.out, ← Bool.and_assoc, ← HGO.out]; simp))
                          clear hg
                          go_wp2_with (go_at_call 31; (with_reducible refine HCALL.out.mono ?_); rintro e w5 ⟨he, hb5⟩; rw [HG.out] at he; subst he)
                          have hB5 := HB4.out.trans (hb5.mono HB4.out.size)
                          go_ret
                          exact ⟨by rw [HF2.out] <;> rfl, hB5⟩
                    · go_upto_region 21 with (first | (at_builtin; refine wpList_append_own _ rfl (.tmp 91) (.tmp 94) 39 rfl W.heap.size 42 i0 (.agg #[.int .i64 0, .int .u8 0, .string ⟨#[]⟩, .slice none 0 0, .int .i64 0, .int .i64 0, .int .i64 0, .slice none 0 0]) 8 104 Try.underlying39 hi hz0 hz1 hz2 rfl (by decide) (.slice none 0 0) 0 [] rfl (World.ownsRow_nil _ _ _ _) ⟨b, o, none⟩ J cap (flat ((rcs l).take J)) rfl (by rw [flat_length, List.length_take, rcs_length]; omega) HNW.out (flat_one _) (by unfold maxLen; omega) (by omega) (Nat.le_refl _) ?_; intro v1 w3 hown1 hgrow1 _; simp only [Nat.zero_add, List.nil_append] at hown1; have HO1 := Lib.hid hown1; have HG1 := Lib.hid hgrow1; have hB3 := (Below.refl W.heap.size W).grown hgrow1 (Nat.le_refl _) (fun k h => by cases h); have HB3 := Lib.hid hB3; clear hown1 hgrow1 hB3) | (at_builtin; refine (wpList_append_own _ rfl (.tmp 96) (.tmp 100) 39 rfl W.heap.size 42 i0 (.agg #[.int .i64 0, .int .u8 0, .string ⟨#[]⟩, .slice none 0 0, .int .i64 0, .int .i64 0, .int .i64 0, .slice none 0 0]) 8 104 Try.underlying39 hi hz0 hz1 hz2 rfl (by decide) _ J (flat ((rcs l).take J)) rfl HO1.out ⟨b, o + (J + 1) * 8, none⟩ (l.length - (J + 1)) (cap - (J + 1)) (flat ((rcs l).drop (J + 1))) rfl (by rw [flat_length, List.length_drop, rcs_length] <;> omega) (by have h9 := RowRd.part (HROW.out.below HB3.out) (J + 1) (l.length - (J + 1)) (by rw [rcs_length]; omega); rwa [List.take_of_length_le (l := (rcs l).drop (J + 1)) (i := l.length - (J + 1)) (by rw [List.length_drop, rcs_length]; omega)] at h9) (flat_one _) (by unfold maxLen; omega) (by omega) HB3.out.size ?_); intro v2 w4 hown2 hgrow2 _))
                      have hb4 : Below W.heap.size W w4 := HB3.out.grown hgrow2 HB3.out.size (fun k hk => (HO1.out.lt k hk).1)
                      have HR4 := Lib.hid (HGOAL.out _ _ _ hown2 hb4)
                      have hB4 : Below w.heap.size w w4 := hBW.trans (hb4.mono hBW.size)
                      have hx4 := (hb4.block _ (Array.getElem?_eq_some_iff.1 HX.out).1).trans HX.out
                      have HA4 : Hid (AllRd w4 (l.eraseIdx J)) := Lib.hid (fun k hk => (HR.out k (List.mem_of_mem_eraseIdx hk)).below hB4)
                      have HV4 := Lib.hid (HV.out.below hB4)
                      have HM4 := Lib.hid ((HR.out m (List.mem_of_getElem? HM.out)).1.below hB4)
                      obtain ⟨e0, e1, e2, e3, e4, e5, e6, e7⟩ := cells8 hx4
                      have HB4 := Lib.hid hB4
                      clear hown2 hgrow2 HB3 HG1 HO1 hb4 hx4 HNW HROW hB4 HX HGOAL
                      by_cases k1 : m.c.kd = 1
                      · have f1 : (m.c.kd == 1) = true := by simpa using k1
                        have f2 : (m.c.kd == 3) = false := by rw [k1]; rfl
                        have hN : nowM there m = true := by simp [nowM, k1]
                        have hLf : leftM val m = m.val := by simp [leftM, k1]
                        have HN := Lib.hid hN
                        have HLf := Lib.hid hLf
                        clear k1 hN hLf
                        cases hg : goesM n (l.eraseIdx J) true m.val
                        · have HG := Lib.hid hg
                          have HCALL := Lib.hid (IH.out _ true _ (l.eraseIdx J) m.val w4 HLE.out (by omega) HR4.out HA4.out HM4.out)
                          have HF2 : Hid (anyUpto n l there val (J + 1) = false) := Lib.hid (by rw [HUS.out, hF.out, HN.out, HLf.out, HG.out]; simp)
                          clear hg
                          go_wp2_with (go_at_call 31; (with_reducible refine HCALL.out.mono ?_); rintro e w5 ⟨he, hb5⟩; rw [HG.out] at he; subst he)
                          have hB5 := HB4.out.trans (hb5.mono HB4.out.size)
                          go_roundw
                          case rel => exact ⟨J + 1, by omega, by go_num, hB5, HF2⟩
                          case measure => simp [intOf]; omega
                        · have HG := Lib.hid hg
                          have HCALL := Lib.hid (IH.out _ true _ (l.eraseIdx J) m.val w4 HLE.out (by omega) HR4.out HA4.out HM4.out)
                          have HF2 : Hid (anyUpto n l there val l.length = true) := Lib.hid (anyUpto_mono (a := J + 1) (by omega) (by rw [HUS.out, HN.out, HLf.out, HG.out, ← Bool.and_assoc, ← HGO.out]; simp))
                          clear hg
                          go_wp2_with (go_at_call 31; (with_reducible refine HCALL.out.mono ?_); rintro e w5 ⟨he, hb5⟩; rw [HG.out] at he; subst he)
                          have hB5 := HB4.out.trans (hb5.mono HB4.out.size)
                          go_ret
                          exact ⟨by rw [HF2.out] <;> rfl, hB5⟩
                      have f1 : (m.c.kd == 1) = false := by simpa using k1
                      by_cases k3 : m.c.kd = 3
                      · have f2 : (m.c.kd == 3) = true := by simpa using k3
                        have hN : nowM there m = false := by simp [nowM, k3]
                        have hLf : leftM val m = [] := by simp [leftM, k3]
                        have HN := Lib.hid hN
                        have HLf := Lib.hid hLf
                        have HNIL := Lib.hid (BytesRd.nil w4)
                        clear k1 k3 hN hLf
                        cases hg : goesM n (l.eraseIdx J) false []
                        · have HG := Lib.hid hg
                          have HCALL := Lib.hid (IH.out _ false _ (l.eraseIdx J) [] w4 HLE.out (by omega) HR4.out HA4.out HNIL.out)
                          have HF2 : Hid (anyUpto n l there val (J + 1) = false) := Lib.hid (by rw [HUS.out, hF.out, HN.out, HLf.out, HG.out]; simp)
                          clear hg
                          go_wp2_with (go_at_call 31; (with_reducible refine HCALL.out.mono ?_); rintro e w5 ⟨he, hb5⟩; rw [HG.out] at he; subst he)
                          have hB5 := HB4.out.trans (hb5.mono HB4.out.size)
                          go_roundw
                          case rel => exact ⟨J + 1, by omega, by go_num, hB5, HF2⟩
                          case measure => simp [intOf]; omega
                        · have HG := Lib.hid hg
                          have HCALL := Lib.hid (IH.out _ false _ (l.eraseIdx J) [] w4 HLE.out (by omega) HR4.out HA4.out HNIL.out)
                          have HF2 : Hid (anyUpto n l there val l.length = true) := Lib.hid (anyUpto_mono (a := J + 1) (by omega) (by rw [HUS.out, HN.out, HLf.out, HG.out, ← Bool.and_assoc, ← HGO.out]; simp))
                          clear hg
                          go_wp2_with (go_at_call 31; (with_reducible refine HCALL.out.mono ?_); rintro e w5 ⟨he, hb5⟩; rw [HG.out] at he; subst he)
                          have hB5 := HB4.out.trans (hb5.mono HB4.out.size)
                          go_ret
                          exact ⟨by rw [HF2.out] <;> rfl, hB5⟩
                      · have f2 : (m.c.kd == 3) = false := by simpa using k3
                        have hN : nowM there m = there := by simp [nowM, k1, k3]
                        have hLf : leftM val m = val := by simp [leftM, k1, k3]
                        have HN := Lib.hid hN
                        have HLf := Lib.hid hLf
                        clear k1 k3 hN hLf
                        cases hg : goesM n (l.eraseIdx J) there val
                        · have HG := Lib.hid hg
                          have HCALL := Lib.hid (IH.out _ there _ (l.eraseIdx J) val w4 HLE.out (by omega) HR4.out HA4.out HV4.out)
                          have HF2 : Hid (anyUpto n l there val (J + 1) = false) := Lib.hid (by rw [HUS.out, hF.out, HN.out, HLf.out, HG.out]; simp)
                          clear hg
                          go_wp2_with (go_at_call 31; (with_reducible refine HCALL.out.mono ?_); rintro e w5 ⟨he, hb5⟩; rw [HG.out] at he; subst he)
                          have hB5 := HB4.out.trans (hb5.mono HB4.out.size)
                          go_roundw
                          case rel => exact ⟨J + 1, by omega, by go_num, hB5, HF2⟩
                          case measure => simp [intOf]; omega
                        · have HG := Lib.hid hg
                          have HCALL := Lib.hid (IH.out _ there _ (l.eraseIdx J) val w4 HLE.out (by omega) HR4.out HA4.out HV4.out)
                          have HF2 : Hid (anyUpto n l there val l.length = true) := Lib.hid (anyUpto_mono (a := J + 1) (by omega) (by rw [HUS.out, HN.out, HLf.out, HG.out, ← Bool.and_assoc, ← HGO.out]; simp))
                          clear hg
                          go_wp2_with (go_at_call 31; (with_reducible refine HCALL.out.mono ?_); rintro e w5 ⟨he, hb5⟩; rw [HG.out] at he; subst he)
                          have hB5 := HB4.out.trans (hb5.mono HB4.out.size)
                          go_ret
                          exact ⟨by rw [HF2.out] <;> rfl, hB5⟩
            · obtain rfl : J = l.length := by omega
              go_wp2
              go_ret
              exact ⟨by rw [hF.out]; rfl, hB⟩
end Go.Proofs.Ytggecoekoilahaa
