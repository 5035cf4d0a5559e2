/-
  The program's Key and Permits.
-/
import Derived.Test.YtggecoekoilahaaIdPRight
namespace Go.Proofs.Ytggecoekoilahaa
open Go.RowKit
set_option linter.unusedSimpArgs false
set_option linter.unusedVariables false

theorem filter_rcs (l : List CM) (key : ByteArray) : (rcs l).filter (RC.isOf key) = rcs (ofM l key) := by
  unfold rcs ofM
  rw [List.filter_map]
  rfl
theorem ofM_kd {l : List CM} {key : ByteArray} {m : CM} (h : m ∈ ofM l key) : m.c.kd = 1 ∨ m.c.kd = 2 ∨ m.c.kd = 3 := by
  have h1 : ofC key m = true := (List.mem_filter.1 h).2
  unfold ofC at h1
  rw [Bool.and_eq_true] at h1
  have h2 := h1.2
  unfold RC.counts at h2
  by_cases h3 : m.c.kd = 2
  · exact .inr (.inl h3)
  · rw [if_neg h3] at h2
    by_cases h4 : m.c.kd = 1 ∨ m.c.kd = 3
    · rcases h4 with h | h
      · exact .inl h
      · exact .inr (.inr h)
    · rw [if_neg h4] at h2; cases h2
theorem ofM_ten {l : List CM} {key : ByteArray} (h : rightM (rcs l)) : (ofM l key).length ≤ 10 := by
  have e : (ofM l key).length = cntKey (rcs l) key := by
    have := congrArg List.length (filter_rcs l key)
    rw [rcs_length] at this
    rw [← this]
    rfl
  rcases hl : ofM l key with _ | ⟨m, r⟩
  · simp
  · rw [← hl, e]
    have hm : m ∈ ofM l key := by rw [hl]; exact List.mem_cons_self
    have hml := ofM_mem hm
    have h1 : ofC key m = true := (List.mem_filter.1 hm).2
    unfold ofC at h1
    rw [Bool.and_eq_true] at h1
    obtain ⟨i, hi⟩ := List.getElem?_of_mem hml
    have h2 := (h i m.c (rcs_at hi)).2.2
    rwa [cntKey_same _ _ _ (by simpa using h1.1)] at h2

/-- The calls of a key, put into a row. -/
theorem ofatom (l : List CM) (key : ByteArray) (w0 : World) (hr : AllRd w0 l) (v' : Value) (W : World) (h : RowRd W v' ((rcs l).filter (RC.isOf key))) (hb : Below w0.heap.size w0 W) (h10 : (ofM l key).length ≤ 10) :
    Calls Try.prog 23 #[v'] W fun e w' => e = .returned (.bool (goesKey l key)) ∧ Below W.heap.size W w' := by
  rw [filter_rcs] at h
  exact atomic_any v' (ofM l key) W h h10 (fun m hm => (hr m (ofM_mem hm)).below hb) (fun m hm => ofM_kd hm)

def KeysOk (l : List CM) : Prop := ∀ m ∈ l, m.c.key.size ≤ maxLen
theorem KeysOk.rcs {l : List CM} (h : KeysOk l) : ∀ c ∈ rcs l, c.key.size ≤ maxLen := fun c hc => by
  obtain ⟨m, hm, rfl⟩ := List.mem_map.1 hc
  exact h m hm

set_option maxRecDepth 100000 in
set_option maxHeartbeats 1000000 in
theorem key_any (v : Value) (key : ByteArray) (l : List CM) (w : World) (h : RowRd w v (rcs l)) (hl : l.length ≤ 1000) (hr : AllRd w l) (hk : KeysOk l) :
    Calls Try.prog 18 #[v, .string key] w (RetB (rightM (rcs l) ∧ goesKey l key = true) w) := by
  obtain ⟨a, cap, rfl⟩ := h.form
  have HRI := Lib.hid (right_any (.slice a (rcs l).length cap) (rcs l) w h (by rw [rcs_length]; omega) hk.rcs)
  have HOF := Lib.hid (fun W (hb : Below w.heap.size w W) => of_any (.slice a (rcs l).length cap) (rcs l) key W (h.below hb) (by rw [rcs_length]; omega))
  obtain ⟨g, hg⟩ : ∃ g, g = goesKey l key := ⟨_, rfl⟩
  have HAT := Lib.hid (ofatom l key w hr)
  rw [← hg] at HAT
  have HG := Lib.hid hg
  have HLEN := Lib.hid (fun (hh : rightM (rcs l)) => ofM_ten (key := key) hh)
  clear h hr hk hg
  go_enter Try.func18, Try.ntmps18
  go_upto_region 1 with fail
  refine wp_region_units (.step 0 (.step 1 (.step 2 (.unit 2 true (.step 3 (.step 4 (.step 5 (.step 6 .done)))) 7 6 (.step 8 .done))))) (by kernel_rfl) (by kernel_rfl) ?_
  simp only [mkUT, dstOf, bare, Oper.slim, List.contains_cons, List.contains_nil, Option.map_none, Option.map_some, List.getElem?_toArray, List.getElem?_cons_zero, List.getElem?_cons_succ, Option.bind_some, beq_self_eq_true, Bool.or_false, Nat.reduceBEq, Nat.reduceAdd, Nat.zero_add, Option.getD_some, Option.isSome_some, Option.isSome_none, Bool.false_and, Bool.true_and, Bool.false_eq_true, if_false, if_true, Option.some_beq_some, Option.some_beq_none, Option.none_beq_some, reduceCtorEq, ite_true, ite_false]
  repeat ((with_reducible refine wpUT_step (fun K hK => ?_)); go_simp; first | (refine hK _ _ ?_; clear hK K) | (refine ⟨by (intro kk hkk; first | exact hkk.elim | (simp (disch := (simp; omega)) only [hp_drew, hp_drewN, hp_alloc, hp_set]; done) | (simp [hp_drew, hp_drewN, hp_alloc_if, hkk]; done) | fail), hK _ _ ?_⟩; clear hK K)| (go_at_call 13; (with_reducible refine HRI.out.mono ?_); rintro e wc ⟨rb, rfl, hrb, hbc⟩; have HRB := Lib.hid hrb; clear hrb; refine ⟨_, rfl, (fun kk hkk => hkk.elim), hK _ _ ?_⟩; clear hK K) | (go_at_call 24; (with_reducible refine (HOF.out _ hbc).mono ?_); rintro e wd ⟨v', rfl, hr, hbd⟩; have HR2 := Lib.hid hr; clear hr; refine ⟨_, rfl, (fun kk hkk => hkk.elim), hK _ _ ?_⟩; clear hK K) | (go_at_call 23; (with_reducible refine (HAT.out _ _ HR2.out (hbc.trans (hbd.mono hbc.size)) (HLEN.out (HRB.out.1 hgd))).mono ?_); rintro e we ⟨rfl, hbe⟩; have hbf := hbd.trans (hbe.mono hbd.size); refine ⟨_, rfl, (fun kk hkk => hkk.elim), hK _ _ ?_⟩; clear hK K))
  refine wpUT_unit_below (x := ?_) (by rfl) ?_ ?_
  rotate_left
  · intro hgd
    repeat ((with_reducible refine wpUT_step (fun K hK => ?_)); go_simp; first | (refine hK _ _ ?_; clear hK K) | (refine ⟨by (intro kk hkk; first | exact hkk.elim | (simp (disch := (simp; omega)) only [hp_drew, hp_drewN, hp_alloc, hp_set]; done) | (simp [hp_drew, hp_drewN, hp_alloc_if, hkk]; done) | fail), hK _ _ ?_⟩; clear hK K)| (go_at_call 13; (with_reducible refine HRI.out.mono ?_); rintro e wc ⟨rb, rfl, hrb, hbc⟩; have HRB := Lib.hid hrb; clear hrb; refine ⟨_, rfl, (fun kk hkk => hkk.elim), hK _ _ ?_⟩; clear hK K) | (go_at_call 24; (with_reducible refine (HOF.out _ hbc).mono ?_); rintro e wd ⟨v', rfl, hr, hbd⟩; have HR2 := Lib.hid hr; clear hr; refine ⟨_, rfl, (fun kk hkk => hkk.elim), hK _ _ ?_⟩; clear hK K) | (go_at_call 23; (with_reducible refine (HAT.out _ _ HR2.out (hbc.trans (hbd.mono hbc.size)) (HLEN.out (HRB.out.1 hgd))).mono ?_); rintro e we ⟨rfl, hbe⟩; have hbf := hbd.trans (hbe.mono hbd.size); refine ⟨_, rfl, (fun kk hkk => hkk.elim), hK _ _ ?_⟩; clear hK K))
    exact wpUT_done ⟨by rfl, by (repeat' (first | (with_reducible exact RowKit.Below.refl _ _) | (with_reducible assumption) | (with_reducible refine RowKit.Below.drew ?_) | (with_reducible refine RowKit.Below.alloc ?_ ?_ _) | omega | (simp; done) | (simp; omega)))⟩
  intro js wu hbu
  simp only [UT.dsts, junk, SOp.dst, Option.toList_some, Option.toList_none, List.cons_append, List.nil_append, List.append_nil, cond_true, cond_false]
  repeat ((with_reducible refine wpUT_step (fun K hK => ?_)); go_simp; first | (refine hK _ _ ?_; clear hK K) | (refine ⟨by (intro kk hkk; first | exact hkk.elim | (simp (disch := (simp; omega)) only [hp_drew, hp_drewN, hp_alloc, hp_set]; done) | (simp [hp_drew, hp_drewN, hp_alloc_if, hkk]; done) | fail), hK _ _ ?_⟩; clear hK K)| (go_at_call 13; (with_reducible refine HRI.out.mono ?_); rintro e wc ⟨rb, rfl, hrb, hbc⟩; have HRB := Lib.hid hrb; clear hrb; refine ⟨_, rfl, (fun kk hkk => hkk.elim), hK _ _ ?_⟩; clear hK K) | (go_at_call 24; (with_reducible refine (HOF.out _ hbc).mono ?_); rintro e wd ⟨v', rfl, hr, hbd⟩; have HR2 := Lib.hid hr; clear hr; refine ⟨_, rfl, (fun kk hkk => hkk.elim), hK _ _ ?_⟩; clear hK K) | (go_at_call 23; (with_reducible refine (HAT.out _ _ HR2.out (hbc.trans (hbd.mono hbc.size)) (HLEN.out (HRB.out.1 hgd))).mono ?_); rintro e we ⟨rfl, hbe⟩; have hbf := hbd.trans (hbe.mono hbd.size); refine ⟨_, rfl, (fun kk hkk => hkk.elim), hK _ _ ?_⟩; clear hK K))
  refine wpUT_done ?_
  go_wp2
  go_ret
  refine ⟨_, rfl, ?_, ?_⟩
  · rw [Bool.and_eq_true, HG.out, HRB.out]
  · exact hbc.trans (hbu.mono hbc.size)
end Go.Proofs.Ytggecoekoilahaa
