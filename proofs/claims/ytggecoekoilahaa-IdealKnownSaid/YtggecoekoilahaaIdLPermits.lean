/-
  starfishlaw29.IdealPermits, walked.
-/
import Derived.Test.YtggecoekoilahaaIdWorks
namespace Go.Proofs.Ytggecoekoilahaa
open Go.RowKit
set_option linter.unusedSimpArgs false
set_option linter.unusedVariables false

theorem retB_is {p : Prop} {w : World} {f : Nat} {args : Array Value} (h : Calls Try.prog f args w (RetB p w)) (b : Bool) (hb : b = true ↔ p) : Calls Try.prog f args w fun e w' => e = .returned (.bool b) ∧ Below w.heap.size w w' :=
  h.mono fun e w' ⟨r, he, hr, hbw⟩ => ⟨by rw [he, Bool.eq_iff_iff.2 (hr.trans hb.symm)], hbw⟩
theorem someB (p : Prop) : ∃ b : Bool, b = true ↔ p := by
  by_cases h : p
  · exact ⟨true, by simp [h]⟩
  · exact ⟨false, by simp [h]⟩
theorem perm_same (l : List CM) : (∀ m ∈ l, rightM (rcs l) ∧ goesKey l m.c.key = true) ↔ (rightM (rcs l) ∧ ∀ m ∈ l, goesKey l m.c.key = true) := by
  cases l with
  | nil =>
    refine ⟨fun _ => ⟨fun i c hi => by simp [rcs] at hi, fun m hm => by simp at hm⟩, fun _ m hm => by simp at hm⟩
  | cons a r => exact ⟨fun h => ⟨(h a List.mem_cons_self).1, fun m hm => (h m hm).2⟩, fun h m hm => ⟨h.1, h.2 m hm⟩⟩

set_option maxRecDepth 100000 in
set_option maxHeartbeats 2000000 in
theorem law_permits (v : Value) (key : ByteArray) (l : List CM) (w : World) (h : RowRd w v (rcs l)) (hr : AllRd w l) (hk : KeysOk l) :
    Calls Try.prog 6 #[v, .string key] w fun e w' => e = .returned (.bool true) ∧ Below w.heap.size w w' := by
  obtain ⟨a, cap, rfl⟩ := h.form
  obtain ⟨F, hF⟩ := someB (fewM l 14)
  have hfew : Calls Try.prog 14 #[.slice a (rcs l).length cap, .int .i64 14] w fun e w' => e = .returned (.bool F) ∧ Below w.heap.size w w' := retB_is (few_any (.slice a (rcs l).length cap) l 14 w h (by omega)) F hF
  have HFEW := Lib.hid hfew
  clear hfew
  have HW := Lib.hid (fun W => idworks_any W)
  cases F
  · clear hF h hr hk
    go_enter Try.func6, Try.ntmps6
    go_wp2_with (first | (go_at_call 14; (with_reducible refine HFEW.out.mono ?_); rintro e w1 ⟨rfl, hb1⟩) | (go_at_call 9; refine (HW.out _).mono ?_; rintro e w2 ⟨rfl, hb2⟩))
    go_ret
    exact ⟨rfl, hb1.trans (hb2.mono hb1.size)⟩
  · have hf := hF.1 rfl
    have hlen : l.length ≤ 14 := hf.1
    have hl : (rcs l).length ≤ 14 := by rw [rcs_length]; exact hlen
    have HROWS := Lib.hid (fun W (hb : Below w.heap.size w W) => rows_any (.slice a (rcs l).length cap) (rcs l) W (h.below hb) (by omega))
    have HREAD := Lib.hid h
    have HALL := Lib.hid hr
    have HKO := Lib.hid hk
    clear hF hf h hr hk
    go_enter Try.func6, Try.ntmps6
    go_wp2_with (first | (go_at_call 14; (with_reducible refine HFEW.out.mono ?_); rintro e w1 ⟨rfl, hb1⟩) | (go_at_call 15; (with_reducible refine (HROWS.out _ hb1).mono ?_); rintro e w2 ⟨v2, rfl, hr2, hb2⟩; have HR2 := Lib.hid hr2; clear hr2))
    obtain ⟨a2, cap2, rfl⟩ := HR2.out.form
    have hB12 := hb1.trans (hb2.mono hb1.size)
    obtain ⟨R, hR⟩ := someB (rightM (rcs l))
    obtain ⟨Q, hQ⟩ := someB (rightM (rcs l) ∧ goesKey l key = true)
    obtain ⟨P, hP⟩ := someB (rightM (rcs l) ∧ ∀ m ∈ l, goesKey l m.c.key = true)
    have X1 := Lib.hid (fun W (hb : Below w2.heap.size w2 W) => retB_is (right_any (.slice a (rcs l).length cap) (rcs l) W (HREAD.out.below (hB12.trans (hb.mono hB12.size))) (by omega) HKO.out.rcs) R hR)
    have X2 := Lib.hid (fun W (hb : Below w2.heap.size w2 W) => retB_is (rright_any (.slice a2 (rcs l).length cap2) (rcs l) W (HR2.out.below hb) (by omega)) R hR)
    have X3 := Lib.hid (fun W (hb : Below w2.heap.size w2 W) => retB_is (key_any (.slice a (rcs l).length cap) key l W (HREAD.out.below (hB12.trans (hb.mono hB12.size))) (by omega) (HALL.out.below (hB12.trans (hb.mono hB12.size))) HKO.out) Q hQ)
    have X4 := Lib.hid (fun W (hb : Below w2.heap.size w2 W) => retB_is (rkey_any (.slice a2 (rcs l).length cap2) key l W (HR2.out.below hb) (by omega) (HALL.out.below (hB12.trans (hb.mono hB12.size)))) Q hQ)
    have X5 := Lib.hid (fun W (hb : Below w2.heap.size w2 W) => retB_is (permits_any (.slice a (rcs l).length cap) l W (HREAD.out.below (hB12.trans (hb.mono hB12.size))) (by omega) (HALL.out.below (hB12.trans (hb.mono hB12.size))) HKO.out) P hP)
    have X6 := Lib.hid (fun W (hb : Below w2.heap.size w2 W) => retB_is (rpermits_any (.slice a2 (rcs l).length cap2) l W (HR2.out.below hb) (by omega) (HALL.out.below (hB12.trans (hb.mono hB12.size)))) P (hP.trans (perm_same l).symm))
    clear hR hQ hP
    go_loopw [6] (fun i wr => ∃ I : Nat, I ≤ (rcs l).length ∧ i = .int .i64 I ∧ Below w2.heap.size w2 wr) (fun i _ => (rcs l).length - (intOf i).toNat)
    case atStart => exact ⟨0, by omega, rfl, Below.refl _ _⟩
    case round =>
      obtain ⟨I, hI, rfl, hB⟩ := hrel
      by_cases hlt : I < (rcs l).length
      · obtain ⟨c, hc⟩ : ∃ c, (rcs l)[I]? = some c := ⟨_, List.getElem?_eq_getElem hlt⟩
        obtain ⟨-, b, o, rfl, hb, c0, c1, c2, c3, c4, c5, c6, c7⟩ := RowRd.at (HREAD.out.below (hB12.trans (hB.mono hB12.size))) hc
        obtain ⟨-, b', o', rfl, hb', d0, d1, d2, d3, d4, d5, d6, d7⟩ := RowRd.at (HR2.out.below hB) hc
        clear hc
        go_upto_region 7 with fail
        have hgr := fun (w0 W : World) (p : Addr) (hp : (fun k => k < wr.heap.size) p.block) => graft_cell (w0 := w0) (keep := (fun k => k < wr.heap.size)) W hp
        refine wp_region_tree (fun k => k < wr.heap.size) [4, 9] (.step 0 (.step 1 (.step 2 (.step 3 (.step 5 (.step 6 (.step 7 (.step 8 (.step 4 (.step 9 (.step 10 .done))))))))))) (by kernel_rfl) (by kernel_rfl) ?_
        simp only [slimTr, slimStep, Oper.slim, List.contains_cons, List.contains_nil, Option.map_none, Option.map_some, List.getElem?_toArray, List.getElem?_cons_zero, List.getElem?_cons_succ, Option.bind_some, beq_self_eq_true, Bool.or_false, Nat.reduceBEq, Nat.reduceAdd, Nat.zero_add]
        repeat ((with_reducible refine wpSlimT_step (fun K hK => ?_)); go_simp; first | (refine hK _ _ ?_; clear hK K) | (refine ⟨by (intro kk hkk; first | (simp (disch := (simp; omega)) only [hp_drew, hp_drewN, hp_alloc, hp_set]; done) | (simp [hp_drew, hp_drewN, hp_alloc_if, hkk]; done) | fail), hK _ _ ?_⟩; clear hK K)| (go_at_call 11; refine (counts_any c _).mono ?_; rintro e wc ⟨rfl, hbc⟩; refine ⟨_, rfl, (fun kk hkk => hbc.block kk (by simpa using hkk)), hK _ _ ?_⟩; clear hK K) | (go_at_call 16; refine (rcounts_any c _).mono ?_; rintro e wd ⟨rfl, hbd⟩; refine ⟨_, rfl, (fun kk hkk => (hbd.block kk (by have := hbc.size; simp at this hkk; omega)).trans (hbc.block kk (by simpa using hkk))), hK _ _ ?_⟩; clear hK K))
        refine wpSlimT_done ?_
        clear hgr
        have q1 : Below w2.heap.size w2 wc := hB.drew.trans (hbc.mono hB.size)
        have q2 := q1.trans (hbd.mono q1.size)
        go_wp2
        go_roundw
        case rel => exact ⟨I + 1, by omega, by go_num, q2⟩
        case measure => simp [intOf]; omega
      · obtain rfl : I = (rcs l).length := by omega
        go_wp2_with (first | (go_at_call 13; (with_reducible refine (X1.out _ hB).mono ?_); rintro e y1 ⟨rfl, j1⟩; have J1 := hB.trans (j1.mono hB.size)) | (go_at_call 17; (with_reducible refine (X2.out _ J1).mono ?_); rintro e y2 ⟨rfl, j2⟩; have J2 := J1.trans (j2.mono J1.size)) | (go_at_call 18; (with_reducible refine (X3.out _ J2).mono ?_); rintro e y3 ⟨rfl, j3⟩; have J3 := J2.trans (j3.mono J2.size)) | (go_at_call 19; (with_reducible refine (X4.out _ J3).mono ?_); rintro e y4 ⟨rfl, j4⟩; have J4 := J3.trans (j4.mono J3.size)) | (go_at_call 8; (with_reducible refine (X5.out _ J4).mono ?_); rintro e y5 ⟨rfl, j5⟩; have J5 := J4.trans (j5.mono J4.size)) | (go_at_call 20; (with_reducible refine (X6.out _ J5).mono ?_); rintro e y6 ⟨rfl, j6⟩; have J6 := J5.trans (j6.mono J5.size)) | (go_at_call 9; refine (HW.out _).mono ?_; rintro e y7 ⟨rfl, j7⟩; have J7 := J6.trans (j7.mono J6.size)))
        go_ret
        exact ⟨rfl, hB12.trans (J7.mono hB12.size)⟩

theorem law_permits2 (v : Value) (l : List CM) (key : ByteArray) (w : World) (h : RowRd w v (rcs l)) (hr : AllRd w l) (hk : KeysOk l) (_ : key.size ≤ maxLen) :
    Calls Try.prog 6 #[v, .string key] w fun e w' => e = .returned (.bool true) ∧ Below w.heap.size w w' := law_permits v key l w h hr hk
end Go.Proofs.Ytggecoekoilahaa
