/-
  starfishlaw29.IdealOpen, walked.
-/
import Derived.Test.YtggecoekoilahaaIdLLess
import Derived.Test.YtggecoekoilahaaIdOpenPlain
namespace Go.Proofs.Ytggecoekoilahaa
open Go.RowKit
set_option linter.unusedSimpArgs false
set_option linter.unusedVariables false

/-- The block of a row that is not empty. -/
theorem MadeC.block {w : World} {B : Nat} {v : Value} {l : List CM} (h : MadeC w B v l) (hne : l ≠ []) : ∃ g cap, v = .slice (some ⟨g, 0, none⟩) l.length cap ∧ B ≤ g ∧ g < w.heap.size ∧ l.length ≤ cap ∧ (∀ i, w.frozen? ⟨g, i, none⟩ = false) ∧
    (∀ i c j u, (rcs l)[i]? = some c → c.cells[j]? = some u → w.cell? ⟨g, i * 8 + j, none⟩ = some u) := by
  have hlt := h.lt
  have hrd := h.rd
  rcases h.2 with ⟨rfl, h2⟩ | ⟨g, cap, cur, rfl, h2, h3, h4, h5, h6, h7⟩
  · exact absurd (List.eq_nil_of_length_eq_zero h2) hne
  · refine ⟨g, cap, rfl, h2, (hlt g rfl).2, h4, fun i => by unfold World.frozen?; simp [h3], fun i c j u hi hj => ?_⟩
    obtain ⟨a', cap', h8, h9, h10⟩ := hrd
    simp only [Value.slice.injEq] at h8
    obtain ⟨rfl, _, rfl⟩ := h8
    have hne' : rcs l ≠ [] := fun e => hne (List.map_eq_nil_iff.1 e)
    obtain ⟨b', o', h11, h12, h13⟩ := h10 hne'
    cases h11
    have := h13 i c hi j u hj
    rwa [Nat.zero_add] at this

theorem rcs_set (l : List CM) (k : Nat) (m : CM) : rcs (l.set k m) = (rcs l).set k m.c := by simp [rcs]

/-- One call's answer struck out. -/
theorem row_weak {w : World} {g cap : Nat} {l : List CM} {k : Nat} {m : CM} (hm : l[k]? = some m) (hcap : l.length ≤ cap) (hg : g < w.heap.size)
    (hc : ∀ i c j u, (rcs l)[i]? = some c → c.cells[j]? = some u → w.cell? ⟨g, i * 8 + j, none⟩ = some u) :
    RowRd (w.setCell ⟨g, k * 8 + 5, none⟩ (.int .i64 (-1))) (.slice (some ⟨g, 0, none⟩) l.length cap) (rcs (l.set k m.weak)) := by
  refine ⟨_, cap, by rw [rcs_length, List.length_set], by rw [rcs_length, List.length_set]; exact hcap, fun _ => ⟨g, 0, rfl, by simpa using hg, fun i c hi j u hj => ?_⟩⟩
  rw [Nat.zero_add]
  rw [rcs_set, List.getElem?_set] at hi
  have hkl : k < (rcs l).length := by rw [rcs_length]; exact (List.getElem?_eq_some_iff.1 hm).1
  have hj8 := cells_lt hj
  split at hi
  · rename_i e
    subst e
    cases hi
    by_cases e : j = 5
    · subst e
      rw [World.cell?_setCell_same w ⟨g, k * 8 + 5, none⟩ _ (hc k m.c 5 _ (rcs_at hm) rfl)]
      simp [RC.cells, CM.weak] at hj
      rw [hj]
    · rw [World.cell?_setCell_other w ⟨g, k * 8 + 5, none⟩ ⟨g, k * 8 + j, none⟩ _ (by simp; try omega)]
      refine hc k m.c j u (rcs_at hm) ?_
      match j, e, hj8, hj with
      | 0, _, _, hj => exact hj
      | 1, _, _, hj => exact hj
      | 2, _, _, hj => exact hj
      | 3, _, _, hj => exact hj
      | 4, _, _, hj => exact hj
      | 6, _, _, hj => exact hj
      | 7, _, _, hj => exact hj
  · rename_i e
    rw [World.cell?_setCell_other w ⟨g, k * 8 + 5, none⟩ ⟨g, i * 8 + j, none⟩ _ (by simp; try omega)]
    exact hc i c j u hi hj


set_option maxRecDepth 100000 in
set_option maxHeartbeats 2000000 in
theorem law_open (v : Value) (l : List CM) (which : Int) (w : World) (h : RowRd w v (rcs l)) (hr : AllRd w l) (hk : KeysOk l) :
    Calls Try.prog 5 #[v, .int .i64 which] w fun e w' => e = .returned (.bool true) ∧ Below w.heap.size w w' := by
  obtain ⟨a, cap, rfl⟩ := h.form
  have HW := Lib.hid (fun W => idworks_any W)
  have hll : (rcs l).length = l.length := rcs_length l
  rw [hll] at h ⊢
  clear hll
  by_cases hlen : 14 < l.length
  · clear h hr hk
    go_enter Try.func5, Try.ntmps5
    go_wp2_with (go_at_call 9; refine (HW.out _).mono ?_; rintro e w9 ⟨rfl, hb9⟩)
    go_ret
    exact ⟨rfl, hb9⟩
  have hl : l.length ≤ 14 := by omega
  clear hlen
  by_cases h0 : l.length = 0
  · rw [h0]
    clear h hr hk h0 hl
    go_enter Try.func5, Try.ntmps5
    go_wp2_with (go_at_call 9; refine (HW.out _).mono ?_; rintro e w9 ⟨rfl, hb9⟩)
    go_ret
    exact ⟨rfl, hb9⟩
  have f0 : ((l.length : Int) == 0) = false := by simpa using h0
  obtain ⟨P, hP⟩ := someB (permM l)
  have hper : Calls Try.prog 8 #[.slice a l.length cap] w fun e w' => e = .returned (.bool P) ∧ Below w.heap.size w w' := retB_is (permits_any (.slice a l.length cap) l w (by rwa [← rcs_length l] at h ⊢) (by omega) hr hk) P hP
  have HPER := Lib.hid hper
  clear hper
  cases P
  · clear hP h hr hk
    go_enter Try.func5, Try.ntmps5
    go_wp2_with (first | (go_at_call 8; (with_reducible refine HPER.out.mono ?_); rintro e w1 ⟨rfl, hb1⟩) | (go_at_call 9; refine (HW.out _).mono ?_; rintro e w9 ⟨rfl, hb9⟩))
    go_ret
    exact ⟨rfl, hb1.trans (hb9.mono hb1.size)⟩
  have HPM := Lib.hid (hP.1 rfl)
  have HREAD := Lib.hid h
  have HALL := Lib.hid hr
  have HKO := Lib.hid hk
  have H0 := Lib.hid h0
  obtain ⟨i0, hi, hz0, hz1, hz2⟩ := info_parts mcall_info
  clear hP h hr hk
  go_enter Try.func5, Try.ntmps5
  go_upto_region 4 with (first | (go_at_call 8; (with_reducible refine HPER.out.mono ?_); rintro e w1 ⟨rfl, hb1⟩) | (go_at_call 10; (with_reducible refine (pick_any which l.length _ (by omega)).mono ?_); rintro e w1' ⟨k, rfl, hkk, rfl⟩; have HKK := Lib.hid hkk; clear hkk))
  have hkl : k < l.length := by
    rcases HKK.out with h | ⟨h, _⟩
    · exact h
    · exact absurd h H0.out
  obtain ⟨m, hm⟩ : ∃ m, l[k]? = some m := ⟨_, List.getElem?_eq_getElem hkl⟩
  have hrow := HREAD.out
  rw [← rcs_length l] at hrow
  obtain ⟨-, b, o, rfl, hb, c0, c1, c2, c3, c4, c5, c6, c7⟩ := (hrow.below hb1).at (rcs_at hm)
  have HROW := Lib.hid hrow
  have HM := Lib.hid hm
  have hbs := hb1.size
  clear hrow hm c0 c2 c3 c4 c5 c7
  by_cases e : m.c.kd = 2
  · have f1 : (m.c.kd == 2) = true := by simpa using e
    clear e
    go_wp2_with (go_at_call 9; refine (HW.out _).mono ?_; rintro e w9 ⟨rfl, hb9⟩)
    go_ret
    exact ⟨rfl, hb1.trans (hb9.mono hb1.size)⟩
  have f1 : (m.c.kd == 2) = false := by simpa using e
  by_cases e2 : m.c.co = 0
  case neg =>
    have f2 : (m.c.co != 0) = true := by simpa using e2
    have f3 : (m.c.co == 0) = false := by simpa using e2
    clear e e2
    go_wp2_with (go_at_call 9; refine (HW.out _).mono ?_; rintro e w9 ⟨rfl, hb9⟩)
    go_ret
    exact ⟨rfl, hb1.trans (hb9.mono hb1.size)⟩
  have f2 : (m.c.co != 0) = false := by simpa using e2
  have f3 : (m.c.co == 0) = true := by simpa using e2
  have HE := Lib.hid e
  have HE2 := Lib.hid e2
  clear e e2
  have HOWN0 : Hid (w1.ownsRow w.heap.size 30 8 (.slice none 0 0) 0 []) := Lib.hid (World.ownsRow_nil _ _ _ _)
  have hne : l ≠ [] := fun e => by subst e; simp at hkl
  have HNE := Lib.hid hne
  have HPART : Hid (∀ j u, (flat (rcs l))[j]? = some u → w1.cell? ((⟨b, o, none⟩ : Addr).add j) = some u) := Lib.hid (by
    have := RowRd.part (HROW.out.below hb1) 0 (rcs l).length (by omega)
    simpa using this)
  clear hne
  go_upto_region 8 with (at_builtin; refine wpList_append_own _ rfl (.tmp 40) (.tmp 41) 22 rfl w.heap.size 30 i0 (.agg #[.int .i64 0, .int .u8 0, .string ⟨#[]⟩, .slice none 0 0, .int .i64 0, .int .i64 0, .int .i64 0, .slice none 0 0]) 8 104 Try.underlying22 hi hz0 hz1 hz2 rfl (by decide) _ _ _ rfl HOWN0.out ⟨b, o, none⟩ l.length cap (flat (rcs l)) rfl (by rw [flat_length, rcs_length]) HPART.out (by intro u hu; exact flat_one (rcs l) u hu) (by unfold maxLen; omega) (by omega) (by omega) ?_; intro v2 w2 hown2 hgrow2 _)
  have hB2 : Below w.heap.size w w2 := hb1.grown hgrow2 hbs (fun k hk => by cases hk)
  have hmade : MadeC w2 w.heap.size v2 l := by
    unfold MadeC
    rw [Nat.zero_add, List.nil_append] at hown2
    exact hown2
  obtain ⟨g, cap2, rfl, hg1, hg2, hg3, hfz, hcl⟩ := hmade.block HNE.out
  have s5 := hcl k m.c 5 _ (rcs_at HM.out) rfl
  have fz5 := hfz (k * 8 + 5)
  have HRW := Lib.hid (row_weak HM.out hg3 hg2 hcl)
  have HB2 := Lib.hid hB2
  have hkc : k < cap2 := by omega
  clear hown2 hgrow2 hmade hfz hcl c1 c6 hb HPART HOWN0 hB2
  go_upto_region 9 with fail
  generalize hW3 : w2.setCell ⟨g, k * 8 + 5, none⟩ (.int .i64 (-1)) = w3 at *
  have hB3 : Below w.heap.size w w3 := by rw [← hW3]; exact HB2.out.setCell hg1 _
  have HB3 := Lib.hid hB3
  have HALL3 : Hid (AllRd w3 (l.set k m.weak)) := Lib.hid (by
    intro x hx
    rcases List.mem_or_eq_of_mem_set hx with hx | rfl
    · exact (HALL.out x hx).below hB3
    · exact (show m.rd w3 from (HALL.out m (List.mem_of_getElem? HM.out)).below hB3))
  have HKO3 : Hid (KeysOk (l.set k m.weak)) := Lib.hid (by
    intro x hx
    rcases List.mem_or_eq_of_mem_set hx with hx | rfl
    · exact HKO.out x hx
    · exact HKO.out m (List.mem_of_getElem? HM.out))
  have hl3 : (l.set k m.weak).length ≤ 14 := by rw [List.length_set]; exact hl
  have hl4 : (rcs (l.set k m.weak)).length ≤ 1000 := by rw [rcs_length]; omega
  obtain ⟨R, hR⟩ := someB (rightM (rcs (l.set k m.weak)))
  have X1 := Lib.hid (retB_is (right_any _ (rcs (l.set k m.weak)) w3 HRW.out hl4 HKO3.out.rcs) R hR)
  have X2 := Lib.hid (fun (hr : rightM (rcs (l.set k m.weak))) W (hb : Below w3.heap.size w3 W) => permits_is _ (l.set k m.weak) W (HRW.out.below hb) (by omega) (HALL3.out.below hb) HKO3.out true ⟨fun _ => rfl, fun _ => permM_weak l k m HM.out HE.out HE2.out HPM.out hr⟩)
  clear hW3 hB3 hl3 hl4 s5 fz5
  cases R
  · clear hR
    go_wp2_with (first | (go_at_call 13; (with_reducible refine X1.out.mono ?_); rintro e y1 ⟨rfl, j1⟩) | (go_at_call 9; refine (HW.out _).mono ?_; rintro e y3 ⟨rfl, j3⟩))
    go_ret
    exact ⟨rfl, HB3.out.trans ((j1.trans (j3.mono j1.size)).mono HB3.out.size)⟩
  · have HR := Lib.hid (hR.1 rfl)
    clear hR
    go_wp2_with (first | (go_at_call 13; (with_reducible refine X1.out.mono ?_); rintro e y1 ⟨rfl, j1⟩) | (go_at_call 8; (with_reducible refine (X2.out HR.out _ j1).mono ?_); rintro e y2 ⟨rfl, j2⟩) | (go_at_call 9; refine (HW.out _).mono ?_; rintro e y3 ⟨rfl, j3⟩))
    go_ret
    have j12 := j1.trans (j2.mono j1.size)
    exact ⟨rfl, HB3.out.trans ((j12.trans (j3.mono j12.size)).mono HB3.out.size)⟩
end Go.Proofs.Ytggecoekoilahaa
