/-
  starfishlaw29.IdealLess, walked.
-/
import Derived.Test.YtggecoekoilahaaIdLPermits
import Derived.Test.YtggecoekoilahaaIdLessPlain
import Derived.Test.YtggecoekoilahaaPick
import Derived.Maps.AppendAt
namespace Go.Proofs.Ytggecoekoilahaa
open Go.RowKit
set_option linter.unusedSimpArgs false
set_option linter.unusedVariables false

theorem rcs_append (l m : List CM) : rcs (l ++ m) = rcs l ++ rcs m := by simp [rcs]
/-- A row of calls that the function has made. -/
def MadeC (w : World) (B : Nat) (v : Value) (l : List CM) : Prop := w.ownsRow B 30 8 v l.length (flat (rcs l))
theorem MadeC.rd {w : World} {B : Nat} {v : Value} {l : List CM} (h : MadeC w B v l) : RowRd w v (rcs l) := RowRd.of_owns h
/-- Two rows in two blocks. -/
def Apart (v u : Value) : Prop := ∀ k, v.ownBlock = some k → u.ownBlock ≠ some k
theorem Apart.symm {v u : Value} (h : Apart v u) : Apart u v := fun k hu hv => h k hv hu
/-- The other row behind an append. -/
theorem apart_next {w w1 : World} {B : Nat} {v v1 u : Value} {l : List CM} (hu : MadeC w B u l) (ha : Apart v u) (hg : w.grownBy w1 v.ownBlock) (hat : v1.ownBlock = v.ownBlock ∨ v1.ownBlock = some w.heap.size) : MadeC w1 B u l ∧ Apart v1 u := by
  refine ⟨hu.kept hg ?_, ?_⟩
  · cases hb : u.ownBlock with
    | none => exact .inl rfl
    | some k => exact .inr fun e => ha k e.symm hb
  · intro k hk
    rcases hat with h | h
    · rw [h] at hk; exact ha k hk
    · rw [h] at hk
      cases hk
      intro e
      have := (hu.lt _ e).2
      omega

theorem MadeC.next {w : World} {B : Nat} {v : Value} {l l2 : List CM} {m : CM} (h : w.ownsRow B 30 8 v (l.length + 1) (flat (rcs l) ++ m.c.cells)) (e : l2 = l ++ [m]) : MadeC w B v l2 := by
  subst e
  unfold MadeC
  rw [rcs_append, flat_append]
  simpa [rcs, flat] using h
theorem mcall_info : (Try.prog.info? 30).map (fun i => (i.zero, i.size, i.bytes)) = some (some (.agg #[.int .i64 0, .int .u8 0, .string ⟨#[]⟩, .slice none 0 0, .int .i64 0, .int .i64 0, .int .i64 0, .slice none 0 0]), 8, 104) := by kernel_rfl

set_option maxRecDepth 100000 in
set_option maxHeartbeats 2000000 in
theorem law_less (v : Value) (l : List CM) (which : Int) (w : World) (h : RowRd w v (rcs l)) (hr : AllRd w l) (hk : KeysOk l) :
    Calls Try.prog 3 #[v, .int .i64 which] w fun e w' => e = .returned (.bool true) ∧ Below w.heap.size w w' := by
  obtain ⟨a, cap, rfl⟩ := h.form
  have HW := Lib.hid (fun W => idworks_any W)
  have hll : (rcs l).length = l.length := rcs_length l
  rw [hll] at h ⊢
  clear hll
  by_cases hlen : 20 < l.length
  · clear h hr hk
    go_enter Try.func3, Try.ntmps3
    go_wp2_with (go_at_call 9; refine (HW.out _).mono ?_; rintro e w2 ⟨rfl, hb2⟩)
    go_ret
    exact ⟨rfl, hb2⟩
  have hl : l.length ≤ 20 := by omega
  clear hlen
  obtain ⟨P, hP⟩ := someB (permM l)
  have hper : Calls Try.prog 8 #[.slice a l.length cap] w fun e w' => e = .returned (.bool P) ∧ Below w.heap.size w w' := retB_is (permits_any (.slice a l.length cap) l w (by rwa [← rcs_length l] at h ⊢) (by omega) hr hk) P hP
  have HPER := Lib.hid hper
  clear hper
  cases P
  · clear hP h hr hk
    go_enter Try.func3, Try.ntmps3
    go_wp2_with (first | (go_at_call 8; (with_reducible refine HPER.out.mono ?_); rintro e w1 ⟨rfl, hb1⟩) | (go_at_call 9; refine (HW.out _).mono ?_; rintro e w2 ⟨rfl, hb2⟩))
    go_ret
    exact ⟨rfl, hb1.trans (hb2.mono hb1.size)⟩
  have HPM := Lib.hid (hP.1 rfl)
  have HREAD := Lib.hid h
  have HALL := Lib.hid hr
  have HKO := Lib.hid hk
  obtain ⟨i0, hi, hz0, hz1, hz2⟩ := info_parts mcall_info
  clear hP h hr hk
  go_enter Try.func3, Try.ntmps3
  go_wp2_with (first | (go_at_call 8; (with_reducible refine HPER.out.mono ?_); rintro e w1 ⟨rfl, hb1⟩) | (go_at_call 10; (with_reducible refine (pick_any which l.length _ (by omega)).mono ?_); rintro e w1' ⟨k, rfl, hkk, rfl⟩; have HKK := Lib.hid hkk; clear hkk))
  go_loopw [5, 6, 8] (fun cv gv i wr => ∃ (V U : Value) (I : Nat), V = cv ∧ U = gv ∧ I ≤ l.length ∧ i = .int .i64 I ∧ Hid (MadeC wr w.heap.size V (cntsU l I)) ∧ Hid (MadeC wr w.heap.size U (getsU l k I)) ∧ Hid (Apart V U) ∧ Below w.heap.size w wr) (fun _ _ i _ => l.length - (intOf i).toNat)
  case atStart => exact ⟨_, _, 0, rfl, rfl, by omega, rfl, Lib.hid (World.ownsRow_nil _ _ _ _), Lib.hid (by unfold getsU; simp; exact World.ownsRow_nil _ _ _ _), Lib.hid (fun k h => by cases h), hb1⟩
  case round =>
    obtain ⟨cv, gv, I, rfl, rfl, hI, rfl, hC, hG, hA, hB⟩ := hrel
    by_cases hlt : I < l.length
    · obtain ⟨m, hm⟩ : ∃ m, l[I]? = some m := ⟨_, List.getElem?_eq_getElem hlt⟩
      have hrow := HREAD.out
      rw [← rcs_length l] at hrow
      obtain ⟨-, b, o, rfl, hb, c0, c1, c2, c3, c4, c5, c6, c7⟩ := hrow.at (rcs_at hm)
      have HC0 := Lib.hid c0
      have HC1 := Lib.hid c1
      have HC2 := Lib.hid c2
      have HC3 := Lib.hid c3
      have HC4 := Lib.hid c4
      have HC5 := Lib.hid c5
      have HC6 := Lib.hid c6
      have HC7 := Lib.hid c7
      have HCS := Lib.hid (cntsU_succ hm)
      have HGS := Lib.hid (getsU_succ (k := k) hm)
      have hcl := cntsU_le l I
      have hgl := getsU_le l k I
      have HCNT := Lib.hid (counts_any m.c wr)
      have hBs := hB.size
      clear hrow hm c0 c1 c2 c3 c4 c5 c6 c7
      obtain ⟨cn, hcn⟩ : ∃ x, x = m.c.counts := ⟨_, rfl⟩
      rw [← hcn] at HCNT HCS
      clear hcn
      have d0 := (hB.cell (p := ⟨b, o + I * 8, none⟩) hb).trans HC0.out
      have d1 := (hB.cell (p := ⟨b, o + I * 8 + 1, none⟩) hb).trans HC1.out
      have d2 := (hB.cell (p := ⟨b, o + I * 8 + 2, none⟩) hb).trans HC2.out
      have d3 := (hB.cell (p := ⟨b, o + I * 8 + 3, none⟩) hb).trans HC3.out
      have d4 := (hB.cell (p := ⟨b, o + I * 8 + 4, none⟩) hb).trans HC4.out
      have d5 := (hB.cell (p := ⟨b, o + I * 8 + 5, none⟩) hb).trans HC5.out
      have d6 := (hB.cell (p := ⟨b, o + I * 8 + 6, none⟩) hb).trans HC6.out
      have d7 := (hB.cell (p := ⟨b, o + I * 8 + 7, none⟩) hb).trans HC7.out
      by_cases e : I = k
      · subst e
        by_cases e2 : m.c.kd = 2
        · have f1 : (m.c.kd == 2) = true := by simpa using e2
          have f2 : (m.c.kd != 2) = false := by simpa using e2
          have HGN : Hid (getsU l I (I + 1) = getsU l I I) := Lib.hid (by rw [HGS.out, if_neg (by rintro (h | h); exact h rfl; exact h e2)]; simp)
          clear HGS e2
          cases cn
          · go_wp2_with (go_at_call 11; (with_reducible refine HCNT.out.mono ?_); rintro e wu ⟨rfl, hbu⟩; have hBu := hB.trans (hbu.mono hB.size); have hBus := hBu.size; have hOc := Lib.hid (own_below hC.out hbu); have hOg := Lib.hid (own_below hG.out hbu); clear d0 d1 d2 d3 d4 d5 d6 d7; have d0 := (hBu.cell (p := ⟨b, o + I * 8, none⟩) hb).trans HC0.out; have d1 := (hBu.cell (p := ⟨b, o + I * 8 + 1, none⟩) hb).trans HC1.out; have d2 := (hBu.cell (p := ⟨b, o + I * 8 + 2, none⟩) hb).trans HC2.out; have d3 := (hBu.cell (p := ⟨b, o + I * 8 + 3, none⟩) hb).trans HC3.out; have d4 := (hBu.cell (p := ⟨b, o + I * 8 + 4, none⟩) hb).trans HC4.out; have d5 := (hBu.cell (p := ⟨b, o + I * 8 + 5, none⟩) hb).trans HC5.out; have d6 := (hBu.cell (p := ⟨b, o + I * 8 + 6, none⟩) hb).trans HC6.out; have d7 := (hBu.cell (p := ⟨b, o + I * 8 + 7, none⟩) hb).trans HC7.out)
            go_roundw
            case rel => exact ⟨_, _, I + 1, rfl, rfl, by omega, by go_num, Lib.hid (by rw [HCS.out, if_neg (by decide), List.append_nil]; exact hOc.out), Lib.hid (by rw [HGN.out]; exact hOg.out), hA, hBu⟩
            case measure => simp [intOf]; omega
          · have HCN : Hid (cntsU l (I + 1) = cntsU l I ++ [m]) := Lib.hid (by rw [HCS.out]; simp)
            go_wp2_with (first | (go_at_call 11; (with_reducible refine HCNT.out.mono ?_); rintro e wu ⟨rfl, hbu⟩; have hBu := hB.trans (hbu.mono hB.size); have hBus := hBu.size; have hOc := Lib.hid (own_below hC.out hbu); have hOg := Lib.hid (own_below hG.out hbu); clear d0 d1 d2 d3 d4 d5 d6 d7; have d0 := (hBu.cell (p := ⟨b, o + I * 8, none⟩) hb).trans HC0.out; have d1 := (hBu.cell (p := ⟨b, o + I * 8 + 1, none⟩) hb).trans HC1.out; have d2 := (hBu.cell (p := ⟨b, o + I * 8 + 2, none⟩) hb).trans HC2.out; have d3 := (hBu.cell (p := ⟨b, o + I * 8 + 3, none⟩) hb).trans HC3.out; have d4 := (hBu.cell (p := ⟨b, o + I * 8 + 4, none⟩) hb).trans HC4.out; have d5 := (hBu.cell (p := ⟨b, o + I * 8 + 5, none⟩) hb).trans HC5.out; have d6 := (hBu.cell (p := ⟨b, o + I * 8 + 6, none⟩) hb).trans HC6.out; have d7 := (hBu.cell (p := ⟨b, o + I * 8 + 7, none⟩) hb).trans HC7.out) | ((at_builtin; refine wpList_append_own_at _ rfl (.tmp 33) (.tmp 38) 22 rfl w.heap.size 30 i0 (.agg #[.int .i64 0, .int .u8 0, .string ⟨#[]⟩, .slice none 0 0, .int .i64 0, .int .i64 0, .int .i64 0, .slice none 0 0]) 8 104 Try.underlying22 hi hz0 hz1 hz2 rfl (by decide) _ _ _ rfl (hOc.out.alloc _) ⟨wu.heap.size, 0, none⟩ 1 1 m.c.cells rfl (by rfl) (cells_news (heap_newA _ _)) (by intro u hu; exact flat_one [m.c] u (by simpa [flat] using hu)) (by unfold maxLen; omega) (by omega) (by simp; omega) ?_; intro va wa howna hgrowa _ hata); have hBa : Below w.heap.size w wa := (hBu.alloc hBu.size _).grown hgrowa (by simp; omega) (fun k hk => (hOc.out.lt k hk).1); have hBas := hBa.size; have hNa := apart_next (hOg.out.alloc _) hA.out hgrowa hata; have hOga := Lib.hid hNa.1; have hAa := Lib.hid hNa.2; have hOca := Lib.hid (MadeC.next howna HCN.out); clear howna hgrowa hata hNa d0 d1 d2 d3 d4 d5 d6 d7; have d0 := (hBa.cell (p := ⟨b, o + I * 8, none⟩) hb).trans HC0.out; have d1 := (hBa.cell (p := ⟨b, o + I * 8 + 1, none⟩) hb).trans HC1.out; have d2 := (hBa.cell (p := ⟨b, o + I * 8 + 2, none⟩) hb).trans HC2.out; have d3 := (hBa.cell (p := ⟨b, o + I * 8 + 3, none⟩) hb).trans HC3.out; have d4 := (hBa.cell (p := ⟨b, o + I * 8 + 4, none⟩) hb).trans HC4.out; have d5 := (hBa.cell (p := ⟨b, o + I * 8 + 5, none⟩) hb).trans HC5.out; have d6 := (hBa.cell (p := ⟨b, o + I * 8 + 6, none⟩) hb).trans HC6.out; have d7 := (hBa.cell (p := ⟨b, o + I * 8 + 7, none⟩) hb).trans HC7.out))
            go_roundw
            case rel => exact ⟨_, _, I + 1, rfl, rfl, by omega, by go_num, hOca, Lib.hid (by rw [HGN.out]; exact hOga.out), hAa, hBa⟩
            case measure => simp [intOf]; omega
        · have f1 : (m.c.kd == 2) = false := by simpa using e2
          have f2 : (m.c.kd != 2) = true := by simpa using e2
          have HGN : Hid (getsU l I (I + 1) = getsU l I I ++ [m]) := Lib.hid (by rw [HGS.out, if_pos (.inr e2)])
          clear HGS e2
          cases cn
          · go_wp2_with (first | (go_at_call 11; (with_reducible refine HCNT.out.mono ?_); rintro e wu ⟨rfl, hbu⟩; have hBu := hB.trans (hbu.mono hB.size); have hBus := hBu.size; have hOc := Lib.hid (own_below hC.out hbu); have hOg := Lib.hid (own_below hG.out hbu); clear d0 d1 d2 d3 d4 d5 d6 d7; have d0 := (hBu.cell (p := ⟨b, o + I * 8, none⟩) hb).trans HC0.out; have d1 := (hBu.cell (p := ⟨b, o + I * 8 + 1, none⟩) hb).trans HC1.out; have d2 := (hBu.cell (p := ⟨b, o + I * 8 + 2, none⟩) hb).trans HC2.out; have d3 := (hBu.cell (p := ⟨b, o + I * 8 + 3, none⟩) hb).trans HC3.out; have d4 := (hBu.cell (p := ⟨b, o + I * 8 + 4, none⟩) hb).trans HC4.out; have d5 := (hBu.cell (p := ⟨b, o + I * 8 + 5, none⟩) hb).trans HC5.out; have d6 := (hBu.cell (p := ⟨b, o + I * 8 + 6, none⟩) hb).trans HC6.out; have d7 := (hBu.cell (p := ⟨b, o + I * 8 + 7, none⟩) hb).trans HC7.out) | ((at_builtin; refine wpList_append_own_at _ rfl (.tmp 51) (.tmp 56) 22 rfl w.heap.size 30 i0 (.agg #[.int .i64 0, .int .u8 0, .string ⟨#[]⟩, .slice none 0 0, .int .i64 0, .int .i64 0, .int .i64 0, .slice none 0 0]) 8 104 Try.underlying22 hi hz0 hz1 hz2 rfl (by decide) _ _ _ rfl (hOg.out.alloc _) ⟨wu.heap.size, 0, none⟩ 1 1 m.c.cells rfl (by rfl) (cells_news (heap_newA _ _)) (by intro u hu; exact flat_one [m.c] u (by simpa [flat] using hu)) (by unfold maxLen; omega) (by omega) (by simp; omega) ?_; intro vb wb hownb hgrowb _ hatb); have hBb : Below w.heap.size w wb := (hBu.alloc hBu.size _).grown hgrowb (by simp; omega) (fun k hk => (hOg.out.lt k hk).1); have hBbs := hBb.size; have hNb := apart_next (hOc.out.alloc _) (Apart.symm hA.out) hgrowb hatb; have hOcb := Lib.hid hNb.1; have hAb := Lib.hid (Apart.symm hNb.2); have hOgb := Lib.hid (MadeC.next hownb HGN.out); clear hownb hgrowb hatb hNb))
            go_roundw
            case rel => exact ⟨_, _, I + 1, rfl, rfl, by omega, by go_num, Lib.hid (by rw [HCS.out, if_neg (by decide), List.append_nil]; exact hOcb.out), hOgb, hAb, hBb⟩
            case measure => simp [intOf]; omega
          · have HCN : Hid (cntsU l (I + 1) = cntsU l I ++ [m]) := Lib.hid (by rw [HCS.out]; simp)
            go_wp2_with (first | (go_at_call 11; (with_reducible refine HCNT.out.mono ?_); rintro e wu ⟨rfl, hbu⟩; have hBu := hB.trans (hbu.mono hB.size); have hBus := hBu.size; have hOc := Lib.hid (own_below hC.out hbu); have hOg := Lib.hid (own_below hG.out hbu); clear d0 d1 d2 d3 d4 d5 d6 d7; have d0 := (hBu.cell (p := ⟨b, o + I * 8, none⟩) hb).trans HC0.out; have d1 := (hBu.cell (p := ⟨b, o + I * 8 + 1, none⟩) hb).trans HC1.out; have d2 := (hBu.cell (p := ⟨b, o + I * 8 + 2, none⟩) hb).trans HC2.out; have d3 := (hBu.cell (p := ⟨b, o + I * 8 + 3, none⟩) hb).trans HC3.out; have d4 := (hBu.cell (p := ⟨b, o + I * 8 + 4, none⟩) hb).trans HC4.out; have d5 := (hBu.cell (p := ⟨b, o + I * 8 + 5, none⟩) hb).trans HC5.out; have d6 := (hBu.cell (p := ⟨b, o + I * 8 + 6, none⟩) hb).trans HC6.out; have d7 := (hBu.cell (p := ⟨b, o + I * 8 + 7, none⟩) hb).trans HC7.out) | ((at_builtin; refine wpList_append_own_at _ rfl (.tmp 33) (.tmp 38) 22 rfl w.heap.size 30 i0 (.agg #[.int .i64 0, .int .u8 0, .string ⟨#[]⟩, .slice none 0 0, .int .i64 0, .int .i64 0, .int .i64 0, .slice none 0 0]) 8 104 Try.underlying22 hi hz0 hz1 hz2 rfl (by decide) _ _ _ rfl (hOc.out.alloc _) ⟨wu.heap.size, 0, none⟩ 1 1 m.c.cells rfl (by rfl) (cells_news (heap_newA _ _)) (by intro u hu; exact flat_one [m.c] u (by simpa [flat] using hu)) (by unfold maxLen; omega) (by omega) (by simp; omega) ?_; intro va wa howna hgrowa _ hata); have hBa : Below w.heap.size w wa := (hBu.alloc hBu.size _).grown hgrowa (by simp; omega) (fun k hk => (hOc.out.lt k hk).1); have hBas := hBa.size; have hNa := apart_next (hOg.out.alloc _) hA.out hgrowa hata; have hOga := Lib.hid hNa.1; have hAa := Lib.hid hNa.2; have hOca := Lib.hid (MadeC.next howna HCN.out); clear howna hgrowa hata hNa d0 d1 d2 d3 d4 d5 d6 d7; have d0 := (hBa.cell (p := ⟨b, o + I * 8, none⟩) hb).trans HC0.out; have d1 := (hBa.cell (p := ⟨b, o + I * 8 + 1, none⟩) hb).trans HC1.out; have d2 := (hBa.cell (p := ⟨b, o + I * 8 + 2, none⟩) hb).trans HC2.out; have d3 := (hBa.cell (p := ⟨b, o + I * 8 + 3, none⟩) hb).trans HC3.out; have d4 := (hBa.cell (p := ⟨b, o + I * 8 + 4, none⟩) hb).trans HC4.out; have d5 := (hBa.cell (p := ⟨b, o + I * 8 + 5, none⟩) hb).trans HC5.out; have d6 := (hBa.cell (p := ⟨b, o + I * 8 + 6, none⟩) hb).trans HC6.out; have d7 := (hBa.cell (p := ⟨b, o + I * 8 + 7, none⟩) hb).trans HC7.out) | ((at_builtin; refine wpList_append_own_at _ rfl (.tmp 51) (.tmp 56) 22 rfl w.heap.size 30 i0 (.agg #[.int .i64 0, .int .u8 0, .string ⟨#[]⟩, .slice none 0 0, .int .i64 0, .int .i64 0, .int .i64 0, .slice none 0 0]) 8 104 Try.underlying22 hi hz0 hz1 hz2 rfl (by decide) _ _ _ rfl (hOga.out.alloc _) ⟨wa.heap.size, 0, none⟩ 1 1 m.c.cells rfl (by rfl) (cells_news (heap_newA _ _)) (by intro u hu; exact flat_one [m.c] u (by simpa [flat] using hu)) (by unfold maxLen; omega) (by omega) (by simp; omega) ?_; intro vb wb hownb hgrowb _ hatb); have hBb : Below w.heap.size w wb := (hBa.alloc hBa.size _).grown hgrowb (by simp; omega) (fun k hk => (hOga.out.lt k hk).1); have hBbs := hBb.size; have hNb := apart_next (hOca.out.alloc _) (Apart.symm hAa.out) hgrowb hatb; have hOcb := Lib.hid hNb.1; have hAb := Lib.hid (Apart.symm hNb.2); have hOgb := Lib.hid (MadeC.next hownb HGN.out); clear hownb hgrowb hatb hNb))
            go_roundw
            case rel => exact ⟨_, _, I + 1, rfl, rfl, by omega, by go_num, hOcb, hOgb, hAb, hBb⟩
            case measure => simp [intOf]; omega
      · have HGN : Hid (getsU l k (I + 1) = getsU l k I ++ [m]) := Lib.hid (by rw [HGS.out, if_pos (.inl e)])
        clear HGS
        cases cn
        · go_wp2_with (first | (go_at_call 11; (with_reducible refine HCNT.out.mono ?_); rintro e wu ⟨rfl, hbu⟩; have hBu := hB.trans (hbu.mono hB.size); have hBus := hBu.size; have hOc := Lib.hid (own_below hC.out hbu); have hOg := Lib.hid (own_below hG.out hbu); clear d0 d1 d2 d3 d4 d5 d6 d7; have d0 := (hBu.cell (p := ⟨b, o + I * 8, none⟩) hb).trans HC0.out; have d1 := (hBu.cell (p := ⟨b, o + I * 8 + 1, none⟩) hb).trans HC1.out; have d2 := (hBu.cell (p := ⟨b, o + I * 8 + 2, none⟩) hb).trans HC2.out; have d3 := (hBu.cell (p := ⟨b, o + I * 8 + 3, none⟩) hb).trans HC3.out; have d4 := (hBu.cell (p := ⟨b, o + I * 8 + 4, none⟩) hb).trans HC4.out; have d5 := (hBu.cell (p := ⟨b, o + I * 8 + 5, none⟩) hb).trans HC5.out; have d6 := (hBu.cell (p := ⟨b, o + I * 8 + 6, none⟩) hb).trans HC6.out; have d7 := (hBu.cell (p := ⟨b, o + I * 8 + 7, none⟩) hb).trans HC7.out) | ((at_builtin; refine wpList_append_own_at _ rfl (.tmp 51) (.tmp 56) 22 rfl w.heap.size 30 i0 (.agg #[.int .i64 0, .int .u8 0, .string ⟨#[]⟩, .slice none 0 0, .int .i64 0, .int .i64 0, .int .i64 0, .slice none 0 0]) 8 104 Try.underlying22 hi hz0 hz1 hz2 rfl (by decide) _ _ _ rfl (hOg.out.alloc _) ⟨wu.heap.size, 0, none⟩ 1 1 m.c.cells rfl (by rfl) (cells_news (heap_newA _ _)) (by intro u hu; exact flat_one [m.c] u (by simpa [flat] using hu)) (by unfold maxLen; omega) (by omega) (by simp; omega) ?_; intro vb wb hownb hgrowb _ hatb); have hBb : Below w.heap.size w wb := (hBu.alloc hBu.size _).grown hgrowb (by simp; omega) (fun k hk => (hOg.out.lt k hk).1); have hBbs := hBb.size; have hNb := apart_next (hOc.out.alloc _) (Apart.symm hA.out) hgrowb hatb; have hOcb := Lib.hid hNb.1; have hAb := Lib.hid (Apart.symm hNb.2); have hOgb := Lib.hid (MadeC.next hownb HGN.out); clear hownb hgrowb hatb hNb))
          go_roundw
          case rel => exact ⟨_, _, I + 1, rfl, rfl, by omega, by go_num, Lib.hid (by rw [HCS.out, if_neg (by decide), List.append_nil]; exact hOcb.out), hOgb, hAb, hBb⟩
          case measure => simp [intOf]; omega
        · have HCN : Hid (cntsU l (I + 1) = cntsU l I ++ [m]) := Lib.hid (by rw [HCS.out]; simp)
          go_wp2_with (first | (go_at_call 11; (with_reducible refine HCNT.out.mono ?_); rintro e wu ⟨rfl, hbu⟩; have hBu := hB.trans (hbu.mono hB.size); have hBus := hBu.size; have hOc := Lib.hid (own_below hC.out hbu); have hOg := Lib.hid (own_below hG.out hbu); clear d0 d1 d2 d3 d4 d5 d6 d7; have d0 := (hBu.cell (p := ⟨b, o + I * 8, none⟩) hb).trans HC0.out; have d1 := (hBu.cell (p := ⟨b, o + I * 8 + 1, none⟩) hb).trans HC1.out; have d2 := (hBu.cell (p := ⟨b, o + I * 8 + 2, none⟩) hb).trans HC2.out; have d3 := (hBu.cell (p := ⟨b, o + I * 8 + 3, none⟩) hb).trans HC3.out; have d4 := (hBu.cell (p := ⟨b, o + I * 8 + 4, none⟩) hb).trans HC4.out; have d5 := (hBu.cell (p := ⟨b, o + I * 8 + 5, none⟩) hb).trans HC5.out; have d6 := (hBu.cell (p := ⟨b, o + I * 8 + 6, none⟩) hb).trans HC6.out; have d7 := (hBu.cell (p := ⟨b, o + I * 8 + 7, none⟩) hb).trans HC7.out) | ((at_builtin; refine wpList_append_own_at _ rfl (.tmp 33) (.tmp 38) 22 rfl w.heap.size 30 i0 (.agg #[.int .i64 0, .int .u8 0, .string ⟨#[]⟩, .slice none 0 0, .int .i64 0, .int .i64 0, .int .i64 0, .slice none 0 0]) 8 104 Try.underlying22 hi hz0 hz1 hz2 rfl (by decide) _ _ _ rfl (hOc.out.alloc _) ⟨wu.heap.size, 0, none⟩ 1 1 m.c.cells rfl (by rfl) (cells_news (heap_newA _ _)) (by intro u hu; exact flat_one [m.c] u (by simpa [flat] using hu)) (by unfold maxLen; omega) (by omega) (by simp; omega) ?_; intro va wa howna hgrowa _ hata); have hBa : Below w.heap.size w wa := (hBu.alloc hBu.size _).grown hgrowa (by simp; omega) (fun k hk => (hOc.out.lt k hk).1); have hBas := hBa.size; have hNa := apart_next (hOg.out.alloc _) hA.out hgrowa hata; have hOga := Lib.hid hNa.1; have hAa := Lib.hid hNa.2; have hOca := Lib.hid (MadeC.next howna HCN.out); clear howna hgrowa hata hNa d0 d1 d2 d3 d4 d5 d6 d7; have d0 := (hBa.cell (p := ⟨b, o + I * 8, none⟩) hb).trans HC0.out; have d1 := (hBa.cell (p := ⟨b, o + I * 8 + 1, none⟩) hb).trans HC1.out; have d2 := (hBa.cell (p := ⟨b, o + I * 8 + 2, none⟩) hb).trans HC2.out; have d3 := (hBa.cell (p := ⟨b, o + I * 8 + 3, none⟩) hb).trans HC3.out; have d4 := (hBa.cell (p := ⟨b, o + I * 8 + 4, none⟩) hb).trans HC4.out; have d5 := (hBa.cell (p := ⟨b, o + I * 8 + 5, none⟩) hb).trans HC5.out; have d6 := (hBa.cell (p := ⟨b, o + I * 8 + 6, none⟩) hb).trans HC6.out; have d7 := (hBa.cell (p := ⟨b, o + I * 8 + 7, none⟩) hb).trans HC7.out) | ((at_builtin; refine wpList_append_own_at _ rfl (.tmp 51) (.tmp 56) 22 rfl w.heap.size 30 i0 (.agg #[.int .i64 0, .int .u8 0, .string ⟨#[]⟩, .slice none 0 0, .int .i64 0, .int .i64 0, .int .i64 0, .slice none 0 0]) 8 104 Try.underlying22 hi hz0 hz1 hz2 rfl (by decide) _ _ _ rfl (hOga.out.alloc _) ⟨wa.heap.size, 0, none⟩ 1 1 m.c.cells rfl (by rfl) (cells_news (heap_newA _ _)) (by intro u hu; exact flat_one [m.c] u (by simpa [flat] using hu)) (by unfold maxLen; omega) (by omega) (by simp; omega) ?_; intro vb wb hownb hgrowb _ hatb); have hBb : Below w.heap.size w wb := (hBa.alloc hBa.size _).grown hgrowb (by simp; omega) (fun k hk => (hOga.out.lt k hk).1); have hBbs := hBb.size; have hNb := apart_next (hOca.out.alloc _) (Apart.symm hAa.out) hgrowb hatb; have hOcb := Lib.hid hNb.1; have hAb := Lib.hid (Apart.symm hNb.2); have hOgb := Lib.hid (MadeC.next hownb HGN.out); clear hownb hgrowb hatb hNb))
          go_roundw
          case rel => exact ⟨_, _, I + 1, rfl, rfl, by omega, by go_num, hOcb, hOgb, hAb, hBb⟩
          case measure => simp [intOf]; omega
    · obtain rfl : I = l.length := by omega
      have HBB := Lib.hid hB
      have hk0 : k < l.length ∨ l = [] := by
        rcases HKK.out with h | ⟨h, _⟩
        · exact .inl h
        · exact .inr (List.eq_nil_of_length_eq_zero h)
      have hcl := cntsU_le l l.length
      have hgl := getsU_le l k l.length
      obtain ⟨ca, cc, hcf⟩ := hC.out.rd.form
      obtain ⟨ga, gc, hgf⟩ := hG.out.rd.form
      subst hcf
      subst hgf
      have X1 := Lib.hid (permits_is _ (cntsU l l.length) wr hC.out.rd (by omega) (fun x hx => (HALL.out x (cntsU_sub l _ x hx)).below hB) (fun x hx => HKO.out x (cntsU_sub l _ x hx)) true ⟨fun _ => rfl, fun _ => cntsU_perm l HPM.out⟩)
      have X2 := Lib.hid (fun W (hb : Below wr.heap.size wr W) => permits_is _ (getsU l k l.length) W (hG.out.rd.below hb) (by omega) (fun x hx => ((HALL.out x (getsU_sub l k _ x hx)).below hB).below hb) (fun x hx => HKO.out x (getsU_sub l k _ x hx)) true ⟨fun _ => rfl, fun _ => getsU_perm l k hk0 HPM.out⟩)
      clear hC hG hA hk0
      go_wp2_with (first | (go_at_call 8; (with_reducible refine X1.out.mono ?_); rintro e y1 ⟨rfl, j1⟩) | (go_at_call 8; (with_reducible refine (X2.out _ j1).mono ?_); rintro e y2 ⟨rfl, j2⟩) | (go_at_call 9; refine (HW.out _).mono ?_; rintro e y3 ⟨rfl, j3⟩))
      go_ret
      have j12 := j1.trans (j2.mono j1.size)
      have j123 := j12.trans (j3.mono j12.size)
      exact ⟨rfl, HBB.out.trans (j123.mono HBB.out.size)⟩

end Go.Proofs.Ytggecoekoilahaa
