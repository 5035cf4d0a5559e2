/-
  The chapter's examples.
-/
import Derived.Test.YtggecoekoilahaaIdWorksA
import Derived.Deep.DeepCutAuto
namespace Go.Proofs.Ytggecoekoilahaa
open Go.RowKit
set_option linter.unusedSimpArgs false
set_option linter.unusedVariables false

/-- Three unlike new blocks. -/
def Trio (W : World) (A B C : Obj) (s t u : Value) (wx : World) : Prop :=
  ∃ p q r : Nat, s = .pointer (some ⟨p, 0, none⟩) ∧ t = .pointer (some ⟨q, 0, none⟩) ∧ u = .pointer (some ⟨r, 0, none⟩) ∧ W.heap.size ≤ p ∧ W.heap.size ≤ q ∧ W.heap.size ≤ r ∧ p ≠ q ∧ p ≠ r ∧ q ≠ r ∧
    wx.heap[p]? = some A ∧ wx.heap[q]? = some B ∧ wx.heap[r]? = some C ∧ Below W.heap.size W wx
theorem trio_mk (W : World) (X Y Z A B C : Obj) (p q r : Nat) (hp : ((((W.alloc X).alloc Y).alloc Z).drew).heap[p]? = some A) (hq : ((((W.alloc X).alloc Y).alloc Z).drew).heap[q]? = some B) (hr : ((((W.alloc X).alloc Y).alloc Z).drew).heap[r]? = some C)
    (h1 : W.heap.size ≤ p) (h2 : W.heap.size ≤ q) (h3 : W.heap.size ≤ r) (h4 : p ≠ q) (h5 : p ≠ r) (h6 : q ≠ r) :
    Trio W A B C (.pointer (some ⟨p, 0, none⟩)) (.pointer (some ⟨q, 0, none⟩)) (.pointer (some ⟨r, 0, none⟩)) ((((W.alloc X).alloc Y).alloc Z).drew) :=
  ⟨p, q, r, rfl, rfl, rfl, h1, h2, h3, h4, h5, h6, hp, hq, hr, ((((Below.refl _ _).alloc (Nat.le_refl _) _).alloc (by simp) _).alloc (by simp; omega) _).drew⟩

set_option maxRecDepth 100000 in
set_option maxHeartbeats 2000000 in
theorem idworks_any (w : World) : Calls Try.prog 9 #[] w fun e w' => e = .returned (.bool true) ∧ Below w.heap.size w w' := by
  go_enter Try.func9, Try.ntmps9
  go_upto_region 6 with fail
  generalize hg : w.heap.size = g at *
  generalize hW : ((((w.alloc (.cells #[.int .u8 5] 5)).alloc (.cells #[.int .i64 1, .int .u8 1, .string ⟨#[107]⟩, .slice (some ⟨g, 0, none⟩) 1 1, .int .i64 1, .int .i64 2, .int .i64 0, .slice none 0 0] 30)).alloc (.cells #[.int .u8 5] 5)).alloc (.cells #[.int .i64 2, .int .u8 2, .string ⟨#[107]⟩, .slice none 0 0, .int .i64 3, .int .i64 4, .int .i64 0, .slice (some ⟨g + 1 + 1, 0, none⟩) 1 1] 30)).alloc (.cells #[.int .i64 2, .int .u8 2, .string ⟨#[107]⟩, .slice none 0 0, .int .i64 3, .int .i64 4, .int .i64 5, .slice none 0 0] 30) = Wa at *
  have hB : Below w.heap.size w Wa := by rw [← hW]; exact (((((Below.refl _ _).alloc (Nat.le_refl _) _).alloc (by simp) _).alloc (by simp; omega) _).alloc (by simp; omega) _).alloc (by simp; omega) _
  have hs : Wa.heap.size = g + 1 + 1 + 1 + 1 + 1 := by rw [← hW]; simp [hg]
  have h0 : Wa.heap[g]? = some (.cells #[.int .u8 5] 5) := by rw [← hW, ← hg]; exact keepA (keepA (alloc3 w _ _ _).1 _) _
  have h1 : Wa.heap[g + 1]? = some (.cells #[.int .i64 1, .int .u8 1, .string ⟨#[107]⟩, .slice (some ⟨g, 0, none⟩) 1 1, .int .i64 1, .int .i64 2, .int .i64 0, .slice none 0 0] 30) := by rw [← hW, ← hg]; exact keepA (keepA (alloc3 w _ _ _).2.1 _) _
  have h2 : Wa.heap[g + 1 + 1]? = some (.cells #[.int .u8 5] 5) := by rw [← hW, ← hg]; exact keepA (keepA (alloc3 w _ _ _).2.2 _) _
  have h3 : Wa.heap[g + 1 + 1 + 1]? = some (.cells #[.int .i64 2, .int .u8 2, .string ⟨#[107]⟩, .slice none 0 0, .int .i64 3, .int .i64 4, .int .i64 0, .slice (some ⟨g + 1 + 1, 0, none⟩) 1 1] 30) := by
    rw [← hW, ← hg]
    have := (alloc3 ((w.alloc (.cells #[.int .u8 5] 5)).alloc (.cells #[.int .i64 1, .int .u8 1, .string ⟨#[107]⟩, .slice (some ⟨g, 0, none⟩) 1 1, .int .i64 1, .int .i64 2, .int .i64 0, .slice none 0 0] 30)) (.cells #[.int .u8 5] 5) (.cells #[.int .i64 2, .int .u8 2, .string ⟨#[107]⟩, .slice none 0 0, .int .i64 3, .int .i64 4, .int .i64 0, .slice (some ⟨g + 1 + 1, 0, none⟩) 1 1] 30) (.cells #[.int .i64 2, .int .u8 2, .string ⟨#[107]⟩, .slice none 0 0, .int .i64 3, .int .i64 4, .int .i64 5, .slice none 0 0] 30)).2.1
    simpa [hg] using this
  have h4 : Wa.heap[g + 1 + 1 + 1 + 1]? = some (.cells #[.int .i64 2, .int .u8 2, .string ⟨#[107]⟩, .slice none 0 0, .int .i64 3, .int .i64 4, .int .i64 5, .slice none 0 0] 30) := by
    rw [← hW, ← hg]
    have := (alloc3 ((w.alloc (.cells #[.int .u8 5] 5)).alloc (.cells #[.int .i64 1, .int .u8 1, .string ⟨#[107]⟩, .slice (some ⟨g, 0, none⟩) 1 1, .int .i64 1, .int .i64 2, .int .i64 0, .slice none 0 0] 30)) (.cells #[.int .u8 5] 5) (.cells #[.int .i64 2, .int .u8 2, .string ⟨#[107]⟩, .slice none 0 0, .int .i64 3, .int .i64 4, .int .i64 0, .slice (some ⟨g + 1 + 1, 0, none⟩) 1 1] 30) (.cells #[.int .i64 2, .int .u8 2, .string ⟨#[107]⟩, .slice none 0 0, .int .i64 3, .int .i64 4, .int .i64 5, .slice none 0 0] 30)).2.2
    simpa [hg] using this
  have H0 := Lib.hid h0
  have H1 := Lib.hid h1
  have H2 := Lib.hid h2
  have H3 := Lib.hid h3
  have H4 := Lib.hid h4
  have HB := Lib.hid hB
  have HS := Lib.hid hs
  have HGG := Lib.hid hg
  obtain ⟨a0, a1, a2, a3, a4, a5, a6, a7⟩ := cells8 h1
  have hg1 : g + 1 < Wa.heap.size := by omega
  clear h0 h1 h2 h3 h4 hB hs hg hW
  generalize hG1 : g + 1 = g1 at *
  generalize hG2 : g1 + 1 = g2 at *
  generalize hG3 : g2 + 1 = g3 at *
  generalize hG4 : g3 + 1 = g4 at *
  have HG1 := Lib.hid hG1
  have HG2 := Lib.hid hG2
  have HG3 := Lib.hid hG3
  have HG4 := Lib.hid hG4
  clear hG1 hG2 hG3 hG4
  go_cut [4, 5, 6] (fun s4 s5 s6 wx => Trio Wa (.cells #[.int .i64 1, .int .u8 1, .string ⟨#[107]⟩, .slice (some ⟨g, 0, none⟩) 1 1, .int .i64 1, .int .i64 2, .int .i64 0, .slice none 0 0] 30) (.cells #[.int .i64 1, .int .u8 1, .string ⟨#[107]⟩, .slice (some ⟨g, 0, none⟩) 1 1, .int .i64 1, .int .i64 2, .int .i64 0, .slice none 0 0] 30) (.cells #[.int .i64 1, .int .u8 1, .string ⟨#[107]⟩, .slice (some ⟨g, 0, none⟩) 1 1, .int .i64 1, .int .i64 2, .int .i64 0, .slice none 0 0] 30) s4 s5 s6 wx)
  case first =>
    have hgr := fun (w0 W : World) (p : Addr) (hp : (fun k => k < Wa.heap.size) p.block) => graft_cell (w0 := w0) (keep := (fun k => k < Wa.heap.size)) W hp
    refine wp_region_tree (fun k => k < Wa.heap.size) [3, 4, 5, 6, 7, 8] (.step 0 (.step 1 (.step 2 (.fork3 3 (.fork 4 (.step 5 (.step 6 (.step 7 (.step 8 .done)))) 5 (.step 4 (.step 6 (.step 7 (.step 8 .done))))) 4 (.fork 3 (.step 5 (.step 6 (.step 7 (.step 8 .done)))) 5 (.step 3 (.step 6 (.step 7 (.step 8 .done))))) 5 (.fork 3 (.step 4 (.step 6 (.step 7 (.step 8 .done)))) 4 (.step 3 (.step 6 (.step 7 (.step 8 .done))))))))) (by kernel_rfl) (by kernel_rfl) ?_
    simp only [slimTr, slimStep, Oper.slim, List.contains_cons, List.contains_nil, Option.map_none, Option.map_some, List.getElem?_toArray, List.getElem?_cons_zero, List.getElem?_cons_succ, Option.bind_some, beq_self_eq_true, Bool.or_false, Nat.reduceBEq, Nat.reduceAdd, Nat.zero_add]
    repeat ((with_reducible refine wpSlimT_step (fun K hK => ?_)); go_simp; first | (refine hK _ _ ?_; clear hK K) | (refine ⟨by (intro kk hkk; first | (simp (disch := (simp; omega)) only [hp_drew, hp_drewN, hp_alloc, hp_set]; done) | (simp [hp_drew, hp_drewN, hp_alloc_if, hkk]; done) | fail), hK _ _ ?_⟩; clear hK K))
    refine wpSlimT_fork3 ?_ ?_ ?_
    all_goals
      repeat ((with_reducible refine wpSlimT_step (fun K hK => ?_)); go_simp; first | (refine hK _ _ ?_; clear hK K) | (refine ⟨by (intro kk hkk; first | (simp (disch := (simp; omega)) only [hp_drew, hp_drewN, hp_alloc, hp_set]; done) | (simp [hp_drew, hp_drewN, hp_alloc_if, hkk]; done) | fail), hK _ _ ?_⟩; clear hK K))
      refine wpSlimT_fork ?_ ?_
      all_goals
        repeat ((with_reducible refine wpSlimT_step (fun K hK => ?_)); go_simp; first | (refine hK _ _ ?_; clear hK K) | (refine ⟨by (intro kk hkk; first | (simp (disch := (simp; omega)) only [hp_drew, hp_drewN, hp_alloc, hp_set]; done) | (simp [hp_drew, hp_drewN, hp_alloc_if, hkk]; done) | fail), hK _ _ ?_⟩; clear hK K))
        refine wpSlimT_done ?_
    all_goals clear hgr
    all_goals
      go_wp2_with fail
      go_meet
      refine trio_mk Wa _ _ _ _ _ _ _ _ _ ?_ ?_ ?_ (by omega) (by omega) (by omega) (by omega) (by omega) (by omega) <;> first | exact (alloc3 Wa _ _ _).1 | exact (alloc3 Wa _ _ _).2.1 | exact (alloc3 Wa _ _ _).2.2
  case rest =>
    obtain ⟨p, q, r, rfl, rfl, rfl, hp, hq, hr, hpq, hpr, hqr, gp, gq, gr, hb1⟩ := hcut
    obtain ⟨w2, rfl, hz2, hp2⟩ := put_of gp
    have gq2 := hp2 (fun w => w.heap[q]? = some (.cells #[.int .i64 1, .int .u8 1, .string ⟨#[107]⟩, .slice (some ⟨g, 0, none⟩) 1 1, .int .i64 1, .int .i64 2, .int .i64 0, .slice none 0 0] 30)) gq
    have gr2 := hp2 (fun w => w.heap[r]? = some (.cells #[.int .i64 1, .int .u8 1, .string ⟨#[107]⟩, .slice (some ⟨g, 0, none⟩) 1 1, .int .i64 1, .int .i64 2, .int .i64 0, .slice none 0 0] 30)) gr
    have hb2 := hp2 (fun w => Below Wa.heap.size Wa w) hb1
    clear gp gq gr hb1 hp2
    obtain ⟨w3, rfl, hz3, hp3⟩ := put_of gq2
    have gr3 := hp3 (fun w => w.heap[r]? = some (.cells #[.int .i64 1, .int .u8 1, .string ⟨#[107]⟩, .slice (some ⟨g, 0, none⟩) 1 1, .int .i64 1, .int .i64 2, .int .i64 0, .slice none 0 0] 30)) gr2
    have hb3 := hp3 (fun w => Below Wa.heap.size Wa w) hb2
    rw [size_putBlk] at hz2
    have hz23 : p < w3.heap.size := hz2
    clear gq2 gr2 hb2 hp3 hz2
    obtain ⟨w4, rfl, hz4, hp4⟩ := put_of gr3
    have hb4 := hp4 (fun w => Below Wa.heap.size Wa w) hb3
    rw [size_putBlk] at hz3 hz23
    clear gr3 hb3 hp4
    have hqp : q ≠ p := fun e => hpq e.symm
    have hrp : r ≠ p := fun e => hpr e.symm
    have hrq : r ≠ q := fun e => hqr e.symm
    go_upto_region 10 with fail
    generalize hV : putBlk (putBlk (putBlk w4 r (.cells #[.int .i64 1, .int .u8 1, .string ⟨#[107]⟩, .slice (some ⟨g, 0, none⟩) 1 1, .int .i64 1, .int .i64 2, .int .i64 181, .slice none 0 0] 30)) q (.cells #[.int .i64 1, .int .u8 1, .string ⟨#[107]⟩, .slice (some ⟨g, 0, none⟩) 1 1, .int .i64 1, .int .i64 (-1), .int .i64 0, .slice none 0 0] 30)) p (.cells #[.int .i64 1, .int .u8 1, .string ⟨#[107]⟩, .slice (some ⟨g, 0, none⟩) 1 1, .int .i64 1, .int .i64 4, .int .i64 0, .slice none 0 0] 30) = Wb
    have HBb : Hid (Below Wa.heap.size Wa Wb) := Lib.hid (by rw [← hV]; exact bel_putBlk (bel_putBlk (bel_putBlk hb4 hr _) hq _) hp _)
    have HP : Hid (Wb.heap[p]? = some (.cells #[.int .i64 1, .int .u8 1, .string ⟨#[107]⟩, .slice (some ⟨g, 0, none⟩) 1 1, .int .i64 1, .int .i64 4, .int .i64 0, .slice none 0 0] 30)) := Lib.hid (by rw [← hV]; exact heap_putBlk _ (by simp only [size_putBlk]; exact hz23))
    have HQ : Hid (Wb.heap[q]? = some (.cells #[.int .i64 1, .int .u8 1, .string ⟨#[107]⟩, .slice (some ⟨g, 0, none⟩) 1 1, .int .i64 1, .int .i64 (-1), .int .i64 0, .slice none 0 0] 30)) := Lib.hid (by rw [← hV, heap_putBlk_ne _ hqp]; exact heap_putBlk _ (by simp only [size_putBlk]; exact hz3))
    have HR : Hid (Wb.heap[r]? = some (.cells #[.int .i64 1, .int .u8 1, .string ⟨#[107]⟩, .slice (some ⟨g, 0, none⟩) 1 1, .int .i64 1, .int .i64 2, .int .i64 181, .slice none 0 0] 30)) := Lib.hid (by rw [← hV, heap_putBlk_ne _ hrp, heap_putBlk_ne _ hrq]; exact heap_putBlk _ hz4)
    have hszb : Wa.heap.size ≤ Wb.heap.size := HBb.out.size
    have h3b : g3 < Wa.heap.size := lt_of_heap H3.out
    have h4b : g4 < Wa.heap.size := lt_of_heap H4.out
    have hpb := lt_of_heap HP.out
    have hqb := lt_of_heap HQ.out
    have hrb := lt_of_heap HR.out
    clear hV hb4 hz4 hz3 hz23
    clear w4
    obtain ⟨b0, b1, b2, b3, b4, b5, b6, b7⟩ := cells8 ((HBb.out.block _ h3b).trans H3.out)
    obtain ⟨e0, e1, e2, e3, e4, e5, e6, e7⟩ := cells8 ((HBb.out.block _ h4b).trans H4.out)
    have h3c : g3 < Wb.heap.size := by omega
    have h4c : g4 < Wb.heap.size := by omega
    go_cut [7, 8, 9] (fun s7 s8 s9 wx => Trio Wb (.cells #[.int .i64 2, .int .u8 2, .string ⟨#[107]⟩, .slice none 0 0, .int .i64 3, .int .i64 4, .int .i64 5, .slice none 0 0] 30) (.cells #[.int .i64 2, .int .u8 2, .string ⟨#[107]⟩, .slice none 0 0, .int .i64 3, .int .i64 4, .int .i64 0, .slice (some ⟨g2, 0, none⟩) 1 1] 30) (.cells #[.int .i64 2, .int .u8 2, .string ⟨#[107]⟩, .slice none 0 0, .int .i64 3, .int .i64 4, .int .i64 5, .slice none 0 0] 30) s7 s8 s9 wx)
    case first =>
      have hgr := fun (w0 W : World) (p : Addr) (hp : (fun k => k < Wb.heap.size) p.block) => graft_cell (w0 := w0) (keep := (fun k => k < Wb.heap.size)) W hp
      refine wp_region_tree (fun k => k < Wb.heap.size) [3, 4, 5, 6, 7, 8] (.step 0 (.step 1 (.step 2 (.fork3 3 (.fork 4 (.step 5 (.step 6 (.step 7 (.step 8 .done)))) 5 (.step 4 (.step 6 (.step 7 (.step 8 .done))))) 4 (.fork 3 (.step 5 (.step 6 (.step 7 (.step 8 .done)))) 5 (.step 3 (.step 6 (.step 7 (.step 8 .done))))) 5 (.fork 3 (.step 4 (.step 6 (.step 7 (.step 8 .done)))) 4 (.step 3 (.step 6 (.step 7 (.step 8 .done))))))))) (by kernel_rfl) (by kernel_rfl) ?_
      simp only [slimTr, slimStep, Oper.slim, List.contains_cons, List.contains_nil, Option.map_none, Option.map_some, List.getElem?_toArray, List.getElem?_cons_zero, List.getElem?_cons_succ, Option.bind_some, beq_self_eq_true, Bool.or_false, Nat.reduceBEq, Nat.reduceAdd, Nat.zero_add]
      repeat ((with_reducible refine wpSlimT_step (fun K hK => ?_)); go_simp; first | (refine hK _ _ ?_; clear hK K) | (refine ⟨by (intro kk hkk; first | (simp (disch := (simp; omega)) only [hp_drew, hp_drewN, hp_alloc, hp_set]; done) | (simp [hp_drew, hp_drewN, hp_alloc_if, hkk]; done) | fail), hK _ _ ?_⟩; clear hK K))
      refine wpSlimT_fork3 ?_ ?_ ?_
      all_goals
        repeat ((with_reducible refine wpSlimT_step (fun K hK => ?_)); go_simp; first | (refine hK _ _ ?_; clear hK K) | (refine ⟨by (intro kk hkk; first | (simp (disch := (simp; omega)) only [hp_drew, hp_drewN, hp_alloc, hp_set]; done) | (simp [hp_drew, hp_drewN, hp_alloc_if, hkk]; done) | fail), hK _ _ ?_⟩; clear hK K))
        refine wpSlimT_fork ?_ ?_
        all_goals
          repeat ((with_reducible refine wpSlimT_step (fun K hK => ?_)); go_simp; first | (refine hK _ _ ?_; clear hK K) | (refine ⟨by (intro kk hkk; first | (simp (disch := (simp; omega)) only [hp_drew, hp_drewN, hp_alloc, hp_set]; done) | (simp [hp_drew, hp_drewN, hp_alloc_if, hkk]; done) | fail), hK _ _ ?_⟩; clear hK K))
          refine wpSlimT_done ?_
      all_goals clear hgr
      all_goals
        go_wp2_with fail
        go_meet
        refine trio_mk Wb _ _ _ _ _ _ _ _ _ ?_ ?_ ?_ (by omega) (by omega) (by omega) (by omega) (by omega) (by omega) <;> first | exact (alloc3 Wb _ _ _).1 | exact (alloc3 Wb _ _ _).2.1 | exact (alloc3 Wb _ _ _).2.2
    case rest =>
      obtain ⟨x, y, z, rfl, rfl, rfl, hx, hy, hz, hxy, hxz, hyz, gx, gy, gz, hb1⟩ := hcut
      clear b0 b1 b2 b3 b4 b5 b6 b7 e0 e1 e2 e3 e4 e5 e6 e7 a0 a1 a2 a3 a4 a5 a6 a7
      obtain ⟨w2, rfl, hz2, hp2⟩ := put_of gx
      have gq2 := hp2 (fun w => w.heap[y]? = some (.cells #[.int .i64 2, .int .u8 2, .string ⟨#[107]⟩, .slice none 0 0, .int .i64 3, .int .i64 4, .int .i64 0, .slice (some ⟨g2, 0, none⟩) 1 1] 30)) gy
      have gr2 := hp2 (fun w => w.heap[z]? = some (.cells #[.int .i64 2, .int .u8 2, .string ⟨#[107]⟩, .slice none 0 0, .int .i64 3, .int .i64 4, .int .i64 5, .slice none 0 0] 30)) gz
      have hb2 := hp2 (fun w => Below Wb.heap.size Wb w) hb1
      clear gx gy gz hb1 hp2
      obtain ⟨w3, rfl, hz3, hp3⟩ := put_of gq2
      have gr3 := hp3 (fun w => w.heap[z]? = some (.cells #[.int .i64 2, .int .u8 2, .string ⟨#[107]⟩, .slice none 0 0, .int .i64 3, .int .i64 4, .int .i64 5, .slice none 0 0] 30)) gr2
      have hb3 := hp3 (fun w => Below Wb.heap.size Wb w) hb2
      rw [size_putBlk] at hz2
      have hz23 : x < w3.heap.size := hz2
      clear gq2 gr2 hb2 hp3 hz2
      obtain ⟨w4, rfl, hz4, hp4⟩ := put_of gr3
      have hb4 := hp4 (fun w => Below Wb.heap.size Wb w) hb3
      rw [size_putBlk] at hz3 hz23
      clear gr3 hb3 hp4
      have hyx : y ≠ x := fun e => hxy e.symm
      have hzx : z ≠ x := fun e => hxz e.symm
      have hzy : z ≠ y := fun e => hyz e.symm
      go_upto_region 17 with fail
      generalize hV : putBlk (putBlk (putBlk w4 z (.cells #[.int .i64 2, .int .u8 2, .string ⟨#[107]⟩, .slice none 0 0, .int .i64 4, .int .i64 5, .int .i64 5, .slice none 0 0] 30)) y (.cells #[.int .i64 2, .int .u8 2, .string ⟨#[107]⟩, .slice none 0 0, .int .i64 2, .int .i64 3, .int .i64 0, .slice (some ⟨g2, 0, none⟩) 1 1] 30)) x (.cells #[.int .i64 2, .int .u8 2, .string ⟨#[107]⟩, .slice none 0 0, .int .i64 2, .int .i64 3, .int .i64 5, .slice none 0 0] 30) = Wc
      have HBc : Hid (Below Wb.heap.size Wb Wc) := Lib.hid (by rw [← hV]; exact bel_putBlk (bel_putBlk (bel_putBlk hb4 hz _) hy _) hx _)
      have HX : Hid (Wc.heap[x]? = some (.cells #[.int .i64 2, .int .u8 2, .string ⟨#[107]⟩, .slice none 0 0, .int .i64 2, .int .i64 3, .int .i64 5, .slice none 0 0] 30)) := Lib.hid (by rw [← hV]; exact heap_putBlk _ (by simp only [size_putBlk]; exact hz23))
      have HY : Hid (Wc.heap[y]? = some (.cells #[.int .i64 2, .int .u8 2, .string ⟨#[107]⟩, .slice none 0 0, .int .i64 2, .int .i64 3, .int .i64 0, .slice (some ⟨g2, 0, none⟩) 1 1] 30)) := Lib.hid (by rw [← hV, heap_putBlk_ne _ hyx]; exact heap_putBlk _ (by simp only [size_putBlk]; exact hz3))
      have HZ : Hid (Wc.heap[z]? = some (.cells #[.int .i64 2, .int .u8 2, .string ⟨#[107]⟩, .slice none 0 0, .int .i64 4, .int .i64 5, .int .i64 5, .slice none 0 0] 30)) := Lib.hid (by rw [← hV, heap_putBlk_ne _ hzx, heap_putBlk_ne _ hzy]; exact heap_putBlk _ hz4)
      have HP2 := Lib.hid ((HBc.out.block _ hpb).trans HP.out)
      have HQ2 := Lib.hid ((HBc.out.block _ hqb).trans HQ.out)
      have HR2 := Lib.hid ((HBc.out.block _ hrb).trans HR.out)
      have HBac : Hid (Below Wa.heap.size Wa Wc) := Lib.hid (HBb.out.trans (HBc.out.mono hszb))
      clear hV hb4 hz4 hz3 hz23 hx hy hz hxy hxz hyz hyx hzx hzy hp hq hr hpq hpr hqr hqp hrp hrq HP HQ HR
      clear w4
      have HALL : Hid (∀ W', Below Wc.heap.size Wc W' → W'.heap[g1]? = some (.cells #[.int .i64 1, .int .u8 1, .string ⟨#[107]⟩, .slice (some ⟨g, 0, none⟩) 1 1, .int .i64 1, .int .i64 2, .int .i64 0, .slice none 0 0] 30) ∧ W'.heap[g3]? = some (.cells #[.int .i64 2, .int .u8 2, .string ⟨#[107]⟩, .slice none 0 0, .int .i64 3, .int .i64 4, .int .i64 0, .slice (some ⟨g2, 0, none⟩) 1 1] 30) ∧ W'.heap[g4]? = some (.cells #[.int .i64 2, .int .u8 2, .string ⟨#[107]⟩, .slice none 0 0, .int .i64 3, .int .i64 4, .int .i64 5, .slice none 0 0] 30) ∧ W'.heap[p]? = some (.cells #[.int .i64 1, .int .u8 1, .string ⟨#[107]⟩, .slice (some ⟨g, 0, none⟩) 1 1, .int .i64 1, .int .i64 4, .int .i64 0, .slice none 0 0] 30) ∧ W'.heap[q]? = some (.cells #[.int .i64 1, .int .u8 1, .string ⟨#[107]⟩, .slice (some ⟨g, 0, none⟩) 1 1, .int .i64 1, .int .i64 (-1), .int .i64 0, .slice none 0 0] 30) ∧ W'.heap[r]? = some (.cells #[.int .i64 1, .int .u8 1, .string ⟨#[107]⟩, .slice (some ⟨g, 0, none⟩) 1 1, .int .i64 1, .int .i64 2, .int .i64 181, .slice none 0 0] 30) ∧
          W'.heap[x]? = some (.cells #[.int .i64 2, .int .u8 2, .string ⟨#[107]⟩, .slice none 0 0, .int .i64 2, .int .i64 3, .int .i64 5, .slice none 0 0] 30) ∧ W'.heap[y]? = some (.cells #[.int .i64 2, .int .u8 2, .string ⟨#[107]⟩, .slice none 0 0, .int .i64 2, .int .i64 3, .int .i64 0, .slice (some ⟨g2, 0, none⟩) 1 1] 30) ∧ W'.heap[z]? = some (.cells #[.int .i64 2, .int .u8 2, .string ⟨#[107]⟩, .slice none 0 0, .int .i64 4, .int .i64 5, .int .i64 5, .slice none 0 0] 30) ∧ W'.heap[g]? = some (.cells #[.int .u8 5] 5) ∧ W'.heap[g2]? = some (.cells #[.int .u8 5] 5)) := Lib.hid (fun W' hb => by
        have k := fun (bb : Nat) (o : Obj) (h : Wc.heap[bb]? = some o) => (hb.block bb (lt_of_heap h)).trans h
        have kw := fun (bb : Nat) (o : Obj) (h : Wa.heap[bb]? = some o) => k bb o ((HBac.out.block bb (lt_of_heap h)).trans h)
        exact ⟨kw _ _ H1.out, kw _ _ H3.out, kw _ _ H4.out, k _ _ HP2.out, k _ _ HQ2.out, k _ _ HR2.out, k _ _ HX.out, k _ _ HY.out, k _ _ HZ.out, kw _ _ H0.out, kw _ _ H2.out⟩)
      have HBW : Hid (Below w.heap.size w Wc) := Lib.hid (HB.out.trans (HBac.out.mono HB.out.size))
      have hbk : Below Wc.heap.size Wc Wc := Below.refl _ _
      clear HX HY HZ HP2 HQ2 HR2 HBac HBb HBc HB H0 H1 H2 H3 H4 hszb h3b h4b hpb hqb hrb h3c h4c hg1 HS HGG HG1 HG2 HG3 HG4
      have HBK := Lib.hid hbk
      obtain ⟨k1, k3, k4, kp, kq, kr, kx, ky, kz, k10, k11⟩ := HALL.out Wc hbk
      have K10 := k10
      have K11 := k11
      have l1 := lt_of_heap k1
      have l3 := lt_of_heap k3
      have l4 := lt_of_heap k4
      have lp := lt_of_heap kp
      have lq := lt_of_heap kq
      have lr := lt_of_heap kr
      have lx := lt_of_heap kx
      have ly := lt_of_heap ky
      have lz := lt_of_heap kz
      have HCALL := Lib.hid (ex_call Wc [exA g 2 0, exB g2 3 4] true (by simp) (allRd_of (by exact ⟨exA_rd K10 _ _, exB_rd K11 _ _, trivial⟩)) (by simp) (ex1 g g2))
      obtain ⟨m0, m1, m2, m3, m4, m5, m6, m7⟩ := cells8 k1
      obtain ⟨n0, n1, n2, n3, n4, n5, n6, n7⟩ := cells8 k3
      obtain ⟨o0, o1, o2, o3, o4, o5, o6, o7⟩ := cells8 k4
      obtain ⟨p0, p1, p2, p3, p4, p5, p6, p7⟩ := cells8 kp
      obtain ⟨q0, q1, q2, q3, q4, q5, q6, q7⟩ := cells8 kq
      obtain ⟨r0, r1, r2, r3, r4, r5, r6, r7⟩ := cells8 kr
      obtain ⟨x0, x1, x2, x3, x4, x5, x6, x7⟩ := cells8 kx
      obtain ⟨y0, y1, y2, y3, y4, y5, y6, y7⟩ := cells8 ky
      obtain ⟨z0, z1, z2, z3, z4, z5, z6, z7⟩ := cells8 kz
      clear hbk k1 k3 k4 kp kq kr kx ky kz k10 k11
      go_wp2_with fail
      refine HCALL.out.mono ?_
      rintro e w1 ⟨rfl, hbn, hsn⟩
      have hbk := HBK.out.trans (hbn.mono HBK.out.size)
      clear m0 m1 m2 m3 m4 m5 m6 m7 n0 n1 n2 n3 n4 n5 n6 n7 o0 o1 o2 o3 o4 o5 o6 o7 p0 p1 p2 p3 p4 p5 p6 p7 q0 q1 q2 q3 q4 q5 q6 q7 r0 r1 r2 r3 r4 r5 r6 r7 x0 x1 x2 x3 x4 x5 x6 x7 y0 y1 y2 y3 y4 y5 y6 y7 z0 z1 z2 z3 z4 z5 z6 z7 l1 l3 l4 lp lq lr lx ly lz hbn hsn HCALL HBK K10 K11
      have HBK := Lib.hid hbk
      obtain ⟨k1, k3, k4, kp, kq, kr, kx, ky, kz, k10, k11⟩ := HALL.out w1 hbk
      have K10 := k10
      have K11 := k11
      have l1 := lt_of_heap k1
      have l3 := lt_of_heap k3
      have l4 := lt_of_heap k4
      have lp := lt_of_heap kp
      have lq := lt_of_heap kq
      have lr := lt_of_heap kr
      have lx := lt_of_heap kx
      have ly := lt_of_heap ky
      have lz := lt_of_heap kz
      have HCALL := Lib.hid (ex_call w1 [exA g 2 0, exN 3 4] false (by simp) (allRd_of (by exact ⟨exA_rd K10 _ _, exN_rd _ _ _, trivial⟩)) (by simp) (ex2 g))
      obtain ⟨m0, m1, m2, m3, m4, m5, m6, m7⟩ := cells8 k1
      obtain ⟨n0, n1, n2, n3, n4, n5, n6, n7⟩ := cells8 k3
      obtain ⟨o0, o1, o2, o3, o4, o5, o6, o7⟩ := cells8 k4
      obtain ⟨p0, p1, p2, p3, p4, p5, p6, p7⟩ := cells8 kp
      obtain ⟨q0, q1, q2, q3, q4, q5, q6, q7⟩ := cells8 kq
      obtain ⟨r0, r1, r2, r3, r4, r5, r6, r7⟩ := cells8 kr
      obtain ⟨x0, x1, x2, x3, x4, x5, x6, x7⟩ := cells8 kx
      obtain ⟨y0, y1, y2, y3, y4, y5, y6, y7⟩ := cells8 ky
      obtain ⟨z0, z1, z2, z3, z4, z5, z6, z7⟩ := cells8 kz
      clear hbk k1 k3 k4 kp kq kr kx ky kz k10 k11
      go_wp2_with fail
      refine HCALL.out.mono ?_
      rintro e w2 ⟨rfl, hbn, hsn⟩
      have hbk := HBK.out.trans (hbn.mono HBK.out.size)
      clear m0 m1 m2 m3 m4 m5 m6 m7 n0 n1 n2 n3 n4 n5 n6 n7 o0 o1 o2 o3 o4 o5 o6 o7 p0 p1 p2 p3 p4 p5 p6 p7 q0 q1 q2 q3 q4 q5 q6 q7 r0 r1 r2 r3 r4 r5 r6 r7 x0 x1 x2 x3 x4 x5 x6 x7 y0 y1 y2 y3 y4 y5 y6 y7 z0 z1 z2 z3 z4 z5 z6 z7 l1 l3 l4 lp lq lr lx ly lz hbn hsn HCALL HBK K10 K11
      have HBK := Lib.hid hbk
      obtain ⟨k1, k3, k4, kp, kq, kr, kx, ky, kz, k10, k11⟩ := HALL.out w2 hbk
      have K10 := k10
      have K11 := k11
      have l1 := lt_of_heap k1
      have l3 := lt_of_heap k3
      have l4 := lt_of_heap k4
      have lp := lt_of_heap kp
      have lq := lt_of_heap kq
      have lr := lt_of_heap kr
      have lx := lt_of_heap kx
      have ly := lt_of_heap ky
      have lz := lt_of_heap kz
      have HCALL := Lib.hid (ex_call w2 [exA g 4 0, exN 2 3] true (by simp) (allRd_of (by exact ⟨exA_rd K10 _ _, exN_rd _ _ _, trivial⟩)) (by simp) (ex3 g))
      obtain ⟨m0, m1, m2, m3, m4, m5, m6, m7⟩ := cells8 k1
      obtain ⟨n0, n1, n2, n3, n4, n5, n6, n7⟩ := cells8 k3
      obtain ⟨o0, o1, o2, o3, o4, o5, o6, o7⟩ := cells8 k4
      obtain ⟨p0, p1, p2, p3, p4, p5, p6, p7⟩ := cells8 kp
      obtain ⟨q0, q1, q2, q3, q4, q5, q6, q7⟩ := cells8 kq
      obtain ⟨r0, r1, r2, r3, r4, r5, r6, r7⟩ := cells8 kr
      obtain ⟨x0, x1, x2, x3, x4, x5, x6, x7⟩ := cells8 kx
      obtain ⟨y0, y1, y2, y3, y4, y5, y6, y7⟩ := cells8 ky
      obtain ⟨z0, z1, z2, z3, z4, z5, z6, z7⟩ := cells8 kz
      clear hbk k1 k3 k4 kp kq kr kx ky kz k10 k11
      go_wp2_with fail
      refine HCALL.out.mono ?_
      rintro e w3 ⟨rfl, hbn, hsn⟩
      have hbk := HBK.out.trans (hbn.mono HBK.out.size)
      clear m0 m1 m2 m3 m4 m5 m6 m7 n0 n1 n2 n3 n4 n5 n6 n7 o0 o1 o2 o3 o4 o5 o6 o7 p0 p1 p2 p3 p4 p5 p6 p7 q0 q1 q2 q3 q4 q5 q6 q7 r0 r1 r2 r3 r4 r5 r6 r7 x0 x1 x2 x3 x4 x5 x6 x7 y0 y1 y2 y3 y4 y5 y6 y7 z0 z1 z2 z3 z4 z5 z6 z7 l1 l3 l4 lp lq lr lx ly lz hbn hsn HCALL HBK K10 K11
      have HBK := Lib.hid hbk
      obtain ⟨k1, k3, k4, kp, kq, kr, kx, ky, kz, k10, k11⟩ := HALL.out w3 hbk
      have K10 := k10
      have K11 := k11
      have l1 := lt_of_heap k1
      have l3 := lt_of_heap k3
      have l4 := lt_of_heap k4
      have lp := lt_of_heap kp
      have lq := lt_of_heap kq
      have lr := lt_of_heap kr
      have lx := lt_of_heap kx
      have ly := lt_of_heap ky
      have lz := lt_of_heap kz
      have HCALL := Lib.hid (ex_call w3 [exA g (-1) 0, exB g2 2 3, exN 4 5] false (by simp) (allRd_of (by exact ⟨exA_rd K10 _ _, exB_rd K11 _ _, exN_rd _ _ _, trivial⟩)) (by simp) (ex4 g g2))
      obtain ⟨m0, m1, m2, m3, m4, m5, m6, m7⟩ := cells8 k1
      obtain ⟨n0, n1, n2, n3, n4, n5, n6, n7⟩ := cells8 k3
      obtain ⟨o0, o1, o2, o3, o4, o5, o6, o7⟩ := cells8 k4
      obtain ⟨p0, p1, p2, p3, p4, p5, p6, p7⟩ := cells8 kp
      obtain ⟨q0, q1, q2, q3, q4, q5, q6, q7⟩ := cells8 kq
      obtain ⟨r0, r1, r2, r3, r4, r5, r6, r7⟩ := cells8 kr
      obtain ⟨x0, x1, x2, x3, x4, x5, x6, x7⟩ := cells8 kx
      obtain ⟨y0, y1, y2, y3, y4, y5, y6, y7⟩ := cells8 ky
      obtain ⟨z0, z1, z2, z3, z4, z5, z6, z7⟩ := cells8 kz
      clear hbk k1 k3 k4 kp kq kr kx ky kz k10 k11
      go_wp2_with fail
      refine HCALL.out.mono ?_
      rintro e w4 ⟨rfl, hbn, hsn⟩
      have hbk := HBK.out.trans (hbn.mono HBK.out.size)
      clear m0 m1 m2 m3 m4 m5 m6 m7 n0 n1 n2 n3 n4 n5 n6 n7 o0 o1 o2 o3 o4 o5 o6 o7 p0 p1 p2 p3 p4 p5 p6 p7 q0 q1 q2 q3 q4 q5 q6 q7 r0 r1 r2 r3 r4 r5 r6 r7 x0 x1 x2 x3 x4 x5 x6 x7 y0 y1 y2 y3 y4 y5 y6 y7 z0 z1 z2 z3 z4 z5 z6 z7 l1 l3 l4 lp lq lr lx ly lz hbn hsn HCALL HBK K10 K11
      have HBK := Lib.hid hbk
      obtain ⟨k1, k3, k4, kp, kq, kr, kx, ky, kz, k10, k11⟩ := HALL.out w4 hbk
      have K10 := k10
      have K11 := k11
      have l1 := lt_of_heap k1
      have l3 := lt_of_heap k3
      have l4 := lt_of_heap k4
      have lp := lt_of_heap kp
      have lq := lt_of_heap kq
      have lr := lt_of_heap kr
      have lx := lt_of_heap kx
      have ly := lt_of_heap ky
      have lz := lt_of_heap kz
      have HCALL := Lib.hid (ex_call w4 [exA g 2 181, exN 3 4] true (by simp) (allRd_of (by exact ⟨exA_rd K10 _ _, exN_rd _ _ _, trivial⟩)) (by simp) (ex5 g))
      obtain ⟨m0, m1, m2, m3, m4, m5, m6, m7⟩ := cells8 k1
      obtain ⟨n0, n1, n2, n3, n4, n5, n6, n7⟩ := cells8 k3
      obtain ⟨o0, o1, o2, o3, o4, o5, o6, o7⟩ := cells8 k4
      obtain ⟨p0, p1, p2, p3, p4, p5, p6, p7⟩ := cells8 kp
      obtain ⟨q0, q1, q2, q3, q4, q5, q6, q7⟩ := cells8 kq
      obtain ⟨r0, r1, r2, r3, r4, r5, r6, r7⟩ := cells8 kr
      obtain ⟨x0, x1, x2, x3, x4, x5, x6, x7⟩ := cells8 kx
      obtain ⟨y0, y1, y2, y3, y4, y5, y6, y7⟩ := cells8 ky
      obtain ⟨z0, z1, z2, z3, z4, z5, z6, z7⟩ := cells8 kz
      clear hbk k1 k3 k4 kp kq kr kx ky kz k10 k11
      go_wp2_with fail
      refine HCALL.out.mono ?_
      rintro e w5 ⟨rfl, hbn, hsn⟩
      have hbk := HBK.out.trans (hbn.mono HBK.out.size)
      clear m0 m1 m2 m3 m4 m5 m6 m7 n0 n1 n2 n3 n4 n5 n6 n7 o0 o1 o2 o3 o4 o5 o6 o7 p0 p1 p2 p3 p4 p5 p6 p7 q0 q1 q2 q3 q4 q5 q6 q7 r0 r1 r2 r3 r4 r5 r6 r7 x0 x1 x2 x3 x4 x5 x6 x7 y0 y1 y2 y3 y4 y5 y6 y7 z0 z1 z2 z3 z4 z5 z6 z7 l1 l3 l4 lp lq lr lx ly lz hbn hsn HCALL HBK K10 K11
      go_wp2
      go_ret
      exact ⟨rfl, HBW.out.trans (hbk.mono HBW.out.size)⟩
end Go.Proofs.Ytggecoekoilahaa
