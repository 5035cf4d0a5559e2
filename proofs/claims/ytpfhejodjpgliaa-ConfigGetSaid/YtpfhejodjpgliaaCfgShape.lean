/-
  config.shape: what a code amounts to, as far as its kind goes.
-/
import Derived.Test.YtpfhejodjpgliaaCfgSh1
import Derived.Test.YtpfhejodjpgliaaCfgSh2
import Derived.Test.YtpfhejodjpgliaaCfgSh3
import Derived.Test.YtpfhejodjpgliaaCfgSh4
import Derived.Test.YtpfhejodjpgliaaCfgSh5
import Derived.Test.YtpfhejodjpgliaaMapLit
import Derived.Test.YtpfhejodjpgliaaPut
namespace Go.Proofs.Ytpfhejodjpgliaa
open Go.RowKit
set_option linter.unusedSimpArgs false
set_option linter.unusedVariables false
attribute [local go_sem] run_makeMap

theorem heap_mid (w : World) (a b c : Obj) : (((w.alloc a).alloc b).alloc c).heap[w.heap.size + 1]? = some b := by
  show (((w.heap.push a).push b).push c)[w.heap.size + 1]? = _
  rw [Array.getElem?_push, if_neg (by simp), Array.getElem?_push, if_pos (by simp)]

theorem bcell {W w1 : World} (hb : Below W.heap.size W w1) : (∀ b o, b < W.heap.size → w1.cell? ⟨b, o, none⟩ = W.cell? ⟨b, o, none⟩) ∧ (∀ b o, b < W.heap.size → w1.frozen? ⟨b, o, none⟩ = W.frozen? ⟨b, o, none⟩) :=
  ⟨fun b o h => hb.cell (p := ⟨b, o, none⟩) h, fun b o h => hb.frozen (p := ⟨b, o, none⟩) h⟩

theorem zero_func (w : World) : (zeroValue 48).run Try.prog w = .ok .nilFunc w := by kernel_rfl


set_option maxHeartbeats 2000000 in
theorem shape_1 (n k d r t q : Int) (w : World) (hn : 1 ≤ n ∧ n ≤ 255) (hk : 1 ≤ k ∧ k ≤ 255) (hd : 0 ≤ d ∧ d ≤ 255) (hr : 0 ≤ r ∧ r ≤ 255) (ht : 0 ≤ t ∧ t ≤ 255) :
    Calls Try.prog 16 #[.agg #[.int .u8 1, .int .i64 n, .int .i64 k, .int .i64 d, .int .i64 r, .int .i64 t, .int .i64 q]] w fun e w' => e = .returned (shapeF 1 n k d r t).v ∧ Below w.heap.size w w' := by
  have hins := fun (w : World) (es : Array MapEntry) (c : Nat) (q : Int) (v : Value) (b : Nat) hb hnew => run_lit_insert (P := Try.prog) Try.underlying50 Try.underlying5 w es c q v b hb hnew
  have hlk := fun (w : World) (es : Array MapEntry) (c : Nat) (q : Int) (b : Nat) hb hf => run_lit_look (P := Try.prog) Try.underlying50 Try.underlying5 w es c q b .nilFunc zero_func hb hf
  have HI := Lib.hid hins
  have HL := Lib.hid hlk
  clear hins hlk
  have hlt : decide (k < 1) = false := decide_eq_false (by omega)
  have hfin : shapeF 1 n k d r t = if okReed n k d r then shReed k t else Sh.zero := by unfold shapeF; rw [if_neg (by omega)]; simp
  have HF := Lib.hid hfin
  clear hfin
  cases hok : okReed n k d r
  all_goals
    go_enter Try.func16, Try.ntmps16
    go_wp2_with (first | (rw [HI.out _ _ _ _ _ _ (by simp; done) (by simp [Instr.findNow, Instr.sameNow]; done)]) | (rw [HL.out _ _ _ _ _ (by simp; done) (by simp [Instr.findNow, Instr.sameNow]; done)]; simp only [Instr.findNow, Instr.sameNow, lookRes, List.push_toArray, List.nil_append, List.cons_append]))
    refine (reed_any _ n k d r t _ (by simp; omega) (by simp [go_sem]) (by simp [go_sem]) (by simp [go_sem]) (by simp [go_sem]) (by simp [go_sem]) hn hk hd hr ht).mono ?_
    rintro e w1 ⟨rfl, hb1⟩
    have hB1 := (hb1.block (w.heap.size + 1) (by simp)).trans (heap_mid w _ _ _)
    have hz1 := hb1.size
    have hb0 : Below w.heap.size w w1 := ((((Below.refl _ w).alloc (Nat.le_refl _) _).alloc (by simp) _).alloc (by simp; omega) _).trans (hb1.mono (by simp; omega))
    clear hb1
    obtain ⟨w2, rfl, hz2, hp⟩ := put_of hB1
    have hb2 := hp (fun W => Below w.heap.size w W) hb0
    clear hB1 hz1 hb0 hp
    simp only [hok, Sh.v]
    go_wp2
    refine bodyPost_ret (by simp [results, Try.results16, go_sem, hz2]; rfl) rfl ?_
    refine ⟨by rw [HF.out, hok]; rfl, ?_⟩
    repeat' (first | (with_reducible assumption) | (with_reducible refine Below.alloc ?_ ?_ _) | (with_reducible refine bel_putBlk ?_ ?_ _) | (simp [size_putBlk]; done) | (have := hb2.size; simp [size_putBlk]; omega))
set_option maxHeartbeats 2000000 in
theorem shape_2 (n k d r t q : Int) (w : World) (hn : 1 ≤ n ∧ n ≤ 255) (hk : 1 ≤ k ∧ k ≤ 255) (hd : 0 ≤ d ∧ d ≤ 255) (hr : 0 ≤ r ∧ r ≤ 255) (ht : 0 ≤ t ∧ t ≤ 255) :
    Calls Try.prog 16 #[.agg #[.int .u8 2, .int .i64 n, .int .i64 k, .int .i64 d, .int .i64 r, .int .i64 t, .int .i64 q]] w fun e w' => e = .returned (shapeF 2 n k d r t).v ∧ Below w.heap.size w w' := by
  have hins := fun (w : World) (es : Array MapEntry) (c : Nat) (q : Int) (v : Value) (b : Nat) hb hnew => run_lit_insert (P := Try.prog) Try.underlying50 Try.underlying5 w es c q v b hb hnew
  have hlk := fun (w : World) (es : Array MapEntry) (c : Nat) (q : Int) (b : Nat) hb hf => run_lit_look (P := Try.prog) Try.underlying50 Try.underlying5 w es c q b .nilFunc zero_func hb hf
  have HI := Lib.hid hins
  have HL := Lib.hid hlk
  clear hins hlk
  have hlt : decide (k < 1) = false := decide_eq_false (by omega)
  have hfin : shapeF 2 n k d r t = if okMsr n k d r then shMsr k d t else Sh.zero := by unfold shapeF; rw [if_neg (by omega)]; simp
  have HF := Lib.hid hfin
  clear hfin
  cases hok : okMsr n k d r
  all_goals
    go_enter Try.func16, Try.ntmps16
    go_wp2_with (first | (rw [HI.out _ _ _ _ _ _ (by simp; done) (by simp [Instr.findNow, Instr.sameNow]; done)]) | (rw [HL.out _ _ _ _ _ (by simp; done) (by simp [Instr.findNow, Instr.sameNow]; done)]; simp only [Instr.findNow, Instr.sameNow, lookRes, List.push_toArray, List.nil_append, List.cons_append]))
    refine (msr_any _ n k d r t _ (by simp; omega) (by simp [go_sem]) (by simp [go_sem]) (by simp [go_sem]) (by simp [go_sem]) (by simp [go_sem]) hn hk hd hr ht).mono ?_
    rintro e w1 ⟨rfl, hb1⟩
    have hB1 := (hb1.block (w.heap.size + 1) (by simp)).trans (heap_mid w _ _ _)
    have hz1 := hb1.size
    have hb0 : Below w.heap.size w w1 := ((((Below.refl _ w).alloc (Nat.le_refl _) _).alloc (by simp) _).alloc (by simp; omega) _).trans (hb1.mono (by simp; omega))
    clear hb1
    obtain ⟨w2, rfl, hz2, hp⟩ := put_of hB1
    have hb2 := hp (fun W => Below w.heap.size w W) hb0
    clear hB1 hz1 hb0 hp
    simp only [hok, Sh.v]
    go_wp2
    refine bodyPost_ret (by simp [results, Try.results16, go_sem, hz2]; rfl) rfl ?_
    refine ⟨by rw [HF.out, hok]; rfl, ?_⟩
    repeat' (first | (with_reducible assumption) | (with_reducible refine Below.alloc ?_ ?_ _) | (with_reducible refine bel_putBlk ?_ ?_ _) | (simp [size_putBlk]; done) | (have := hb2.size; simp [size_putBlk]; omega))
set_option maxHeartbeats 2000000 in
theorem shape_3 (n k d r t q : Int) (w : World) (hn : 1 ≤ n ∧ n ≤ 255) (hk : 1 ≤ k ∧ k ≤ 255) (hd : 0 ≤ d ∧ d ≤ 255) (hr : 0 ≤ r ∧ r ≤ 255) (ht : 0 ≤ t ∧ t ≤ 255) :
    Calls Try.prog 16 #[.agg #[.int .u8 3, .int .i64 n, .int .i64 k, .int .i64 d, .int .i64 r, .int .i64 t, .int .i64 q]] w fun e w' => e = .returned (shapeF 3 n k d r t).v ∧ Below w.heap.size w w' := by
  have hins := fun (w : World) (es : Array MapEntry) (c : Nat) (q : Int) (v : Value) (b : Nat) hb hnew => run_lit_insert (P := Try.prog) Try.underlying50 Try.underlying5 w es c q v b hb hnew
  have hlk := fun (w : World) (es : Array MapEntry) (c : Nat) (q : Int) (b : Nat) hb hf => run_lit_look (P := Try.prog) Try.underlying50 Try.underlying5 w es c q b .nilFunc zero_func hb hf
  have HI := Lib.hid hins
  have HL := Lib.hid hlk
  clear hins hlk
  have hlt : decide (k < 1) = false := decide_eq_false (by omega)
  have hfin : shapeF 3 n k d r t = if okMbr n k d r then shMbr k d t else Sh.zero := by unfold shapeF; rw [if_neg (by omega)]; simp
  have HF := Lib.hid hfin
  clear hfin
  cases hok : okMbr n k d r
  all_goals
    go_enter Try.func16, Try.ntmps16
    go_wp2_with (first | (rw [HI.out _ _ _ _ _ _ (by simp; done) (by simp [Instr.findNow, Instr.sameNow]; done)]) | (rw [HL.out _ _ _ _ _ (by simp; done) (by simp [Instr.findNow, Instr.sameNow]; done)]; simp only [Instr.findNow, Instr.sameNow, lookRes, List.push_toArray, List.nil_append, List.cons_append]))
    refine (mbr_any _ n k d r t _ (by simp; omega) (by simp [go_sem]) (by simp [go_sem]) (by simp [go_sem]) (by simp [go_sem]) (by simp [go_sem]) hn hk hd hr ht).mono ?_
    rintro e w1 ⟨rfl, hb1⟩
    have hB1 := (hb1.block (w.heap.size + 1) (by simp)).trans (heap_mid w _ _ _)
    have hz1 := hb1.size
    have hb0 : Below w.heap.size w w1 := ((((Below.refl _ w).alloc (Nat.le_refl _) _).alloc (by simp) _).alloc (by simp; omega) _).trans (hb1.mono (by simp; omega))
    clear hb1
    obtain ⟨w2, rfl, hz2, hp⟩ := put_of hB1
    have hb2 := hp (fun W => Below w.heap.size w W) hb0
    clear hB1 hz1 hb0 hp
    simp only [hok, Sh.v]
    go_wp2
    refine bodyPost_ret (by simp [results, Try.results16, go_sem, hz2]; rfl) rfl ?_
    refine ⟨by rw [HF.out, hok]; rfl, ?_⟩
    repeat' (first | (with_reducible assumption) | (with_reducible refine Below.alloc ?_ ?_ _) | (with_reducible refine bel_putBlk ?_ ?_ _) | (simp [size_putBlk]; done) | (have := hb2.size; simp [size_putBlk]; omega))
set_option maxHeartbeats 2000000 in
theorem shape_4 (n k d r t q : Int) (w : World) (hn : 1 ≤ n ∧ n ≤ 255) (hk : 1 ≤ k ∧ k ≤ 255) (hd : 0 ≤ d ∧ d ≤ 255) (hr : 0 ≤ r ∧ r ≤ 255) (ht : 0 ≤ t ∧ t ≤ 255) :
    Calls Try.prog 16 #[.agg #[.int .u8 4, .int .i64 n, .int .i64 k, .int .i64 d, .int .i64 r, .int .i64 t, .int .i64 q]] w fun e w' => e = .returned (shapeF 4 n k d r t).v ∧ Below w.heap.size w w' := by
  have hins := fun (w : World) (es : Array MapEntry) (c : Nat) (q : Int) (v : Value) (b : Nat) hb hnew => run_lit_insert (P := Try.prog) Try.underlying50 Try.underlying5 w es c q v b hb hnew
  have hlk := fun (w : World) (es : Array MapEntry) (c : Nat) (q : Int) (b : Nat) hb hf => run_lit_look (P := Try.prog) Try.underlying50 Try.underlying5 w es c q b .nilFunc zero_func hb hf
  have HI := Lib.hid hins
  have HL := Lib.hid hlk
  clear hins hlk
  have hlt : decide (k < 1) = false := decide_eq_false (by omega)
  have hfin : shapeF 4 n k d r t = if okTr n k d r t then shTr n k else Sh.zero := by unfold shapeF; rw [if_neg (by omega)]; simp
  have HF := Lib.hid hfin
  clear hfin
  cases hok : okTr n k d r t
  all_goals
    go_enter Try.func16, Try.ntmps16
    go_wp2_with (first | (rw [HI.out _ _ _ _ _ _ (by simp; done) (by simp [Instr.findNow, Instr.sameNow]; done)]) | (rw [HL.out _ _ _ _ _ (by simp; done) (by simp [Instr.findNow, Instr.sameNow]; done)]; simp only [Instr.findNow, Instr.sameNow, lookRes, List.push_toArray, List.nil_append, List.cons_append]))
    refine (tr_any _ n k d r t _ (by simp; omega) (by simp [go_sem]) (by simp [go_sem]) (by simp [go_sem]) (by simp [go_sem]) (by simp [go_sem]) hn hk hd hr ht).mono ?_
    rintro e w1 ⟨rfl, hb1⟩
    have hB1 := (hb1.block (w.heap.size + 1) (by simp)).trans (heap_mid w _ _ _)
    have hz1 := hb1.size
    have hb0 : Below w.heap.size w w1 := ((((Below.refl _ w).alloc (Nat.le_refl _) _).alloc (by simp) _).alloc (by simp; omega) _).trans (hb1.mono (by simp; omega))
    clear hb1
    obtain ⟨w2, rfl, hz2, hp⟩ := put_of hB1
    have hb2 := hp (fun W => Below w.heap.size w W) hb0
    clear hB1 hz1 hb0 hp
    simp only [hok, Sh.v]
    go_wp2
    refine bodyPost_ret (by simp [results, Try.results16, go_sem, hz2]; rfl) rfl ?_
    refine ⟨by rw [HF.out, hok]; rfl, ?_⟩
    repeat' (first | (with_reducible assumption) | (with_reducible refine Below.alloc ?_ ?_ _) | (with_reducible refine bel_putBlk ?_ ?_ _) | (simp [size_putBlk]; done) | (have := hb2.size; simp [size_putBlk]; omega))
set_option maxHeartbeats 2000000 in
theorem shape_5 (n k d r t q : Int) (w : World) (hn : 1 ≤ n ∧ n ≤ 255) (hk : 1 ≤ k ∧ k ≤ 255) (hd : 0 ≤ d ∧ d ≤ 255) (hr : 0 ≤ r ∧ r ≤ 255) (ht : 0 ≤ t ∧ t ≤ 255) :
    Calls Try.prog 16 #[.agg #[.int .u8 5, .int .i64 n, .int .i64 k, .int .i64 d, .int .i64 r, .int .i64 t, .int .i64 q]] w fun e w' => e = .returned (shapeF 5 n k d r t).v ∧ Below w.heap.size w w' := by
  have hins := fun (w : World) (es : Array MapEntry) (c : Nat) (q : Int) (v : Value) (b : Nat) hb hnew => run_lit_insert (P := Try.prog) Try.underlying50 Try.underlying5 w es c q v b hb hnew
  have hlk := fun (w : World) (es : Array MapEntry) (c : Nat) (q : Int) (b : Nat) hb hf => run_lit_look (P := Try.prog) Try.underlying50 Try.underlying5 w es c q b .nilFunc zero_func hb hf
  have HI := Lib.hid hins
  have HL := Lib.hid hlk
  clear hins hlk
  have hlt : decide (k < 1) = false := decide_eq_false (by omega)
  have hfin : shapeF 5 n k d r t = if okLoc n k d r then locSh n k d r t else Sh.zero := by unfold shapeF; rw [if_neg (by omega)]; (by_cases h : okLoc n k d r <;> simp [h]; unfold okLoc at h; simp only [Bool.and_eq_true] at h; simp [locSh, h.1])
  have HF := Lib.hid hfin
  clear hfin
  cases hok : okLoc n k d r
  all_goals
    go_enter Try.func16, Try.ntmps16
    go_wp2_with (first | (rw [HI.out _ _ _ _ _ _ (by simp; done) (by simp [Instr.findNow, Instr.sameNow]; done)]) | (rw [HL.out _ _ _ _ _ (by simp; done) (by simp [Instr.findNow, Instr.sameNow]; done)]; simp only [Instr.findNow, Instr.sameNow, lookRes, List.push_toArray, List.nil_append, List.cons_append]))
    refine (loc_any _ n k d r t _ (by simp; omega) (by simp [go_sem]) (by simp [go_sem]) (by simp [go_sem]) (by simp [go_sem]) (by simp [go_sem]) hn hk hd hr ht).mono ?_
    rintro e w1 ⟨rfl, hb1⟩
    have hB1 := (hb1.block (w.heap.size + 1) (by simp)).trans (heap_mid w _ _ _)
    have hz1 := hb1.size
    have hb0 : Below w.heap.size w w1 := ((((Below.refl _ w).alloc (Nat.le_refl _) _).alloc (by simp) _).alloc (by simp; omega) _).trans (hb1.mono (by simp; omega))
    clear hb1
    obtain ⟨w2, rfl, hz2, hp⟩ := put_of hB1
    have hb2 := hp (fun W => Below w.heap.size w W) hb0
    clear hB1 hz1 hb0 hp
    simp only [hok, Sh.v]
    go_wp2
    refine bodyPost_ret (by simp [results, Try.results16, go_sem, hz2]; rfl) rfl ?_
    refine ⟨by rw [HF.out, hok]; rfl, ?_⟩
    repeat' (first | (with_reducible assumption) | (with_reducible refine Below.alloc ?_ ?_ _) | (with_reducible refine bel_putBlk ?_ ?_ _) | (simp [size_putBlk]; done) | (have := hb2.size; simp [size_putBlk]; omega))
end Go.Proofs.Ytpfhejodjpgliaa
