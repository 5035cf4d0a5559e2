/-
  config.shape for every code whose numbers are bytes.
-/
import Derived.Test.YtpfhejodjpgliaaCfgShape
namespace Go.Proofs.Ytpfhejodjpgliaa
open Go.RowKit
set_option linter.unusedSimpArgs false
set_option linter.unusedVariables false
attribute [local go_sem] run_makeMap
set_option maxHeartbeats 2000000 in
theorem shape_low_1 (n k d r t q : Int) (w : World) (hk : k < 1) :
    Calls Try.prog 16 #[.agg #[.int .u8 1, .int .i64 n, .int .i64 k, .int .i64 d, .int .i64 r, .int .i64 t, .int .i64 q]] w fun e w' => e = .returned (.agg #[.int .i64 0, .int .i64 0, .int .i64 0, .int .i64 0, .int .i64 0]) ∧ Below w.heap.size w w' := by
  have hins := fun (w : World) (es : Array MapEntry) (c : Nat) (q : Int) (v : Value) (b : Nat) hb hnew => run_lit_insert (P := Try.prog) Try.underlying50 Try.underlying5 w es c q v b hb hnew
  have hlk := fun (w : World) (es : Array MapEntry) (c : Nat) (q : Int) (b : Nat) hb hf => run_lit_look (P := Try.prog) Try.underlying50 Try.underlying5 w es c q b .nilFunc zero_func hb hf
  have HI := Lib.hid hins
  have HL := Lib.hid hlk
  clear hins hlk
  go_enter Try.func16, Try.ntmps16
  go_wp2_with (first | (rw [HI.out _ _ _ _ _ _ (by simp; done) (by simp [Instr.findNow, Instr.sameNow]; done)]) | (rw [HL.out _ _ _ _ _ (by simp; done) (by simp [Instr.findNow, Instr.sameNow, *]; done)]; simp only [Instr.findNow, Instr.sameNow, lookRes, List.push_toArray, List.nil_append, List.cons_append]))
  refine bodyPost_ret (by simp [results, Try.results16, go_sem]; rfl) rfl ?_
  exact ⟨rfl, by go_grown⟩
set_option maxHeartbeats 2000000 in
theorem shape_low_2 (n k d r t q : Int) (w : World) (hk : k < 1) :
    Calls Try.prog 16 #[.agg #[.int .u8 2, .int .i64 n, .int .i64 k, .int .i64 d, .int .i64 r, .int .i64 t, .int .i64 q]] w fun e w' => e = .returned (.agg #[.int .i64 0, .int .i64 0, .int .i64 0, .int .i64 0, .int .i64 0]) ∧ Below w.heap.size w w' := by
  have hins := fun (w : World) (es : Array MapEntry) (c : Nat) (q : Int) (v : Value) (b : Nat) hb hnew => run_lit_insert (P := Try.prog) Try.underlying50 Try.underlying5 w es c q v b hb hnew
  have hlk := fun (w : World) (es : Array MapEntry) (c : Nat) (q : Int) (b : Nat) hb hf => run_lit_look (P := Try.prog) Try.underlying50 Try.underlying5 w es c q b .nilFunc zero_func hb hf
  have HI := Lib.hid hins
  have HL := Lib.hid hlk
  clear hins hlk
  go_enter Try.func16, Try.ntmps16
  go_wp2_with (first | (rw [HI.out _ _ _ _ _ _ (by simp; done) (by simp [Instr.findNow, Instr.sameNow]; done)]) | (rw [HL.out _ _ _ _ _ (by simp; done) (by simp [Instr.findNow, Instr.sameNow, *]; done)]; simp only [Instr.findNow, Instr.sameNow, lookRes, List.push_toArray, List.nil_append, List.cons_append]))
  refine bodyPost_ret (by simp [results, Try.results16, go_sem]; rfl) rfl ?_
  exact ⟨rfl, by go_grown⟩
set_option maxHeartbeats 2000000 in
theorem shape_low_3 (n k d r t q : Int) (w : World) (hk : k < 1) :
    Calls Try.prog 16 #[.agg #[.int .u8 3, .int .i64 n, .int .i64 k, .int .i64 d, .int .i64 r, .int .i64 t, .int .i64 q]] w fun e w' => e = .returned (.agg #[.int .i64 0, .int .i64 0, .int .i64 0, .int .i64 0, .int .i64 0]) ∧ Below w.heap.size w w' := by
  have hins := fun (w : World) (es : Array MapEntry) (c : Nat) (q : Int) (v : Value) (b : Nat) hb hnew => run_lit_insert (P := Try.prog) Try.underlying50 Try.underlying5 w es c q v b hb hnew
  have hlk := fun (w : World) (es : Array MapEntry) (c : Nat) (q : Int) (b : Nat) hb hf => run_lit_look (P := Try.prog) Try.underlying50 Try.underlying5 w es c q b .nilFunc zero_func hb hf
  have HI := Lib.hid hins
  have HL := Lib.hid hlk
  clear hins hlk
  go_enter Try.func16, Try.ntmps16
  go_wp2_with (first | (rw [HI.out _ _ _ _ _ _ (by simp; done) (by simp [Instr.findNow, Instr.sameNow]; done)]) | (rw [HL.out _ _ _ _ _ (by simp; done) (by simp [Instr.findNow, Instr.sameNow, *]; done)]; simp only [Instr.findNow, Instr.sameNow, lookRes, List.push_toArray, List.nil_append, List.cons_append]))
  refine bodyPost_ret (by simp [results, Try.results16, go_sem]; rfl) rfl ?_
  exact ⟨rfl, by go_grown⟩
set_option maxHeartbeats 2000000 in
theorem shape_low_4 (n k d r t q : Int) (w : World) (hk : k < 1) :
    Calls Try.prog 16 #[.agg #[.int .u8 4, .int .i64 n, .int .i64 k, .int .i64 d, .int .i64 r, .int .i64 t, .int .i64 q]] w fun e w' => e = .returned (.agg #[.int .i64 0, .int .i64 0, .int .i64 0, .int .i64 0, .int .i64 0]) ∧ Below w.heap.size w w' := by
  have hins := fun (w : World) (es : Array MapEntry) (c : Nat) (q : Int) (v : Value) (b : Nat) hb hnew => run_lit_insert (P := Try.prog) Try.underlying50 Try.underlying5 w es c q v b hb hnew
  have hlk := fun (w : World) (es : Array MapEntry) (c : Nat) (q : Int) (b : Nat) hb hf => run_lit_look (P := Try.prog) Try.underlying50 Try.underlying5 w es c q b .nilFunc zero_func hb hf
  have HI := Lib.hid hins
  have HL := Lib.hid hlk
  clear hins hlk
  go_enter Try.func16, Try.ntmps16
  go_wp2_with (first | (rw [HI.out _ _ _ _ _ _ (by simp; done) (by simp [Instr.findNow, Instr.sameNow]; done)]) | (rw [HL.out _ _ _ _ _ (by simp; done) (by simp [Instr.findNow, Instr.sameNow, *]; done)]; simp only [Instr.findNow, Instr.sameNow, lookRes, List.push_toArray, List.nil_append, List.cons_append]))
  refine bodyPost_ret (by simp [results, Try.results16, go_sem]; rfl) rfl ?_
  exact ⟨rfl, by go_grown⟩
set_option maxHeartbeats 2000000 in
theorem shape_low_5 (n k d r t q : Int) (w : World) (hk : k < 1) :
    Calls Try.prog 16 #[.agg #[.int .u8 5, .int .i64 n, .int .i64 k, .int .i64 d, .int .i64 r, .int .i64 t, .int .i64 q]] w fun e w' => e = .returned (.agg #[.int .i64 0, .int .i64 0, .int .i64 0, .int .i64 0, .int .i64 0]) ∧ Below w.heap.size w w' := by
  have hins := fun (w : World) (es : Array MapEntry) (c : Nat) (q : Int) (v : Value) (b : Nat) hb hnew => run_lit_insert (P := Try.prog) Try.underlying50 Try.underlying5 w es c q v b hb hnew
  have hlk := fun (w : World) (es : Array MapEntry) (c : Nat) (q : Int) (b : Nat) hb hf => run_lit_look (P := Try.prog) Try.underlying50 Try.underlying5 w es c q b .nilFunc zero_func hb hf
  have HI := Lib.hid hins
  have HL := Lib.hid hlk
  clear hins hlk
  go_enter Try.func16, Try.ntmps16
  go_wp2_with (first | (rw [HI.out _ _ _ _ _ _ (by simp; done) (by simp [Instr.findNow, Instr.sameNow]; done)]) | (rw [HL.out _ _ _ _ _ (by simp; done) (by simp [Instr.findNow, Instr.sameNow, *]; done)]; simp only [Instr.findNow, Instr.sameNow, lookRes, List.push_toArray, List.nil_append, List.cons_append]))
  refine bodyPost_ret (by simp [results, Try.results16, go_sem]; rfl) rfl ?_
  exact ⟨rfl, by go_grown⟩
set_option maxHeartbeats 2000000 in
theorem shape_other (c n k d r t q : Int) (w : World) (h1 : (c == 1) = false) (h2 : (c == 2) = false) (h3 : (c == 3) = false) (h4 : (c == 4) = false) (h5 : (c == 5) = false) :
    Calls Try.prog 16 #[.agg #[.int .u8 c, .int .i64 n, .int .i64 k, .int .i64 d, .int .i64 r, .int .i64 t, .int .i64 q]] w fun e w' => e = .returned (.agg #[.int .i64 0, .int .i64 0, .int .i64 0, .int .i64 0, .int .i64 0]) ∧ Below w.heap.size w w' := by
  have hins := fun (w : World) (es : Array MapEntry) (c : Nat) (q : Int) (v : Value) (b : Nat) hb hnew => run_lit_insert (P := Try.prog) Try.underlying50 Try.underlying5 w es c q v b hb hnew
  have hlk := fun (w : World) (es : Array MapEntry) (c : Nat) (q : Int) (b : Nat) hb hf => run_lit_look (P := Try.prog) Try.underlying50 Try.underlying5 w es c q b .nilFunc zero_func hb hf
  have HI := Lib.hid hins
  have HL := Lib.hid hlk
  clear hins hlk
  go_enter Try.func16, Try.ntmps16
  go_wp2_with (first | (rw [HI.out _ _ _ _ _ _ (by simp; done) (by simp [Instr.findNow, Instr.sameNow]; done)]) | (rw [HL.out _ _ _ _ _ (by simp; done) (by simp [Instr.findNow, Instr.sameNow, *]; done)]; simp only [Instr.findNow, Instr.sameNow, lookRes, List.push_toArray, List.nil_append, List.cons_append]))
  refine bodyPost_ret (by simp [results, Try.results16, go_sem]; rfl) rfl ?_
  exact ⟨rfl, by go_grown⟩

theorem shape_any (c n k d r t q : Int) (w : World) (hn : 1 ≤ n ∧ n ≤ 255) (hk : 0 ≤ k ∧ k ≤ 255) (hd : 0 ≤ d ∧ d ≤ 255) (hr : 0 ≤ r ∧ r ≤ 255) (ht : 0 ≤ t ∧ t ≤ 255) :
    Calls Try.prog 16 #[.agg #[.int .u8 c, .int .i64 n, .int .i64 k, .int .i64 d, .int .i64 r, .int .i64 t, .int .i64 q]] w fun e w' => e = .returned (shapeF c n k d r t).v ∧ Below w.heap.size w w' := by
  by_cases hc : c = 1 ∨ c = 2 ∨ c = 3 ∨ c = 4 ∨ c = 5
  · by_cases hk1 : k < 1
    · have hz : shapeF c n k d r t = Sh.zero := by unfold shapeF; rw [if_pos hk1]
      rw [hz]
      rcases hc with rfl | rfl | rfl | rfl | rfl
      · exact shape_low_1 n k d r t q w hk1
      · exact shape_low_2 n k d r t q w hk1
      · exact shape_low_3 n k d r t q w hk1
      · exact shape_low_4 n k d r t q w hk1
      · exact shape_low_5 n k d r t q w hk1
    · have hk' : 1 ≤ k ∧ k ≤ 255 := by omega
      rcases hc with rfl | rfl | rfl | rfl | rfl
      · exact shape_1 n k d r t q w hn hk' hd hr ht
      · exact shape_2 n k d r t q w hn hk' hd hr ht
      · exact shape_3 n k d r t q w hn hk' hd hr ht
      · exact shape_4 n k d r t q w hn hk' hd hr ht
      · exact shape_5 n k d r t q w hn hk' hd hr ht
  · have hz : shapeF c n k d r t = Sh.zero := by
      unfold shapeF
      split
      · rfl
      · rw [if_neg (by omega), if_neg (by omega), if_neg (by omega), if_neg (by omega), if_neg (by omega)]
    rw [hz]
    exact shape_other c n k d r t q w (by simp; omega) (by simp; omega) (by simp; omega) (by simp; omega) (by simp; omega)
end Go.Proofs.Ytpfhejodjpgliaa
