/-
  starfishlaw13.ConfigLess, walked.
-/
import Derived.Test.YtpfhejodjpgliaaCfgWorks
import Derived.Test.YtpfhejodjpgliaaCfgLessPlain
import Derived.Test.YtpfhejodjpgliaaPut2
import Derived.Deep.DeepCutAuto
import Derived.BigRegion
namespace Go.Proofs.Ytpfhejodjpgliaa
open Go.RowKit
set_option linter.unusedSimpArgs false
set_option linter.unusedVariables false

set_option maxHeartbeats 4000000 in
theorem less_none (c n k d r t q : Int) (w : World) (h : checkF c n k d r t q = none) :
    Calls Try.prog 4 #[.agg #[.int .u8 c, .int .i64 n, .int .i64 k, .int .i64 d, .int .i64 r, .int .i64 t, .int .i64 q]] w fun e w' => e = .returned (.bool true) ∧ Below w.heap.size w w' := by
  have h2 := fun w => check_any c n k d r t q w
  rw [h] at h2
  have H2 := Lib.hid h2
  clear h2 h
  go_enter Try.func4, Try.ntmps4
  go_wp2_with fail
  refine (H2.out _).mono ?_
  rintro e w1 ⟨rfl, hb1⟩
  have b1 : Below w.heap.size w w1 := ((Below.refl _ w).alloc (Nat.le_refl _) _).trans (hb1.mono (by simp))
  simp only [checkV, Sh.zero, Sh.v]
  clear hb1
  go_wp2_with fail
  refine (works_any _).mono ?_
  rintro e w2 ⟨rfl, hb2⟩
  have b2 := (b1.alloc b1.size _).trans (hb2.mono (by have := b1.size; simp; omega))
  clear hb2 b1
  go_wp2
  go_ret
  exact ⟨rfl, b2⟩

/-- A code's block. -/
def cfgO (c n k d r t q : Int) : Obj := .cells #[.int .u8 c, .int .i64 n, .int .i64 k, .int .i64 d, .int .i64 r, .int .i64 t, .int .i64 q] 23 (0, 0)
def shO (s : Sh) : Obj := .cells #[.int .i64 s.al, .int .i64 s.b, .int .i64 s.te, .int .i64 s.as_, .int .i64 s.to] 25 (0, 0)

/-- Where the copies lie. -/
def Copies (w wx : World) (gs : Nat) (c n k d r t q : Int) (s : Sh) (s5 s6 s7 : Value) (ta qb nd : Int) : Prop :=
  ∃ g5 g6 g7 : Nat, s5 = .pointer (some ⟨g5, 0, none⟩) ∧ s6 = .pointer (some ⟨g6, 0, none⟩) ∧ s7 = .pointer (some ⟨g7, 0, none⟩) ∧
    (w.heap.size ≠ g5 ∧ w.heap.size ≠ g6 ∧ w.heap.size ≠ g7 ∧ gs ≠ g5 ∧ gs ≠ g6 ∧ gs ≠ g7 ∧ g5 ≠ g6 ∧ g5 ≠ g7 ∧ g6 ≠ g7) ∧
    (w.heap.size ≤ g5 ∧ w.heap.size ≤ g6 ∧ w.heap.size ≤ g7) ∧
    wx.heap[w.heap.size]? = some (cfgO c n k d r t q) ∧ wx.heap[gs]? = some (shO s) ∧
    wx.heap[g5]? = some (cfgO c n k d r ta q) ∧ wx.heap[g6]? = some (cfgO c n k d r t qb) ∧ wx.heap[g7]? = some (cfgO c nd k d r t q) ∧ Below w.heap.size w wx

theorem three_new (a : World) (A : Obj) (j : Nat) (h : j = a.heap.size ∨ j = a.heap.size + 1 ∨ j = a.heap.size + 1 + 1) : (((a.alloc A).alloc A).alloc A).drew.heap[j]? = some A := by
  show (((a.heap.push A).push A).push A)[j]? = _
  rcases h with rfl | rfl | rfl
  · rw [Array.getElem?_push, if_neg (by simp; omega), Array.getElem?_push, if_neg (by simp), Array.getElem?_push, if_pos rfl]
  · rw [Array.getElem?_push, if_neg (by simp), Array.getElem?_push, if_pos (by simp)]
  · rw [Array.getElem?_push, if_pos (by simp)]
theorem three_old (a : World) (A o : Obj) (j : Nat) (h : a.heap[j]? = some o) : (((a.alloc A).alloc A).alloc A).drew.heap[j]? = some o := keepA (keepA (keepA h A) A) A

theorem copies_at (w w1 : World) (c n k d r t q : Int) (s : Sh) (hx : w1.heap[w.heap.size]? = some (cfgO c n k d r t q)) (b1 : Below w.heap.size w w1) (j5 j6 j7 : Nat)
    (h5 : j5 = w1.heap.size + 1 ∨ j5 = w1.heap.size + 1 + 1 ∨ j5 = w1.heap.size + 1 + 1 + 1) (h6 : j6 = w1.heap.size + 1 ∨ j6 = w1.heap.size + 1 + 1 ∨ j6 = w1.heap.size + 1 + 1 + 1) (h7 : j7 = w1.heap.size + 1 ∨ j7 = w1.heap.size + 1 + 1 ∨ j7 = w1.heap.size + 1 + 1 + 1)
    (n1 : j5 ≠ j6) (n2 : j5 ≠ j7) (n3 : j6 ≠ j7) :
    Copies w ((((w1.alloc (shO s)).alloc (cfgO c n k d r t q)).alloc (cfgO c n k d r t q)).alloc (cfgO c n k d r t q)).drew w1.heap.size c n k d r t q s (.pointer (some ⟨j5, 0, none⟩)) (.pointer (some ⟨j6, 0, none⟩)) (.pointer (some ⟨j7, 0, none⟩)) t q n := by
  have hlt := lt_of_heap hx
  have hs := b1.size
  refine ⟨j5, j6, j7, rfl, rfl, rfl, ⟨by omega, by omega, by omega, by omega, by omega, by omega, n1, n2, n3⟩, ⟨by omega, by omega, by omega⟩, ?_, ?_, ?_, ?_, ?_, ?_⟩
  · exact three_old _ _ _ _ (keepA hx _)
  · exact three_old _ _ _ _ (heap_new _ _)
  · exact three_new _ _ _ (by simpa using h5)
  · exact three_new _ _ _ (by simpa using h6)
  · exact three_new _ _ _ (by simpa using h7)
  · exact ((((b1.alloc hs _).alloc (by simp; omega) _).alloc (by simp; omega) _).alloc (by simp; omega) _).drew

/-- What is known from one question to the next. -/
def Left (w wx : World) (gs g6 g7 : Nat) (c n k d r t q : Int) (s : Sh) (qb nd : Int) : Prop :=
  wx.heap[w.heap.size]? = some (cfgO c n k d r t q) ∧ wx.heap[gs]? = some (shO s) ∧ wx.heap[g6]? = some (cfgO c n k d r t qb) ∧ wx.heap[g7]? = some (cfgO c nd k d r t q) ∧ Below w.heap.size w wx

set_option maxRecDepth 100000 in
set_option maxHeartbeats 8000000 in
theorem less_some (c n k d r t q : Int) (s : Sh) (w : World) (h : checkF c n k d r t q = some s) :
    Calls Try.prog 4 #[.agg #[.int .u8 c, .int .i64 n, .int .i64 k, .int .i64 d, .int .i64 r, .int .i64 t, .int .i64 q]] w fun e w' => e = .returned (.bool true) ∧ Below w.heap.size w w' := by
  have h2 := fun w => check_any c n k d r t q w
  rw [h] at h2
  have H2 := Lib.hid h2
  have H := Lib.hid h
  clear h2 h
  go_enter Try.func4, Try.ntmps4
  go_wp2_with fail
  refine (H2.out _).mono ?_
  rintro e w1 ⟨rfl, hb1⟩
  have b1 : Below w.heap.size w w1 := ((Below.refl _ w).alloc (Nat.le_refl _) _).trans (hb1.mono (by simp))
  have hx := (hb1.block _ (by simp)).trans (heap_new w (.cells #[.int .u8 c, .int .i64 n, .int .i64 k, .int .i64 d, .int .i64 r, .int .i64 t, .int .i64 q] 23))
  have x0 := row_cells hx
  have z0 : w.heap.size < w1.heap.size := by have := hb1.size; simp at this; omega
  have HX := Lib.hid hx
  simp only [checkV, Sh.v]
  clear hb1 hx
  go_upto_region 4 with fail
  go_cut [5, 6, 7] (fun s5 s6 s7 wx => Copies w wx w1.heap.size c n k d r t q s s5 s6 s7 t q n)
  case first =>
    have c0 : w1.cell? ⟨w.heap.size, 0, none⟩ = some (.int .u8 c) := x0 0
    have c1 : w1.cell? ⟨w.heap.size, 1, none⟩ = some (.int .i64 n) := x0 1
    have c2 : w1.cell? ⟨w.heap.size, 2, none⟩ = some (.int .i64 k) := x0 2
    have c3 : w1.cell? ⟨w.heap.size, 3, none⟩ = some (.int .i64 d) := x0 3
    have c4 : w1.cell? ⟨w.heap.size, 4, none⟩ = some (.int .i64 r) := x0 4
    have c5 : w1.cell? ⟨w.heap.size, 5, none⟩ = some (.int .i64 t) := x0 5
    have c6 : w1.cell? ⟨w.heap.size, 6, none⟩ = some (.int .i64 q) := x0 6
    have z1 : w.heap.size < w1.heap.size + 1 := by omega
    have z2 : w.heap.size < w1.heap.size + 1 + 1 := by omega
    have z3 : w.heap.size < w1.heap.size + 1 + 1 + 1 := by omega
    have n0 : ¬ w.heap.size = w1.heap.size := by omega
    have n1 : ¬ w.heap.size = w1.heap.size + 1 := by omega
    have n2 : ¬ w.heap.size = w1.heap.size + 1 + 1 := by omega
    have n3 : ¬ w.heap.size = w1.heap.size + 1 + 1 + 1 := by omega
    clear x0
    go_region
    all_goals (go_wp2_with fail; go_meet)
    all_goals exact copies_at w w1 c n k d r t q s HX.out b1 _ _ _ (by simp) (by simp) (by simp) (by omega) (by omega) (by omega)
  case rest =>
    obtain ⟨g5, g6, g7, rfl, rfl, rfl, ⟨m1, m2, m3, m4, m5, m6, m7, m8, m9⟩, ⟨l5, l6, l7⟩, f1, fs, f5, f6, f7, bx⟩ := hcut
    clear x0 z0 HX b1
    obtain ⟨u5, rfl, z5, hp⟩ := put_of f5
    have f1 := hp (fun W => W.heap[w.heap.size]? = _) f1
    have fs := hp (fun W => W.heap[w1.heap.size]? = _) fs
    have f6 := hp (fun W => W.heap[g6]? = _) f6
    have f7 := hp (fun W => W.heap[g7]? = _) f7
    have bx := hp (fun W => Below w.heap.size w W) bx
    clear hp f5
    obtain ⟨u6, rfl, z6, hp⟩ := put_of f6
    have f1 := hp (fun W => W.heap[w.heap.size]? = _) f1
    have fs := hp (fun W => W.heap[w1.heap.size]? = _) fs
    have f7 := hp (fun W => W.heap[g7]? = _) f7
    have bx := hp (fun W => Below w.heap.size w W) bx
    have z5 := hp (fun W => g5 < W.heap.size) z5
    clear hp f6
    obtain ⟨u7, rfl, z7, hp⟩ := put_of f7
    have f1 := hp (fun W => W.heap[w.heap.size]? = _) f1
    have fs := hp (fun W => W.heap[w1.heap.size]? = _) fs
    have bx := hp (fun W => Below w.heap.size w W) bx
    have z5 := hp (fun W => g5 < W.heap.size) z5
    have z6 := hp (fun W => g6 < W.heap.size) z6
    clear hp f7
    have m7' := m7.symm
    have m8' := m8.symm
    have m9' := m9.symm
    obtain ⟨hin, hfit, hsh⟩ := checkF_some H.out
    unfold inRange at hin
    unfold fits at hfit
    have bt : 0 ≤ t ∧ t ≤ 127 := by omega
    have bn : 1 ≤ n ∧ n ≤ 255 := by omega
    have bq : -255 ≤ q ∧ q ≤ n := by
      have h2 := shapeF_ok (c := c) (n := n) (k := k) (d := d) (r := r) (t := t) (by omega) (by omega) (by omega) (by omega) (by omega)
      rw [← hsh] at h2
      rcases h2 with h2 | h2
      · exact absurd h2 hfit.1
      · have h3 := hfit.2
        omega
    clear hin hfit hsh
    simp only [cfgO] at f1 ⊢
    simp only [shO] at fs
    have y1 := row_cells f1
    have ys := row_cells fs
    have F1 := Lib.hid f1
    have FS := Lib.hid fs
    clear f1 fs
    go_upto_if 39 with fail
    have L0 : Left w (putBlk (putBlk (putBlk u7 g7 (cfgO c (n + 1) k d r t q)) g6 (cfgO c n k d r t (q + 1))) g5 (cfgO c n k d r (t - 1) q)) w1.heap.size g6 g7 c n k d r t q s (q + 1) (n + 1) :=
      ⟨(heap_putBlk_ne _ m1).trans ((heap_putBlk_ne _ m2).trans ((heap_putBlk_ne _ m3).trans F1.out)), (heap_putBlk_ne _ m4).trans ((heap_putBlk_ne _ m5).trans ((heap_putBlk_ne _ m6).trans FS.out)),
       (heap_putBlk_ne _ m7').trans (heap_putBlk _ (by rw [size_putBlk]; exact z6)), (heap_putBlk_ne _ m8').trans ((heap_putBlk_ne _ m9').trans (heap_putBlk _ z7)), bel_putBlk (bel_putBlk (bel_putBlk bx l7 _) l6 _) l5 _⟩
    have HL := Lib.hid L0
    clear L0
    go_cut [] (fun wx => Left w wx w1.heap.size g6 g7 c n k d r t q s (q + 1) (n + 1))
    case first =>
      by_cases ht : 0 < t
      · obtain ⟨s', hc', hle, he1, he2, he3⟩ := less_t H.out ht
        have h3 := fun w => check_any c n k d r (t - 1) q w
        rw [hc'] at h3
        have H3 := Lib.hid h3
        have d1 : decide (s.as_ < s'.as_) = false := decide_eq_false (by omega)
        clear h3 hc'
        go_wp2_with fail
        refine (H3.out _).mono ?_
        rintro e w5 ⟨rfl, hb5⟩
        obtain ⟨i1, i2, i3, i4, i5⟩ := HL.out
        have L1 : Left w w5 w1.heap.size g6 g7 c n k d r t q s (q + 1) (n + 1) := ⟨keepB hb5 i1, keepB hb5 i2, keepB hb5 i3, keepB hb5 i4, i5.trans (hb5.mono i5.size)⟩
        have j2 := row_cells (keepB hb5 i2)
        have j3 := lt_of_heap (keepB hb5 i2)
        have HL1 := Lib.hid L1
        simp only [checkV, Sh.v]
        clear hb5 i1 i2 i3 i4 i5 L1 y1 ys
        go_wp2_with fail
        go_meet
        obtain ⟨i1, i2, i3, i4, i5⟩ := HL1.out
        exact ⟨keepA i1 _, keepA i2 _, keepA i3 _, keepA i4 _, i5.alloc i5.size _⟩
      · go_wp2_with fail
        go_meet
        exact HL.out
    case rest =>
      clear HL y1 ys F1 FS z5 z6 z7 bx
      have HW := Lib.hid hcut
      obtain ⟨i1, i2, i3, i4, i5⟩ := hcut
      have y1 := row_cells i1
      have ys := row_cells i2
      have y6 := row_cells i3
      have zs := lt_of_heap i2
      clear i1 i2 i3 i4 i5
      go_upto_if 79 with fail
      go_cut [] (fun wx => Left w wx w1.heap.size g6 g7 c n k d r t q s (q + 1) (n + 1))
      case first =>
        by_cases hq : q < n
        · have h3 := fun w => check_any c n k d r t (q + 1) w
          rw [less_w H.out hq] at h3
          have H3 := Lib.hid h3
          clear h3
          go_wp2_with fail
          refine (H3.out _).mono ?_
          rintro e w5 ⟨rfl, hb5⟩
          obtain ⟨i1, i2, i3, i4, i5⟩ := HW.out
          have L1 : Left w w5 w1.heap.size g6 g7 c n k d r t q s (q + 1) (n + 1) := ⟨keepB hb5 i1, keepB hb5 i2, keepB hb5 i3, keepB hb5 i4, i5.trans (hb5.mono i5.size)⟩
          have j2 := row_cells (keepB hb5 i2)
          have j3 := lt_of_heap (keepB hb5 i2)
          have HL1 := Lib.hid L1
          simp only [checkV, Sh.v]
          clear hb5 i1 i2 i3 i4 i5 L1 y1 ys y6 zs
          go_wp2_with fail
          go_meet
          obtain ⟨i1, i2, i3, i4, i5⟩ := HL1.out
          exact ⟨keepA i1 _, keepA i2 _, keepA i3 _, keepA i4 _, i5.alloc i5.size _⟩
        · go_wp2_with fail
          go_meet
          exact HW.out
      case rest =>
        clear HW y1 ys y6 zs
        have HV := Lib.hid hcut
        obtain ⟨i1, i2, i3, i4, i5⟩ := hcut
        have y1 := row_cells i1
        have ys := row_cells i2
        have y7 := row_cells i4
        have zs := lt_of_heap i2
        clear i1 i2 i3 i4
        by_cases h5 : n < 255 ∧ (c = 1 ∨ c = 3)
        · have h3 := fun w => check_any c (n + 1) k d r t q w
          rw [less_n H.out h5.1 h5.2] at h3
          have H3 := Lib.hid h3
          obtain ⟨h6, h7⟩ := h5
          clear h3
          rcases h7 with rfl | rfl
          all_goals
            go_wp2_with fail
            refine (H3.out _).mono ?_
            rintro e w5 ⟨rfl, hb5⟩
            obtain ⟨i1, i2, i3, i4, _⟩ := HV.out
            have j2 := row_cells (keepB hb5 i2)
            have j3 := lt_of_heap (keepB hb5 i2)
            have b5 := i5.trans (hb5.mono i5.size)
            simp only [checkV, Sh.v]
            clear hb5 i1 i2 i3 i4 y1 ys y7 zs
            go_wp2_with fail
            refine (works_any _).mono ?_
            rintro e w6 ⟨rfl, hb6⟩
            have b6 := (b5.alloc b5.size _).trans (hb6.mono (by have := b5.size; simp; omega))
            clear hb6 b5 j2 j3
            go_wp2
            go_ret
            exact ⟨rfl, b6⟩
        · by_cases h6 : n < 255
          · have h7 : (c == 1) = false := by simp; omega
            have h8 : (c == 3) = false := by simp; omega
            clear h5
            go_wp2_with fail
            refine (works_any _).mono ?_
            rintro e w6 ⟨rfl, hb6⟩
            have b6 := i5.trans (hb6.mono i5.size)
            clear hb6 i5
            go_wp2
            go_ret
            exact ⟨rfl, b6⟩
          · have h7 : decide (n < 255) = false := decide_eq_false h6
            clear h5
            go_wp2_with fail
            refine (works_any _).mono ?_
            rintro e w6 ⟨rfl, hb6⟩
            have b6 := i5.trans (hb6.mono i5.size)
            clear hb6 i5
            go_wp2
            go_ret
            exact ⟨rfl, b6⟩

theorem less_any (c n k d r t q : Int) (w : World) :
    Calls Try.prog 4 #[.agg #[.int .u8 c, .int .i64 n, .int .i64 k, .int .i64 d, .int .i64 r, .int .i64 t, .int .i64 q]] w fun e w' => e = .returned (.bool true) ∧ Below w.heap.size w w' := by
  cases h : checkF c n k d r t q with
  | none => exact less_none c n k d r t q w h
  | some s => exact less_some c n k d r t q s w h
end Go.Proofs.Ytpfhejodjpgliaa
