/-
  The law ReedKnown.
-/
import Derived.Test.YtpkeglpigjaccaaGreatL7Laws3
import Derived.Deep.CutBlock
namespace Go.Proofs.YtpkeglpigjaccaaGreat
open Go.RowKit Fld
set_option linter.unusedVariables false
set_option linter.unusedSimpArgs false

/-- An append under a guard that holds. -/
theorem wpList_append_g {P : Program} {ops : Array Oper} {rest : List Oper} {o : Oper} {a : Act} {w : World} {Q : Exit → Act → World → Prop} (hw : Region.wanted o (yielded ops a.tmps) = true) (s x : Operand) (t : TypeId)
    (ho : o.op = .call { callee := .builtin .append, args := #[s, x], argTypes := #[t, t] }) {V X v : Value} {w3 : World} (hs : a.eval s = V) (hx : a.eval x = X)
    (hr : (Builtin.append_ #[t, t] o.type #[V, X]).run P w = .ok v w3) (h : wpList P ops Q rest (a.put o.dst v) w3) : wpList P ops Q (o :: rest) a w := by
  refine wpList_step fun K hK => ?_
  rw [if_pos hw]
  unfold Oper.wp execOp
  simp only [ho, resolve, invoke, builtin, Sem.run_bind, Sem.run_pure, Result.andThen_ok, List.map_toArray, List.map_cons, List.map_nil, hs, hx, hr]
  exact hK _ _ h
/-- A law's answer. -/
abbrev Yes (B : Nat) (w0 : World) (e : Ending) (w' : World) : Prop := e = .returned (.bool true) ∧ Below B w0 w'
theorem any_lit (a b M F T : Nat) (ha : a < 256) (hb : b < 256) (hM : M < 256) (hF : F < 256) (hT : T < 256) (W : World) :
    Calls Tryz.prog 9 #[.int .u8 a, .int .u8 b, .slice (some ⟨W.heap.size, 0, none⟩) 3 3, .int .u64 M, .int .u8 M, .int .u8 T]
      (W.alloc (.cells #[.int .u8 M, .int .u8 7, .int .u8 F] 5)) (Yes W.heap.size W) := by
  have h : GRd (W.alloc (.cells #[.int .u8 M, .int .u8 7, .int .u8 F] 5)) (.slice (some ⟨W.heap.size, 0, none⟩) 3 3) [⟨M, hM⟩, ⟨7, by omega⟩, ⟨F, hF⟩] := GRd.lit _ (by exact heap_newA _ _) rfl
  have := lany_any a b _ _ M M ⟨T, hT⟩ _ ha hb h (by omega) hM
  refine this.mono ?_
  rintro e w' ⟨rfl, hb⟩
  exact ⟨rfl, ((Below.refl _ _).alloc (Nat.le_refl _) _).trans (hb.mono (by simp))⟩
theorem apart_lit (a b M : Nat) (ha : a < 256) (hb : b < 256) (hM : M < 256) (W : World) :
    Calls Tryz.prog 10 #[.int .u8 a, .int .u8 b, .slice (some ⟨W.heap.size, 0, none⟩) 2 2, .slice (some ⟨W.heap.size + 1, 0, none⟩) 2 2]
      ((W.alloc (.cells #[.int .u8 M, .int .u8 1] 5)).alloc (.cells #[.int .u8 3, .int .u8 M] 5)) (Yes W.heap.size W) := by
  have h1 : GRd ((W.alloc (.cells #[.int .u8 M, .int .u8 1] 5)).alloc (.cells #[.int .u8 3, .int .u8 M] 5)) (.slice (some ⟨W.heap.size, 0, none⟩) 2 2) [⟨M, hM⟩, ⟨1, by omega⟩] := GRd.lit _ (by exact keepA (heap_newA _ _) _) rfl
  have h2 : GRd ((W.alloc (.cells #[.int .u8 M, .int .u8 1] 5)).alloc (.cells #[.int .u8 3, .int .u8 M] 5)) (.slice (some ⟨W.heap.size + 1, 0, none⟩) 2 2) [⟨3, by omega⟩, ⟨M, hM⟩] := GRd.lit _ (by exact heap_newE _ _ _ (by simp)) rfl
  refine (apart_any a b _ _ _ _ _ ha hb h1 h2).mono ?_
  rintro e w' ⟨rfl, hb⟩
  exact ⟨rfl, ((((Below.refl _ _).alloc (Nat.le_refl _) _).alloc (by simp) _)).trans (hb.mono (by simp; omega))⟩
set_option maxHeartbeats 1000000 in
theorem encode_nil (v : Value) (w : World) : Calls Tryz.prog 4 #[.pointer none, v] w fun e w' => e = .returned (.tuple #[.slice none 0 0, .int .i64 1]) ∧ w = w' := by
  go_enter Tryz.func4, Tryz.ntmps4
  go_wp2
  go_ret2
  exact ⟨rfl, rfl⟩
set_option maxHeartbeats 1000000 in
theorem decode_nil (u v : Value) (w : World) : Calls Tryz.prog 5 #[.pointer none, u, v] w fun e w' => e = .returned (.tuple #[.slice none 0 0, .int .i64 1]) ∧ Below w.heap.size w w' := by
  go_enter Tryz.func5, Tryz.ntmps5
  go_wp2
  go_ret2
  refine ⟨rfl, ?_⟩
  first | exact Below.refl _ _ | exact (Below.refl _ _).alloc (Nat.le_refl _) _ | (repeat' (first | (with_reducible exact RowKit.Below.refl _ _) | (with_reducible assumption) | (with_reducible refine RowKit.Below.drew ?_) | (with_reducible refine RowKit.Below.alloc ?_ ?_ _) | omega | (simp; done) | (simp; omega)))
theorem codeK_nil (w : World) : Calls Tryz.prog 6 #[.pointer none] w fun e w' => e = .returned (.int .i64 0) ∧ w = w' := by
  go_enter Tryz.func6, Tryz.ntmps6
  go_wp2
  go_ret
  exact ⟨rfl, rfl⟩
theorem codeF_nil (w : World) : Calls Tryz.prog 8 #[.pointer none] w fun e w' => e = .returned (.pointer none) ∧ w = w' := by
  go_enter Tryz.func8, Tryz.ntmps8
  go_wp2
  go_ret
  exact ⟨rfl, rfl⟩
theorem codeP_nil (w : World) : Calls Tryz.prog 7 #[.pointer none] w fun e w' => e = .returned (.slice none 0 0) ∧ w = w' := by
  go_enter Tryz.func7, Tryz.ntmps7
  go_wp2
  go_ret
  exact ⟨rfl, rfl⟩
/-- The first bytes, as a row of numbers. -/
theorem gfn_n {i : Nat} (h : i < 256) : (gfn i).n = i := Nat.mod_eq_of_lt h
/-- The rows of places that are told. -/
def KRows (w2 W : World) : Prop := GRd W (.slice (some ⟨w2.heap.size, 0, none⟩) 4 4) [⟨1, by omega⟩, ⟨2, by omega⟩, ⟨4, by omega⟩, ⟨0, by omega⟩] ∧ Below w2.heap.size w2 W ∧
  w2.heap.size + 1 + 1 + 1 + 1 + 1 + 1 + 1 + 1 + 1 < W.heap.size ∧ ∀ i, i < 9 → ∃ (a : Option Addr) (n c : Nat) (l : List Int), W.cell? ⟨w2.heap.size + 1 + 1 + 1 + 1 + 1 + 1 + 1 + 1 + 1, i, none⟩ = some (.slice a n c) ∧ IRd W (.slice a n c) l ∧ l.length = n ∧ n ≤ 5
def kworld (w2 : World) : World := (((((((((w2.alloc (.cells #[.int .u8 1, .int .u8 2, .int .u8 4, .int .u8 0] 5)).alloc (.cells #[.int .i64 0] 3)).alloc (.cells #[.int .i64 0, .int .i64 1] 3)).alloc (.cells #[.int .i64 1, .int .i64 1] 3)).alloc (.cells #[.int .i64 3, .int .i64 0, .int .i64 2] 3)).alloc (.cells #[.int .i64 (-1), .int .i64 0] 3)).alloc (.cells #[.int .i64 4, .int .i64 0] 3)).alloc (.cells #[.int .i64 0, .int .i64 1, .int .i64 2, .int .i64 3] 3)).alloc (.cells #[.int .i64 0, .int .i64 1, .int .i64 2, .int .i64 3, .int .i64 0] 3)).alloc (.cells #[.slice none 0 0, .slice (some ⟨w2.heap.size + 1, 0, none⟩) 1 1, .slice (some ⟨w2.heap.size + 1 + 1, 0, none⟩) 2 2, .slice (some ⟨w2.heap.size + 1 + 1 + 1, 0, none⟩) 2 2, .slice (some ⟨w2.heap.size + 1 + 1 + 1 + 1, 0, none⟩) 3 3, .slice (some ⟨w2.heap.size + 1 + 1 + 1 + 1 + 1, 0, none⟩) 2 2, .slice (some ⟨w2.heap.size + 1 + 1 + 1 + 1 + 1 + 1, 0, none⟩) 2 2, .slice (some ⟨w2.heap.size + 1 + 1 + 1 + 1 + 1 + 1 + 1, 0, none⟩) 4 4, .slice (some ⟨w2.heap.size + 1 + 1 + 1 + 1 + 1 + 1 + 1 + 1, 0, none⟩) 5 5] 35)
theorem krows_at (w2 : World) : KRows w2 (kworld w2) := by
  have hx : (kworld w2).heap[w2.heap.size]? = some (.cells #[.int .u8 1, .int .u8 2, .int .u8 4, .int .u8 0] 5 (0, 0)) := by
    unfold kworld
    (repeat (refine Eq.trans (hp_alloc _ _ _ ?_) ?_; (· first | (simp; done) | (simp; omega)))); exact heap_newE _ _ _ (by simp)
  have h1 : (kworld w2).heap[w2.heap.size + 1]? = some (.cells #[.int .i64 0] 3 (0, 0)) := by
    unfold kworld
    (repeat (refine Eq.trans (hp_alloc _ _ _ ?_) ?_; (· first | (simp; done) | (simp; omega)))); exact heap_newE _ _ _ (by simp)
  have h2 : (kworld w2).heap[w2.heap.size + 1 + 1]? = some (.cells #[.int .i64 0, .int .i64 1] 3 (0, 0)) := by
    unfold kworld
    (repeat (refine Eq.trans (hp_alloc _ _ _ ?_) ?_; (· first | (simp; done) | (simp; omega)))); exact heap_newE _ _ _ (by simp)
  have h3 : (kworld w2).heap[w2.heap.size + 1 + 1 + 1]? = some (.cells #[.int .i64 1, .int .i64 1] 3 (0, 0)) := by
    unfold kworld
    (repeat (refine Eq.trans (hp_alloc _ _ _ ?_) ?_; (· first | (simp; done) | (simp; omega)))); exact heap_newE _ _ _ (by simp)
  have h4 : (kworld w2).heap[w2.heap.size + 1 + 1 + 1 + 1]? = some (.cells #[.int .i64 3, .int .i64 0, .int .i64 2] 3 (0, 0)) := by
    unfold kworld
    (repeat (refine Eq.trans (hp_alloc _ _ _ ?_) ?_; (· first | (simp; done) | (simp; omega)))); exact heap_newE _ _ _ (by simp)
  have h5 : (kworld w2).heap[w2.heap.size + 1 + 1 + 1 + 1 + 1]? = some (.cells #[.int .i64 (-1), .int .i64 0] 3 (0, 0)) := by
    unfold kworld
    (repeat (refine Eq.trans (hp_alloc _ _ _ ?_) ?_; (· first | (simp; done) | (simp; omega)))); exact heap_newE _ _ _ (by simp)
  have h6 : (kworld w2).heap[w2.heap.size + 1 + 1 + 1 + 1 + 1 + 1]? = some (.cells #[.int .i64 4, .int .i64 0] 3 (0, 0)) := by
    unfold kworld
    (repeat (refine Eq.trans (hp_alloc _ _ _ ?_) ?_; (· first | (simp; done) | (simp; omega)))); exact heap_newE _ _ _ (by simp)
  have h7 : (kworld w2).heap[w2.heap.size + 1 + 1 + 1 + 1 + 1 + 1 + 1]? = some (.cells #[.int .i64 0, .int .i64 1, .int .i64 2, .int .i64 3] 3 (0, 0)) := by
    unfold kworld
    (repeat (refine Eq.trans (hp_alloc _ _ _ ?_) ?_; (· first | (simp; done) | (simp; omega)))); exact heap_newE _ _ _ (by simp)
  have h8 : (kworld w2).heap[w2.heap.size + 1 + 1 + 1 + 1 + 1 + 1 + 1 + 1]? = some (.cells #[.int .i64 0, .int .i64 1, .int .i64 2, .int .i64 3, .int .i64 0] 3 (0, 0)) := by
    unfold kworld
    (repeat (refine Eq.trans (hp_alloc _ _ _ ?_) ?_; (· first | (simp; done) | (simp; omega)))); exact heap_newE _ _ _ (by simp)
  have hb : (kworld w2).heap[w2.heap.size + 1 + 1 + 1 + 1 + 1 + 1 + 1 + 1 + 1]? = some (.cells #[.slice none 0 0, .slice (some ⟨w2.heap.size + 1, 0, none⟩) 1 1, .slice (some ⟨w2.heap.size + 1 + 1, 0, none⟩) 2 2, .slice (some ⟨w2.heap.size + 1 + 1 + 1, 0, none⟩) 2 2, .slice (some ⟨w2.heap.size + 1 + 1 + 1 + 1, 0, none⟩) 3 3, .slice (some ⟨w2.heap.size + 1 + 1 + 1 + 1 + 1, 0, none⟩) 2 2, .slice (some ⟨w2.heap.size + 1 + 1 + 1 + 1 + 1 + 1, 0, none⟩) 2 2, .slice (some ⟨w2.heap.size + 1 + 1 + 1 + 1 + 1 + 1 + 1, 0, none⟩) 4 4, .slice (some ⟨w2.heap.size + 1 + 1 + 1 + 1 + 1 + 1 + 1 + 1, 0, none⟩) 5 5] 35 (0, 0)) := by
    unfold kworld
    exact heap_newE _ _ _ (by simp)
  refine ⟨GRd.lit _ (by exact hx) rfl, ?_, lt_of_heap hb, fun i hi => ?_⟩
  · unfold kworld
    exact ((((((((((Below.refl _ w2).alloc (by simp <;> omega) _).alloc (by simp <;> omega) _).alloc (by simp <;> omega) _).alloc (by simp <;> omega) _).alloc (by simp <;> omega) _).alloc (by simp <;> omega) _).alloc (by simp <;> omega) _).alloc (by simp <;> omega) _).alloc (by simp <;> omega) _).alloc (by simp <;> omega) _
  · have hi9 : i = 0 ∨ i = 1 ∨ i = 2 ∨ i = 3 ∨ i = 4 ∨ i = 5 ∨ i = 6 ∨ i = 7 ∨ i = 8 := by omega
    rcases hi9 with rfl | rfl | rfl | rfl | rfl | rfl | rfl | rfl | rfl
    · exact ⟨_, _, _, [], cell_of_heap hb (j := 0) rfl, (OwnZ.nil _ 0).rd, rfl, by omega⟩
    · exact ⟨_, _, _, [0], cell_of_heap hb (j := 1) rfl, IRd.lit _ (by exact h1) rfl, rfl, by omega⟩
    · exact ⟨_, _, _, [0, 1], cell_of_heap hb (j := 2) rfl, IRd.lit _ (by exact h2) rfl, rfl, by omega⟩
    · exact ⟨_, _, _, [1, 1], cell_of_heap hb (j := 3) rfl, IRd.lit _ (by exact h3) rfl, rfl, by omega⟩
    · exact ⟨_, _, _, [3, 0, 2], cell_of_heap hb (j := 4) rfl, IRd.lit _ (by exact h4) rfl, rfl, by omega⟩
    · exact ⟨_, _, _, [-1, 0], cell_of_heap hb (j := 5) rfl, IRd.lit _ (by exact h5) rfl, rfl, by omega⟩
    · exact ⟨_, _, _, [4, 0], cell_of_heap hb (j := 6) rfl, IRd.lit _ (by exact h6) rfl, rfl, by omega⟩
    · exact ⟨_, _, _, [0, 1, 2, 3], cell_of_heap hb (j := 7) rfl, IRd.lit _ (by exact h7) rfl, rfl, by omega⟩
    · exact ⟨_, _, _, [0, 1, 2, 3, 0], cell_of_heap hb (j := 8) rfl, IRd.lit _ (by exact h8) rfl, rfl, by omega⟩
theorem KRows.below {w2 W W' : World} (h : KRows w2 W) (hb : Below W.heap.size W W') : KRows w2 W' := by
  refine ⟨h.1.below hb, h.2.1.trans (hb.mono h.2.1.size), Nat.lt_of_lt_of_le h.2.2.1 hb.size, fun i hi => ?_⟩
  obtain ⟨a, n, c, l, h1, h2, h3, h4⟩ := h.2.2.2 i hi
  exact ⟨a, n, c, l, (hb.cell (p := ⟨_, i, none⟩) h.2.2.1).trans h1, h2.below hb, h3, h4⟩
set_option maxRecDepth 100000 in
set_option maxHeartbeats 16000000 in
theorem lknown7_any (w : World) : Calls Tryz.prog 3 #[] w (Yes w.heap.size w) := by
  have HW := Lib.hid (fun W => works_any W)
  have hmf : True := trivial
  go_enter Tryz.func3, Tryz.ntmps3
  go_wp2_with fail
  refine (encode_nil _ _).mono ?_
  rintro e w1 ⟨rfl, rfl⟩
  go_wp2_with fail
  refine (decode_nil _ _ _).mono ?_
  rintro e w1 ⟨rfl, hb1⟩
  have HB1 := Lib.hid hb1
  clear hb1
  go_wp2_with fail
  refine (codeK_nil _).mono ?_
  rintro e wk ⟨rfl, rfl⟩
  go_wp2_with fail
  refine (codeP_nil _).mono ?_
  rintro e wk ⟨rfl, rfl⟩
  go_wp2_with fail
  refine (codeF_nil _).mono ?_
  rintro e wk ⟨rfl, rfl⟩
  go_wp2
  go_loopg [6] 6 (fun gk i wr => ∃ A : Nat, A ≤ 6 ∧ gk = 6 - A ∧ i = .int .u8 A ∧ Hid (Below w.heap.size w wr))
  case atStart => exact ⟨0, by omega, rfl, rfl, HB1⟩
  case round =>
    clear HB1
    obtain ⟨A, hA, rfl, rfl, HB⟩ := hrel
    by_cases hA6 : A < 6
    · have hAd : decide ((A : Int) < 6) = true := decide_eq_true (by omega)
      have hAw : IntKind.u8.wrap ((A : Int) + 1) = (A : Int) + 1 := IntWalk.u8_in _ (by omega)
      go_wp2
      go_loopg [7] 7 (fun gk i wr => ∃ D : Nat, D ≤ 7 ∧ gk = 7 - D ∧ i = .int .u8 D ∧ Hid (Below w.heap.size w wr))
      case atStart => exact ⟨0, by omega, rfl, rfl, HB⟩
      case round =>
        clear HB
        obtain ⟨D, hD, rfl, rfl, HB⟩ := hrel
        by_cases hD7 : D < 7
        · have hDd : decide ((D : Int) < 7) = true := decide_eq_true (by omega)
          have hDw : IntKind.u8.wrap ((D : Int) + 1) = (D : Int) + 1 := IntWalk.u8_in _ (by omega)
          go_wp2
          go_loopg [8] 33 (fun gk i wr => ∃ M : Nat, M ≤ 33 ∧ M % 3 = 0 ∧ gk = 33 - M ∧ i = .int .i64 M ∧ Hid (Below w.heap.size w wr))
          case atStart => exact ⟨0, by omega, rfl, rfl, rfl, HB⟩
          case round =>
            clear HB
            obtain ⟨M, hM, hM3, rfl, rfl, HB⟩ := hrel
            by_cases hM32 : M < 32
            · have hs := HB.out.size
              obtain ⟨F, hF⟩ : ∃ F, M * 5 = F := ⟨_, rfl⟩
              have hFi : (M : Int) * 5 = (F : Int) := by omega
              have hMw : IntKind.u8.wrap (M : Int) = (M : Int) := IntWalk.u8_in _ (by omega)
              have hFw : IntKind.u8.wrap (F : Int) = (F : Int) := IntWalk.u8_in _ (by omega)
              have hFw2 : IntKind.i64.wrap (F : Int) = (F : Int) := IntWalk.i64_in _ (by omega)
              have hMu : IntKind.u64.wrap (M : Int) = (M : Int) := by rw [IntKind.wrap_u64]; omega
              have hTi : (M : Int) % 3 = 0 := by omega
              have HANY := Lib.hid (fun W => any_lit A D M F 0 (by omega) (by omega) (by omega) (by omega) (by omega) W)
              have HAPT := Lib.hid (fun W => apart_lit A D M (by omega) (by omega) (by omega) W)
              clear hF
              go_wp2_with fail
              refine (HANY.out wr).mono ?_
              rintro e w5 ⟨rfl, hb5⟩
              have HB5 : Hid (Below w.heap.size w w5) := Lib.hid (HB.out.trans (hb5.mono hs))
              clear hb5
              go_wp2_with fail
              refine (HAPT.out w5).mono ?_
              rintro e w6 ⟨rfl, hb6⟩
              have HB6 : Hid (Below w.heap.size w w6) := Lib.hid (HB5.out.trans (hb6.mono HB5.out.size))
              clear hb6
              go_wp2
              go_roundg (33 - (M + 3))
              case measure => omega
              case rel => exact ⟨M + 3, by omega, by omega, rfl, by go_num, HB6⟩
            · have hM32' : ¬ (M : Int) < 32 := by omega
              go_wp2
              go_roundg (7 - (D + 1))
              case measure => omega
              case rel => exact ⟨D + 1, by omega, rfl, by go_num, HB⟩
        · have hD7' : ¬ (D : Int) < 7 := by omega
          go_wp2
          go_roundg (6 - (A + 1))
          case measure => omega
          case rel => exact ⟨A + 1, by omega, rfl, by go_num, HB⟩
    · have hA6' : ¬ (A : Int) < 6 := by omega
      obtain ⟨w2, rfl⟩ : ∃ w2 : World, w2 = wr := ⟨_, rfl⟩
      have HKR : Hid (KRows w2 (kworld w2)) := Lib.hid (krows_at w2)
      obtain ⟨w3, hw3⟩ : ∃ w3, w3 = kworld w2 := ⟨_, rfl⟩
      rw [← hw3] at HKR
      unfold kworld at hw3
      have HW3 := Lib.hid hw3
      clear hw3
      go_wp2
      rw [← HW3.out]
      have HB3 : Hid (Below w.heap.size w w3) := Lib.hid (HB.out.trans (HKR.out.2.1.mono HB.out.size))
      have hs2 := HB.out.size
      clear HW3 HB
      go_loopg [99] 9 (fun gk i wr => ∃ I : Nat, I ≤ 9 ∧ gk = 9 - I ∧ i = .int .i64 I ∧ Hid (KRows w2 wr) ∧ Hid (Below w.heap.size w wr))
      case atStart => exact ⟨0, by omega, rfl, rfl, HKR, HB3⟩
      case round =>
        clear HKR HB3
        obtain ⟨I, hI, rfl, rfl, HKR, HB⟩ := hrel
        by_cases hI9 : I < 9
        · have hId : decide ((I : Int) < 9) = true := decide_eq_true (by omega)
          obtain ⟨a, n, c, l, hc, hl, hn, hn5⟩ := HKR.out.2.2.2 I hI9
          have gb := HKR.out.2.2.1
          have HKR0 := HKR
          have HL := Lib.hid hl
          have HN := Lib.hid hn
          obtain ⟨w4, rfl⟩ : ∃ w4 : World, w4 = wr := ⟨_, rfl⟩
          have hs4 := HB.out.size
          clear hl hn
          go_wp2
          go_loopg [12] 6 (fun gk i wr => ∃ J : Nat, J ≤ 6 ∧ gk = 6 - J ∧ i = .int .i64 J ∧ Hid (Below w4.heap.size w4 wr))
          case atStart => exact ⟨0, by omega, rfl, rfl, Lib.hid (Below.refl _ _)⟩
          case round =>
            obtain ⟨J, hJ, rfl, rfl, HBR⟩ := hrel
            by_cases hJ6 : J < 6
            · have hsr := HBR.out.size
              obtain ⟨sa, sc, hsl1, hg1, -⟩ := slice_h (some ⟨wr.heap.size, 0, none⟩) 5 5 n hn5
              obtain ⟨r, hr⟩ : ∃ r, J % 5 = r := ⟨_, rfl⟩
              have hr4 : r ≤ 4 := by omega
              have hri : (J : Int) % 5 = (r : Int) := by omega
              obtain ⟨sb, sd, hsl2, hg2, -⟩ := slice_h (some ⟨w2.heap.size, 0, none⟩) 4 4 r hr4
              have hkr := HKR0.out.below HBR.out
              have HK := Lib.hid hkr
              have HLR := Lib.hid (HL.out.below HBR.out)
              have hb5 : Below wr.heap.size wr (wr.alloc (.cells #[.int .u8 6, .int .u8 5, .int .u8 3, .int .u8 7, .int .u8 1] 5)) := (Below.refl _ _).alloc (Nat.le_refl _) _
              have h5 : GRd (wr.alloc (.cells #[.int .u8 6, .int .u8 5, .int .u8 3, .int .u8 7, .int .u8 1] 5)) (.slice (some ⟨wr.heap.size, 0, none⟩) 5 5) [⟨6, by omega⟩, ⟨5, by omega⟩, ⟨3, by omega⟩, ⟨7, by omega⟩, ⟨1, by omega⟩] := GRd.lit _ (by exact heap_newA _ _) rfl
              have HD1 := Lib.hid (ldec_any _ _ _ _ _ l (J : Int) _ (hkr.1.below hb5) (HLR.out.below hb5) (hg1 _ _ h5 (by simpa using hn5)) (by omega))
              have HB5 := Lib.hid hb5
              have HG2 := Lib.hid hg2
              clear hkr hb5 h5 hg1 hg2 hr
              go_wp2_with fail
              refine HD1.out.mono ?_
              rintro e w5 ⟨rfl, hb6⟩
              have HB6 : Hid (Below wr.heap.size wr w5) := Lib.hid (HB5.out.trans (hb6.mono (by simp)))
              have hs5 := HB6.out.size
              have hb7 : Below w5.heap.size w5 (w5.alloc (.cells #[.int .u8 6, .int .u8 5, .int .u8 9] 5)) := (Below.refl _ _).alloc (Nat.le_refl _) _
              have h7 : GRd (w5.alloc (.cells #[.int .u8 6, .int .u8 5, .int .u8 9] 5)) (.slice (some ⟨w5.heap.size, 0, none⟩) 3 3) [⟨6, by omega⟩, ⟨5, by omega⟩, ⟨9, by omega⟩] := GRd.lit _ (by exact heap_newA _ _) rfl
              have HD2 := Lib.hid (ldec_any _ _ _ _ _ l (J : Int) _ ((HK.out.1.below HB6.out).below hb7) ((HLR.out.below HB6.out).below hb7) h7 (by omega))
              have HB7 := Lib.hid hb7
              clear hb6 hb7 h7 HD1 HB5
              go_wp2_with fail
              refine HD2.out.mono ?_
              rintro e w6 ⟨rfl, hb8⟩
              have HB8 : Hid (Below wr.heap.size wr w6) := Lib.hid (HB6.out.trans ((HB7.out.trans (hb8.mono (by simp))).mono hs5))
              have hs6 := HB8.out.size
              have hx6 := HK.out.1.below HB8.out
              have HE := Lib.hid (lenc_any _ _ _ _ (J : Int) _ hx6 (HG2.out _ _ hx6 (by simpa using hr4)) (by omega))
              clear hb8 HD2 HB7 HB6 hx6
              go_wp2_with fail
              refine HE.out.mono ?_
              rintro e w7 ⟨rfl, hb9⟩
              have HB9 : Hid (Below w4.heap.size w4 w7) := Lib.hid (HBR.out.trans ((HB8.out.trans (hb9.mono hs6)).mono hsr))
              clear hb9
              go_wp2
              go_roundg (6 - (J + 1))
              case measure => omega
              case rel => exact ⟨J + 1, by omega, rfl, by go_num, HB9⟩
            · have hJ6' : ¬ (J : Int) < 6 := by omega
              have HKR9 := Lib.hid (HKR0.out.below HBR.out)
              have HB9 : Hid (Below w.heap.size w wr) := Lib.hid (HB.out.trans (HBR.out.mono hs4))
              go_wp2
              go_roundg (9 - (I + 1))
              case measure => omega
              case rel => exact ⟨I + 1, by omega, rfl, by go_num, HKR9, HB9⟩
        · have hI9' : ¬ (I : Int) < 9 := by omega
          obtain ⟨w4, rfl⟩ : ∃ w4 : World, w4 = wr := ⟨_, rfl⟩
          have hs4 := HB.out.size
          clear HKR
          go_wp2
          go_loopg [13, 14] 256 (fun gk y i wr => ∃ (V : Value) (J : Nat), V = y ∧ J ≤ 256 ∧ gk = 256 - J ∧ i = .int .i64 J ∧ Hid (OwnG wr w4.heap.size V (rowF gfn J)) ∧ Hid (Below w4.heap.size w4 wr))
          case atStart => exact ⟨_, 0, rfl, by omega, rfl, rfl, Lib.hid (OwnG.nil _ _), Lib.hid (Below.refl _ _)⟩
          case round =>
            obtain ⟨V, J, rfl, hJ, rfl, rfl, HO, HBR⟩ := hrel
            have hsr := HBR.out.size
            by_cases hJ6 : J < 256
            · have hJw : IntKind.u8.wrap (J : Int) = (J : Int) := IntWalk.u8_in _ (by omega)
              obtain ⟨v1, w6, hap, ho1, -, hb6, -⟩ := app_row (W := wr) HO.out (by omega) hsr (gfn_n hJ6) (ad := wr.heap.size) rfl
              have HO6 := Lib.hid ho1
              have HB6 := Lib.hid (HBR.out.trans hb6)
              clear ho1 hb6
              go_wp2_with (at_builtin; refine wpList_append rfl _ _ _ rfl rfl rfl hap ?_)
              go_roundg (256 - (J + 1))
              case measure => omega
              case rel => exact ⟨v1, J + 1, rfl, by omega, rfl, by go_num, HO6, HB6⟩
            · obtain rfl : J = 256 := by omega
              obtain ⟨w5, rfl⟩ : ∃ w5 : World, w5 = wr := ⟨_, rfl⟩
              have HB5 : Hid (Below w.heap.size w w5) := Lib.hid (HB.out.trans (HBR.out.mono hs4))
              have H1 := Lib.hid (lnew_any V (rowF gfn 256) 256 w5 HO.out.rd (by omega))
              go_wp2_with fail
              refine H1.out.mono ?_
              rintro e w6 ⟨rfl, hb6⟩
              have HB6 : Hid (Below w.heap.size w w6) := Lib.hid (HB5.out.trans (hb6.mono HB5.out.size))
              have HO6 := Lib.hid (HO.out.below hb6)
              have H2 := Lib.hid (lnew_any V (rowF gfn 256) 257 w6 HO6.out.rd (by omega))
              have hs56 := hb6.size
              clear hb6 H1
              go_wp2_with fail
              refine H2.out.mono ?_
              rintro e w7 ⟨rfl, hb7⟩
              have HB7 : Hid (Below w.heap.size w w7) := Lib.hid (HB6.out.trans (hb7.mono HB6.out.size))
              have hs67 := hb7.size
              obtain ⟨v1, w8, hap, ho8, -, hb8, -⟩ := app_byte (W := w7) (⟨7, by omega⟩ : GF) (HO6.out.below hb7) (by rw [rowF_len]; omega) (by omega) (n := 7) rfl (ad := w7.heap.size) rfl
              have hs8 : w4.heap.size ≤ w7.heap.size := by omega
              have HB8 : Hid (Below w4.heap.size w7 w8) := Lib.hid hb8
              have HBW8 : Hid (Below w.heap.size w w8) := Lib.hid (HB7.out.trans (hb8.mono hs4))
              have H3 := Lib.hid (lnew_any v1 _ 3 w8 ho8.rd (by omega))
              have hap7 : (Builtin.append_ #[23, 23] 23 #[V, .slice (some ⟨w7.heap.size, 0, none⟩) 1 1]).run Tryz.prog (w7.alloc (.cells #[.int .u8 7] 5)) = .ok v1 w8 := hap
              clear hb7 hb8 ho8 H2 hap HO6
              go_wp2_with (first | (at_builtin; refine wpList_append_g (by kernel_rfl) _ _ _ rfl rfl rfl hap7 ?_) | fail)
              refine H3.out.mono ?_
              rintro e w9 ⟨rfl, hb9⟩
              have HB9 : Hid (Below w.heap.size w w9) := Lib.hid (HBW8.out.trans (hb9.mono HBW8.out.size))
              clear hb9 H3 hap7
              have H4 := Lib.hid (lnew_any _ _ 0 w9 (GRd.nil0 w9) (by omega))
              go_wp2_with fail
              refine H4.out.mono ?_
              rintro e w10 ⟨rfl, hb10⟩
              have HB10 : Hid (Below w.heap.size w w10) := Lib.hid (HB9.out.trans (hb10.mono HB9.out.size))
              clear hb10 H4
              have H5 := Lib.hid (lnew_any _ _ 1 w10 (GRd.nil0 w10) (by omega))
              go_wp2_with fail
              refine H5.out.mono ?_
              rintro e w11 ⟨rfl, hb11⟩
              have HB11 : Hid (Below w.heap.size w w11) := Lib.hid (HB10.out.trans (hb11.mono HB10.out.size))
              clear hb11 H5
              have H6 := Lib.hid (lnew_any (.slice (some ⟨w11.heap.size, 0, none⟩) 3 3) [⟨5, by omega⟩, ⟨6, by omega⟩, ⟨5, by omega⟩] 1 (w11.alloc (.cells #[.int .u8 5, .int .u8 6, .int .u8 5] 5)) (GRd.lit _ (by exact heap_newA _ _) rfl) (by omega))
              go_wp2_with fail
              refine H6.out.mono ?_
              rintro e w12 ⟨rfl, hb12⟩
              have HB12 : Hid (Below w.heap.size w w12) := Lib.hid ((HB11.out.alloc HB11.out.size _).trans (hb12.mono (by have := HB11.out.size; simp; omega)))
              clear hb12 H6
              have H7 := Lib.hid (lnew_any (.slice (some ⟨w12.heap.size, 0, none⟩) 1 1) [⟨5, by omega⟩] 0 (w12.alloc (.cells #[.int .u8 5] 5)) (GRd.lit _ (by exact heap_newA _ _) rfl) (by omega))
              go_wp2_with fail
              refine H7.out.mono ?_
              rintro e w13 ⟨rfl, hb13⟩
              have HB13 : Hid (Below w.heap.size w w13) := Lib.hid ((HB12.out.alloc HB12.out.size _).trans (hb13.mono (by have := HB12.out.size; simp; omega)))
              clear hb13 H7
              have H8 := Lib.hid (lnew_any (.slice (some ⟨w13.heap.size, 0, none⟩) 1 1) [⟨5, by omega⟩] (-1) (w13.alloc (.cells #[.int .u8 5] 5)) (GRd.lit _ (by exact heap_newA _ _) rfl) (by omega))
              go_wp2_with fail
              refine H8.out.mono ?_
              rintro e w14 ⟨rfl, hb14⟩
              have HBW : Hid (Below w.heap.size w w14) := Lib.hid ((HB13.out.alloc HB13.out.size _).trans (hb14.mono (by have := HB13.out.size; simp; omega)))
              clear hb14 H8
              go_wp2_with fail
              refine (HW.out _).mono ?_
              rintro e w20 ⟨rfl, hb20⟩
              have HB20 : Hid (Below w.heap.size w w20) := Lib.hid (HBW.out.trans (hb20.mono HBW.out.size))
              clear hb20
              go_wp2
              go_ret
              exact ⟨rfl, HB20.out⟩
end Go.Proofs.YtpkeglpigjaccaaGreat
