/-
  The law WelchKnown.
-/
import Derived.Test.YteeeocianofkfaaGreatL8Dec
import Derived.Test.YteeeocianofkfaaGreatL8Far
import Derived.Test.YteeeocianofkfaaGreatL8Only
import Derived.Test.YteeeocianofkfaaGreatL8Mends
import Derived.WalkMore
import Derived.Lib.MinMax
import Derived.Deep.CutBlock
namespace Go.Proofs.YteeeocianofkfaaGreat
open Go.RowKit Fld
set_option linter.unusedVariables false
set_option linter.unusedSimpArgs false

/-- A law's answer. -/
abbrev Yes (B : Nat) (w0 : World) (e : Ending) (w' : World) : Prop := e = .returned (.bool true) ∧ Below B w0 w'
theorem mends_lit (k I A C : Nat) (hk : k < 256) (hI : I < 256) (hA : A < 256) (hC : C < 256) (W : World) :
    Calls Tryz.prog 8 #[.int .u8 8, .int .u8 k, .slice (some ⟨W.heap.size, 0, none⟩) 5 5, .int .u64 511, .slice (some ⟨W.heap.size + 1, 0, none⟩) 3 3, .slice (some ⟨W.heap.size + 1 + 1, 0, none⟩) 3 3]
      (((W.alloc (.cells #[.int .u8 7, .int .u8 1, .int .u8 9, .int .u8 200, .int .u8 3] 5)).alloc (.cells #[.int .u8 I, .int .u8 A, .int .u8 C] 5)).alloc (.cells #[.int .u8 0, .int .u8 77, .int .u8 I] 5)) (Yes W.heap.size W) := by
  have h1 : GRd (((W.alloc (.cells #[.int .u8 7, .int .u8 1, .int .u8 9, .int .u8 200, .int .u8 3] 5)).alloc (.cells #[.int .u8 I, .int .u8 A, .int .u8 C] 5)).alloc (.cells #[.int .u8 0, .int .u8 77, .int .u8 I] 5)) (.slice (some ⟨W.heap.size, 0, none⟩) 5 5) [⟨7, by omega⟩, ⟨1, by omega⟩, ⟨9, by omega⟩, ⟨200, by omega⟩, ⟨3, by omega⟩] :=
    GRd.lit _ (by exact keepA (keepA (heap_newA _ _) _) _) rfl
  have h2 : GRd (((W.alloc (.cells #[.int .u8 7, .int .u8 1, .int .u8 9, .int .u8 200, .int .u8 3] 5)).alloc (.cells #[.int .u8 I, .int .u8 A, .int .u8 C] 5)).alloc (.cells #[.int .u8 0, .int .u8 77, .int .u8 I] 5)) (.slice (some ⟨W.heap.size + 1, 0, none⟩) 3 3) [⟨I, hI⟩, ⟨A, hA⟩, ⟨C, hC⟩] :=
    GRd.lit _ (by exact keepA (heap_newE _ _ _ (by simp)) _) rfl
  have h3 : GRd (((W.alloc (.cells #[.int .u8 7, .int .u8 1, .int .u8 9, .int .u8 200, .int .u8 3] 5)).alloc (.cells #[.int .u8 I, .int .u8 A, .int .u8 C] 5)).alloc (.cells #[.int .u8 0, .int .u8 77, .int .u8 I] 5)) (.slice (some ⟨W.heap.size + 1 + 1, 0, none⟩) 3 3) [⟨0, by omega⟩, ⟨77, by omega⟩, ⟨I, hI⟩] :=
    GRd.lit _ (by exact heap_newE _ _ _ (by simp)) rfl
  refine (lmends_any 8 k _ _ _ _ _ _ 511 _ (by omega) hk h1 (by omega) h2 h3).mono ?_
  rintro e w' ⟨rfl, hb⟩
  exact ⟨rfl, ((((Below.refl _ _).alloc (Nat.le_refl _) _).alloc (by simp) _).alloc (by simp; omega) _).trans (hb.mono (by simp; omega))⟩
theorem mends_lit2 (k I D M : Nat) (hk : k < 256) (hI : I < 256) (hD : D < 256) (hM : M < 18446744073709551616) (W : World) :
    Calls Tryz.prog 8 #[.int .u8 I, .int .u8 k, .slice (some ⟨W.heap.size, 0, none⟩) 3 3, .int .u64 M, .slice (some ⟨W.heap.size + 1, 0, none⟩) 2 2, .slice (some ⟨W.heap.size + 1 + 1, 0, none⟩) 2 2]
      (((W.alloc (.cells #[.int .u8 0, .int .u8 0, .int .u8 5] 5)).alloc (.cells #[.int .u8 I, .int .u8 1] 5)).alloc (.cells #[.int .u8 I, .int .u8 D] 5)) (Yes W.heap.size W) := by
  have h1 : GRd (((W.alloc (.cells #[.int .u8 0, .int .u8 0, .int .u8 5] 5)).alloc (.cells #[.int .u8 I, .int .u8 1] 5)).alloc (.cells #[.int .u8 I, .int .u8 D] 5)) (.slice (some ⟨W.heap.size, 0, none⟩) 3 3) [⟨0, by omega⟩, ⟨0, by omega⟩, ⟨5, by omega⟩] :=
    GRd.lit _ (by exact keepA (keepA (heap_newA _ _) _) _) rfl
  have h2 : GRd (((W.alloc (.cells #[.int .u8 0, .int .u8 0, .int .u8 5] 5)).alloc (.cells #[.int .u8 I, .int .u8 1] 5)).alloc (.cells #[.int .u8 I, .int .u8 D] 5)) (.slice (some ⟨W.heap.size + 1, 0, none⟩) 2 2) [⟨I, hI⟩, ⟨1, by omega⟩] :=
    GRd.lit _ (by exact keepA (heap_newE _ _ _ (by simp)) _) rfl
  have h3 : GRd (((W.alloc (.cells #[.int .u8 0, .int .u8 0, .int .u8 5] 5)).alloc (.cells #[.int .u8 I, .int .u8 1] 5)).alloc (.cells #[.int .u8 I, .int .u8 D] 5)) (.slice (some ⟨W.heap.size + 1 + 1, 0, none⟩) 2 2) [⟨I, hI⟩, ⟨D, hD⟩] :=
    GRd.lit _ (by exact heap_newE _ _ _ (by simp)) rfl
  refine (lmends_any I k _ _ _ _ _ _ M _ hI hk h1 hM h2 h3).mono ?_
  rintro e w' ⟨rfl, hb⟩
  exact ⟨rfl, ((((Below.refl _ _).alloc (Nat.le_refl _) _).alloc (by simp) _).alloc (by simp; omega) _).trans (hb.mono (by simp; omega))⟩
theorem far_lit (W : World) :
    Calls Tryz.prog 3 #[.slice none 0 0, .slice (some ⟨W.heap.size, 0, none⟩) 1 1, .slice (some ⟨W.heap.size + 1, 0, none⟩) 2 2] ((W.alloc (.cells #[.int .u8 0] 5)).alloc (.cells #[.int .u8 1, .int .u8 2] 5)) (Yes W.heap.size W) := by
  have h1 : GRd ((W.alloc (.cells #[.int .u8 0] 5)).alloc (.cells #[.int .u8 1, .int .u8 2] 5)) (.slice (some ⟨W.heap.size, 0, none⟩) 1 1) [⟨0, by omega⟩] := GRd.lit _ (by exact keepA (heap_newA _ _) _) rfl
  have h2 : GRd ((W.alloc (.cells #[.int .u8 0] 5)).alloc (.cells #[.int .u8 1, .int .u8 2] 5)) (.slice (some ⟨W.heap.size + 1, 0, none⟩) 2 2) [⟨1, by omega⟩, ⟨2, by omega⟩] := GRd.lit _ (by exact heap_newE _ _ _ (by simp)) rfl
  refine (lfar_any _ _ _ _ _ _ _ (GRd.nil0 _) h1 h2).mono ?_
  rintro e w' ⟨rfl, hb⟩
  exact ⟨rfl, (((Below.refl _ _).alloc (Nat.le_refl _) _).alloc (by simp) _).trans (hb.mono (by simp; omega))⟩
set_option maxHeartbeats 1000000 in
theorem rdecode_nil (u v : Value) (w : World) : Calls Tryz.prog 19 #[.pointer none, u, v] w fun e w' => e = .returned (.tuple #[.slice none 0 0, .int .i64 1]) ∧ Below w.heap.size w w' := by
  go_enter Tryz.func19, Tryz.ntmps19
  go_wp2
  go_ret2
  refine ⟨rfl, ?_⟩
  first | exact Below.refl _ _ | exact (Below.refl _ _).alloc (Nat.le_refl _) _ | (repeat' (first | (with_reducible exact RowKit.Below.refl _ _) | (with_reducible assumption) | (with_reducible refine RowKit.Below.drew ?_) | (with_reducible refine RowKit.Below.alloc ?_ ?_ _) | omega | (simp; done) | (simp; omega)))
set_option maxHeartbeats 1000000 in
theorem wdecode_nil (u v t : Value) (w : World) : Calls Tryz.prog 15 #[.pointer none, u, v, t] w fun e w' => e = .returned (.tuple #[.slice none 0 0, .slice none 0 0, .int .i64 1]) ∧ Below w.heap.size w w' := by
  go_enter Tryz.func15, Tryz.ntmps15
  go_wp2
  go_step3
  go_wp2_with fail
  refine (rdecode_nil _ _ _).mono ?_
  rintro e w1 ⟨rfl, hb1⟩
  have HB1 := Lib.hid hb1
  clear hb1
  go_wp2
  rw [Exit.noGoto_ret]
  go_ret3
  exact ⟨rfl, HB1.out⟩
set_option maxHeartbeats 1000000 in
theorem wword_nil (u v t : Value) (w : World) : Calls Tryz.prog 28 #[.pointer none, u, v, t] w fun e w' => e = .returned (.tuple #[.slice none 0 0, .int .i64 1]) ∧ Below w.heap.size w w' := by
  go_enter Tryz.func28, Tryz.ntmps28
  go_wp2_with fail
  refine (wdecode_nil _ _ _ _).mono ?_
  rintro e w1 ⟨rfl, hb1⟩
  have HB1 := Lib.hid hb1
  clear hb1
  go_wp2
  go_ret2
  exact ⟨rfl, HB1.out⟩
def w8row : List Int := [0, 1, 2, 3, 4, 5, 6, 7, 8]
def w8sym (I : Nat) (h : I < 256) : List GF := [⟨6, by omega⟩, ⟨5, by omega⟩, ⟨3, by omega⟩, ⟨15, by omega⟩, ⟨1, by omega⟩, ⟨0, by omega⟩, ⟨0, by omega⟩, ⟨9, by omega⟩, ⟨I, h⟩]
theorem view_of_rd {w : World} {b : Nat} {t : TypeId} (l : List GF) (h : w.heap[b]? = some (.cells (gv l).toArray t (0, 0))) : View w b l.length (fun j => l.getD j 0) := by
  refine ⟨lt_of_heap h, fun j hj => ⟨?_, free_of_heap h j⟩⟩
  refine cell_of_heap h (j := j) ?_
  simp [gv, List.getD_eq_getElem?_getD, hj]
def w8ts : List Int := [-1, 0, 1, 2, 4611686018427387904, -9223372036854775808]
theorem w8ts_range : ∀ t ∈ w8ts, -9223372036854775808 ≤ t ∧ t ≤ 9223372036854775807 := by decide
set_option maxRecDepth 100000 in
set_option maxHeartbeats 16000000 in
theorem lknown8_any (w : World) : Calls Tryz.prog 9 #[] w (Yes w.heap.size w) := by
  have HW := Lib.hid (fun W => works_any W)
  go_enter Tryz.func9, Tryz.ntmps9
  go_wp2_with fail
  refine (wdecode_nil _ _ _ _).mono ?_
  rintro e w1 ⟨rfl, hb1⟩
  have HB1 := Lib.hid hb1
  clear hb1
  go_wp2_with fail
  refine (wword_nil _ _ _ _).mono ?_
  rintro e w2 ⟨rfl, hb2⟩
  have HB2 : Hid (Below w.heap.size w w2) := Lib.hid (HB1.out.trans (hb2.mono HB1.out.size))
  clear hb2 HB1
  go_wp2
  go_loopg [6] 9 (fun gk i wr => ∃ A : Nat, A ≤ 9 ∧ gk = 9 - A ∧ i = .int .u8 A ∧ Hid (Below w.heap.size w wr))
  case atStart => exact ⟨0, by omega, rfl, rfl, HB2⟩
  case round =>
    clear HB2
    obtain ⟨I, hI, rfl, rfl, HB⟩ := hrel
    by_cases hI9 : I < 9
    · have hId : decide ((I : Int) < 9) = true := decide_eq_true (by omega)
      have hIw : IntKind.u8.wrap ((I : Int) + 1) = (I : Int) + 1 := IntWalk.u8_in _ (by omega)
      go_wp2
      go_loopg [7] 5 (fun gk i wr => ∃ D : Nat, D ≤ 5 ∧ gk = 5 - D ∧ i = .int .u8 D ∧ Hid (Below w.heap.size w wr))
      case atStart => exact ⟨0, by omega, rfl, rfl, HB⟩
      case round =>
        clear HB
        obtain ⟨k, hk, rfl, rfl, HB⟩ := hrel
        by_cases hk5 : k < 5
        · have hkd : decide ((k : Int) < 5) = true := decide_eq_true (by omega)
          have hs := HB.out.size
          obtain ⟨A, hA⟩ : ∃ A, I * 2 = A := ⟨_, rfl⟩
          obtain ⟨C, hC⟩ : ∃ C, I + 3 = C := ⟨_, rfl⟩
          obtain ⟨D, hD⟩ : ∃ D, I * 7 = D := ⟨_, rfl⟩
          obtain ⟨r, hr⟩ : ∃ r, I % 3 = r := ⟨_, rfl⟩
          obtain ⟨M, hM⟩ : ∃ M, 511 / 2 ^ r = M := ⟨_, rfl⟩
          have a1 : (I : Int) * 2 = (A : Int) := by omega
          have a2 : (I : Int) + 3 = (C : Int) := by omega
          have a3 : (I : Int) * 7 = (D : Int) := by omega
          have a4 : (I : Int) % 3 = (r : Int) := by omega
          have a5 : (511 : Int) / 2 ^ r = (M : Int) := by rw [← hM]; rfl
          have b1 : IntKind.u8.wrap (A : Int) = (A : Int) := IntWalk.u8_in _ (by omega)
          have b2 : IntKind.u8.wrap (C : Int) = (C : Int) := IntWalk.u8_in _ (by omega)
          have b3 : IntKind.u8.wrap (D : Int) = (D : Int) := IntWalk.u8_in _ (by omega)
          have hM9 : M ≤ 511 := by rw [← hM]; exact Nat.div_le_self _ _
          have b5 : IntKind.u64.wrap (M : Int) = (M : Int) := by rw [IntKind.wrap_u64]; omega
          have HM1 := Lib.hid (fun W => mends_lit k I A C (by omega) (by omega) (by omega) (by omega) W)
          have HM2 := Lib.hid (fun W => mends_lit2 k I D M (by omega) (by omega) (by omega) (by omega) W)
          clear hM hM9
          go_wp2_with fail
          refine (HM1.out wr).mono ?_
          rintro e w5 ⟨rfl, hb5⟩
          have HB5 : Hid (Below w.heap.size w w5) := Lib.hid (HB.out.trans (hb5.mono hs))
          clear hb5
          go_wp2_with fail
          refine (HM2.out w5).mono ?_
          rintro e w6 ⟨rfl, hb6⟩
          have HB6 : Hid (Below w.heap.size w w6) := Lib.hid (HB5.out.trans (hb6.mono HB5.out.size))
          clear hb6 HB5 HM1 HM2 a1 a2 a3 a4 a5 b1 b2 b3 b5 hA hC hD hr
          obtain ⟨q, hq⟩ : ∃ q, I % 9 = q := ⟨_, rfl⟩
          obtain ⟨r4, hr4⟩ : ∃ r4, I % 4 = r4 := ⟨_, rfl⟩
          obtain ⟨r3, hr3⟩ : ∃ r3, k % 3 = r3 := ⟨_, rfl⟩
          obtain ⟨m, hm⟩ : ∃ m, min 6 I = m := ⟨_, rfl⟩
          have hI256 : I < 256 := by omega
          have e1 : (I : Int) % 9 = (q : Int) := by omega
          have e2 : (I : Int) % 4 = (r4 : Int) := by omega
          have e3 : (k : Int) % 3 = (r3 : Int) := by omega
          have f2 : Int.tmod (I : Int) 4 = (r4 : Int) := by rw [Int.tmod_eq_emod_of_nonneg (by omega), e2]
          have f3 : Int.tmod (k : Int) 3 = (r3 : Int) := by rw [Int.tmod_eq_emod_of_nonneg (by omega), e3]
          have e4 : min (6 : Int) (I : Int) = (m : Int) := by omega
          have e5 : IntKind.i64.wrap (I : Int) = (I : Int) := IntWalk.i64_in _ (by omega)
          have e6 : IntKind.i64.wrap (k : Int) = (k : Int) := IntWalk.i64_in _ (by omega)
          obtain ⟨km, hkm⟩ : ∃ km : Int, (k : Int) - 1 = km := ⟨_, rfl⟩
          have e7 : IntKind.i64.wrap km = km := IntWalk.i64_in _ (by omega)
          have i1 : (0 : Int) ≤ (q : Int) ∧ (q : Int) < 9 := by omega
          have hm6 : m ≤ 6 := by omega
          have hmi : m ≤ I := by omega
          have hkml : -1 ≤ km ∧ km ≤ 4 := by omega
          obtain ⟨w8, hw8⟩ : ∃ w8, w8 = (w6.alloc (.cells #[.int .i64 0, .int .i64 1, .int .i64 2, .int .i64 3, .int .i64 4, .int .i64 5, .int .i64 6, .int .i64 7, .int .i64 8] 3)).alloc (.cells #[.int .u8 6, .int .u8 5, .int .u8 3, .int .u8 15, .int .u8 1, .int .u8 0, .int .u8 0, .int .u8 9, .int .u8 I] 5) := ⟨_, rfl⟩
          have hp8 : IRd w8 (.slice (some ⟨w6.heap.size, 0, none⟩) 9 9) w8row := by rw [hw8]; exact IRd.lit w8row (by exact keepA (heap_newA _ _) _) rfl
          have hv8 : View w8 (w6.heap.size + 1) 9 (fun j => (w8sym I hI256).getD j 0) := by rw [hw8]; exact view_of_rd (w8sym I hI256) (by exact heap_newE _ _ _ (by simp))
          have hb8 : Below w6.heap.size w6 w8 := by rw [hw8]; exact ((Below.refl _ _).alloc (Nat.le_refl _) _).alloc (by simp) _
          obtain ⟨cq, fq⟩ := hv8.2 q (by omega)
          have gq := hv8.1
          obtain ⟨kg, hkg⟩ : ∃ kg : GF, kg.n = k := ⟨⟨k, by omega⟩, rfl⟩
          have hv9 := hv8.set (i := q) (by omega) kg
          rw [hkg] at hv9
          have hk9 : Kp [w6.heap.size + 1] w8 (w8.setCell ⟨w6.heap.size + 1, q, none⟩ (.int .u8 (k : Nat))) := (Kp.refl _ _).setCell (.inl (by simp)) _
          have hp9 := IRd.kp hp8 hk9 (fun c hc hm => by simp [Value.ownBlock] at hc hm; omega)
          have hb9 : Below w6.heap.size w6 (w8.setCell ⟨w6.heap.size + 1, q, none⟩ (.int .u8 (k : Nat))) := hb8.trans (hk9.below hb8.size (by simp))
          have HW8 := Lib.hid hw8
          have HV9 := Lib.hid hv9
          have HP9 := Lib.hid hp9
          have HB9 := Lib.hid hb9
          clear hw8 hv8 hb8 hv9 hk9 hp9 hb9 hkg hq hr4 hr3 hm hp8
          go_upto_region 15 with fail
          rw [← HW8.out]
          go_upto_region 16 with fail
          obtain ⟨wq, hwq⟩ : ∃ wq, wq = w8.setCell ⟨w6.heap.size + 1, q, none⟩ (.int .u8 (k : Nat)) := ⟨_, rfl⟩
          rw [← hwq] at HV9 HP9 HB9 ⊢
          clear hwq cq fq gq HW8
          have hyI : GRd wq (.slice (some ⟨w6.heap.size + 1, 0, none⟩) I 9) (rowF _ I) := View.rowF (N := I) (cap := 9) ⟨HV9.out.1, fun j hj => HV9.out.2 j (by omega)⟩ (by omega)
          have HYI := Lib.hid hyI
          have gI : (I : Int) ≤ 9 := by omega
          clear hyI
          obtain ⟨ql, hql⟩ : ∃ ql : List GF, ql.length = 9 ∧ GRd wq (.slice (some ⟨w6.heap.size + 1, 0, none⟩) 9 9) ql := ⟨_, rowF_len _ _, (HV9.out.rowF (Nat.le_refl _))⟩
          have HQL := Lib.hid hql
          have HBQ : Hid (Below w.heap.size w wq) := Lib.hid (HB6.out.trans (HB9.out.mono HB6.out.size))
          have hsq := HBQ.out.size
          have hpf6 := slice_frontZ w6.heap.size m 9 (by omega) (by omega)
          obtain ⟨sb, sd, hyf6, hyg6, -⟩ := slice_h (some ⟨w6.heap.size + 1, 0, none⟩) 9 9 m (by omega)
          have HON1 : Hid (∀ W : World, Below wq.heap.size wq W → Calls Tryz.prog 4 #[.int .u8 8, .int .u8 (k : Nat), .slice (some ⟨w6.heap.size, 0, none⟩) 9 9, .slice (some ⟨w6.heap.size + 1, 0, none⟩) 9 9, .int .u8 (r4 : Nat)] W (Yes W.heap.size W)) :=
            Lib.hid (fun W hb => lonly_any 8 k r4 _ _ _ _ W (by omega) (by omega) (by omega) (HP9.out.below hb) (HQL.out.2.below hb))
          have HON2 : Hid (∀ W : World, Below wq.heap.size wq W → Calls Tryz.prog 4 #[.int .u8 8, .int .u8 (k : Nat), .slice (some ⟨w6.heap.size, 0, none⟩) I 9, .slice (some ⟨w6.heap.size + 1, 0, none⟩) I 9, .int .u8 (r3 : Nat)] W (Yes W.heap.size W)) :=
            Lib.hid (fun W hb => lonly_any 8 k r3 _ _ _ _ W (by omega) (by omega) (by omega) ((IRd.front HP9.out (by simp [w8row]; omega) (by decide)).below hb) (HYI.out.below hb))
          have HDC : Hid (∀ W : World, Below wq.heap.size wq W → Calls Tryz.prog 7 #[.slice (some ⟨W.heap.size, 0, none⟩) 6 6, .int .i64 (k : Nat), .slice (some ⟨w6.heap.size, 0, none⟩) m 9, .slice sb m sd, .int .i64 km] (W.alloc (.cells #[.int .u8 1, .int .u8 2, .int .u8 4, .int .u8 8, .int .u8 16, .int .u8 32] 5)) (Yes W.heap.size W)) :=
            Lib.hid (fun W hb => by
              have hbl : Below W.heap.size W (W.alloc (.cells #[.int .u8 1, .int .u8 2, .int .u8 4, .int .u8 8, .int .u8 16, .int .u8 32] 5)) := (Below.refl _ _).alloc (Nat.le_refl _) _
              have hb2 := hb.trans (hbl.mono hb.size)
              refine (ldec_any _ _ _ [⟨1, by omega⟩, ⟨2, by omega⟩, ⟨4, by omega⟩, ⟨8, by omega⟩, ⟨16, by omega⟩, ⟨32, by omega⟩] _ _ _ _ _ (GRd.lit _ (by exact heap_newA _ _) rfl) ((IRd.front HP9.out (by simp [w8row]; omega) (by decide)).below hb2) ((hyg6 _ _ HQL.out.2 (by rw [HQL.out.1]; omega)).below hb2) (by omega) (by omega)).mono ?_
              rintro e w' ⟨rfl, hb'⟩
              exact ⟨rfl, hbl.trans (hb'.mono (by simp))⟩)
          clear HYI hyg6 hql HV9 HP9 HB9 HQL HB6 HB
          obtain ⟨kp, hkp⟩ : ∃ kp : Nat → Bool, ∀ j, kp j = true ↔ j < wq.heap.size := ⟨fun j => decide (j < wq.heap.size), by simp⟩
          have HKP := Lib.hid hkp
          clear hkp
          have hgr := fun (w0 W : World) (p : Addr) (hp : (fun j => kp j = true) p.block) => graft_cell (w0 := w0) (keep := (fun j => kp j = true)) W hp
          refine wp_region_tree (fun j => kp j = true) [5, 17, 21, 37] (.step 0 (.step 1 (.step 2 (.step 3 (.step 4 (.step 5 (.step 6 (.step 7 (.step 8 (.step 9 (.step 10 (.step 11 (.step 12 (.step 13 (.step 14 (.step 15 (.step 16 (.step 17 (.step 18 (.step 19 (.step 20 (.step 22 (.step 23 (.step 24 (.step 25 (.step 26 (.step 27 (.step 28 (.step 29 (.step 30 (.step 31 (.step 32 (.step 33 (.step 34 (.step 35 (.step 36 (.step 21 (.step 37 (.step 38 (.step 39 .done)))))))))))))))))))))))))))))))))))))))) (by kernel_rfl) (by kernel_rfl) ?_
          simp only [slimTr, slimStep, Oper.slim, List.contains_cons, List.contains_nil, Option.map_none, Option.map_some, List.getElem?_toArray, List.getElem?_cons_zero, List.getElem?_cons_succ, Option.bind_some, beq_self_eq_true, Bool.or_false, Nat.reduceBEq, Nat.reduceAdd, Nat.zero_add]
          repeat (first | (fail) | ((with_reducible refine wpSlimT_step (fun K hK => ?_)); go_simp; first | (refine hK _ _ ?_; clear hK K) | (refine ⟨by (intro kk hkk; first | (simp (disch := (simp; omega)) only [hp_drew, hp_drewN, hp_alloc, hp_set]; done) | (simp [hp_drew, hp_drewN, hp_alloc_if, hkk]; done) | (have hkk2 := (HKP.out kk).1 hkk; have hs11 := HB11.out.size; exact (hp_alloc _ _ _ (by omega)).trans (HB11.out.block kk hkk2))), hK _ _ ?_⟩; clear hK K)| (go_at_call 4; (with_reducible refine (HON1.out _ (by (repeat' (first | (with_reducible exact RowKit.Below.refl _ _) | (with_reducible assumption) | (with_reducible refine RowKit.Below.drew ?_) | (with_reducible refine RowKit.Below.alloc ?_ ?_ _) | omega | (simp; done) | (simp; omega))))).mono ?_); rintro e w10 ⟨rfl, hb10⟩; have hbq : Below wq.heap.size wq w10 := (by have hd : Below wq.heap.size wq wq.drew := (Below.refl _ _).drew; first | exact hb10 | exact hd.trans hb10); have HB10 := Lib.hid hbq; clear hb10 hbq; refine ⟨_, rfl, (fun kk hkk => HB10.out.block kk ((HKP.out kk).1 hkk)), hK _ _ ?_⟩; clear hK K) | (go_at_call 4; (with_reducible refine (HON2.out _ HB10.out).mono ?_); rintro e w11 ⟨rfl, hb11⟩; have hbq : Below wq.heap.size wq w11 := HB10.out.trans (hb11.mono HB10.out.size); have HB11 := Lib.hid hbq; clear hb11 hbq; refine ⟨_, rfl, (fun kk hkk => HB11.out.block kk ((HKP.out kk).1 hkk)), hK _ _ ?_⟩; clear hK K) | (go_at_call 7; (with_reducible refine (HDC.out _ HB11.out).mono ?_); rintro e w12 ⟨rfl, hb12⟩; have hbq : Below wq.heap.size wq w12 := HB11.out.trans (hb12.mono HB11.out.size); have HB12 := Lib.hid hbq; clear hb12 hbq; refine ⟨_, rfl, (fun kk hkk => HB12.out.block kk ((HKP.out kk).1 hkk)), hK _ _ ?_⟩; clear hK K)))
          with_reducible refine wpSlimT_done ?_
          all_goals clear hgr
          trace_state
          all_goals
            go_wp2
            go_roundg (5 - (k + 1))
            case measure => omega
            case rel => exact ⟨k + 1, by omega, rfl, by go_num, Lib.hid (HBQ.out.trans (HB12.out.mono HBQ.out.size))⟩
        · have hk5' : ¬ (k : Int) < 5 := by omega
          go_wp2
          go_roundg (9 - (I + 1))
          case measure => omega
          case rel => exact ⟨I + 1, by omega, rfl, by go_num, HB⟩
    · have hI9' : ¬ (I : Int) < 9 := by omega
      obtain ⟨wp, rfl⟩ : ∃ wp : World, wp = wr := ⟨_, rfl⟩
      clear hI9' hI
      obtain ⟨wx, hwx⟩ : ∃ wx, wx = (wp.alloc (.cells #[.int .u8 1, .int .u8 2, .int .u8 4, .int .u8 8] 5)).alloc (.cells #[.int .i64 (-1), .int .i64 0, .int .i64 1, .int .i64 2, .int .i64 4611686018427387904, .int .i64 (-9223372036854775808)] 3) := ⟨_, rfl⟩
      have HX : Hid (GRd wx (.slice (some ⟨wp.heap.size, 0, none⟩) 4 4) [⟨1, by omega⟩, ⟨2, by omega⟩, ⟨4, by omega⟩, ⟨8, by omega⟩]) := Lib.hid (by rw [hwx]; exact GRd.lit _ (by exact keepA (heap_newA _ _) _) rfl)
      have HT : Hid (IRd wx (.slice (some ⟨wp.heap.size + 1, 0, none⟩) 6 6) w8ts) := Lib.hid (by rw [hwx]; exact IRd.lit w8ts (by exact heap_newE _ _ _ (by simp)) rfl)
      have HBX : Hid (Below w.heap.size w wx) := Lib.hid (HB.out.trans (by rw [hwx]; exact (show Below wp.heap.size wp _ from ((Below.refl _ _).alloc (Nat.le_refl _) _).alloc (by simp) _).mono HB.out.size))
      have HWX := Lib.hid hwx
      have hgx : wp.heap.size + 1 < wx.heap.size := by rw [hwx]; simp
      clear hwx HB
      go_wp2
      rw [← HWX.out]
      clear HWX
      go_loopg [115] 6 (fun gk i wr => ∃ J : Nat, J ≤ 6 ∧ gk = 6 - J ∧ i = .int .i64 J ∧ Hid (Below wx.heap.size wx wr))
      case atStart => exact ⟨0, by omega, rfl, rfl, Lib.hid (Below.refl _ _)⟩
      case round =>
        obtain ⟨J, hJ, rfl, rfl, HBR⟩ := hrel
        by_cases hJ6 : J < 6
        · obtain ⟨t, ht, htr⟩ : ∃ t, w8ts[J]? = some t ∧ (-9223372036854775808 ≤ t ∧ t ≤ 9223372036854775807) := ⟨_, List.getElem?_eq_getElem (by simpa [w8ts] using hJ6), w8ts_range _ (List.getElem_mem _)⟩
          have c0 : wr.cell? ⟨wp.heap.size + 1, J, none⟩ = some (.int .i64 t) := by simpa using IRd.cells (HT.out.below HBR.out) J t ht
          have hsr := HBR.out.size
          have HTR := Lib.hid htr
          clear ht htr
          have hJd : decide ((J : Int) < 6) = true := decide_eq_true (by omega)
          have i1 : (0 : Int) ≤ (J : Int) ∧ (J : Int) < 6 := by omega
          have HL1 : Hid (∀ W : World, Below wx.heap.size wx W → Calls Tryz.prog 7 #[.slice (some ⟨wp.heap.size, 0, none⟩) 4 4, .int .i64 2, .slice (some ⟨W.heap.size, 0, none⟩) 4 4, .slice (some ⟨W.heap.size + 1, 0, none⟩) 4 4, .int .i64 t] ((W.alloc (.cells #[.int .i64 3, .int .i64 1, .int .i64 0, .int .i64 2] 3)).alloc (.cells #[.int .u8 15, .int .u8 5, .int .u8 6, .int .u8 3] 5)) (Yes wx.heap.size wx)) :=
            Lib.hid (fun W hb => by
              have hbl : Below W.heap.size W ((W.alloc (.cells #[.int .i64 3, .int .i64 1, .int .i64 0, .int .i64 2] 3)).alloc (.cells #[.int .u8 15, .int .u8 5, .int .u8 6, .int .u8 3] 5)) := ((Below.refl _ _).alloc (Nat.le_refl _) _).alloc (by simp) _
              have hb2 := hb.trans (hbl.mono hb.size)
              refine (ldec_any _ _ _ _ [⟨15, by omega⟩, ⟨5, by omega⟩, ⟨6, by omega⟩, ⟨3, by omega⟩] [3, 1, 0, 2] _ _ _ (HX.out.below hb2) (IRd.lit _ (by exact keepA (heap_newA _ _) _) rfl) (GRd.lit _ (by exact heap_newE _ _ _ (by simp)) rfl) (by omega) HTR.out).mono ?_
              rintro e w' ⟨rfl, hb'⟩
              exact ⟨rfl, hb2.trans (hb'.mono hb2.size)⟩)
          have HL2 : Hid (∀ W : World, Below wx.heap.size wx W → Calls Tryz.prog 7 #[.slice (some ⟨wp.heap.size, 0, none⟩) 4 4, .int .i64 2, .slice (some ⟨W.heap.size, 0, none⟩) 3 3, .slice (some ⟨W.heap.size + 1, 0, none⟩) 3 3, .int .i64 t] ((W.alloc (.cells #[.int .i64 3, .int .i64 1, .int .i64 1] 3)).alloc (.cells #[.int .u8 15, .int .u8 5, .int .u8 6] 5)) (Yes wx.heap.size wx)) :=
            Lib.hid (fun W hb => by
              have hbl : Below W.heap.size W ((W.alloc (.cells #[.int .i64 3, .int .i64 1, .int .i64 1] 3)).alloc (.cells #[.int .u8 15, .int .u8 5, .int .u8 6] 5)) := ((Below.refl _ _).alloc (Nat.le_refl _) _).alloc (by simp) _
              have hb2 := hb.trans (hbl.mono hb.size)
              refine (ldec_any _ _ _ _ [⟨15, by omega⟩, ⟨5, by omega⟩, ⟨6, by omega⟩] [3, 1, 1] _ _ _ (HX.out.below hb2) (IRd.lit _ (by exact keepA (heap_newA _ _) _) rfl) (GRd.lit _ (by exact heap_newE _ _ _ (by simp)) rfl) (by omega) HTR.out).mono ?_
              rintro e w' ⟨rfl, hb'⟩
              exact ⟨rfl, hb2.trans (hb'.mono hb2.size)⟩)
          have HL3 : Hid (∀ W : World, Below wx.heap.size wx W → Calls Tryz.prog 7 #[.slice (some ⟨wp.heap.size, 0, none⟩) 4 4, .int .i64 4, .slice (some ⟨W.heap.size, 0, none⟩) 4 4, .slice (some ⟨W.heap.size + 1, 0, none⟩) 4 4, .int .i64 t] ((W.alloc (.cells #[.int .i64 3, .int .i64 1, .int .i64 0, .int .i64 2] 3)).alloc (.cells #[.int .u8 15, .int .u8 5, .int .u8 6, .int .u8 3] 5)) (Yes wx.heap.size wx)) :=
            Lib.hid (fun W hb => by
              have hbl : Below W.heap.size W ((W.alloc (.cells #[.int .i64 3, .int .i64 1, .int .i64 0, .int .i64 2] 3)).alloc (.cells #[.int .u8 15, .int .u8 5, .int .u8 6, .int .u8 3] 5)) := ((Below.refl _ _).alloc (Nat.le_refl _) _).alloc (by simp) _
              have hb2 := hb.trans (hbl.mono hb.size)
              refine (ldec_any _ _ _ _ [⟨15, by omega⟩, ⟨5, by omega⟩, ⟨6, by omega⟩, ⟨3, by omega⟩] [3, 1, 0, 2] _ _ _ (HX.out.below hb2) (IRd.lit _ (by exact keepA (heap_newA _ _) _) rfl) (GRd.lit _ (by exact heap_newE _ _ _ (by simp)) rfl) (by omega) HTR.out).mono ?_
              rintro e w' ⟨rfl, hb'⟩
              exact ⟨rfl, hb2.trans (hb'.mono hb2.size)⟩)
          have HL4 : Hid (∀ W : World, Below wx.heap.size wx W → Calls Tryz.prog 7 #[.slice (some ⟨wp.heap.size, 0, none⟩) 4 4, .int .i64 2, .slice none 0 0, .slice none 0 0, .int .i64 t] W (Yes wx.heap.size wx)) :=
            Lib.hid (fun W hb => by
              refine (ldec_any _ _ _ _ [] [] _ _ _ (HX.out.below hb) (OwnZ.nil _ 0).rd (GRd.nil0 _) (by omega) HTR.out).mono ?_
              rintro e w' ⟨rfl, hb'⟩
              exact ⟨rfl, hb.trans (hb'.mono hb.size)⟩)
          have HL5 : Hid (∀ W : World, Below wx.heap.size wx W → Calls Tryz.prog 7 #[.slice (some ⟨wp.heap.size, 0, none⟩) 4 4, .int .i64 2, .slice (some ⟨W.heap.size, 0, none⟩) 1 1, .slice none 0 0, .int .i64 t] (W.alloc (.cells #[.int .i64 0] 3)) (Yes wx.heap.size wx)) :=
            Lib.hid (fun W hb => by
              have hbl : Below W.heap.size W (W.alloc (.cells #[.int .i64 0] 3)) := (Below.refl _ _).alloc (Nat.le_refl _) _
              have hb2 := hb.trans (hbl.mono hb.size)
              refine (ldec_any _ _ _ _ [] [0] _ _ _ (HX.out.below hb2) (IRd.lit _ (by exact heap_newA _ _) rfl) (GRd.nil0 _) (by omega) HTR.out).mono ?_
              rintro e w' ⟨rfl, hb'⟩
              exact ⟨rfl, hb2.trans (hb'.mono hb2.size)⟩)
          go_wp2_with fail
          refine (HL1.out _ HBR.out).mono ?_
          rintro e y1 ⟨rfl, hb1⟩
          have HY1 := Lib.hid hb1
          clear hb1
          go_wp2_with fail
          refine (HL2.out _ HY1.out).mono ?_
          rintro e y2 ⟨rfl, hb2⟩
          have HY2 := Lib.hid hb2
          clear hb2
          go_wp2_with fail
          refine (HL3.out _ HY2.out).mono ?_
          rintro e y3 ⟨rfl, hb3⟩
          have HY3 := Lib.hid hb3
          clear hb3
          go_wp2_with fail
          refine (HL4.out _ HY3.out).mono ?_
          rintro e y4 ⟨rfl, hb4⟩
          have HY4 := Lib.hid hb4
          clear hb4
          go_wp2_with fail
          refine (HL5.out _ HY4.out).mono ?_
          rintro e y5 ⟨rfl, hb5⟩
          have HY5 := Lib.hid hb5
          clear hb5
          go_wp2
          go_roundg (6 - (J + 1))
          case measure => omega
          case rel => exact ⟨J + 1, by omega, rfl, by go_num, HY5⟩
        · have hJ6' : ¬ (J : Int) < 6 := by omega
          have HBW : Hid (Below w.heap.size w wr) := Lib.hid (HBX.out.trans (HBR.out.mono HBX.out.size))
          have HF := Lib.hid (far_lit wr)
          go_wp2_with fail
          refine HF.out.mono ?_
          rintro e w19 ⟨rfl, hb19⟩
          have HB19 : Hid (Below w.heap.size w w19) := Lib.hid (HBW.out.trans (hb19.mono HBW.out.size))
          clear hb19
          go_wp2_with fail
          refine (HW.out _).mono ?_
          rintro e w20 ⟨rfl, hb20⟩
          have HB20 : Hid (Below w.heap.size w w20) := Lib.hid (HB19.out.trans (hb20.mono HB19.out.size))
          clear hb20
          go_wp2
          go_ret
          exact ⟨rfl, HB20.out⟩
end Go.Proofs.YteeeocianofkfaaGreat
