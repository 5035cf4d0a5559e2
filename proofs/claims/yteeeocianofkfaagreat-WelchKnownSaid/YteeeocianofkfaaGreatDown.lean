/-
  The iterator 'down' of polynomials: it reads a row that the rounds write.
-/
import Derived.Test.YteeeocianofkfaaGreatRange4
import Derived.Test.YteeeocianofkfaaGreatAts
import Derived.Test.YteeeocianofkfaaGreatPol2
namespace Go.Proofs.YteeeocianofkfaaGreat
open Go.RowKit Fld Go.Shelf
set_option linter.unusedVariables false
set_option linter.unusedSimpArgs false
attribute [local go_sem] Oper.semAt_some

/-- What is told, round by round: each number with what stands there then. -/
def dseq (stp : Nat → GF → (Nat → GF) → (Nat → GF)) (n0 cnt : Nat) : ∀ j, j ≤ cnt → (Nat → GF) → List (Fin cnt × GF)
  | 0, _, _ => []
  | j + 1, h, g => (⟨j, h⟩, g (n0 + j)) :: dseq stp n0 cnt j (Nat.le_of_succ_le h) (stp j (g (n0 + j)) g)
theorem dseq_len (stp : Nat → GF → (Nat → GF) → (Nat → GF)) (n0 cnt : Nat) : ∀ j h g, (dseq stp n0 cnt j h g).length = j
  | 0, _, _ => rfl
  | j + 1, h, g => by rw [dseq, List.length_cons, dseq_len stp n0 cnt j]
def dEnc (n0 cnt : Nat) (x : Fin cnt × GF) : Array Value := #[.int .i64 ((n0 + x.1.val : Nat) : Int), .int .u8 ((x.2.n : Nat) : Int)]
/-- What a round does with the row. -/
def RD (T : List Nat) (rb N cnt : Nat) (stp : Nat → GF → (Nat → GF) → (Nat → GF)) (x : Fin cnt × GF) (W W' : World) : Prop :=
  W.heap.size ≤ W'.heap.size ∧ KS T W W' ∧ ∀ g, View W rb N g → View W' rb N (stp x.1.val x.2 g)
set_option maxHeartbeats 1000000 in
theorem down_any (sa : Option Addr) (sn sc : Nat) (fr to_ : Int) (w : World) :
    Calls Tryz.prog 74 #[.slice sa sn sc, .int .i64 fr, .int .i64 to_] w fun e w' => e = .returned (.func (.func 101) #[] #[.pointer (some ⟨w.heap.size + 1, 0, none⟩), .pointer (some ⟨w.heap.size + 1 + 1, 0, none⟩), .pointer (some ⟨w.heap.size, 0, none⟩)]) ∧
      Below w.heap.size w w' ∧ w'.heap[w.heap.size]? = some (.cells #[.slice sa sn sc] 22 (0, 0)) ∧ w'.heap[w.heap.size + 1]? = some (.cells #[.int .i64 fr] 3 (0, 0)) ∧ w'.heap[w.heap.size + 1 + 1]? = some (.cells #[.int .i64 to_] 3 (0, 0)) := by
  have hmf : ∀ (fn : Fn) (first cap : Array Value) (w : World), (Instr.makeFunc fn first cap).run Tryz.prog w = .ok (.func fn first cap) w := fun _ _ _ _ => rfl
  go_enter Tryz.func74, Tryz.ntmps74
  go_wp2
  go_ret
  refine ⟨rfl, by (repeat' (first | (with_reducible exact RowKit.Below.refl _ _) | (with_reducible assumption) | (with_reducible refine RowKit.Below.drew ?_) | (with_reducible refine RowKit.Below.alloc ?_ ?_ _) | omega | (simp; done) | (simp; omega))), ?_, ?_, ?_⟩
  · exact keepA (keepA (heap_newA _ _) _) _
  · exact keepA (heap_newE _ _ _ (by simp)) _
  · exact heap_newE _ _ _ (by simp)
set_option maxRecDepth 100000 in
set_option maxHeartbeats 2000000 in
theorem down1_seq (Bf Bt Ba rb N capr n0 cnt : Nat) (ra : Option Addr) (fr : Int) (g0 : Nat → GF) (stp : Nat → GF → (Nat → GF) → (Nat → GF)) (w0 : World)
    (hf : w0.heap[Bf]? = some (.cells #[.int .i64 fr] 3 (0, 0))) (ht : w0.heap[Bt]? = some (.cells #[.int .i64 n0] 3 (0, 0))) (ha : w0.heap[Ba]? = some (.cells #[.slice ra N capr] 22 (0, 0))) (hra : 0 < N → ra = some ⟨rb, 0, none⟩)
    (hv : View w0 rb N g0) (hfr : fr = (n0 : Int) + cnt - 1 ∨ cnt = 0 ∧ fr < (n0 : Int)) (hN : cnt = 0 ∨ n0 + cnt ≤ N) (hb : -1 ≤ fr ∧ N ≤ 1000000000 ∧ n0 ≤ 1000000000) :
    SeqR Tryz.prog 101 #[.pointer (some ⟨Bf, 0, none⟩), .pointer (some ⟨Bt, 0, none⟩), .pointer (some ⟨Ba, 0, none⟩)] (dEnc n0 cnt) (RD [Bf, Bt, Ba] rb N cnt stp) (fun xs => xs = dseq stp n0 cnt cnt (Nat.le_refl _) g0) cnt w0 := by
  intro lv J W hW hJ hY h0
  have HBf : Hid (W.heap[Bf]? = some (.cells #[.int .i64 fr] 3 (0, 0))) := Lib.hid (keepB hW hf)
  have HBt : Hid (W.heap[Bt]? = some (.cells #[.int .i64 n0] 3 (0, 0))) := Lib.hid (keepB hW ht)
  have HBa : Hid (W.heap[Ba]? = some (.cells #[.slice ra N capr] 22 (0, 0))) := Lib.hid (keepB hW ha)
  have HV := Lib.hid (hv.below hW)
  refine callsIn_of_wp Tryz.func101 rfl trivial ?_ rfl
  simp only [Tryz.ntmps101, List.size_toArray, List.length_cons, List.length_nil, Nat.reduceAdd, Nat.reduceSub, Array.replicate_succ, Array.replicate_zero, List.push_toArray, List.append_toArray, List.nil_append, List.cons_append]
  have cf : W.cell? ⟨Bf, 0, none⟩ = some (.int .i64 fr) := cell_of_row _ _ _ _ _ (0, 0) HBf.out
  have HJ0 := Lib.hid h0
  have HYY := Lib.hid hY
  have HRA := Lib.hid hra
  clear hf ht ha hv hW h0 hJ hY hra
  gi_wp2
  gi_loopw [5] (fun i wr => ∃ (j : Nat) (iv : Int) (g : Nat → GF) (pre : List (Fin cnt × GF)) (hjc : j ≤ cnt), i = .int .i64 iv ∧ (iv = (n0 : Int) + j - 1 ∨ j = 0 ∧ iv < (n0 : Int)) ∧ -1 ≤ iv ∧ iv ≤ 2000000000 ∧ Hid (J pre wr) ∧ Hid (pre ++ dseq stp n0 cnt j hjc g = dseq stp n0 cnt cnt (Nat.le_refl _) g0) ∧ Hid (View wr rb N g) ∧
      Hid (wr.heap[Bt]? = some (.cells #[.int .i64 n0] 3 (0, 0))) ∧ Hid (wr.heap[Ba]? = some (.cells #[.slice ra N capr] 22 (0, 0))))
    (fun i _ => (intOf i + 1).toNat)
  case atStart => exact ⟨cnt, fr, g0, [], Nat.le_refl _, rfl, hfr, hb.1, by omega, HJ0, Lib.hid rfl, HV, HBt, HBa⟩
  case round =>
    obtain ⟨j, iv, g, pre, hj, rfl, hiv, hi1, hi2, HJ, HPRE, HVx, HBt, HBa⟩ := hrel
    have ct : wr.cell? ⟨Bt, 0, none⟩ = some (.int .i64 n0) := cell_of_row _ _ _ _ _ (0, 0) HBt.out
    have ca : wr.cell? ⟨Ba, 0, none⟩ = some (.slice ra N capr) := cell_of_row _ _ _ _ _ (0, 0) HBa.out
    clear cf
    by_cases hge : (n0 : Int) ≤ iv
    · obtain ⟨k, rfl⟩ : ∃ k, j = k + 1 := ⟨j - 1, by omega⟩
      obtain ⟨I, hI⟩ : ∃ I, I = n0 + k := ⟨_, rfl⟩
      have hivI : iv = (I : Int) := by omega
      subst hivI
      have hIN : I < N := by omega
      have hra := HRA.out (by omega)
      rw [hra] at ca
      have c1 := (HVx.out.2 I hIN).1
      have hpl : pre.length < cnt := by
        have := congrArg List.length HPRE.out
        rw [List.length_append, dseq_len, dseq_len] at this
        omega
      obtain ⟨fn, tmps, assign, body, hy, hR5⟩ := HYY.out pre (⟨k, hj⟩, g I) wr HJ.out hpl
      have HR5 := Lib.hid hR5
      simp only [dEnc, ← hI] at hy
      obtain ⟨y, hyy⟩ : ∃ y, (g I).n = y := ⟨_, rfl⟩
      rw [hyy] at c1 hy
      have e3 : IntKind.i64.wrap ((I : Int) - 1) = (I : Int) - 1 := IntWalk.i64_in _ (by omega)
      have e4 : (0 : Int) ≤ (I : Int) ∧ (I : Int) < (N : Int) := by omega
      have HI := Lib.hid hI
      clear hR5 hyy hI hra
      gi_wp2
      refine HR5.out.mono ?_
      rintro e W3 ⟨rfl, hJ3, hs3, hk3, hv3⟩
      have HB3t : Hid (W3.heap[Bt]? = some (.cells #[.int .i64 n0] 3 (0, 0))) := Lib.hid ((hk3 Bt (by simp)).trans HBt.out)
      have HB3a : Hid (W3.heap[Ba]? = some (.cells #[.slice ra N capr] 22 (0, 0))) := Lib.hid ((hk3 Ba (by simp)).trans HBa.out)
      have HV3 := Lib.hid (hv3 g HVx.out)
      have HP3 : Hid ((pre ++ [(⟨k, hj⟩, g I)]) ++ dseq stp n0 cnt k (Nat.le_of_succ_le hj) (stp k (g I) g) = dseq stp n0 cnt cnt (Nat.le_refl _) g0) := Lib.hid (by
        rw [← HPRE.out, dseq, HI.out]
        simp)
      have HJ3 := Lib.hid hJ3
      clear hJ3 hk3 hv3 hs3
      gi_wp2
      go_roundw
      case rel => exact ⟨k, (I : Int) - 1, stp k (g I) g, pre ++ [(⟨k, hj⟩, g I)], Nat.le_of_succ_le hj, rfl, by have := HI.out; omega, by omega, by omega, HJ3, HP3, HV3, HB3t, HB3a⟩
      case measure => simp [intOf] <;> omega
    · have hj0 : j = 0 := by omega
      subst hj0
      gi_wp2
      go_end0
      have hJF : J (dseq stp n0 cnt cnt (Nat.le_refl _) g0) wr := by
        have := HJ.out
        rw [← HPRE.out, dseq, List.append_nil]
        exact this
      first
        | exact hJF
        | exact ⟨⟨_, rfl⟩, _, rfl, hJF⟩
        | exact ⟨⟨_, rfl⟩, hJF⟩
end Go.Proofs.YteeeocianofkfaaGreat
