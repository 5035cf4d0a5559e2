/-
  The program's atomic.
-/
import Derived.Test.YtggecoekoilahaaIdSearch
import Derived.Laws.EntriesVeiled
namespace Go.Proofs.Ytggecoekoilahaa
open Go.RowKit
set_option linter.unusedSimpArgs false
set_option linter.unusedVariables false

theorem cost10 : ∀ k, k ≤ 10 → costB k k < maxLen := by unfold maxLen; decide
theorem all_bits (n k : Nat) (hn : n ≤ 10) (hk : k < n) : (2 ^ n - 1).testBit k = true := by
  rw [Nat.testBit_two_pow_sub_one]
  exact decide_eq_true hk

set_option maxRecDepth 100000 in
set_option maxHeartbeats 1000000 in
theorem atomic_any (v : Value) (l : List CM) (w : World) (h : RowRd w v (rcs l)) (hl : l.length ≤ 10) (hr : AllRd w l) (hk : ∀ m ∈ l, m.c.kd = 1 ∨ m.c.kd = 2 ∨ m.c.kd = 3) :
    Calls Try.prog 23 #[v] w fun e w' => e = .returned (.bool (goesM l.length l false [])) ∧ Below w.heap.size w w' := by
  obtain ⟨a, cap, rfl⟩ := h.form
  have H := Lib.hid h
  have HR := Lib.hid hr
  have HK := Lib.hid hk
  clear h hr hk
  have hll := rcs_length l
  rw [hll] at *
  clear hll
  have hmm := @run_makeMap Try.prog
  go_enter Try.func23, Try.ntmps23
  go_upto_region 4 with fail
  generalize hW : (((w.alloc (.cells #[.slice a l.length cap] 22)).alloc (.map #[] 0)).alloc (.cells #[.map (some (w.heap.size + 1))] 57)).alloc
    (.cells #[.func (.func 33) #[] #[.pointer (some ⟨w.heap.size + 1 + 1, 0, none⟩), .pointer (some ⟨w.heap.size, 0, none⟩), .pointer (some ⟨w.heap.size + 1 + 1 + 1, 0, none⟩)]] 58) = W
  have hB : Below w.heap.size w W := by rw [← hW]; exact ((((Below.refl _ _).alloc (Nat.le_refl _) _).alloc (by simp) _).alloc (by simp; omega) _).alloc (by simp; omega) _
  have hsc : Scene (w.heap.size + 1 + 1) w.heap.size (w.heap.size + 1 + 1 + 1) (w.heap.size + 1) a l.length cap W := by
    rw [← hW]
    refine ⟨?_, ?_, ?_, by omega, by omega, by omega⟩
    · exact keepA (by have := heap_newA ((w.alloc (.cells #[.slice a l.length cap] 22)).alloc (.map #[] 0)) (.cells #[.map (some (w.heap.size + 1))] 57); simpa using this) _
    · exact keepA (keepA (keepA (heap_newA w _) _) _) _
    · have := heap_newA (((w.alloc (.cells #[.slice a l.length cap] 22)).alloc (.map #[] 0)).alloc (.cells #[.map (some (w.heap.size + 1))] 57)) (.cells #[.func (.func 33) #[] #[.pointer (some ⟨w.heap.size + 1 + 1, 0, none⟩), .pointer (some ⟨w.heap.size, 0, none⟩), .pointer (some ⟨w.heap.size + 1 + 1 + 1, 0, none⟩)]] 58)
      simpa using this
  have hs : SeenIs W (w.heap.size + 1) 0 (fun _ _ => 0) := by
    rw [← hW]
    have := ((SeenIs.made (w.alloc (.cells #[.slice a l.length cap] 22))).alloc (.cells #[.map (some (w.heap.size + 1))] 57)).alloc (.cells #[.func (.func 33) #[] #[.pointer (some ⟨w.heap.size + 1 + 1, 0, none⟩), .pointer (some ⟨w.heap.size, 0, none⟩), .pointer (some ⟨w.heap.size + 1 + 1 + 1, 0, none⟩)]] 58)
    rwa [show (w.alloc (.cells #[.slice a l.length cap] 22)).heap.size = w.heap.size + 1 by simp] at this
  clear hW
  obtain ⟨T, hT⟩ : ∃ T : Nat, T = 2 ^ l.length - 1 := ⟨_, rfl⟩
  have hpow : 2 ^ l.length ≤ 2 ^ 10 := Nat.pow_le_pow_right (by decide) hl
  have hpos : 0 < 2 ^ l.length := Nat.pow_pos (by decide)
  have hTl : T < 1048576 := by omega
  have p1 : IntKind.u64.wrap ((2 : Int) ^ l.length) = (T : Int) + 1 := by
    have e : ((2 : Int) ^ l.length) = ((2 ^ l.length : Nat) : Int) := by simp
    rw [e]
    generalize 2 ^ l.length = x at *
    simp [IntKind.wrap, IntKind.bits, IntKind.signed]
    omega
  have p2 : IntKind.u64.wrap (T : Int) = (T : Int) := by simp [IntKind.wrap, IntKind.bits, IntKind.signed]; omega
  have hkd : ∀ k, k < l.length → (atC l k).c.kd = 1 ∨ (atC l k).c.kd = 2 ∨ (atC l k).c.kd = 3 := fun k hk => by
    rw [atC_of (List.getElem?_eq_getElem hk)]
    exact HK.out _ (List.getElem_mem hk)
  have hbits : ∀ k, k < l.length → T.testBit k = true := fun k hk => by rw [hT]; exact all_bits _ _ hl hk
  have hal := aliveB_all l T hbits
  have hpop : popB l T = l.length := by
    unfold popB bitsLeft
    rw [List.filter_eq_self.2 fun k hk => hbits k (by simpa using hk), List.length_range]
  have hF : Fixed l (w.heap.size + 1) l.length cap a w := ⟨by have h9 := H.out; rwa [rcs_length] at h9, HR.out, by omega, rfl, by omega, hkd⟩
  have HCALL := Lib.hid (search_any l (w.heap.size + 1 + 1) w.heap.size (w.heap.size + 1 + 1 + 1) (w.heap.size + 1) cap a w hF l.length T (-1) W.drew 0 (fun _ _ => 0) hpop (by omega) (by omega) (by omega) hB.drew ⟨hsc.s, hsc.l, hsc.f, hsc.ns, hsc.nl, hsc.nf⟩ hs (by have := cost10 l.length hl; omega) (fun x y _ h => absurd h (by show ¬ (0 : Int) < 0; omega)))
  have HAL := Lib.hid hal
  have HB := Lib.hid hB
  have cl : W.cell? ⟨w.heap.size, 0, none⟩ = some (.slice a l.length cap) := cell_of_row W w.heap.size 0 _ _ (0, 0) hsc.l
  have cf : W.cell? ⟨w.heap.size + 1 + 1 + 1, 0, none⟩ = some (.func (.func 33) #[] #[.pointer (some ⟨w.heap.size + 1 + 1, 0, none⟩), .pointer (some ⟨w.heap.size, 0, none⟩), .pointer (some ⟨w.heap.size + 1 + 1 + 1, 0, none⟩)]) := cell_of_row W (w.heap.size + 1 + 1 + 1) 0 _ _ (0, 0) hsc.f
  have hz := lt_of_heap hsc.f
  have hz1 := lt_of_heap hsc.l
  clear hB hsc hs hT hpow hpos hkd hbits hal hpop hF hmm
  have hn1 : w.heap.size + 1 + 1 + 1 ≠ w.heap.size + 1 := by omega
  have hn2 : w.heap.size ≠ w.heap.size + 1 := by omega
  have HBM : Hid (w.heap.size ≤ w.heap.size + 1) := Lib.hid (by omega)
  generalize w.heap.size + 1 + 1 + 1 = bf at *
  generalize w.heap.size + 1 + 1 = bs at *
  generalize w.heap.size + 1 = bm at *
  generalize hbl : w.heap.size = bl at *
  have HBL := Lib.hid hbl
  clear hbl
  obtain ⟨kp, hkp⟩ : ∃ kp : Nat → Bool, ∀ k, kp k = true ↔ (k < W.heap.size ∧ k ≠ bm) := ⟨fun k => decide (k < W.heap.size ∧ k ≠ bm), fun k => decide_eq_true_iff⟩
  have kbf : kp bf = true := (hkp _).2 ⟨hz, hn1⟩
  have kbl : kp bl = true := (hkp _).2 ⟨hz1, hn2⟩
  have HKP := Lib.hid hkp
  clear hkp
  have hgr := fun (w0 W : World) (p : Addr) (hp : (fun k => kp k = true) p.block) => graft_cell (w0 := w0) (keep := (fun k => kp k = true)) W hp
  refine wp_region_tree (fun k => kp k = true) [6] (.step 0 (.step 1 (.step 2 (.step 3 (.step 4 (.step 5 (.step 6 (.step 7 .done)))))))) (by kernel_rfl) (by kernel_rfl) ?_
  simp only [slimTr, slimStep, Oper.slim, List.contains_cons, List.contains_nil, Option.map_none, Option.map_some, List.getElem?_toArray, List.getElem?_cons_zero, List.getElem?_cons_succ, Option.bind_some, beq_self_eq_true, Bool.or_false, Nat.reduceBEq, Nat.reduceAdd, Nat.zero_add]
  repeat ((with_reducible refine wpSlimT_step (fun K hK => ?_)); go_simp; first | (refine hK _ _ ?_; clear hK K) | (refine ⟨by (intro kk hkk; first | (simp (disch := (simp; omega)) only [hp_drew, hp_drewN, hp_alloc, hp_set]; done) | (simp [hp_drew, hp_drewN, hp_alloc_if, hkk]; done) | fail), hK _ _ ?_⟩; clear hK K)| (go_at_call 33; (with_reducible refine HCALL.out.mono ?_); rintro e wc ⟨r, rfl, hg, hT, hF⟩; refine ⟨_, rfl, (fun kk hkk => hg.block kk ((HKP.out kk).1 hkk).1 (fun e => ((HKP.out kk).1 hkk).2 (Option.some.inj e))), hK _ _ ?_⟩; clear hK K))
  refine wpSlimT_done ?_
  clear hgr
  go_wp2
  go_ret
  refine ⟨?_, ?_⟩
  · cases r with
    | false => rw [← HAL.out, (hF (by trivial)).1]; rfl
    | true => rw [← HAL.out, hT (by trivial)]; rfl
  · have hB := HB.out
    rw [HBL.out]
    exact hB.grown (w := W) ⟨hg.os, hg.tape, hg.output, hg.size, hg.block⟩ (by have := hB.size; have := HBL.out; omega) (fun k hk => by cases hk; have := HBM.out; have := HBL.out; omega)
end Go.Proofs.Ytggecoekoilahaa
