/-
  The program's calls of a key: Clone, IndexFunc, DeleteFunc at calls.
-/
import Derived.Test.YtggecoekoilahaaIdAtomic
import Derived.Lib.SliceRun
namespace Go.Proofs.Ytggecoekoilahaa
open Go.RowKit
set_option linter.unusedSimpArgs false
set_option linter.unusedVariables false

theorem icall_info : (Try.prog.info? 30).map (fun i => (i.zero, i.size, i.bytes)) = some (some (.agg #[.int .i64 0, .int .u8 0, .string ⟨#[]⟩, .slice none 0 0, .int .i64 0, .int .i64 0, .int .i64 0, .slice none 0 0]), 8, 104) := by kernel_rfl

set_option maxHeartbeats 1000000 in
theorem clone_any (v : Value) (l : List RC) (w : World) (h : RowRd w v l) (hl : l.length ≤ 1000) :
    Calls Try.prog 25 #[v] w fun e w' => ∃ v', e = .returned v' ∧ w'.ownsRow w.heap.size 30 8 v' l.length (flat l) ∧ Below w.heap.size w w' := by
  obtain ⟨a, cap, rfl⟩ := h.form
  obtain ⟨i0, hi, hz0, hz1, hz2⟩ := info_parts icall_info
  have q := fun (w : World) (a : Option Addr) (n c n' c' : Nat) => Lib.run_eql_slice_nil (P := Try.prog) w 22 _ a n c n' c' Try.underlying22
  have hcap := h.cap_le
  cases a with
  | none =>
    obtain rfl : l = [] := by
      obtain ⟨a', cap', h1, h2, h3⟩ := h
      cases h1
      refine Classical.byContradiction fun hne => ?_
      obtain ⟨b, o, hb, _⟩ := h3 hne
      cases hb
    go_enter Try.func25, Try.ntmps25
    go_wp2
    go_ret
    exact ⟨_, rfl, World.ownsRow_nil _ _ _ _, Below.refl _ _⟩
  | some ad =>
    have hc : ∀ j u, (flat l)[j]? = some u → w.cell? (ad.add j) = some u := by
      by_cases hne : l = []
      · subst hne; intro j u hj; simp [flat] at hj
      · obtain ⟨a', cap', h1, h2, h3⟩ := id h
        cases h1
        obtain ⟨b, o, hb, _⟩ := h3 hne
        cases hb
        have := RowRd.part h 0 l.length (by omega)
        simpa using this
    have HC := Lib.hid hc
    clear hc h
    go_enter Try.func25, Try.ntmps25
    go_wp2_with (at_builtin; refine wpList_append_own _ rfl (.tmp 5) (.tmp 6) 22 rfl w.heap.size 30 i0 (.agg #[.int .i64 0, .int .u8 0, .string ⟨#[]⟩, .slice none 0 0, .int .i64 0, .int .i64 0, .int .i64 0, .slice none 0 0]) 8 104 Try.underlying22 hi hz0 hz1 hz2 rfl (by decide) _ _ _ rfl (World.ownsRow_made w #[] 0 (Nat.le_refl _) (by unfold maxLen; omega) (by simp)) ad l.length cap (flat l) rfl (flat_length l) (fun j u hj => Lib.cell?_alloc_some _ (HC.out j u hj)) (flat_one l) (by unfold maxLen; omega) (by omega) (by simp) ?_; intro v1 w3 hown1 hgrow1 _)
    go_ret
    refine ⟨_, rfl, by simpa using hown1, ?_⟩
    exact ((Below.refl _ _).alloc (Nat.le_refl _) _).grown hgrow1 (by simp) (fun k hk => by cases hk; exact Nat.le_refl _)

/-- Is a call one of the key's that count? -/
def RC.isOf (key : ByteArray) (c : RC) : Bool := (c.key.toList == key.toList) && c.counts

set_option maxHeartbeats 1000000 in
theorem of1_any (c : RC) (key : ByteArray) (kb : Nat) (W : World) (hc : W.cell? ⟨kb, 0, none⟩ = some (.string key)) (hk : kb < W.heap.size) :
    Calls Try.prog 37 #[c.val, .pointer (some ⟨kb, 0, none⟩)] W fun e w' => e = .returned (.bool (!c.isOf key)) ∧ Below W.heap.size W w' := by
  have HCNT := Lib.hid (fun w' => counts_any c w')
  obtain ⟨cn, hcn⟩ : ∃ x, x = c.counts := ⟨_, rfl⟩
  have e1 : (!c.isOf key) = (!(c.key.toList == key.toList) || !cn) := by unfold RC.isOf; rw [← hcn, Bool.not_and]
  rw [e1]
  rw [← hcn] at HCNT
  clear e1 hcn
  obtain ⟨cl, kd, ky, va, vl, vc, fr, to, co, ga, gl, gc⟩ := c
  simp only [RC.val] at HCNT ⊢
  go_enter Try.func37, Try.ntmps37
  go_upto_region 1 with fail
  refine wp_region_units (.step 0 (.step 1 (.step 2 (.step 3 (.step 4 (.unit 4 false (.step 5 (.step 6 (.step 7 .done))) 8 7 (.step 9 .done))))))) (by kernel_rfl) (by kernel_rfl) ?_
  simp only [mkUT, dstOf, bare, Oper.slim, List.contains_cons, List.contains_nil, Option.map_none, Option.map_some, List.getElem?_toArray, List.getElem?_cons_zero, List.getElem?_cons_succ, Option.bind_some, beq_self_eq_true, Bool.or_false, Nat.reduceBEq, Nat.reduceAdd, Nat.zero_add, Option.getD_some, Option.isSome_some, Option.isSome_none, Bool.false_and, Bool.true_and, Bool.false_eq_true, if_false, if_true, Option.some_beq_some, Option.some_beq_none, Option.none_beq_some, reduceCtorEq, ite_true, ite_false]
  repeat ((with_reducible refine wpUT_step (fun K hK => ?_)); go_simp; first | (refine hK _ _ ?_; clear hK K) | (refine ⟨by (intro kk hkk; first | exact hkk.elim | (simp (disch := (simp; omega)) only [hp_drew, hp_drewN, hp_alloc, hp_set]; done) | (simp [hp_drew, hp_drewN, hp_alloc_if, hkk]; done) | fail), hK _ _ ?_⟩; clear hK K)| (go_at_call 11; (with_reducible refine (HCNT.out _).mono ?_); rintro e wc ⟨rfl, hbc⟩; refine ⟨_, rfl, (fun kk hkk => hkk.elim), hK _ _ ?_⟩; clear hK K))
  refine wpUT_unit_below (x := ?_) (by rfl) ?_ ?_
  rotate_left
  · intro hgd
    repeat ((with_reducible refine wpUT_step (fun K hK => ?_)); go_simp; first | (refine hK _ _ ?_; clear hK K) | (refine ⟨by (intro kk hkk; first | exact hkk.elim | (simp (disch := (simp; omega)) only [hp_drew, hp_drewN, hp_alloc, hp_set]; done) | (simp [hp_drew, hp_drewN, hp_alloc_if, hkk]; done) | fail), hK _ _ ?_⟩; clear hK K)| (go_at_call 11; (with_reducible refine (HCNT.out _).mono ?_); rintro e wc ⟨rfl, hbc⟩; refine ⟨_, rfl, (fun kk hkk => hkk.elim), hK _ _ ?_⟩; clear hK K))
    exact wpUT_done ⟨by rfl, by (repeat' (first | (with_reducible exact RowKit.Below.refl _ _) | (with_reducible assumption) | (with_reducible refine RowKit.Below.drew ?_) | (with_reducible refine RowKit.Below.alloc ?_ ?_ _) | omega | (simp; done) | (simp; omega)))⟩
  intro js wu hbu
  simp only [UT.dsts, junk, SOp.dst, Option.toList_some, Option.toList_none, List.cons_append, List.nil_append, List.append_nil, cond_true, cond_false]
  repeat ((with_reducible refine wpUT_step (fun K hK => ?_)); go_simp; first | (refine hK _ _ ?_; clear hK K) | (refine ⟨by (intro kk hkk; first | exact hkk.elim | (simp (disch := (simp; omega)) only [hp_drew, hp_drewN, hp_alloc, hp_set]; done) | (simp [hp_drew, hp_drewN, hp_alloc_if, hkk]; done) | fail), hK _ _ ?_⟩; clear hK K)| (go_at_call 11; (with_reducible refine (HCNT.out _).mono ?_); rintro e wc ⟨rfl, hbc⟩; refine ⟨_, rfl, (fun kk hkk => hkk.elim), hK _ _ ?_⟩; clear hK K))
  refine wpUT_done ?_
  go_wp2
  go_ret
  exact ⟨rfl, ((Below.refl W.heap.size W).alloc (Nat.le_refl _) _).trans (hbu.mono (by simp))⟩

/-- What IndexFunc answers. -/
def IdxPost (l : List RC) (p : RC → Bool) (w : World) (e : Ending) (w' : World) : Prop :=
  ∃ r : Int, e = .returned (.int .i64 r) ∧ Below w.heap.size w w' ∧ ((r = -1 ∧ ∀ (i : Nat) c, l[i]? = some c → p c = false) ∨ ∃ I : Nat, r = I ∧ I < l.length ∧ (∀ (i : Nat) c, i < I → l[i]? = some c → p c = false) ∧ ∀ c, l[I]? = some c → p c = true)

set_option maxHeartbeats 1000000 in
theorem index_of (v : Value) (l : List RC) (p : RC → Bool) (kb : Nat) (w : World) (h : RowRd w v l) (hl : l.length ≤ 1000)
    (hp : ∀ (c : RC) (W : World), Below w.heap.size w W → Calls Try.prog 37 #[c.val, .pointer (some ⟨kb, 0, none⟩)] W fun e w' => e = .returned (.bool (p c)) ∧ Below W.heap.size W w') :
    Calls Try.prog 32 #[v, .func (.func 37) #[] #[.pointer (some ⟨kb, 0, none⟩)]] w (IdxPost l p w) := by
  obtain ⟨a, cap, rfl⟩ := h.form
  have H := Lib.hid h
  have HP := Lib.hid hp
  clear h hp
  go_enter Try.func32, Try.ntmps32
  go_wp2
  go_loopw [8] (fun i wr => ∃ I : Nat, I ≤ l.length ∧ i = .int .i64 I ∧ Below w.heap.size w wr ∧ Hid (∀ i c, i < I → l[i]? = some c → p c = false)) (fun i _ => l.length - (intOf i).toNat)
  case atStart => exact ⟨0, by omega, rfl, Below.refl _ _, Lib.hid (fun i c hi => by omega)⟩
  case round =>
    obtain ⟨I, hI, rfl, hB, hN⟩ := hrel
    by_cases hlt : I < l.length
    · obtain ⟨c, hc⟩ : ∃ c, l[I]? = some c := ⟨_, List.getElem?_eq_getElem hlt⟩
      obtain ⟨-, b, o, rfl, hb, c0, c1, c2, c3, c4, c5, c6, c7⟩ := RowRd.at (H.out.below hB) hc
      have HC := Lib.hid hc
      have HCALL := Lib.hid (HP.out c wr hB)
      clear hc
      obtain ⟨pc, hpc⟩ : ∃ x, x = p c := ⟨_, rfl⟩
      rw [← hpc] at HCALL
      have HPC := Lib.hid hpc
      clear hpc
      go_wp2_with (go_at_call 37; (with_reducible refine HCALL.out.mono ?_); rintro e wc ⟨rfl, hbc⟩; cases pc)
      all_goals have hB2 := hB.trans (hbc.mono hB.size)
      · have HN2 : Hid (∀ i c', i < I + 1 → l[i]? = some c' → p c' = false) := Lib.hid (fun i c' hi hc' => by
          by_cases e : i = I
          · subst e
            have : c' = c := by have := HC.out; rw [hc'] at this; exact Option.some.inj this
            subst this
            exact HPC.out.symm
          · exact hN.out i c' (by omega) hc')
        go_roundw
        case rel => exact ⟨I + 1, by omega, by go_num, hB2, HN2⟩
        case measure => simp [intOf]; omega
      · go_ret
        exact ⟨I, rfl, hB2, .inr ⟨I, rfl, hlt, hN.out, fun c' hc' => by
          have : c' = c := by have := HC.out; rw [hc'] at this; exact Option.some.inj this
          subst this
          exact HPC.out.symm⟩⟩
    · obtain rfl : I = l.length := by omega
      go_wp2
      go_ret
      exact ⟨-1, rfl, hB, .inl ⟨rfl, fun i c hc => hN.out i c (by rcases Nat.lt_or_ge i l.length with h | h; exact h; rw [List.getElem?_eq_none h] at hc; cases hc) hc⟩⟩
end Go.Proofs.Ytggecoekoilahaa
