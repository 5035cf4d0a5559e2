/-
  Tell, Total, New of both tallies.
-/
import Derived.Test.YtjlehnmcfimnfaaLiOps
import Derived.Deep.LoopGhost
import Derived.StillTailTactics
namespace Go.Proofs.Ytjlehnmcfimnfaa
open Go.RowKit
set_option linter.unusedSimpArgs false
set_option linter.unusedVariables false

/-- Where a row first meets a test. -/
def IdxI (l : List Int) (p : Int → Bool) (w : World) (e : Ending) (w' : World) : Prop := ∃ r : Int, e = .returned (.int .i64 r) ∧ w = w' ∧ ((r = -1 ∧ ∀ x ∈ l, p x = false) ∨ ∃ I : Nat, r = I ∧ I < l.length ∧ (∀ i x, i < I → l[i]? = some x → p x = false) ∧ ∀ x, l[I]? = some x → p x = true)
set_option maxHeartbeats 1000000 in
theorem index_tell (v : Value) (l : List Int) (p : Int → Bool) (kb : Nat) (w : World) (h : IRd w v l) (hl : l.length ≤ 1000000000)
    (hp : ∀ (x : Int), Calls Try.prog 26 #[.int .i64 x, .pointer (some ⟨kb, 0, none⟩)] w fun e w' => e = .returned (.bool (p x)) ∧ w = w') :
    Calls Try.prog 31 #[v, .func (.func 26) #[] #[.pointer (some ⟨kb, 0, none⟩)]] w (IdxI l p w) := by
  obtain ⟨a, cap, rfl⟩ := h.form
  have H := Lib.hid h
  have HP := Lib.hid hp
  clear h hp
  go_enter Try.func31, Try.ntmps31
  go_wp2
  go_loop [8] (fun i => ∃ I : Nat, I ≤ l.length ∧ i = .int .i64 I ∧ Hid (∀ i x, i < I → l[i]? = some x → p x = false)) (fun i => l.length - (intOf i).toNat)
  case atStart => exact ⟨0, by omega, rfl, Lib.hid (fun i c hi => by omega)⟩
  case round =>
    obtain ⟨I, hI, rfl, hN⟩ := hrel
    by_cases hlt : I < l.length
    · obtain ⟨x, hx⟩ : ∃ x, l[I]? = some x := ⟨_, List.getElem?_eq_getElem hlt⟩
      obtain ⟨-, hcap, b, o, rfl, hb, c0⟩ := H.out.cell hx
      have HX := Lib.hid hx
      have HCALL := Lib.hid (HP.out x)
      clear hx
      obtain ⟨pc, hpc⟩ : ∃ y, y = p x := ⟨_, rfl⟩
      rw [← hpc] at HCALL
      have HPC := Lib.hid hpc
      clear hpc
      cases pc
      · go_wp2_with (go_at_call 26; (with_reducible refine HCALL.out.mono ?_); rintro e wc ⟨rfl, rfl⟩)
        have HN2 : Hid (∀ i c', i < I + 1 → l[i]? = some c' → p c' = false) := Lib.hid (fun i c' hi hc' => by
          by_cases e : i = I
          · subst e
            have : c' = x := by have := HX.out; rw [hc'] at this; exact Option.some.inj this
            subst this
            exact HPC.out.symm
          · exact hN.out i c' (by omega) hc')
        go_round
        case rel => exact ⟨I + 1, by omega, by go_num, HN2⟩
        case measure => simp [intOf]; omega
      · go_wp2_with (go_at_call 26; (with_reducible refine HCALL.out.mono ?_); rintro e wc ⟨rfl, rfl⟩)
        go_ret
        exact ⟨I, rfl, rfl, .inr ⟨I, rfl, hlt, hN.out, fun c' hc' => by
          have : c' = x := by have := HX.out; rw [hc'] at this; exact Option.some.inj this
          subst this
          exact HPC.out.symm⟩⟩
    · obtain rfl : I = l.length := by omega
      go_wp2
      go_ret
      exact ⟨-1, rfl, rfl, .inl ⟨rfl, fun x hx => by
        obtain ⟨i, hi⟩ := List.getElem?_of_mem hx
        exact hN.out i x (List.getElem?_eq_some_iff.1 hi).1 hi⟩⟩

set_option maxHeartbeats 1000000 in
theorem contains_tell (v : Value) (l : List Int) (p : Int → Bool) (kb : Nat) (w : World) (h : IRd w v l) (hl : l.length ≤ 1000000000)
    (hp : ∀ (x : Int), Calls Try.prog 26 #[.int .i64 x, .pointer (some ⟨kb, 0, none⟩)] w fun e w' => e = .returned (.bool (p x)) ∧ w = w') :
    Calls Try.prog 25 #[v, .func (.func 26) #[] #[.pointer (some ⟨kb, 0, none⟩)]] w fun e w' => e = .returned (.bool (l.any p)) ∧ w = w' := by
  have HIDX := Lib.hid (index_tell v l p kb w h hl hp)
  clear h hp
  go_enter Try.func25, Try.ntmps25
  go_wp2_with (go_at_call 31; (with_reducible refine HIDX.out.mono ?_); rintro e w1 ⟨r, rfl, rfl, hr⟩; have HR := Lib.hid hr; clear hr)
  go_ret
  refine ⟨?_, rfl⟩
  have key : decide ((0 : Int) ≤ r) = l.any p := by
    rcases HR.out with ⟨h1, h2⟩ | ⟨I, h1, h2, h3, h4⟩
    · have : l.any p = false := by rw [List.any_eq_false]; intro x hx; simp [h2 x hx]
      rw [this, h1]
      rfl
    · have : l.any p = true := List.any_eq_true.2 ⟨l[I], List.getElem_mem h2, h4 _ (List.getElem?_eq_getElem h2)⟩
      rw [this]
      exact decide_eq_true (by omega)
  rw [← key]
  rfl

/-- The closure of Tell. -/
theorem tell1_any (tb bm n kb : Nat) (C : Nat → Nat) (w : World) (h : PT w tb bm n C) (hk : w.cell? ⟨kb, 0, none⟩ = some (.pointer (some ⟨tb, 0, none⟩))) (x : Int) :
    Calls Try.prog 26 #[.int .i64 x, .pointer (some ⟨kb, 0, none⟩)] w fun e w' => e = .returned (.bool (!isN n x)) ∧ w = w' := by
  have HIS := Lib.hid (pis_any tb bm n C x w h)
  clear h
  go_enter Try.func26, Try.ntmps26
  go_wp2_with (go_at_call 27; refine HIS.out.mono ?_; rintro e w1 ⟨rfl, rfl⟩)
  go_ret
  exact ⟨rfl, rfl⟩

/-- One node told. -/
def tell1C (C : Nat → Nat) (k : Nat) : Nat → Nat := fun j => if j = k then min 1000000 (C j + 1) else C j
def tellC (C : Nat → Nat) (l : List Int) : Nat → Nat := l.foldl (fun C x => tell1C C x.toNat) C
/-- What Tell answers; what is left. -/
def tlErr (n : Nat) (l : List Int) : Int := if l.any (fun x => !isN n x) = true then 2 else 0
def tlC (n : Nat) (C : Nat → Nat) (l : List Int) : Nat → Nat := if l.any (fun x => !isN n x) = true then C else tellC C l
theorem tellC_snoc (C : Nat → Nat) (l : List Int) (x : Int) : tellC C (l ++ [x]) = tell1C (tellC C l) x.toNat := by simp [tellC]
theorem tellC_take (C : Nat → Nat) (l : List Int) (I : Nat) (x : Int) (h : l[I]? = some x) : tellC C (l.take (I + 1)) = tell1C (tellC C (l.take I)) x.toNat := by
  rw [List.take_add_one, h]
  exact tellC_snoc _ _ _
theorem gb_trans {A B C : World} {r : Option Nat} (h : A.grownBy B r) (k : B.grownBy C r) : A.grownBy C r :=
  ⟨k.os.trans h.os, k.tape.trans h.tape, k.output.trans h.output, Nat.le_trans h.size k.size, fun i hi hne => (k.block i (Nat.lt_of_lt_of_le hi h.size) hne).trans (h.block i hi hne)⟩
theorem gb_below {A B : World} (h : Below A.heap.size A B) (r : Option Nat) : A.grownBy B r := ⟨h.os, h.tape, h.output, h.size, fun k hk _ => h.block k hk⟩
theorem PT.tne {w : World} {tb bm n : Nat} {C : Nat → Nat} (h : PT w tb bm n C) : tb ≠ bm := fun e => by
  obtain ⟨D, hD, _⟩ := h.mp
  obtain ⟨es, cl, hb, _⟩ := hD
  have := h.tl
  rw [e, hb] at this
  cases this
theorem PT.put {w : World} {tb bm n : Nat} {C : Nat → Nat} (h : PT w tb bm n C) {k : Nat} (hk : k < n) :
    ∃ w', (Instr.mapUpdate 46 (.map (some bm)) (.int .i64 k) (.int .i64 (min 1000000 (C k + 1) : Nat))).run Try.prog w = .ok () w' ∧ PT w' tb bm n (tell1C C k) ∧ w.grownBy w' (some bm) := by
  obtain ⟨w', h1, h2, h3⟩ := h.mp.put k hk (by have := h.n2; omega) (min 1000000 (C k + 1)) (by omega)
  refine ⟨w', h1, ⟨h.n1, h.n2, fun j => ?_, (h3.block tb (lt_of_heap h.tl) (fun e => h.tne (by cases e; rfl))).trans h.tl, ?_⟩, h3⟩
  · unfold tell1C
    have := h.C2 j
    split <;> omega
  · obtain ⟨D, d1, d2, d3⟩ := h2
    refine ⟨D, d1, fun j hj => ?_, d3⟩
    rw [d2 j hj]
    unfold tell1C
    by_cases e : j = k
    · subst e; simp
    · simp [e]

theorem CntI.ne_cell {w : World} {bm n b o : Nat} {C : Nat → Nat} {v : Value} (h : CntI w bm n C) (hc : w.cell? ⟨b, o, none⟩ = some v) : b ≠ bm := fun e => by
  obtain ⟨D, hD, _⟩ := h
  obtain ⟨es, cl, hb, _⟩ := hD
  subst e
  unfold World.cell? at hc
  simp [hb] at hc
theorem PT.drew {w : World} {tb bm n : Nat} {C : Nat → Nat} (h : PT w tb bm n C) : PT w.drew tb bm n C := ⟨h.n1, h.n2, h.C2, h.tl, h.mp⟩
theorem gb_drew {A B : World} {r : Option Nat} (h : A.grownBy B r) : A.grownBy B.drew r := ⟨h.os, h.tape, h.output, h.size, h.block⟩
def PTell (tb bm n : Nat) (C : Nat → Nat) (l : List Int) (w : World) (e : Ending) (w' : World) : Prop := e = .returned (.int .i64 (tlErr n l)) ∧ PT w' tb bm n (tlC n C l) ∧ w.grownBy w' (some bm)
set_option maxRecDepth 100000 in
set_option maxHeartbeats 2000000 in
theorem ptell_any (tb bm n : Nat) (C : Nat → Nat) (v : Value) (l : List Int) (w : World) (h : PT w tb bm n C) (hr : IRd w v l) (hl : l.length ≤ 1000000000) :
    Calls Try.prog 9 #[.pointer (some ⟨tb, 0, none⟩), v] w (PTell tb bm n C l w) := by
  obtain ⟨a, cap, rfl⟩ := hr.form
  have hB0 : Below w.heap.size w (w.alloc (.cells #[.pointer (some ⟨tb, 0, none⟩)] 26)) := (Below.refl _ _).alloc (Nat.le_refl _) _
  have hX := heap_newA w (.cells #[.pointer (some ⟨tb, 0, none⟩)] 26)
  have hP0 := h.below hB0
  have hR0 := hr.below hB0
  have hk0 := cell_of_row _ w.heap.size 0 _ _ (0, 0) hX
  have hcon := contains_tell (.slice a l.length cap) l (fun x => !isN n x) w.heap.size _ hR0 hl (fun x => tell1_any tb bm n w.heap.size C _ hP0 hk0 x)
  obtain ⟨A, hA⟩ : ∃ A, A = l.any (fun x => !isN n x) := ⟨_, rfl⟩
  rw [← hA] at hcon
  have HCON := Lib.hid hcon
  have HH := Lib.hid h
  have HX := Lib.hid hX
  have HP0 := Lib.hid hP0
  have HR0 := Lib.hid hR0
  have HB0 := Lib.hid hB0
  have HA := Lib.hid hA
  clear h hr hcon hP0 hR0 hB0 hX hA hk0
  cases A
  case true =>
    go_enter Try.func9, Try.ntmps9
    go_wp2_with (go_at_call 25; (with_reducible refine HCON.out.mono ?_); rintro e w1 ⟨rfl, rfl⟩)
    go_ret
    refine ⟨?_, ?_, ?_⟩
    · unfold tlErr; rw [← HA.out] <;> rfl
    · unfold tlC; rw [← HA.out]; exact HP0.out
    · exact gb_below HB0.out _
  case false =>
    go_enter Try.func9, Try.ntmps9
    go_wp2_with (go_at_call 25; (with_reducible refine HCON.out.mono ?_); rintro e w1 ⟨rfl, rfl⟩)
    go_loopg [16] l.length (fun gk i wr => ∃ I : Nat, I ≤ l.length ∧ gk = l.length - I ∧ i = .int .i64 I ∧ Hid (PT wr tb bm n (tellC C (l.take I))) ∧ Hid ((w.alloc (.cells #[.pointer (some ⟨tb, 0, none⟩)] 26)).grownBy wr (some bm)))
    case atStart => exact ⟨0, by omega, rfl, rfl, HP0, Lib.hid (grown_refl _ _)⟩
    case round =>
      obtain ⟨I, hI, rfl, rfl, hP, hG⟩ := hrel
      by_cases hlt : I < l.length
      · obtain ⟨x, hx⟩ : ∃ x, l[I]? = some x := ⟨_, List.getElem?_eq_getElem hlt⟩
        obtain ⟨-, hcap, b, o, hab, hb, c0⟩ := IRd.cell HR0.out hx
        subst hab
        have hxn : isN n x = true := by
          have h1 := HA.out
          have h2 : l.any (fun x => !isN n x) = false := h1.symm
          have h3 := List.any_eq_false.1 h2 x (List.mem_of_getElem? hx)
          simpa using h3
        obtain ⟨hx0, hx1⟩ := (isN_iff n x).1 hxn
        obtain ⟨k, rfl⟩ : ∃ k : Nat, x = k := ⟨x.toNat, by omega⟩
        have hk : k < n := by omega
        have hbm := hP.out.mp.lt
        have hbm0 := HH.out.mp.lt
        have hbne : b ≠ bm := HP0.out.mp.ne_cell c0
        have hkb := cell_of_row _ w.heap.size 0 _ _ (0, 0) HX.out
        have d1 : wr.cell? ⟨b, o + I, none⟩ = some (.int .i64 k) := hG.out.cell c0 (fun e => hbne (by cases e; rfl))
        have d2 : wr.cell? ⟨w.heap.size, 0, none⟩ = some (.pointer (some ⟨tb, 0, none⟩)) := hG.out.cell hkb (fun e => by have e2 : w.heap.size = bm := Option.some.inj e; omega)
        have hPd := hP.out.drew
        have hGd := gb_drew hG.out
        obtain ⟨wd, hwd⟩ : ∃ wd, wd = wr.drew := ⟨_, rfl⟩
        rw [← hwd] at hPd hGd
        have c2 : wd.cell? ⟨w.heap.size, 0, none⟩ = some (.pointer (some ⟨tb, 0, none⟩)) := by rw [hwd]; exact d2
        obtain ⟨-, c3⟩ := hPd.cells
        have hlk := hPd.mp.look k hk (by have := hPd.n2; omega)
        obtain ⟨w9, hup, hP9, hG9⟩ := hPd.put hk
        have hC2 := hPd.C2 k
        have HP9 : Hid (PT w9 tb bm n (tellC C (l.take (I + 1)))) := Lib.hid (by rw [tellC_take C l I _ hx]; simpa using hP9)
        have HG9 := Lib.hid (gb_trans hGd hG9)
        have HWD := Lib.hid hwd
        obtain ⟨c, hcc⟩ : ∃ c, c = tellC C (l.take I) k := ⟨_, rfl⟩
        rw [← hcc] at hup hlk hC2
        have hwr : IntKind.i64.wrap ((c : Int) + 1) = (c : Int) + 1 := IntWalk.i64_in _ (by omega)
        clear hcc hP9 hG9 hx c0 hbne hkb hbm0 hb hxn hx0 hx1 hPd hGd hwd d2
        by_cases hlim : c + 1 < 1000000
        · have hmin : ((min 1000000 (c + 1) : Nat) : Int) = (c : Int) + 1 := by omega
          have hlim2 : (c : Int) + 1 < 1000000 := by omega
          rw [hmin] at hup
          clear hmin hlim
          go_upto_region 8 with fail
          refine wp_region_still_tail 13 (by kernel_rfl) (by kernel_rfl) ?_
          change wpStill _ _ wr.drew (fun a' => wpList _ _ _ _ a' wr.drew) _ _
          rw [← HWD.out]
          simp only [List.take_succ_cons, List.take_zero, List.drop_succ_cons, List.drop_zero]
          repeat ((with_reducible refine wpStill_step (fun K hK => ?_)); go_simp; refine hK _ ?_; clear hK K)
          refine wpStill_nil ?_
          go_wp2
          go_roundg (l.length - (I + 1))
          case measure => omega
          case rel => exact ⟨I + 1, by omega, rfl, by go_num, HP9, HG9⟩
        · have hmin : ((min 1000000 (c + 1) : Nat) : Int) = 1000000 := by omega
          have hlim2 : ¬ (c : Int) + 1 < 1000000 := by omega
          rw [hmin] at hup
          clear hmin hlim
          go_upto_region 8 with fail
          refine wp_region_still_tail 13 (by kernel_rfl) (by kernel_rfl) ?_
          change wpStill _ _ wr.drew (fun a' => wpList _ _ _ _ a' wr.drew) _ _
          rw [← HWD.out]
          simp only [List.take_succ_cons, List.take_zero, List.drop_succ_cons, List.drop_zero]
          repeat ((with_reducible refine wpStill_step (fun K hK => ?_)); go_simp; refine hK _ ?_; clear hK K)
          refine wpStill_nil ?_
          go_wp2
          go_roundg (l.length - (I + 1))
          case measure => omega
          case rel => exact ⟨I + 1, by omega, rfl, by go_num, HP9, HG9⟩
      · obtain rfl : I = l.length := by omega
        go_wp2
        go_ret
        refine ⟨?_, ?_, gb_trans (gb_below HB0.out _) hG.out⟩
        · unfold tlErr; rw [← HA.out] <;> rfl
        · unfold tlC; rw [← HA.out]; have := hP.out; rw [List.take_length] at this; exact this
end Go.Proofs.Ytjlehnmcfimnfaa
