/-
  The program's Degree and Trim.
-/
import Derived.Test.YteeeocianofkfaaGreatRange3
import Derived.Test.YteeeocianofkfaaGreatAts
import Derived.Test.YteeeocianofkfaaGreatRef2
namespace Go.Proofs.YteeeocianofkfaaGreat
open Go.RowKit Fld Go.Shelf
set_option linter.unusedVariables false
set_option linter.unusedSimpArgs false
attribute [local go_sem] Oper.semAt_some

/-- So many are there ahead of the noughts behind. -/
structure TopAt (l : List GF) (n : Nat) : Prop where
  le : n ≤ l.length
  top : n = 0 ∨ l.getD (n - 1) 0 ≠ 0
  nul : ∀ j, n ≤ j → l.getD j 0 = 0
theorem TopAt.trim {l : List GF} {n : Nat} (h : TopAt l n) : TrimOf l (l.take n) := ⟨n, h.le, rfl, trimd_take h.le h.top, h.nul⟩
/-- What 'Degree' leaves. -/
def DegPost (l : List GF) (w : World) (e : Ending) (w' : World) : Prop := ∃ n : Nat, TopAt l n ∧ e = .returned (.int .i64 ((n : Int) - 1)) ∧ Below w.heap.size w w'
/-- What holds between two rounds. -/
structure DegI (l : List GF) (w : World) (pre : List (Fin l.length)) (W : World) : Prop where
  b2 : W.heap[w.heap.size]? = some (.cells #[.int .i64 0] 3 (0, 0))
  nul : ∀ i ∈ pre, l.getD i.val 0 = 0
  kp : Below w.heap.size w W
structure DegX (l : List GF) (w : World) (c : Code) (pre : List (Fin l.length)) (W : World) : Prop where
  isr : c = .ret
  at_ : ∃ (pre0 : List (Fin l.length)) (x : Fin l.length), pre = pre0 ++ [x] ∧ l.getD x.val 0 ≠ 0 ∧ (∀ i ∈ pre0, l.getD i.val 0 = 0) ∧ W.heap[w.heap.size]? = some (.cells #[.int .i64 (x.val : Nat)] 3 (0, 0))
  kp : Below w.heap.size w W
theorem rev_prefix {n : Nat} {pre0 : List (Fin n)} {x : Fin n} (h : pre0 ++ [x] <+: (List.finRange n).reverse) : ∀ j (hj : j < n), x.val < j → ⟨j, hj⟩ ∈ pre0 := by
  intro j hj hlt
  have hk : pre0.length < n := by
    have := h.length_le
    simp at this
    omega
  have hget : ∀ i (hi : i < (pre0 ++ [x]).length), (pre0 ++ [x])[i] = ⟨n - 1 - i, by omega⟩ := fun i hi => by
    have := h.getElem hi
    rw [this]
    simp
    try omega
  have hx : x = ⟨n - 1 - pre0.length, by omega⟩ := by
    have := hget pre0.length (by simp)
    simpa using this
  have hj2 : n - 1 - j < pre0.length := by
    rw [hx] at hlt
    simp at hlt
    omega
  have := hget (n - 1 - j) (by simp; omega)
  rw [List.getElem_append_left hj2] at this
  rw [show (⟨j, hj⟩ : Fin n) = pre0[n - 1 - j] from by rw [this]; ext; simp; omega]
  exact List.getElem_mem _
theorem rows_of {w : World} {v : Value} {l : List GF} (h : GRd w v l) : ∃ T : List Nat, (l ≠ [] → ∀ k, v.ownBlock = some k → k ∈ T) ∧ ∀ b ∈ T, b < w.heap.size := by
  by_cases hl : l = []
  · exact ⟨[], fun e => absurd hl e, fun b hb => by cases hb⟩
  · obtain ⟨x, hx⟩ : ∃ x, l[0]? = some x := ⟨_, List.getElem?_eq_getElem (List.length_pos_iff.2 hl)⟩
    obtain ⟨a, cap, rfl, hcap⟩ := h.form
    obtain ⟨b, o, rfl, hb, -⟩ := h.at hx
    exact ⟨[b], fun _ k hk => by simp [Value.ownBlock] at hk; simp [hk], fun c hc => by
      rw [List.mem_singleton] at hc
      subst hc
      exact hb⟩
set_option maxRecDepth 100000 in
set_option maxHeartbeats 2000000 in
theorem degree_any (v : Value) (l : List GF) (w : World) (hG : GRd w v l) (hl : l.length ≤ 1000000000) :
    Calls Tryz.prog 100 #[v] w (DegPost l w) := by
  obtain ⟨T, hT1, hT2⟩ := rows_of hG
  obtain ⟨a, cap, rfl, hcap⟩ := hG.form
  have HG := Lib.hid hG
  have HT := Lib.hid (And.intro hT1 hT2)
  clear hG hT1 hT2
  obtain ⟨N, hN⟩ : ∃ N, l.length = N := ⟨_, rfl⟩
  have HN := Lib.hid hN
  rw [hN] at hcap hl ⊢
  clear hN
  refine calls_of_marks Tryz.func100 rfl ?_
  simp only [Tryz.ntmps100, List.size_toArray, List.length_cons, List.length_nil, Nat.reduceAdd, Nat.reduceSub, Array.replicate_succ, Array.replicate_zero, List.push_toArray, List.append_toArray, List.nil_append, List.cons_append]
  go_wp2_with (go_at_call 54; refine (backward_any _ _ _ _).mono ?_; rintro e w1 ⟨rfl, hb1, hbx⟩)
  have b2 : w1.heap[w.heap.size]? = some (.cells #[.int .i64 0] 3 (0, 0)) := keepB hb1 (heap_newA _ _)
  have HB1 : Hid (Below w.heap.size w w1) := Lib.hid (((Below.refl _ _).alloc (Nat.le_refl _) _).trans (hb1.mono (by simp)))
  have HBX : Hid (SBox w1 (w.heap.size + 1) (.slice a N cap)) := Lib.hid (by simpa using hbx)
  have hbl : w.heap.size + 1 < w1.heap.size := lt_of_heap HBX.out
  have HI1 : Hid (DegI l w [] w1) := Lib.hid ⟨b2, by simp, HB1.out⟩
  clear b2 hb1 hbx
  refine wp_range_stopT (gf := 78) (lb := #[.pointer (some ⟨w.heap.size + 1, 0, none⟩)]) (by kernel_rfl) (enters_of Tryz.func78 (by kernel_rfl) rfl)
    (back1_stops (w.heap.size + 1) ((w.heap.size + 1) :: T) (.slice a N cap) l w1 HBX.out (HG.out.below HB1.out |> fun h => by rwa [HN.out] at h) (by rw [HN.out]; exact hl) (by simp) (fun hne k hk => List.mem_cons_of_mem _ (HT.out.1 hne k (by rw [HN.out]; exact hk))))
    (Below.refl _ _) (fun _ => rfl) [w.heap.size] (fun b hb => by
      rcases List.mem_cons.1 hb with rfl | hb
      · exact ⟨hbl, by simp⟩
      · have := HT.out.2 b hb
        exact ⟨by omega, by simp; omega⟩) (by simp; omega)
    (DegI l w) (ownFrom_of fun s W W' r h hr hk => by
      have hn : ∀ k, k < w1.heap.size → k ∉ r := fun k hk hm => by have := hr k hm; omega
      exact ⟨hk.heap h.b2 (hn _ (by omega)), h.nul, h.kp.trans (hk.below h.kp.size (fun x hx => by have := hr x hx; omega))⟩)
    (DegX l w) (fun c => ownFrom_of fun s W W' r h hr hk => by
      have hn : ∀ k, k < w1.heap.size → k ∉ r := fun k hk hm => by have := hr k hm; omega
      obtain ⟨p0, x, h1, h2, h3, h4⟩ := h.at_
      exact ⟨h.isr, ⟨p0, x, h1, h2, h3, hk.heap h4 (hn _ (by omega))⟩, h.kp.trans (hk.below h.kp.size (fun x hx => by have := hr x hx; omega))⟩) HI1.out
    (fun i => { tmps := #[.slice a N cap, undef, .pointer (some ⟨w.heap.size, 0, none⟩), undef, undef, .slice a N cap, .func (.func 78) #[] #[.pointer (some ⟨w.heap.size + 1, 0, none⟩)], .int .i64 (i.val : Nat), .int .u8 ((l[i.val].n : Nat) : Int), undef, undef, undef], defers := [] })
    (fun i => { tmps := #[.slice a N cap, undef, .pointer (some ⟨w.heap.size, 0, none⟩), .int .i64 (i.val : Nat), .int .u8 ((l[i.val].n : Nat) : Int), .slice a N cap, .func (.func 78) #[] #[.pointer (some ⟨w.heap.size + 1, 0, none⟩)], .int .i64 (i.val : Nat), .int .u8 ((l[i.val].n : Nat) : Int), undef, undef, undef], defers := [] })
    (fun x => by kernel_rfl) ?assign ?body ?done ?stop
  case assign =>
    intro lv i W K hK
    gi_wp2
    exact hK
  case body =>
    rintro lv pre ⟨i, hi⟩ W hI hlt hsz
    dsimp only
    have HI := Lib.hid hI
    clear hI
    obtain ⟨z, hz⟩ : ∃ z, l[i] = z := ⟨_, rfl⟩
    have hzd : l.getD i 0 = z := by rw [List.getD_eq_getElem?_getD, List.getElem?_eq_getElem hi, hz]; rfl
    rw [hz]
    have HZ := Lib.hid hzd
    have y2 := cell_of_heap HI.out.b2 (j := 0) rfl
    have z2 := free_of_heap HI.out.b2 0
    have g2 := lt_of_heap HI.out.b2
    clear hz hzd hlt
    by_cases h0 : z.n = 0
    · have HP : Hid (DegI l w (pre ++ [⟨i, hi⟩]) W) := Lib.hid ⟨HI.out.b2, fun j hj => by
        rcases List.mem_append.1 hj with hj | hj
        · exact HI.out.nul j hj
        · rw [List.mem_singleton] at hj
          rw [hj, HZ.out]
          exact GF.eq0.2 h0, HI.out.kp⟩
      rw [h0]
      clear h0
      gi_wp2
      exact ⟨Kp.refl _ _, HP.out⟩
    · have hk : Kp [w.heap.size] W (W.setCell ⟨w.heap.size, 0, none⟩ (.int .i64 (i : Nat))) := (Kp.refl _ _).setCell (.inl (by simp)) _
      have HP : Hid (Kp [w.heap.size] W (W.setCell ⟨w.heap.size, 0, none⟩ (.int .i64 (i : Nat))) ∧ DegX l w .ret (pre ++ [⟨i, hi⟩]) (W.setCell ⟨w.heap.size, 0, none⟩ (.int .i64 (i : Nat)))) := Lib.hid ⟨hk, rfl, ⟨pre, ⟨i, hi⟩, rfl, by rw [HZ.out]; exact GF.ne0.2 h0, HI.out.nul, by
        have := heap_set_same HI.out.b2 0 (.int .i64 (i : Nat))
        simpa using this⟩, HI.out.kp.trans (hk.below HI.out.kp.size (by simp))⟩
      have h0' : ¬ (z.n : Int) = 0 := by omega
      clear hk h0
      gi_wp2
      exact HP.out
  case done =>
    rintro D0 xs W hD0 rfl hI hK0
    have hk : Kp [w.heap.size] W (W.setCell ⟨w.heap.size, 0, none⟩ (.int .i64 (-1))) := (Kp.refl _ _).setCell (.inl (by simp)) _
    have hc : (W.setCell ⟨w.heap.size, 0, none⟩ (.int .i64 (-1))).heap[w.heap.size]? = some (.cells #[.int .i64 (-1)] 3 (0, 0)) := by
      have := heap_set_same hI.b2 0 (.int .i64 (-1))
      simpa using this
    have HTOP : Hid (TopAt l 0) := Lib.hid ⟨by omega, .inl rfl, fun j _ => by
      by_cases hj : j < l.length
      · exact hI.nul ⟨j, hj⟩ (by simp)
      · rw [List.getD_eq_getElem?_getD, List.getElem?_eq_none (by omega)]
        rfl⟩
    have HK1 := Lib.hid (hk.heap hK0 (by simp; omega))
    have HB2 : Hid (Below w.heap.size w (W.setCell ⟨w.heap.size, 0, none⟩ (.int .i64 (-1)))) := Lib.hid (hI.kp.trans (hk.below hI.kp.size (by simp)))
    have y2 := cell_of_heap hI.b2 (j := 0) rfl
    have z2 := free_of_heap hI.b2 0
    have g2 := lt_of_heap hI.b2
    have HC := Lib.hid hc
    have hD1 := Lib.hid hD0
    clear hI hK0 hk hc hD0
    go_wp2
    have hDD := hD1.out
    exact leaves_marks (B := w.heap.size) [D0] _ (Marks.cons (Marks.nil _ _) (by omega) HK1.out (by simp)) fun w' hk => by
      have c2 := cell_of_heap (hk.heap HC.out (by simp; omega)) (j := 0) rfl
      exact ⟨.int .i64 (-1), by simp [results, Tryz.results100, go_sem, c2], 0, HTOP.out, rfl, HB2.out.trans (hk.below HB2.out.size (by simp; omega))⟩
  case stop =>
    rintro D0 c pre W hD0 hpre hX hK0
    obtain ⟨rfl, ⟨p0, x, rfl, hx, hz, hb⟩, hkp⟩ := hX
    have HTOP : Hid (TopAt l (x.val + 1)) := Lib.hid ⟨x.isLt, .inr (by simpa using hx), fun j hj => by
      by_cases hjl : j < l.length
      · exact hz ⟨j, hjl⟩ (rev_prefix hpre j hjl (by omega))
      · rw [List.getD_eq_getElem?_getD, List.getElem?_eq_none (by omega)]
        rfl⟩
    have HC := Lib.hid hb
    have HK0 := Lib.hid hK0
    have HB2 := Lib.hid hkp
    have hD1 := Lib.hid hD0
    clear hb hK0 hkp hD0 hx hz hpre
    go_wp2
    have hDD := hD1.out
    exact leaves_marks (B := w.heap.size) [D0] _ (Marks.cons (Marks.nil _ _) (by omega) HK0.out (by simp)) fun w' hk => by
      have c2 := cell_of_heap (hk.heap HC.out (by simp; omega)) (j := 0) rfl
      exact ⟨.int .i64 (x.val : Nat), by simp [results, Tryz.results100, go_sem, c2], x.val + 1, HTOP.out, by simp, HB2.out.trans (hk.below HB2.out.size (by simp; omega))⟩
/-- What 'Trim' leaves. -/
def PTrimPost (l : List GF) (w : World) (e : Ending) (w' : World) : Prop :=
  ∃ v p, e = .returned v ∧ TrimOf l p ∧ OwnG w' w.heap.size v p ∧ Below w.heap.size w w'
set_option maxRecDepth 100000 in
set_option maxHeartbeats 2000000 in
theorem ptrim_any (v : Value) (l : List GF) (w : World) (h : GRd w v l) (hl : l.length ≤ 1000000) :
    Calls Tryz.prog 73 #[v] w (PTrimPost l w) := by
  have HD := Lib.hid (degree_any v l w h (by omega))
  obtain ⟨a, cap, rfl, hcap⟩ := h.form
  obtain ⟨L, hL⟩ : ∃ L, l.length = L := ⟨_, rfl⟩
  have HL := Lib.hid hL
  rw [hL] at hl hcap h HD ⊢
  have H := Lib.hid h
  clear h hL
  go_enter Tryz.func73, Tryz.ntmps73
  go_wp2_with fail
  refine HD.out.mono ?_
  rintro e w1 ⟨n, htop, rfl, hb1⟩
  have hn : n ≤ L := by have := htop.le; rw [HL.out] at this; exact this
  obtain ⟨sa, sc, hsl, hs2, -⟩ := slice_h a L cap n (by omega)
  obtain ⟨v1, w3, hap, ho3, hb3⟩ := app_nil (hs2 w1 l (H.out.below hb1) (by rw [HL.out]; exact hn)) (by rw [List.length_take]; omega)
  have HP : Hid (PTrimPost l w (.returned v1) w3) := Lib.hid ⟨v1, _, rfl, htop.trim, ho3.mono hb1.size, hb1.trans (hb3.mono hb1.size)⟩
  clear htop hb1 hs2 ho3 hb3
  go_wp2_with (at_builtin; refine wpList_append rfl _ _ _ rfl rfl rfl hap ?_)
  go_ret
  exact HP.out
end Go.Proofs.YteeeocianofkfaaGreat
