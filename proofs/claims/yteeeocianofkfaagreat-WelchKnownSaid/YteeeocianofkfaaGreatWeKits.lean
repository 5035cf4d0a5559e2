/-
  Rows of numbers that are the same; whether a number is in a row.
  How far two rows are apart.
-/
import Derived.Test.YteeeocianofkfaaGreatWeRefs
import Derived.Test.YteeeocianofkfaaGreatRef1
/- Rows of numbers that are the same; whether a number is in a row. -/
namespace Go.Proofs.YteeeocianofkfaaGreat
open Go.RowKit Fld
set_option linter.unusedVariables false
set_option linter.unusedSimpArgs false

def BoolPost (b : Bool) (w : World) (e : Ending) (w' : World) : Prop := e = .returned (.bool b) ∧ Below w.heap.size w w'
theorem sameI_done {l m : List Int} {A : Nat} (hl : l.length = A) (hm : m.length = A) (h : ∀ j, j < A → l[j]? = m[j]?) : l = m := List.ext_getElem? fun i => by
  by_cases hi : i < A
  · exact h i hi
  · rw [List.getElem?_eq_none (by omega), List.getElem?_eq_none (by omega)]
set_option maxRecDepth 100000 in
set_option maxHeartbeats 4000000 in
theorem sameI_any (u v : Value) (l m : List Int) (w : World) (hu : IRd w u l) (hv : IRd w v m) (hl : l.length ≤ 1000000) (hml : m.length ≤ 1000000) :
    Calls Tryz.prog 23 #[u, v] w (BoolPost (decide (l = m)) w) := by
  obtain ⟨au, cu, rfl⟩ := hu.form
  obtain ⟨av, cv, rfl⟩ := hv.form
  obtain ⟨A, hA⟩ : ∃ A, l.length = A := ⟨_, rfl⟩
  obtain ⟨B, hB⟩ : ∃ B, m.length = B := ⟨_, rfl⟩
  have HA := Lib.hid hA
  have HB := Lib.hid hB
  rw [hA] at hu hl ⊢
  rw [hB] at hv hml ⊢
  have HU := Lib.hid hu
  have HV := Lib.hid hv
  clear hu hv hA hB
  go_enter Tryz.func23, Tryz.ntmps23
  by_cases hAB : A = B
  · subst hAB
    go_wp2
    go_loopg [5] A (fun gk i wr => ∃ I : Nat, I ≤ A ∧ gk = A - I ∧ i = .int .i64 I ∧ Hid (∀ j, j < I → l[j]? = m[j]?) ∧ Hid (Below w.heap.size w wr))
    case atStart => exact ⟨0, by omega, rfl, rfl, Lib.hid (fun j hj => by omega), Lib.hid (Below.refl _ _)⟩
    case round =>
      obtain ⟨I, hI, rfl, rfl, HE, HBL⟩ := hrel
      have hs := HBL.out.size
      by_cases hlt : I < A
      · obtain ⟨x, hx⟩ : ∃ x, l[I]? = some x := ⟨_, List.getElem?_eq_getElem (by rw [HA.out]; exact hlt)⟩
        obtain ⟨y, hy⟩ : ∃ y, m[I]? = some y := ⟨_, List.getElem?_eq_getElem (by rw [HB.out]; exact hlt)⟩
        obtain ⟨-, -, b1, o1, rfl, hb1, -⟩ := IRd.cell HU.out hx
        obtain ⟨-, -, b2, o2, rfl, hb2, -⟩ := IRd.cell HV.out hy
        have c1 := IRd.cells (HU.out.below HBL.out) I x hx
        have c2 := IRd.cells (HV.out.below HBL.out) I y hy
        have HXX := Lib.hid hx
        have HYY := Lib.hid hy
        have HBD : Hid (Below w.heap.size w wr.drew) := Lib.hid HBL.out.drew
        obtain ⟨kp, hkp⟩ : ∃ kp : Nat → Bool, ∀ j, kp j = true ↔ j < wr.heap.size := ⟨fun j => decide (j < wr.heap.size), by simp⟩
        have hk1 : kp b1 = true := (hkp _).2 (by omega)
        have hk2 : kp b2 = true := (hkp _).2 (by omega)
        have HKP := Lib.hid hkp
        have i1 : (0 : Int) ≤ (I : Int) ∧ (I : Int) < (A : Int) := by omega
        clear hkp hx hy
        by_cases hxy : x = y
        · subst hxy
          have HE2 : Hid (∀ j, j < I + 1 → l[j]? = m[j]?) := Lib.hid fun j hj => by
            by_cases e : j = I
            · rw [e, HXX.out, HYY.out]
            · exact HE.out j (by omega)
          go_upto_region 6 with fail
          have hgr := fun (w0 W : World) (p : Addr) (hp : (fun j => kp j = true) p.block) => graft_cell (w0 := w0) (keep := (fun j => kp j = true)) W hp
          refine wp_region_tree (fun j => kp j = true) [] (.step 0 (.step 1 (.step 2 (.step 3 (.step 4 (.step 5 (.step 6 (.step 7 (.step 8 .done))))))))) (by kernel_rfl) (by kernel_rfl) ?_
          simp only [slimTr, slimStep, Oper.slim, List.contains_cons, List.contains_nil, Option.map_none, Option.map_some, List.getElem?_toArray, List.getElem?_cons_zero, List.getElem?_cons_succ, Option.bind_some, beq_self_eq_true, Bool.or_false, Nat.reduceBEq, Nat.reduceAdd, Nat.zero_add]
          repeat (first | (fail) | ((with_reducible refine wpSlimT_step (fun K hK => ?_)); go_simp; first | (refine hK _ _ ?_; clear hK K) | (refine ⟨by (intro kk hkk; first | (simp (disch := (simp; omega)) only [hp_drew, hp_drewN, hp_alloc, hp_set]; done) | (simp [hp_drew, hp_drewN, hp_alloc_if, hkk]; done) | fail), hK _ _ ?_⟩; clear hK K)))
          refine wpSlimT_done ?_
          clear hgr
          go_wp2
          go_roundg (A - (I + 1))
          case measure => omega
          case rel => exact ⟨I + 1, by omega, rfl, by go_num, HE2, HBD⟩
        · have HNE : Hid (decide (l = m) = false) := Lib.hid (decide_eq_false fun e => hxy (by
            have h1 := HXX.out
            rw [e, HYY.out] at h1
            exact (Option.some.inj h1).symm))
          go_upto_region 6 with fail
          have hgr := fun (w0 W : World) (p : Addr) (hp : (fun j => kp j = true) p.block) => graft_cell (w0 := w0) (keep := (fun j => kp j = true)) W hp
          refine wp_region_tree (fun j => kp j = true) [] (.step 0 (.step 1 (.step 2 (.step 3 (.step 4 (.step 5 (.step 6 (.step 7 (.step 8 .done))))))))) (by kernel_rfl) (by kernel_rfl) ?_
          simp only [slimTr, slimStep, Oper.slim, List.contains_cons, List.contains_nil, Option.map_none, Option.map_some, List.getElem?_toArray, List.getElem?_cons_zero, List.getElem?_cons_succ, Option.bind_some, beq_self_eq_true, Bool.or_false, Nat.reduceBEq, Nat.reduceAdd, Nat.zero_add]
          repeat (first | (fail) | ((with_reducible refine wpSlimT_step (fun K hK => ?_)); go_simp; first | (refine hK _ _ ?_; clear hK K) | (refine ⟨by (intro kk hkk; first | (simp (disch := (simp; omega)) only [hp_drew, hp_drewN, hp_alloc, hp_set]; done) | (simp [hp_drew, hp_drewN, hp_alloc_if, hkk]; done) | fail), hK _ _ ?_⟩; clear hK K)))
          refine wpSlimT_done ?_
          clear hgr
          go_wp2
          go_ret
          exact ⟨by rw [HNE.out]; rfl, HBD.out⟩
      · obtain rfl : I = A := by omega
        have HEQ : Hid (decide (l = m) = true) := Lib.hid (decide_eq_true (sameI_done HA.out HB.out HE.out))
        go_wp2
        go_ret
        exact ⟨by rw [HEQ.out]; rfl, HBL.out⟩
  · have hAB' : ¬ (A : Int) = (B : Int) := by omega
    have HNE : Hid (decide (l = m) = false) := Lib.hid (decide_eq_false fun e => hAB (by rw [← HA.out, ← HB.out, e]))
    clear hAB
    go_wp2
    go_ret
    exact ⟨by rw [HNE.out]; rfl, Below.refl _ _⟩
set_option maxRecDepth 100000 in
set_option maxHeartbeats 4000000 in
theorem has_any (u : Value) (l : List Int) (x : Int) (w : World) (hu : IRd w u l) (hl : l.length ≤ 1000000) :
    Calls Tryz.prog 17 #[u, .int .i64 x] w (BoolPost (decide (x ∈ l)) w) := by
  obtain ⟨au, cu, rfl⟩ := hu.form
  obtain ⟨A, hA⟩ : ∃ A, l.length = A := ⟨_, rfl⟩
  have HA := Lib.hid hA
  rw [hA] at hu hl ⊢
  have HU := Lib.hid hu
  clear hu hA
  go_enter Tryz.func17, Tryz.ntmps17
  go_wp2
  go_loopg [5] A (fun gk i wr => ∃ I : Nat, I ≤ A ∧ gk = A - I ∧ i = .int .i64 I ∧ Hid (∀ j, j < I → l[j]? ≠ some x) ∧ Hid (Below w.heap.size w wr))
  case atStart => exact ⟨0, by omega, rfl, rfl, Lib.hid (fun j hj => by omega), Lib.hid (Below.refl _ _)⟩
  case round =>
    obtain ⟨I, hI, rfl, rfl, HE, HBL⟩ := hrel
    by_cases hlt : I < A
    · obtain ⟨y, hy⟩ : ∃ y, l[I]? = some y := ⟨_, List.getElem?_eq_getElem (by rw [HA.out]; exact hlt)⟩
      obtain ⟨-, -, b1, o1, rfl, hb1, -⟩ := IRd.cell HU.out hy
      have c1 := IRd.cells (HU.out.below HBL.out) I y hy
      have HYY := Lib.hid hy
      have i1 : (0 : Int) ≤ (I : Int) ∧ (I : Int) < (A : Int) := by omega
      clear hy
      by_cases hxy : y = x
      · subst hxy
        have HIN : Hid (decide (y ∈ l) = true) := Lib.hid (decide_eq_true (List.mem_of_getElem? HYY.out))
        go_wp2
        go_ret
        exact ⟨by rw [HIN.out]; rfl, HBL.out⟩
      · have HE2 : Hid (∀ j, j < I + 1 → l[j]? ≠ some x) := Lib.hid fun j hj => by
          by_cases e : j = I
          · rw [e, HYY.out]
            exact fun e => hxy (Option.some.inj e)
          · exact HE.out j (by omega)
        go_wp2
        go_roundg (A - (I + 1))
        case measure => omega
        case rel => exact ⟨I + 1, by omega, rfl, by go_num, HE2, HBL⟩
    · obtain rfl : I = A := by omega
      have HNO : Hid (decide (x ∈ l) = false) := Lib.hid (decide_eq_false fun h => by
        obtain ⟨j, hj, e⟩ := List.mem_iff_getElem.1 h
        exact HE.out j (by rw [← HA.out]; exact hj) (by rw [List.getElem?_eq_getElem hj, e]))
      go_wp2
      go_ret
      exact ⟨by rw [HNO.out]; rfl, HBL.out⟩
end Go.Proofs.YteeeocianofkfaaGreat
/- How far two rows are apart. -/
namespace Go.Proofs.YteeeocianofkfaaGreat
open Go.RowKit Fld
set_option linter.unusedVariables false
set_option linter.unusedSimpArgs false

/-- At how many of the first places two rows differ. -/
noncomputable def farC (l m : List GF) (J : Nat) : Nat := ((List.range J).filter fun i => decide (l[i]? ≠ m[i]?)).length
noncomputable def farU (l m : List GF) : Nat := farC l m (max l.length m.length)
theorem farC_zero (l m : List GF) : farC l m 0 = 0 := rfl
theorem farC_yes {l m : List GF} {J : Nat} (h : l[J]? ≠ m[J]?) : farC l m (J + 1) = farC l m J + 1 := by
  unfold farC
  rw [List.range_succ, List.filter_append, List.length_append, List.filter_cons_of_pos (p := fun i => decide (l[i]? ≠ m[i]?)) (decide_eq_true h)]
  rfl
theorem farC_no {l m : List GF} {J : Nat} (h : l[J]? = m[J]?) : farC l m (J + 1) = farC l m J := by
  unfold farC
  rw [List.range_succ, List.filter_append, List.length_append, List.filter_cons_of_neg (by simp [h])]
  rfl
theorem farC_le (l m : List GF) (J : Nat) : farC l m J ≤ J := by
  unfold farC
  have := List.length_filter_le (fun i => decide (l[i]? ≠ m[i]?)) (List.range J)
  rwa [List.length_range] at this
theorem farC_over (l m : List GF) : ∀ d, min l.length m.length + d ≤ max l.length m.length → farC l m (min l.length m.length + d) = farC l m (min l.length m.length) + d
  | 0, _ => rfl
  | d + 1, h => by
    have ih := farC_over l m d (by omega)
    rw [show min l.length m.length + (d + 1) = min l.length m.length + d + 1 from rfl, farC_yes, ih]
    · omega
    · rcases Nat.le_total l.length m.length with hle | hle
      · rw [List.getElem?_eq_none (by omega), List.getElem?_eq_getElem (by omega)]
        simp
      · rw [List.getElem?_eq_none (l := m) (by omega), List.getElem?_eq_getElem (by omega)]
        simp
theorem farU_eq (l m : List GF) : farU l m = (max l.length m.length - min l.length m.length) + farC l m (min l.length m.length) := by
  have := farC_over l m (max l.length m.length - min l.length m.length) (by omega)
  rw [show min l.length m.length + (max l.length m.length - min l.length m.length) = max l.length m.length by omega] at this
  rw [farU, this]
  omega
theorem farC_symm (l m : List GF) (J : Nat) : farC l m J = farC m l J := by
  unfold farC
  congr 1
  refine List.filter_congr fun i _ => ?_
  rw [decide_eq_decide]
  exact ⟨fun h e => h e.symm, fun h e => h e.symm⟩
theorem farU_symm (l m : List GF) : farU l m = farU m l := by
  rw [farU, farU, farC_symm, Nat.max_comm]
theorem farC_tri (a b c : List GF) : ∀ J, farC a b J ≤ farC a c J + farC c b J
  | 0 => Nat.zero_le _
  | J + 1 => by
    have ih := farC_tri a b c J
    by_cases h1 : a[J]? = b[J]?
    · rw [farC_no h1]
      by_cases h2 : a[J]? = c[J]?
      · rw [farC_no h2, farC_no (h2.symm.trans h1)]
        exact ih
      · rw [farC_yes h2, farC_yes (fun e => h2 (h1.trans e.symm))]
        omega
    · rw [farC_yes h1]
      by_cases h2 : a[J]? = c[J]?
      · have h3 : c[J]? ≠ b[J]? := fun e => h1 (h2.trans e)
        rw [farC_no h2, farC_yes h3]
        omega
      · rw [farC_yes h2]
        by_cases h3 : c[J]? = b[J]?
        · rw [farC_no h3]; omega
        · rw [farC_yes h3]; omega
theorem farC_more (l m : List GF) {J : Nat} (h : max l.length m.length ≤ J) : farC l m J = farU l m := by
  obtain ⟨d, rfl⟩ : ∃ d, J = max l.length m.length + d := ⟨J - max l.length m.length, by omega⟩
  clear h
  induction d with
  | zero => rfl
  | succ d ih => rw [show max l.length m.length + (d + 1) = max l.length m.length + d + 1 from rfl, farC_no, ih]; rw [List.getElem?_eq_none (by omega), List.getElem?_eq_none (by omega)]
theorem farU_tri (a b c : List GF) : farU a b ≤ farU a c + farU c b := by
  have h := farC_tri a b c (max (max a.length b.length) c.length)
  rwa [farC_more a b (by omega), farC_more a c (by omega), farC_more c b (by omega)] at h
theorem farU_zero (l m : List GF) : farU l m = 0 ↔ l = m := by
  constructor
  · intro h
    refine List.ext_getElem? fun i => ?_
    refine Classical.byContradiction fun hne => ?_
    have h1 := farC_more l m (J := max (max l.length m.length) (i + 1)) (by omega)
    rw [h] at h1
    unfold farC at h1
    have h2 := List.eq_nil_of_length_eq_zero h1
    have h3 : i ∈ (List.range (max (max l.length m.length) (i + 1))).filter fun i => decide (l[i]? ≠ m[i]?) := List.mem_filter.2 ⟨List.mem_range.2 (by omega), decide_eq_true hne⟩
    rw [h2] at h3
    cases h3
  · rintro rfl
    unfold farU farC
    rw [List.filter_eq_nil_iff.2 (by simp)]
    rfl
def FarPost (l m : List GF) (w : World) (e : Ending) (w' : World) : Prop := e = .returned (.int .i64 (farU l m : Nat)) ∧ Below w.heap.size w w'
set_option maxRecDepth 100000 in
set_option maxHeartbeats 4000000 in
theorem far_any (u v : Value) (l m : List GF) (w : World) (hu : GRd w u l) (hv : GRd w v m) (hl : l.length ≤ 1000000) (hm : m.length ≤ 1000000) :
    Calls Tryz.prog 11 #[u, v] w (FarPost l m w) := by
  obtain ⟨au, cu, rfl, hcu⟩ := hu.form
  obtain ⟨av, cv, rfl, hcv⟩ := hv.form
  have heq := farU_eq l m
  obtain ⟨A, hA⟩ : ∃ A, l.length = A := ⟨_, rfl⟩
  obtain ⟨B, hB⟩ : ∃ B, m.length = B := ⟨_, rfl⟩
  obtain ⟨Mn, hMn⟩ : ∃ Mn, min A B = Mn := ⟨_, rfl⟩
  obtain ⟨Mx, hMx⟩ : ∃ Mx, max A B = Mx := ⟨_, rfl⟩
  obtain ⟨D, hD⟩ : ∃ D, Mx - Mn = D := ⟨_, rfl⟩
  rw [hA, hB, hMn, hMx, hD] at heq
  have HEQ := Lib.hid heq
  have HA := Lib.hid hA
  have HB := Lib.hid hB
  have hAM : Mn ≤ A := by omega
  have hBM : Mn ≤ B := by omega
  have hMM : Mn ≤ Mx ∧ Mx ≤ 1000000 := by omega
  have x1 : max (A : Int) (B : Int) = (Mx : Int) := by omega
  have x2 : min (A : Int) (B : Int) = (Mn : Int) := by omega
  have x3 : (Mx : Int) - (Mn : Int) = (D : Int) := by omega
  have x4 : IntKind.i64.wrap (D : Int) = (D : Int) := IntWalk.i64_in _ (by omega)
  have hD2 : D ≤ 1000000 := by omega
  rw [hA] at hu hcu hl ⊢
  rw [hB] at hv hcv hm ⊢
  have HU := Lib.hid hu
  have HV := Lib.hid hv
  clear hu hv heq hA hB hMn hMx hD hcu hcv
  go_enter Tryz.func11, Tryz.ntmps11
  go_wp2
  go_loopg [5, 23] Mn (fun gk s i wr => ∃ I S : Nat, I ≤ Mn ∧ gk = Mn - I ∧ s = .int .i64 S ∧ i = .int .i64 I ∧ S ≤ D + I ∧ Hid (S = D + farC l m I) ∧ Hid (Below w.heap.size w wr))
  case atStart => exact ⟨0, D, by omega, rfl, rfl, rfl, by omega, Lib.hid rfl, Lib.hid (Below.refl _ _)⟩
  case round =>
    clear x1 x2 x3
    obtain ⟨I, S, hI, rfl, rfl, rfl, hS, HS, HBL⟩ := hrel
    have hs := HBL.out.size
    by_cases hlt : I < Mn
    · obtain ⟨c, hc, -⟩ := at_get (l := l) (i := I) (by rw [HA.out]; omega)
      obtain ⟨d, hd, -⟩ := at_get (l := m) (i := I) (by rw [HB.out]; omega)
      obtain ⟨b1, o1, rfl, hb1, -⟩ := HU.out.at hc
      obtain ⟨b2, o2, rfl, hb2, -⟩ := HV.out.at hd
      obtain ⟨_, _, e, -, c1⟩ := (HU.out.below HBL.out).at hc
      cases e
      obtain ⟨_, _, e, -, c2⟩ := (HV.out.below HBL.out).at hd
      cases e
      obtain ⟨x, hx⟩ : ∃ x, c.n = x := ⟨_, rfl⟩
      obtain ⟨y, hy⟩ : ∃ y, d.n = y := ⟨_, rfl⟩
      rw [hx] at c1
      rw [hy] at c2
      have hiff : l[I]? = m[I]? ↔ x = y := by
        rw [hc, hd]
        exact ⟨fun e => by cases e; omega, fun e => congrArg some (GF.ext' (by omega))⟩
      have HIF := Lib.hid hiff
      have HBD : Hid (Below w.heap.size w wr.drew) := Lib.hid HBL.out.drew
      obtain ⟨kp, hkp⟩ : ∃ kp : Nat → Bool, ∀ j, kp j = true ↔ j < wr.heap.size := ⟨fun j => decide (j < wr.heap.size), by simp⟩
      have hk1 : kp b1 = true := (hkp _).2 (by omega)
      have hk2 : kp b2 = true := (hkp _).2 (by omega)
      have HKP := Lib.hid hkp
      have i1 : (0 : Int) ≤ (I : Int) ∧ (I : Int) < (A : Int) := by omega
      have i2 : (0 : Int) ≤ (I : Int) ∧ (I : Int) < (B : Int) := by omega
      clear hkp hc hd hx hy hiff
      by_cases hxy : x = y
      · subst hxy
        go_upto_region 5 with fail
        have hgr := fun (w0 W : World) (p : Addr) (hp : (fun j => kp j = true) p.block) => graft_cell (w0 := w0) (keep := (fun j => kp j = true)) W hp
        refine wp_region_tree (fun j => kp j = true) [] (.step 0 (.step 1 (.step 2 (.step 3 (.step 4 (.step 5 (.step 6 (.step 7 (.step 8 .done))))))))) (by kernel_rfl) (by kernel_rfl) ?_
        simp only [slimTr, slimStep, Oper.slim, List.contains_cons, List.contains_nil, Option.map_none, Option.map_some, List.getElem?_toArray, List.getElem?_cons_zero, List.getElem?_cons_succ, Option.bind_some, beq_self_eq_true, Bool.or_false, Nat.reduceBEq, Nat.reduceAdd, Nat.zero_add]
        repeat (first | (fail) | ((with_reducible refine wpSlimT_step (fun K hK => ?_)); go_simp; first | (refine hK _ _ ?_; clear hK K) | (refine ⟨by (intro kk hkk; first | (simp (disch := (simp; omega)) only [hp_drew, hp_drewN, hp_alloc, hp_set]; done) | (simp [hp_drew, hp_drewN, hp_alloc_if, hkk]; done) | fail), hK _ _ ?_⟩; clear hK K)))
        refine wpSlimT_done ?_
        clear hgr
        go_wp2
        go_roundg (Mn - (I + 1))
        case measure => omega
        case rel => exact ⟨I + 1, S, by omega, rfl, rfl, by go_num, by omega, Lib.hid (by rw [farC_no (HIF.out.2 (by trivial))]; exact HS.out), HBD⟩
      · have hne : ¬ (x : Int) = (y : Int) := by omega
        have HXY := Lib.hid hxy
        clear hxy
        go_upto_region 5 with fail
        have hgr := fun (w0 W : World) (p : Addr) (hp : (fun j => kp j = true) p.block) => graft_cell (w0 := w0) (keep := (fun j => kp j = true)) W hp
        refine wp_region_tree (fun j => kp j = true) [] (.step 0 (.step 1 (.step 2 (.step 3 (.step 4 (.step 5 (.step 6 (.step 7 (.step 8 .done))))))))) (by kernel_rfl) (by kernel_rfl) ?_
        simp only [slimTr, slimStep, Oper.slim, List.contains_cons, List.contains_nil, Option.map_none, Option.map_some, List.getElem?_toArray, List.getElem?_cons_zero, List.getElem?_cons_succ, Option.bind_some, beq_self_eq_true, Bool.or_false, Nat.reduceBEq, Nat.reduceAdd, Nat.zero_add]
        repeat (first | (fail) | ((with_reducible refine wpSlimT_step (fun K hK => ?_)); go_simp; first | (refine hK _ _ ?_; clear hK K) | (refine ⟨by (intro kk hkk; first | (simp (disch := (simp; omega)) only [hp_drew, hp_drewN, hp_alloc, hp_set]; done) | (simp [hp_drew, hp_drewN, hp_alloc_if, hkk]; done) | fail), hK _ _ ?_⟩; clear hK K)))
        refine wpSlimT_done ?_
        clear hgr
        go_wp2
        go_roundg (Mn - (I + 1))
        case measure => omega
        case rel => exact ⟨I + 1, S + 1, by omega, rfl, by go_num, by go_num, by omega, Lib.hid (by rw [farC_yes (fun e => HXY.out (HIF.out.1 e)), HS.out]; rfl), HBD⟩
    · obtain rfl : I = Mn := by omega
      go_wp2
      go_ret
      exact ⟨by rw [HEQ.out, HS.out]; rfl, HBL.out⟩
set_option maxRecDepth 100000 in
set_option maxHeartbeats 4000000 in
theorem rfar_any (u v : Value) (l m : List GF) (w : World) (hu : GRd w u l) (hv : GRd w v m) (hl : l.length ≤ 1000000) (hm : m.length ≤ 1000000) :
    Calls Tryz.prog 12 #[u, v] w (FarPost l m w) := by
  obtain ⟨au, cu, rfl, hcu⟩ := hu.form
  obtain ⟨av, cv, rfl, hcv⟩ := hv.form
  have heq : farU l m = farC l m (max l.length m.length) := rfl
  obtain ⟨A, hA⟩ : ∃ A, l.length = A := ⟨_, rfl⟩
  obtain ⟨B, hB⟩ : ∃ B, m.length = B := ⟨_, rfl⟩
  obtain ⟨Mx, hMx⟩ : ∃ Mx, max A B = Mx := ⟨_, rfl⟩
  rw [hA, hB, hMx] at heq
  have HEQ := Lib.hid heq
  have HA := Lib.hid hA
  have HB := Lib.hid hB
  have HMX := Lib.hid hMx
  have hMM : Mx ≤ 1000000 := by omega
  rw [hA] at hu hcu hl ⊢
  rw [hB] at hv hcv hm ⊢
  have HU := Lib.hid hu
  have HV := Lib.hid hv
  clear hu hv heq hA hB hMx hcu hcv
  go_enter Tryz.func12, Tryz.ntmps12
  go_wp2
  go_loopg [5, 6] Mx (fun gk s i wr => ∃ I S : Nat, I ≤ Mx ∧ gk = Mx - I ∧ s = .int .i64 S ∧ i = .int .i64 I ∧ S ≤ I ∧ Hid (S = farC l m I) ∧ Hid (Below w.heap.size w wr))
  case atStart => exact ⟨0, 0, by omega, rfl, rfl, rfl, by omega, Lib.hid rfl, Lib.hid (Below.refl _ _)⟩
  case round =>
    obtain ⟨I, S, hI, rfl, rfl, rfl, hS, HS, HBL⟩ := hrel
    have hs := HBL.out.size
    have HBD : Hid (Below w.heap.size w wr.drew) := Lib.hid HBL.out.drew
    obtain ⟨kp, hkp⟩ : ∃ kp : Nat → Bool, ∀ j, kp j = true ↔ j < wr.heap.size := ⟨fun j => decide (j < wr.heap.size), by simp⟩
    have HKP := Lib.hid hkp
    by_cases hlt : I < Mx
    · by_cases h1 : I < A
      · by_cases h2 : I < B
        · obtain ⟨c, hc, -⟩ := at_get (l := l) (i := I) (by rw [HA.out]; omega)
          obtain ⟨d, hd, -⟩ := at_get (l := m) (i := I) (by rw [HB.out]; omega)
          obtain ⟨b1, o1, rfl, hb1, -⟩ := HU.out.at hc
          obtain ⟨b2, o2, rfl, hb2, -⟩ := HV.out.at hd
          obtain ⟨_, _, e, -, c1⟩ := (HU.out.below HBL.out).at hc
          cases e
          obtain ⟨_, _, e, -, c2⟩ := (HV.out.below HBL.out).at hd
          cases e
          obtain ⟨x, hx⟩ : ∃ x, c.n = x := ⟨_, rfl⟩
          obtain ⟨y, hy⟩ : ∃ y, d.n = y := ⟨_, rfl⟩
          rw [hx] at c1
          rw [hy] at c2
          have hiff : l[I]? = m[I]? ↔ x = y := by
            rw [hc, hd]
            exact ⟨fun e => by cases e; omega, fun e => congrArg some (GF.ext' (by omega))⟩
          have HIF := Lib.hid hiff
          have hk1 : kp b1 = true := (hkp _).2 (by omega)
          have hk2 : kp b2 = true := (hkp _).2 (by omega)
          have i1 : (0 : Int) ≤ (I : Int) ∧ (I : Int) < (A : Int) := by omega
          have i2 : (0 : Int) ≤ (I : Int) ∧ (I : Int) < (B : Int) := by omega
          have i3 : ¬ (A : Int) ≤ (I : Int) := by omega
          have i4 : ¬ (B : Int) ≤ (I : Int) := by omega
          clear hkp hc hd hx hy hiff
          by_cases hxy : x = y
          · subst hxy
            go_upto_region 5 with fail
            have hgr := fun (w0 W : World) (p : Addr) (hp : (fun j => kp j = true) p.block) => graft_cell (w0 := w0) (keep := (fun j => kp j = true)) W hp
            refine wp_region_tree (fun j => kp j = true) [] (.step 0 (.step 1 (.step 2 (.step 3 (.step 4 (.step 5 (.step 6 (.step 7 (.step 8 (.step 9 (.step 10 (.step 11 (.step 12 (.step 13 (.step 14 (.step 15 (.step 16 (.step 17 (.step 18 (.step 19 (.step 20 .done))))))))))))))))))))) (by kernel_rfl) (by kernel_rfl) ?_
            simp only [slimTr, slimStep, Oper.slim, List.contains_cons, List.contains_nil, Option.map_none, Option.map_some, List.getElem?_toArray, List.getElem?_cons_zero, List.getElem?_cons_succ, Option.bind_some, beq_self_eq_true, Bool.or_false, Nat.reduceBEq, Nat.reduceAdd, Nat.zero_add]
            repeat (first | (fail) | ((with_reducible refine wpSlimT_step (fun K hK => ?_)); go_simp; first | (refine hK _ _ ?_; clear hK K) | (refine ⟨by (intro kk hkk; first | (simp (disch := (simp; omega)) only [hp_drew, hp_drewN, hp_alloc, hp_set]; done) | (simp [hp_drew, hp_drewN, hp_alloc_if, hkk]; done) | fail), hK _ _ ?_⟩; clear hK K)))
            refine wpSlimT_done ?_
            clear hgr
            go_wp2
            go_roundg (Mx - (I + 1))
            case measure => omega
            case rel => exact ⟨I + 1, S, by omega, rfl, rfl, by go_num, by omega, Lib.hid (by rw [farC_no (HIF.out.2 (by trivial))]; exact HS.out), HBD⟩
          · have hne : ¬ (x : Int) = (y : Int) := by omega
            have HXY := Lib.hid hxy
            clear hxy
            go_upto_region 5 with fail
            have hgr := fun (w0 W : World) (p : Addr) (hp : (fun j => kp j = true) p.block) => graft_cell (w0 := w0) (keep := (fun j => kp j = true)) W hp
            refine wp_region_tree (fun j => kp j = true) [] (.step 0 (.step 1 (.step 2 (.step 3 (.step 4 (.step 5 (.step 6 (.step 7 (.step 8 (.step 9 (.step 10 (.step 11 (.step 12 (.step 13 (.step 14 (.step 15 (.step 16 (.step 17 (.step 18 (.step 19 (.step 20 .done))))))))))))))))))))) (by kernel_rfl) (by kernel_rfl) ?_
            simp only [slimTr, slimStep, Oper.slim, List.contains_cons, List.contains_nil, Option.map_none, Option.map_some, List.getElem?_toArray, List.getElem?_cons_zero, List.getElem?_cons_succ, Option.bind_some, beq_self_eq_true, Bool.or_false, Nat.reduceBEq, Nat.reduceAdd, Nat.zero_add]
            repeat (first | (fail) | ((with_reducible refine wpSlimT_step (fun K hK => ?_)); go_simp; first | (refine hK _ _ ?_; clear hK K) | (refine ⟨by (intro kk hkk; first | (simp (disch := (simp; omega)) only [hp_drew, hp_drewN, hp_alloc, hp_set]; done) | (simp [hp_drew, hp_drewN, hp_alloc_if, hkk]; done) | fail), hK _ _ ?_⟩; clear hK K)))
            refine wpSlimT_done ?_
            clear hgr
            go_wp2
            go_roundg (Mx - (I + 1))
            case measure => omega
            case rel => exact ⟨I + 1, S + 1, by omega, rfl, by go_num, by go_num, by omega, Lib.hid (by rw [farC_yes (fun e => HXY.out (HIF.out.1 e)), HS.out]), HBD⟩
        · have HNE : Hid (l[I]? ≠ m[I]?) := Lib.hid (by
            rw [List.getElem?_eq_none (l := m) (by rw [HB.out]; omega), List.getElem?_eq_getElem (by rw [HA.out]; omega)]
            simp)
          have i3 : ¬ (A : Int) ≤ (I : Int) := by omega
          have i4 : (B : Int) ≤ (I : Int) := by omega
          clear hkp
          go_upto_region 5 with fail
          have hgr := fun (w0 W : World) (p : Addr) (hp : (fun j => kp j = true) p.block) => graft_cell (w0 := w0) (keep := (fun j => kp j = true)) W hp
          refine wp_region_tree (fun j => kp j = true) [] (.step 0 (.step 1 (.step 2 (.step 3 (.step 4 (.step 5 (.step 6 (.step 7 (.step 8 (.step 9 (.step 10 (.step 11 (.step 12 (.step 13 (.step 14 (.step 15 (.step 16 (.step 17 (.step 18 (.step 19 (.step 20 .done))))))))))))))))))))) (by kernel_rfl) (by kernel_rfl) ?_
          simp only [slimTr, slimStep, Oper.slim, List.contains_cons, List.contains_nil, Option.map_none, Option.map_some, List.getElem?_toArray, List.getElem?_cons_zero, List.getElem?_cons_succ, Option.bind_some, beq_self_eq_true, Bool.or_false, Nat.reduceBEq, Nat.reduceAdd, Nat.zero_add]
          repeat (first | (fail) | ((with_reducible refine wpSlimT_step (fun K hK => ?_)); go_simp; first | (refine hK _ _ ?_; clear hK K) | (refine ⟨by (intro kk hkk; first | (simp (disch := (simp; omega)) only [hp_drew, hp_drewN, hp_alloc, hp_set]; done) | (simp [hp_drew, hp_drewN, hp_alloc_if, hkk]; done) | fail), hK _ _ ?_⟩; clear hK K)))
          refine wpSlimT_done ?_
          clear hgr
          go_wp2
          go_roundg (Mx - (I + 1))
          case measure => omega
          case rel => exact ⟨I + 1, S + 1, by omega, rfl, by go_num, by go_num, by omega, Lib.hid (by rw [farC_yes HNE.out, HS.out]), HBD⟩
      · have h2 : I < B := by have := HMX.out; omega
        have HNE : Hid (l[I]? ≠ m[I]?) := Lib.hid (by
          rw [List.getElem?_eq_none (l := l) (by rw [HA.out]; omega), List.getElem?_eq_getElem (by rw [HB.out]; omega)]
          simp)
        have i3 : (A : Int) ≤ (I : Int) := by omega
        clear hkp
        go_upto_region 5 with fail
        have hgr := fun (w0 W : World) (p : Addr) (hp : (fun j => kp j = true) p.block) => graft_cell (w0 := w0) (keep := (fun j => kp j = true)) W hp
        refine wp_region_tree (fun j => kp j = true) [] (.step 0 (.step 1 (.step 2 (.step 3 (.step 4 (.step 5 (.step 6 (.step 7 (.step 8 (.step 9 (.step 10 (.step 11 (.step 12 (.step 13 (.step 14 (.step 15 (.step 16 (.step 17 (.step 18 (.step 19 (.step 20 .done))))))))))))))))))))) (by kernel_rfl) (by kernel_rfl) ?_
        simp only [slimTr, slimStep, Oper.slim, List.contains_cons, List.contains_nil, Option.map_none, Option.map_some, List.getElem?_toArray, List.getElem?_cons_zero, List.getElem?_cons_succ, Option.bind_some, beq_self_eq_true, Bool.or_false, Nat.reduceBEq, Nat.reduceAdd, Nat.zero_add]
        repeat (first | (fail) | ((with_reducible refine wpSlimT_step (fun K hK => ?_)); go_simp; first | (refine hK _ _ ?_; clear hK K) | (refine ⟨by (intro kk hkk; first | (simp (disch := (simp; omega)) only [hp_drew, hp_drewN, hp_alloc, hp_set]; done) | (simp [hp_drew, hp_drewN, hp_alloc_if, hkk]; done) | fail), hK _ _ ?_⟩; clear hK K)))
        refine wpSlimT_done ?_
        clear hgr
        go_wp2
        go_roundg (Mx - (I + 1))
        case measure => omega
        case rel => exact ⟨I + 1, S + 1, by omega, rfl, by go_num, by go_num, by omega, Lib.hid (by rw [farC_yes HNE.out, HS.out]), HBD⟩
    · obtain rfl : I = Mx := by omega
      have h1 : ¬ I < A := by have := HMX.out; omega
      have h2 : ¬ I < B := by have := HMX.out; omega
      clear hkp
      go_wp2
      go_ret
      exact ⟨by rw [HEQ.out, HS.out]; rfl, HBL.out⟩
end Go.Proofs.YteeeocianofkfaaGreat
