/-
  The reference's Places, At, Full and Decode.
-/
import Derived.Test.YteeeocianofkfaaGreatRef4
namespace Go.Proofs.YteeeocianofkfaaGreat
open Go.RowKit Fld
set_option linter.unusedVariables false
set_option linter.unusedSimpArgs false

theorem good_snoc {N : Nat} {l : List Int} {I : Nat} {x : Int} (h : GoodP N (l.take I)) (hx : l[I]? = some x) (h0 : ¬ x < 0) (hN : ¬ (N : Int) ≤ x) (hne : ∀ j, j < I → l.getD j 0 ≠ x) : GoodP N (l.take (I + 1)) := by
  obtain ⟨hI, hx'⟩ := List.getElem?_eq_some_iff.1 hx
  rw [List.take_succ_eq_append_getElem hI, hx']
  refine ⟨fun y hy => ?_, List.nodup_append.2 ⟨h.2, by simp, fun a ha b hb e => ?_⟩⟩
  · rcases List.mem_append.1 hy with hy | hy
    · exact h.1 y hy
    · rw [List.mem_singleton] at hy
      subst hy
      omega
  · rw [List.mem_singleton] at hb
    subst hb
    subst e
    obtain ⟨j, hj, hja⟩ := List.mem_iff_getElem.1 ha
    rw [List.length_take] at hj
    refine hne j (by omega) ?_
    rw [List.getElem_take] at hja
    rw [List.getD_eq_getElem?_getD, List.getElem?_eq_getElem (by omega), hja]
    rfl
theorem good_range {N : Nat} {l : List Int} {i : Nat} {x : Int} (h : GoodP N l) (hx : l[i]? = some x) : 0 ≤ x ∧ x < (N : Int) := h.1 x (List.mem_of_getElem? hx)
theorem good_twice {N : Nat} {l : List Int} {i j : Nat} {x : Int} (h : GoodP N l) (hx : l[i]? = some x) (hy : l[j]? = some x) (hne : j < i) : False := by
  obtain ⟨hi, h1⟩ := List.getElem?_eq_some_iff.1 hx
  obtain ⟨hj, h2⟩ := List.getElem?_eq_some_iff.1 hy
  have := (List.getElem_inj h.2).1 (h1.trans h2.symm)
  omega
/-- What 'Places' by definition answers. -/
def RPlPost (N : Nat) (ps : List Int) (M : Nat) (w : World) (e : Ending) (w' : World) : Prop :=
  ∃ b : Bool, e = .returned (.bool b) ∧ (b = true ↔ GoodP N ps ∧ ps.length = M) ∧ Below w.heap.size w w'
set_option maxRecDepth 100000 in
set_option maxHeartbeats 4000000 in
theorem rplaces_any (xv pv yv : Value) (xs : List GF) (ps : List Int) (ys : List GF) (w : World) (hx : GRd w xv xs) (hp : IRd w pv ps) (hy : GRd w yv ys) (hpl : ps.length ≤ 1000000) :
    Calls Tryz.prog 44 #[xv, pv, yv] w (RPlPost xs.length ps ys.length w) := by
  obtain ⟨ax, cx, rfl, hcx⟩ := hx.form
  obtain ⟨ay, cy, rfl, hcy⟩ := hy.form
  obtain ⟨ap, cp, rfl⟩ := hp.form
  obtain ⟨N, hN⟩ : ∃ N, xs.length = N := ⟨_, rfl⟩
  obtain ⟨Q, hQ⟩ : ∃ Q, ps.length = Q := ⟨_, rfl⟩
  obtain ⟨M, hM⟩ : ∃ M, ys.length = M := ⟨_, rfl⟩
  have HQ := Lib.hid hQ
  rw [hN, hM]
  rw [hQ] at hpl hp ⊢
  have HP := Lib.hid hp
  clear hx hp hy hN hQ hM hcx hcy
  go_enter Tryz.func44, Tryz.ntmps44
  go_wp2
  go_loopg [7] Q (fun gk i wr => ∃ I : Nat, I ≤ Q ∧ gk = Q - I ∧ i = .int .i64 I ∧ Hid (GoodP N (ps.take I)) ∧ Hid (Below w.heap.size w wr))
  case atStart => exact ⟨0, by omega, rfl, rfl, Lib.hid ⟨by simp, by simp⟩, Lib.hid (Below.refl _ _)⟩
  case round =>
    obtain ⟨I, hI, rfl, rfl, HG, HB⟩ := hrel
    by_cases hlt : I < Q
    · obtain ⟨x, hx⟩ : ∃ x, ps[I]? = some x := ⟨_, List.getElem?_eq_getElem (by rw [HQ.out]; exact hlt)⟩
      obtain ⟨-, -, b, o, rfl, hb, c0⟩ := IRd.cell (HP.out.below HB.out) hx
      obtain ⟨-, -, b', o', e', hbw, -⟩ := IRd.cell HP.out hx
      cases e'
      have HX := Lib.hid hx
      clear hx
      by_cases h1 : x < 0
      · go_wp2
        go_ret
        exact ⟨false, rfl, by
          simp only [Bool.false_eq_true, false_iff]
          intro h
          have := good_range h.1 HX.out
          omega, HB.out⟩
      · by_cases h2 : (N : Int) ≤ x
        · go_wp2
          go_ret
          exact ⟨false, rfl, by
            simp only [Bool.false_eq_true, false_iff]
            intro h
            have := good_range h.1 HX.out
            omega, HB.out⟩
        · go_wp2
          go_loopg [8] I (fun gk j wr => ∃ J : Nat, J ≤ I ∧ gk = I - J ∧ j = .int .i64 J ∧ Hid (∀ j, j < J → ps.getD j 0 ≠ x) ∧ Hid (Below w.heap.size w wr))
          case atStart => exact ⟨0, by omega, rfl, rfl, Lib.hid (fun j hj => by omega), HB⟩
          case round =>
            clear c0
            obtain ⟨J, hJ, rfl, rfl, HNE, HBK⟩ := hrel
            have hsk := HBK.out.size
            by_cases hlt2 : J < I
            · have hlt3 : J < Q := by omega
              obtain ⟨y, hy⟩ : ∃ y, ps[J]? = some y := ⟨_, List.getElem?_eq_getElem (by rw [HQ.out]; omega)⟩
              have c1 := IRd.cells (HP.out.below HBK.out) I x HX.out
              have c2 := IRd.cells (HP.out.below HBK.out) J y hy
              have HY := Lib.hid hy
              obtain ⟨kp, hkp⟩ : ∃ kp : Nat → Bool, ∀ j, kp j = true ↔ j < wr.heap.size := ⟨fun j => decide (j < wr.heap.size), by simp⟩
              have hk1 : kp b = true := (hkp _).2 (by omega)
              have HKP := Lib.hid hkp
              clear hkp hy
              by_cases hxy : x = y
              · subst hxy
                go_upto_region 9 with fail
                have hgr := fun (w0 W : World) (p : Addr) (hp : (fun j => kp j = true) p.block) => graft_cell (w0 := w0) (keep := (fun j => kp j = true)) W hp
                refine wp_region_tree (fun j => kp j = true) [] (.step 0 (.step 1 (.step 2 (.step 3 (.step 4 (.step 5 (.step 6 (.step 7 (.step 8 .done))))))))) (by kernel_rfl) (by kernel_rfl) ?_
                simp only [slimTr, slimStep, Oper.slim, List.contains_cons, List.contains_nil, Option.map_none, Option.map_some, List.getElem?_toArray, List.getElem?_cons_zero, List.getElem?_cons_succ, Option.bind_some, beq_self_eq_true, Bool.or_false, Nat.reduceBEq, Nat.reduceAdd, Nat.zero_add]
                repeat (first | (fail) | ((with_reducible refine wpSlimT_step (fun K hK => ?_)); go_simp; first | (refine hK _ _ ?_; clear hK K) | (refine ⟨by (intro kk hkk; first | (simp (disch := (simp; omega)) only [hp_drew, hp_drewN, hp_alloc, hp_set]; done) | (simp [hp_drew, hp_drewN, hp_alloc_if, hkk]; done) | fail), hK _ _ ?_⟩; clear hK K)))
                refine wpSlimT_done ?_
                clear hgr
                go_wp2
                go_ret
                exact ⟨false, rfl, by
                  simp only [Bool.false_eq_true, false_iff]
                  intro h
                  exact good_twice h.1 HX.out HY.out hlt2, HBK.out.drew⟩
              · have HNE2 : Hid (∀ j, j < J + 1 → ps.getD j 0 ≠ x) := Lib.hid fun j hj => by
                  by_cases e : j = J
                  · rw [e, List.getD_eq_getElem?_getD, HY.out]
                    exact fun e => hxy e.symm
                  · exact HNE.out j (by omega)
                have HBD : Hid (Below w.heap.size w wr.drew) := Lib.hid HBK.out.drew
                go_upto_region 9 with fail
                have hgr := fun (w0 W : World) (p : Addr) (hp : (fun j => kp j = true) p.block) => graft_cell (w0 := w0) (keep := (fun j => kp j = true)) W hp
                refine wp_region_tree (fun j => kp j = true) [] (.step 0 (.step 1 (.step 2 (.step 3 (.step 4 (.step 5 (.step 6 (.step 7 (.step 8 .done))))))))) (by kernel_rfl) (by kernel_rfl) ?_
                simp only [slimTr, slimStep, Oper.slim, List.contains_cons, List.contains_nil, Option.map_none, Option.map_some, List.getElem?_toArray, List.getElem?_cons_zero, List.getElem?_cons_succ, Option.bind_some, beq_self_eq_true, Bool.or_false, Nat.reduceBEq, Nat.reduceAdd, Nat.zero_add]
                repeat (first | (fail) | ((with_reducible refine wpSlimT_step (fun K hK => ?_)); go_simp; first | (refine hK _ _ ?_; clear hK K) | (refine ⟨by (intro kk hkk; first | (simp (disch := (simp; omega)) only [hp_drew, hp_drewN, hp_alloc, hp_set]; done) | (simp [hp_drew, hp_drewN, hp_alloc_if, hkk]; done) | fail), hK _ _ ?_⟩; clear hK K)))
                refine wpSlimT_done ?_
                clear hgr
                go_wp2
                go_roundg (I - (J + 1))
                case measure => omega
                case rel => exact ⟨J + 1, by omega, rfl, by go_num, HNE2, HBD⟩
            · obtain rfl : J = I := by omega
              have HG2 : Hid (GoodP N (ps.take (J + 1))) := Lib.hid (good_snoc HG.out HX.out (by omega) (by omega) HNE.out)
              go_wp2
              go_roundg (Q - (J + 1))
              case measure => omega
              case rel => exact ⟨J + 1, by omega, rfl, by go_num, HG2, HBK⟩
    · obtain rfl : I = Q := by omega
      have HG2 : Hid (GoodP N ps) := Lib.hid (by
        have := HG.out
        rwa [List.take_of_length_le (by rw [HQ.out]; exact Nat.le_refl _)] at this)
      by_cases hm : I = M
      · subst hm
        go_wp2
        go_ret
        exact ⟨true, rfl, by simp [HG2.out, HQ.out], HB.out⟩
      · have hm' : ((I : Int) == (M : Int)) = false := by simp; omega
        go_wp2
        go_ret
        exact ⟨false, rfl, by simp [HQ.out, hm], HB.out⟩
theorem ptsRow (xs : List GF) (ps : List Int) : rowF (fun i => xs.getD (ps.getD i 0).toNat 0) ps.length = ptsOf xs ps := by
  refine List.ext_getElem (by simp [rowF, ptsOf]) fun i h1 h2 => ?_
  rw [rowF_len] at h1
  simp [rowF, ptsOf, List.getElem?_eq_getElem h1]
/-- A row handed back. -/
def RowPost (l : List GF) (w : World) (e : Ending) (w' : World) : Prop := ∃ v, e = .returned v ∧ OwnG w' w.heap.size v l ∧ Below w.heap.size w w'
set_option maxRecDepth 100000 in
set_option maxHeartbeats 4000000 in
theorem rpts_any (xv pv : Value) (xs : List GF) (ps : List Int) (w : World) (hx : GRd w xv xs) (hp : IRd w pv ps) (hg : ∀ x ∈ ps, 0 ≤ x ∧ x < (xs.length : Int)) (hpl : ps.length ≤ 1000000) :
    Calls Tryz.prog 68 #[xv, pv] w (RowPost (ptsOf xs ps) w) := by
  obtain ⟨ax, cx, rfl, hcx⟩ := hx.form
  obtain ⟨ap, cp, rfl⟩ := hp.form
  obtain ⟨N, hN⟩ : ∃ N, xs.length = N := ⟨_, rfl⟩
  obtain ⟨Q, hQ⟩ : ∃ Q, ps.length = Q := ⟨_, rfl⟩
  obtain ⟨f, hf⟩ : ∃ f : Nat → GF, f = fun i => xs.getD (ps.getD i 0).toNat 0 := ⟨_, rfl⟩
  have hrow := ptsRow xs ps
  rw [← hf, hQ] at hrow
  rw [← hrow]
  have HF := Lib.hid hf
  have HQ := Lib.hid hQ
  have HN := Lib.hid hN
  have HG := Lib.hid hg
  rw [hN] at hx hcx ⊢
  rw [hQ] at hpl hp ⊢
  have HX := Lib.hid hx
  have HP := Lib.hid hp
  clear hx hp hN hQ hcx hg hrow hf
  go_enter Tryz.func68, Tryz.ntmps68
  go_wp2
  go_loopg [5, 6] Q (fun gk l i wr => ∃ (V : Value) (J : Nat), V = l ∧ J ≤ Q ∧ gk = Q - J ∧ i = .int .i64 J ∧ Hid (OwnG wr w.heap.size V (rowF f J)) ∧ Hid (Below w.heap.size w wr))
  case atStart => exact ⟨_, 0, rfl, by omega, rfl, rfl, Lib.hid (OwnG.nil _ _), Lib.hid (Below.refl _ _)⟩
  case round =>
    obtain ⟨V, J, rfl, hJ, rfl, rfl, HO, HB⟩ := hrel
    have hs := HB.out.size
    by_cases hlt : J < Q
    · obtain ⟨x, hx⟩ : ∃ x, ps[J]? = some x := ⟨_, List.getElem?_eq_getElem (by rw [HQ.out]; exact hlt)⟩
      have hxr := HG.out x (List.mem_of_getElem? hx)
      obtain ⟨p, rfl⟩ : ∃ p : Nat, x = (p : Int) := ⟨x.toNat, by omega⟩
      rw [HN.out] at hxr
      have hpN : p < N := by omega
      obtain ⟨-, -, b, o, rfl, hb, c0⟩ := IRd.cell (HP.out.below HB.out) hx
      obtain ⟨c, hc, hd⟩ := at_get (l := xs) (i := p) (by rw [HN.out]; exact hpN)
      obtain ⟨b2, o2, rfl, hb2, c1⟩ := (HX.out.below HB.out).at hc
      obtain ⟨y, hy⟩ : ∃ t, c.n = t := ⟨_, rfl⟩
      have hy2 : (f J).n = y := by
        rw [HF.out, ← hy, ← hd]
        show (xs.getD (ps.getD J 0).toNat 0).n = _
        rw [List.getD_eq_getElem?_getD (l := ps), hx]
        rfl
      rw [hy] at c1
      obtain ⟨v1, w6, hap, ho1, -, hb6, -⟩ := app_row (W := wr) HO.out (by omega) (by omega) hy2 (ad := wr.heap.size) rfl
      have HO6 := Lib.hid ho1
      have HB6 := Lib.hid (HB.out.trans hb6)
      clear hc hd hy hy2 ho1 hb6 hx
      go_wp2_with (at_builtin; refine wpList_append rfl _ _ _ rfl rfl rfl hap ?_)
      go_roundg (Q - (J + 1))
      case measure => omega
      case rel => exact ⟨_, J + 1, rfl, by omega, rfl, by go_num, HO6, HB6⟩
    · obtain rfl : J = Q := by omega
      go_wp2
      go_ret
      exact ⟨V, rfl, HO.out, HB.out⟩
/-- A row with some noughts behind. -/
noncomputable def padN (p : List GF) (J : Nat) : List GF := p ++ List.replicate J 0
theorem padN_len (p : List GF) (J : Nat) : (padN p J).length = p.length + J := by simp [padN]
theorem padN_succ (p : List GF) (J : Nat) : padN p (J + 1) = padN p J ++ [0] := by simp [padN, List.replicate_succ']
/-- What 'Full' by definition answers. -/
def RFullPost (p : List GF) (k : Nat) (w : World) (e : Ending) (w' : World) : Prop := ∃ v, e = .returned (.tuple #[v, .bool (decide (p.length ≤ k))]) ∧ OwnG w' w.heap.size v (padTo p k) ∧ Below w.heap.size w w'
set_option maxRecDepth 100000 in
set_option maxHeartbeats 4000000 in
theorem rfull_any (pv : Value) (p : List GF) (k : Nat) (w : World) (hp : GRd w pv p) (hpl : p.length ≤ 100000) (hk : k ≤ 100000) :
    Calls Tryz.prog 69 #[pv, .int .i64 k] w (RFullPost p k w) := by
  obtain ⟨ax, cx, rfl, hcx⟩ := hp.form
  obtain ⟨L, hL⟩ : ∃ L, p.length = L := ⟨_, rfl⟩
  obtain ⟨v1, w1, hap1, ho1, hb1⟩ := app_nil hp (by omega)
  have HL := Lib.hid hL
  have HO1 : Hid (OwnG w1 w.heap.size v1 (padN p 0)) := Lib.hid (by simpa [padN] using ho1)
  have HB1 := Lib.hid hb1
  rw [hL] at hpl hap1 ⊢
  clear hp hL hcx ho1 hb1
  go_enter Tryz.func69, Tryz.ntmps69
  go_wp2_with (at_builtin; refine wpList_append rfl _ _ _ rfl rfl rfl hap1 ?_)
  go_loopg [6] (k - L) (fun gk m wr => ∃ (V : Value) (J : Nat), V = m ∧ (J = 0 ∨ L + J ≤ k) ∧ gk = k - L - J ∧ Hid (OwnG wr w.heap.size V (padN p J)) ∧ Hid (Below w.heap.size w wr))
  case atStart => exact ⟨_, 0, rfl, .inl rfl, rfl, HO1, HB1⟩
  case round =>
    clear HO1 HB1
    obtain ⟨V, J, rfl, hJ, rfl, HO, HB⟩ := hrel
    have hs := HB.out.size
    obtain ⟨T, hT⟩ : ∃ T, L + J = T := ⟨_, rfl⟩
    obtain ⟨av, cv, rfl, -⟩ := HO.out.form
    rw [padN_len, HL.out, hT] at HO ⊢
    by_cases hlt : T < k
    · obtain ⟨v2, w6, hap, ho2, -, hb6, -⟩ := app_byte (W := wr) 0 HO.out (by rw [padN_len, HL.out]; omega) (by omega) (n := 0) rfl (ad := wr.heap.size) rfl
      have HO6 : Hid (OwnG w6 w.heap.size v2 (padN p (J + 1))) := Lib.hid (by rw [padN_succ]; exact ho2)
      have HB6 := Lib.hid (HB.out.trans hb6)
      clear ho2 hb6
      go_wp2_with (at_builtin; refine wpList_append rfl _ _ _ rfl rfl rfl hap ?_)
      go_roundg (k - L - (J + 1))
      case measure => omega
      case rel => exact ⟨v2, J + 1, rfl, .inr (by omega), rfl, HO6, HB6⟩
    · have hpad : padN p J = padTo p k := by
        unfold padN padTo
        rw [HL.out]
        congr 2
        omega
      rw [hpad] at HO
      have HP := Lib.hid HO.out
      by_cases he : L ≤ k
      · obtain rfl : T = k := by omega
        have HE := Lib.hid he
        clear he
        go_wp2
        go_ret2
        refine ⟨_, ?_, HP.out, HB.out⟩
        rw [HL.out, decide_eq_true HE.out]
        rfl
      · have he2 : ((T : Int) == (k : Int)) = false := by simp; omega
        have HE := Lib.hid he
        clear he
        go_wp2
        go_ret2
        refine ⟨_, ?_, HP.out, HB.out⟩
        rw [HL.out, decide_eq_false HE.out]
        rfl
/-- What 'Decode' by definition answers. -/
def RDecPost (xs : List GF) (k : Nat) (ps : List Int) (ys : List GF) (w : World) (e : Ending) (w' : World) : Prop :=
  Below w.heap.size w w' ∧
  ((ps.length = ys.length → ¬ GoodP xs.length ps) ∧ e = .returned (.tuple #[.slice none 0 0, .int .i64 2]) ∨
   (ps.length = ys.length ∧ GoodP xs.length ps) ∧ (ps.length < k ∧ e = .returned (.tuple #[.slice none 0 0, .int .i64 70]) ∨
    k ≤ ps.length ∧ ((∃ v m, e = .returned (.tuple #[v, .int .i64 0]) ∧ OwnG w' w.heap.size v m ∧ Fits xs k ps ys m) ∨
      e = .returned (.tuple #[.slice none 0 0, .int .i64 71]) ∧ ∀ m, ¬ Fits xs k ps ys m)))
set_option maxRecDepth 100000 in
set_option maxHeartbeats 4000000 in
theorem rdec_any (xv pv yv : Value) (xs : List GF) (k : Nat) (ps : List Int) (ys : List GF) (w : World) (hx : GRd w xv xs) (hp : IRd w pv ps) (hy : GRd w yv ys) (hn : xs.Nodup) (hxl : xs.length ≤ 1000) (hpl : ps.length ≤ 1000) (hk : k ≤ 1000) :
    Calls Tryz.prog 46 #[xv, .int .i64 k, pv, yv] w (RDecPost xs k ps ys w) := by
  have HPL := Lib.hid (rplaces_any xv pv yv xs ps ys w hx hp hy (by omega))
  obtain ⟨ax, cx, rfl, hcx⟩ := hx.form
  obtain ⟨ay, cy, rfl, hcy⟩ := hy.form
  obtain ⟨ap, cp, rfl⟩ := hp.form
  have HX := Lib.hid hx
  have HP := Lib.hid hp
  have HY := Lib.hid hy
  have HN := Lib.hid hn
  obtain ⟨Q, hQ⟩ : ∃ Q, ps.length = Q := ⟨_, rfl⟩
  obtain ⟨N, hN⟩ : ∃ N, xs.length = N := ⟨_, rfl⟩
  obtain ⟨Y, hY⟩ : ∃ Y, ys.length = Y := ⟨_, rfl⟩
  have HQ := Lib.hid hQ
  have HNN := Lib.hid hN
  have HYY := Lib.hid hY
  rw [hQ] at HPL HP hpl ⊢
  rw [hN] at HPL HX hxl ⊢
  rw [hY] at HPL HY ⊢
  clear hx hp hy hn hcx hcy hQ hN hY
  go_enter Tryz.func46, Tryz.ntmps46
  go_wp2_with fail
  refine HPL.out.mono ?_
  rintro e w1 ⟨b, rfl, hbi, hb1⟩
  have HB1 := Lib.hid hb1
  have HBI := Lib.hid hbi
  clear hb1 hbi HPL
  cases b
  · go_wp2
    go_ret2
    refine ⟨HB1.out, .inl ⟨fun h1 h2 => ?_, rfl⟩⟩
    rw [HNN.out] at h2
    rw [HQ.out, HYY.out] at h1
    have := HBI.out.2 ⟨h2, by rw [HQ.out]; exact h1⟩
    cases this
  · have HGD := Lib.hid (HBI.out.1 (by trivial))
    clear HBI
    by_cases hf : Q < k
    · go_wp2
      go_ret2
      exact ⟨HB1.out, .inr ⟨⟨by rw [HYY.out]; exact HGD.out.2, by rw [HNN.out]; exact HGD.out.1⟩, .inl ⟨by rw [HQ.out]; exact hf, rfl⟩⟩⟩
    · have hf' : ¬ (Q : Int) < (k : Int) := by omega
      have HAT := Lib.hid (rpts_any _ _ xs ps w1 (HX.out.below HB1.out) (HP.out.below HB1.out) (by rw [HNN.out]; exact HGD.out.1.1) (by rw [HQ.out]; omega))
      go_wp2_with fail
      refine HAT.out.mono ?_
      rintro e w2 ⟨v2, rfl, ho2, hb2⟩
      have HB2 : Hid (Below w.heap.size w w2) := Lib.hid (HB1.out.trans (hb2.mono HB1.out.size))
      have hptl : (ptsOf xs ps).length = Q := by rw [← HQ.out]; simp [ptsOf]
      have HTH := Lib.hid (rthru_any v2 _ (ptsOf xs ps) ys w2 ho2.rd (HY.out.below HB2.out) (pts_nodup HN.out (by rw [HNN.out]; exact HGD.out.1)) (by omega) (by have := HGD.out.2; rw [HQ.out] at this; rw [hptl, HYY.out]; exact this.symm))
      have HPT := Lib.hid hptl
      have hs2 := HB2.out.size
      clear ho2 hb2 hptl HAT HB1
      go_wp2_with fail
      refine HTH.out.mono ?_
      rintro e w3 ⟨v3, p, rfl, hr3, ht3, hb3⟩
      have HB3 : Hid (Below w.heap.size w w3) := Lib.hid (HB2.out.trans (hb3.mono hs2))
      have hs3 := HB3.out.size
      have hpl3 : p.length ≤ Q := by have := ht3.2.1; rw [HPT.out] at this; exact this
      have HTL : Hid ((p.length ≤ k → Fits xs k ps ys (padTo p k)) ∧ (k < p.length → ∀ m, ¬ Fits xs k ps ys m)) := Lib.hid (thru_tells HN.out (by rw [HNN.out]; exact HGD.out.1) (by rw [HYY.out]; exact HGD.out.2) (by rw [HQ.out]; omega) ht3)
      have HFU := Lib.hid (rfull_any v3 p k w3 hr3 (by omega) (by omega))
      clear hr3 ht3 hb3 HTH HB2
      go_wp2_with fail
      refine HFU.out.mono ?_
      rintro e w4 ⟨v4, rfl, ho4, hb4⟩
      have HB4 : Hid (Below w.heap.size w w4) := Lib.hid (HB3.out.trans (hb4.mono hs3))
      have HO4 := Lib.hid ho4
      clear ho4 hb4 HFU HB3
      have hgd : (ps.length = ys.length ∧ GoodP xs.length ps) ∧ k ≤ ps.length := ⟨⟨by rw [HYY.out]; exact HGD.out.2, by rw [HNN.out]; exact HGD.out.1⟩, by rw [HQ.out]; omega⟩
      have HGDD := Lib.hid hgd
      clear hgd
      by_cases hpk : p.length ≤ k
      · rw [decide_eq_true hpk]
        have HFIT := Lib.hid (HTL.out.1 hpk)
        clear hpk
        go_wp2
        go_ret2
        exact ⟨HB4.out, .inr ⟨HGDD.out.1, .inr ⟨HGDD.out.2, .inl ⟨v4, _, rfl, HO4.out.mono hs3, HFIT.out⟩⟩⟩⟩
      · rw [decide_eq_false hpk]
        have HFIT := Lib.hid (HTL.out.2 (by omega))
        clear hpk
        go_wp2
        go_ret2
        exact ⟨HB4.out, .inr ⟨HGDD.out.1, .inr ⟨HGDD.out.2, .inr ⟨rfl, HFIT.out⟩⟩⟩⟩
end Go.Proofs.YteeeocianofkfaaGreat
