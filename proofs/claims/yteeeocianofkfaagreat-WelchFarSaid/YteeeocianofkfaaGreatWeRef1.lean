/-
  The reference's Wrong.
-/
import Derived.Test.YteeeocianofkfaaGreatWeInts
import Derived.Test.YteeeocianofkfaaGreatRef5
namespace Go.Proofs.YteeeocianofkfaaGreat
open Go.RowKit Fld
set_option linter.unusedVariables false
set_option linter.unusedSimpArgs false

theorem inR_len (ps : List Int) (W ys : List GF) (p i : Nat) : (inR ps W ys p i).length ≤ i := by
  unfold inR
  rw [List.length_map]
  have := List.length_filter_le (fun i => decide (ps.getD i 0 = (p : Int)) && decide (W.getD p 0 ≠ ys.getD i 0)) (List.range i)
  rwa [List.length_range] at this
theorem wrR_len (ps : List Int) (W ys : List GF) : ∀ p, (wrR ps W ys p).length ≤ p * ps.length
  | 0 => by simp [wrR_zero]
  | p + 1 => by
    have h1 := wrR_len ps W ys p
    have h2 := inR_len ps W ys p ps.length
    rw [wrR_succ, List.length_append, Nat.succ_mul]
    omega
def RWrPost (ps : List Int) (W ys : List GF) (N : Nat) (w : World) (e : Ending) (w' : World) : Prop := ∃ v, e = .returned v ∧ OwnZ w' w.heap.size v (wrR ps W ys N) ∧ Below w.heap.size w w'
set_option maxRecDepth 100000 in
set_option maxHeartbeats 4000000 in
theorem rwrong_any (xv mv pv yv : Value) (xs ms ys : List GF) (k : Nat) (ps : List Int) (w : World) (hx : GRd w xv xs) (hm : GRd w mv ms) (hp : IRd w pv ps) (hy : GRd w yv ys) (hk : ms.length = k) (hyl : ps.length ≤ ys.length) (hxl : xs.length ≤ 500) (hpl : ps.length ≤ 1000) (hkl : k ≤ 1000) :
    Calls Tryz.prog 20 #[xv, .int .i64 k, mv, pv, yv] w (RWrPost ps (rowF (fun i => ev ms (xs.getD i 0)) xs.length) ys xs.length w) := by
  have HENC := Lib.hid (renc_any xv mv xs ms k w hx hm (by omega) (by omega) (by omega))
  obtain ⟨ax, cx, rfl, hcx⟩ := hx.form
  obtain ⟨am, cm, rfl, hcm⟩ := hm.form
  obtain ⟨ap, cp, rfl⟩ := hp.form
  obtain ⟨ay, cy, rfl, hcy⟩ := hy.form
  have hWl : (rowF (fun i => ev ms (xs.getD i 0)) xs.length).length = xs.length := rowF_len _ _
  obtain ⟨W, hW⟩ : ∃ W, rowF (fun i => ev ms (xs.getD i 0)) xs.length = W := ⟨_, rfl⟩
  unfold REncPost at HENC
  rw [hW] at HENC hWl ⊢
  obtain ⟨N, hN⟩ : ∃ N, xs.length = N := ⟨_, rfl⟩
  obtain ⟨Q, hQ⟩ : ∃ Q, ps.length = Q := ⟨_, rfl⟩
  obtain ⟨Y, hY⟩ : ∃ Y, ys.length = Y := ⟨_, rfl⟩
  have HN := Lib.hid hN
  have HQ := Lib.hid hQ
  have HY := Lib.hid hY
  have HK := Lib.hid hk
  have HWL := Lib.hid hWl
  rw [hN] at hxl hx hcx ⊢
  rw [hQ] at hpl hyl hp ⊢
  rw [hY] at hyl hy ⊢
  have HP := Lib.hid hp
  have HYS := Lib.hid hy
  rw [hN] at HENC
  rw [HK.out] at HENC ⊢
  clear hx hm hp hy hk hW hWl hN hQ hY hcx hcm hcy
  go_enter Tryz.func20, Tryz.ntmps20
  go_wp2_with fail
  refine HENC.out.mono ?_
  rintro e w1 ⟨hb1, ⟨-, vw, rfl, how⟩ | ⟨hne, -⟩⟩
  case inr => exact absurd rfl hne
  have HB1 := Lib.hid hb1
  have HOW := Lib.hid how.rd
  have hs1 := hb1.size
  obtain ⟨aw, cw, rfl, -⟩ := how.rd.form
  rw [HWL.out, HN.out] at HOW ⊢
  clear hb1 how
  go_wp2
  go_loopg [13, 14] N (fun gk l i wr => ∃ (V : Value) (p : Nat), V = l ∧ p ≤ N ∧ gk = N - p ∧ i = .int .i64 p ∧ Hid (OwnZ wr w1.heap.size V (wrR ps W ys p)) ∧ Hid (Below w1.heap.size w1 wr))
  case atStart => exact ⟨_, 0, rfl, by omega, rfl, rfl, Lib.hid (OwnZ.nil _ _), Lib.hid (Below.refl _ _)⟩
  case round =>
    obtain ⟨V, p, rfl, hpN, rfl, rfl, HO, HB⟩ := hrel
    have hs := HB.out.size
    by_cases hlt : p < N
    · have hlen0 : p * Q ≤ 500 * 1000 := Nat.mul_le_mul (by omega) hpl
      have hlen := wrR_len ps W ys p
      rw [HQ.out] at hlen
      have HLEN : Hid ((wrR ps W ys p).length ≤ 500000) := Lib.hid (by omega)
      clear hlen hlen0
      go_wp2
      go_loopg [13, 15] Q (fun gk l i wr => ∃ (V : Value) (I : Nat), V = l ∧ I ≤ Q ∧ gk = Q - I ∧ i = .int .i64 I ∧ Hid (OwnZ wr w1.heap.size V (wrR ps W ys p ++ inR ps W ys p I)) ∧ Hid (Below w1.heap.size w1 wr))
      case atStart => exact ⟨_, 0, rfl, by omega, rfl, rfl, by rw [inR_zero, List.append_nil]; exact HO, HB⟩
      case round =>
        clear HO HB hs
        obtain ⟨V, I, rfl, hI, rfl, rfl, HO, HB⟩ := hrel
        have hs := HB.out.size
        by_cases hlt2 : I < Q
        · obtain ⟨x, hx⟩ : ∃ x, ps[I]? = some x := ⟨_, List.getElem?_eq_getElem (by rw [HQ.out]; exact hlt2)⟩
          have hbw : Below w.heap.size w wr := HB1.out.trans (HB.out.mono HB1.out.size)
          obtain ⟨-, -, b0, o0, rfl, hb0, -⟩ := IRd.cell HP.out hx
          have c0 := IRd.cells (HP.out.below hbw) I x hx
          have hxd : ps.getD I 0 = x := by rw [List.getD_eq_getElem?_getD, hx]; rfl
          have HXD := Lib.hid hxd
          have HBD : Hid (Below w1.heap.size w1 wr.drew) := Lib.hid HB.out.drew
          obtain ⟨kp, hkp⟩ : ∃ kp : Nat → Bool, ∀ j, kp j = true ↔ j < wr.heap.size := ⟨fun j => decide (j < wr.heap.size), by simp⟩
          have hk0 : kp b0 = true := (hkp _).2 (by omega)
          have HKP := Lib.hid hkp
          have i0 : (0 : Int) ≤ (I : Int) ∧ (I : Int) < (Q : Int) := by omega
          by_cases hxp : x = (p : Int)
          · subst hxp
            obtain ⟨c, hc, hcd⟩ := at_get (l := W) (i := p) (by rw [HWL.out, HN.out]; exact hlt)
            obtain ⟨d, hd, hdd⟩ := at_get (l := ys) (i := I) (by rw [HY.out]; omega)
            obtain ⟨b1, o1, rfl, hb1, -⟩ := HOW.out.at hc
            obtain ⟨b2, o2, rfl, hb2, -⟩ := HYS.out.at hd
            obtain ⟨_, _, e, -, c1⟩ := (HOW.out.below HB.out).at hc
            cases e
            obtain ⟨_, _, e, -, c2⟩ := (HYS.out.below hbw).at hd
            cases e
            obtain ⟨cn, hcn⟩ : ∃ t, c.n = t := ⟨_, rfl⟩
            obtain ⟨dn, hdn⟩ : ∃ t, d.n = t := ⟨_, rfl⟩
            rw [hcn] at c1
            rw [hdn] at c2
            have hiff : W.getD p 0 = ys.getD I 0 ↔ cn = dn := by
              rw [hcd, hdd]
              exact ⟨fun e => by rw [← hcn, ← hdn, e], fun e => GF.ext' (by omega)⟩
            have HIF := Lib.hid hiff
            have hk1 : kp b1 = true := (hkp _).2 (by omega)
            have hk2 : kp b2 = true := (hkp _).2 (by omega)
            have i1 : (0 : Int) ≤ (p : Int) ∧ (p : Int) < (N : Int) := by omega
            have i2 : (0 : Int) ≤ (I : Int) ∧ (I : Int) < (Y : Int) := by omega
            clear hkp hc hcd hd hdd hcn hdn hiff hx hxd hbw
            by_cases hcc : cn = dn
            · subst hcc
              have HO2 : Hid (OwnZ wr.drew w1.heap.size V (wrR ps W ys p ++ inR ps W ys p (I + 1))) := Lib.hid (by
                rw [inR_no (fun _ => HIF.out.2 rfl)]
                exact HO.out)
              go_upto_region 9 with fail
              have hgr := fun (w0 W : World) (p : Addr) (hp : (fun j => kp j = true) p.block) => graft_cell (w0 := w0) (keep := (fun j => kp j = true)) W hp
              refine wp_region_tree (fun j => kp j = true) [] (.step 0 (.step 1 (.step 2 (.step 3 (.step 4 (.step 5 (.step 6 (.step 7 (.step 8 (.step 9 (.step 10 (.step 11 (.step 12 (.step 13 (.step 14 (.step 15 (.step 16 .done))))))))))))))))) (by kernel_rfl) (by kernel_rfl) ?_
              simp only [slimTr, slimStep, Oper.slim, List.contains_cons, List.contains_nil, Option.map_none, Option.map_some, List.getElem?_toArray, List.getElem?_cons_zero, List.getElem?_cons_succ, Option.bind_some, beq_self_eq_true, Bool.or_false, Nat.reduceBEq, Nat.reduceAdd, Nat.zero_add]
              repeat (first | (fail) | ((with_reducible refine wpSlimT_step (fun K hK => ?_)); go_simp; first | (refine hK _ _ ?_; clear hK K) | (refine ⟨by (intro kk hkk; first | (simp (disch := (simp; omega)) only [hp_drew, hp_drewN, hp_alloc, hp_set]; done) | (simp [hp_drew, hp_drewN, hp_alloc_if, hkk]; done) | fail), hK _ _ ?_⟩; clear hK K)))
              refine wpSlimT_done ?_
              clear hgr
              go_wp2
              go_roundg (Q - (I + 1))
              case measure => omega
              case rel => exact ⟨_, I + 1, rfl, by omega, rfl, by go_num, HO2, HBD⟩
            · have hne : ¬ (cn : Int) = (dn : Int) := by omega
              obtain ⟨v1, w6, hap, ho1, -, hb6, -⟩ := app_int (W := wr.drew) (p : Int) HO.out (by
                have := HLEN.out
                have := inR_len ps W ys p I
                rw [List.length_append]
                omega) (by simpa using HB.out.size) (ad := wr.heap.size) rfl
              have HO6 : Hid (OwnZ w6 w1.heap.size v1 (wrR ps W ys p ++ inR ps W ys p (I + 1))) := Lib.hid (by
                rw [inR_yes HXD.out (fun e => hcc (HIF.out.1 e)), ← List.append_assoc]
                exact ho1)
              have HB6 : Hid (Below w1.heap.size w1 w6) := Lib.hid (HBD.out.trans hb6)
              clear hcc ho1 hb6
              go_upto_region 9 with fail
              have hgr := fun (w0 W : World) (p : Addr) (hp : (fun j => kp j = true) p.block) => graft_cell (w0 := w0) (keep := (fun j => kp j = true)) W hp
              refine wp_region_tree (fun j => kp j = true) [] (.step 0 (.step 1 (.step 2 (.step 3 (.step 4 (.step 5 (.step 6 (.step 7 (.step 8 (.step 9 (.step 10 (.step 11 (.step 12 (.step 13 (.step 14 (.step 15 (.step 16 .done))))))))))))))))) (by kernel_rfl) (by kernel_rfl) ?_
              simp only [slimTr, slimStep, Oper.slim, List.contains_cons, List.contains_nil, Option.map_none, Option.map_some, List.getElem?_toArray, List.getElem?_cons_zero, List.getElem?_cons_succ, Option.bind_some, beq_self_eq_true, Bool.or_false, Nat.reduceBEq, Nat.reduceAdd, Nat.zero_add]
              repeat (first | (fail) | ((with_reducible refine wpSlimT_step (fun K hK => ?_)); go_simp; first | (refine hK _ _ ?_; clear hK K) | (refine ⟨by (intro kk hkk; first | (simp (disch := (simp; omega)) only [hp_drew, hp_drewN, hp_alloc, hp_set]; done) | (simp [hp_drew, hp_drewN, hp_alloc_if, hkk]; done) | fail), hK _ _ ?_⟩; clear hK K)))
              refine wpSlimT_done ?_
              clear hgr
              go_wp2_with (at_builtin; refine wpList_append rfl _ _ _ rfl rfl rfl hap ?_)
              go_roundg (Q - (I + 1))
              case measure => omega
              case rel => exact ⟨_, I + 1, rfl, by omega, rfl, by go_num, HO6, HB6⟩
          · have HO2 : Hid (OwnZ wr.drew w1.heap.size V (wrR ps W ys p ++ inR ps W ys p (I + 1))) := Lib.hid (by
              rw [inR_no (fun e => absurd (hxd.symm.trans e) hxp)]
              exact HO.out)
            clear hkp hx hxd hbw
            go_upto_region 9 with fail
            have hgr := fun (w0 W : World) (p : Addr) (hp : (fun j => kp j = true) p.block) => graft_cell (w0 := w0) (keep := (fun j => kp j = true)) W hp
            refine wp_region_tree (fun j => kp j = true) [] (.step 0 (.step 1 (.step 2 (.step 3 (.step 4 (.step 5 (.step 6 (.step 7 (.step 8 (.step 9 (.step 10 (.step 11 (.step 12 (.step 13 (.step 14 (.step 15 (.step 16 .done))))))))))))))))) (by kernel_rfl) (by kernel_rfl) ?_
            simp only [slimTr, slimStep, Oper.slim, List.contains_cons, List.contains_nil, Option.map_none, Option.map_some, List.getElem?_toArray, List.getElem?_cons_zero, List.getElem?_cons_succ, Option.bind_some, beq_self_eq_true, Bool.or_false, Nat.reduceBEq, Nat.reduceAdd, Nat.zero_add]
            repeat (first | (fail) | ((with_reducible refine wpSlimT_step (fun K hK => ?_)); go_simp; first | (refine hK _ _ ?_; clear hK K) | (refine ⟨by (intro kk hkk; first | (simp (disch := (simp; omega)) only [hp_drew, hp_drewN, hp_alloc, hp_set]; done) | (simp [hp_drew, hp_drewN, hp_alloc_if, hkk]; done) | fail), hK _ _ ?_⟩; clear hK K)))
            refine wpSlimT_done ?_
            clear hgr
            go_wp2
            go_roundg (Q - (I + 1))
            case measure => omega
            case rel => exact ⟨_, I + 1, rfl, by omega, rfl, by go_num, HO2, HBD⟩
        · obtain rfl : I = Q := by omega
          have HO2 : Hid (OwnZ wr w1.heap.size V (wrR ps W ys (p + 1))) := Lib.hid (by
            rw [wrR_succ, HQ.out]
            exact HO.out)
          go_wp2
          go_roundg (N - (p + 1))
          case measure => omega
          case rel => exact ⟨_, p + 1, rfl, by omega, rfl, by go_num, HO2, HB⟩
    · obtain rfl : p = N := by omega
      go_wp2
      go_ret
      exact ⟨V, rfl, HO.out.mono HB1.out.size, HB1.out.trans (HB.out.mono HB1.out.size)⟩
end Go.Proofs.YteeeocianofkfaaGreat
