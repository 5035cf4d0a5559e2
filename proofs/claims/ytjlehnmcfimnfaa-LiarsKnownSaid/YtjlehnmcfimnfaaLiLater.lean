/-
  The law LiarsLater.
-/
import Derived.Test.YtjlehnmcfimnfaaLiLaterPlain
import Derived.Test.YtjlehnmcfimnfaaLiFair
import Derived.Deep.DeepCutAuto
namespace Go.Proofs.Ytjlehnmcfimnfaa
open Go.RowKit
set_option linter.unusedSimpArgs false
set_option linter.unusedVariables false

/-- A row of numbers stands through a step on the map. -/
theorem IRd.kept_map {w w' : World} {bm n : Nat} {C : Nat → Nat} {v : Value} {l : List Int} (h : IRd w v l) (hm : CntI w bm n C) (hg : w.grownBy w' (some bm)) : IRd w' v l := by
  obtain ⟨a, cap, h1, h2, h3⟩ := h
  refine ⟨a, cap, h1, h2, fun hne => ?_⟩
  obtain ⟨b, o, h4, h5, h6⟩ := h3 hne
  refine ⟨b, o, h4, Nat.lt_of_lt_of_le h5 hg.size, fun i c hi j u hj => ?_⟩
  have h7 := h6 i c hi j u hj
  have hb : b ≠ bm := hm.ne_cell h7
  have h8 : w'.heap[b]? = w.heap[b]? := hg.block b h5 (fun e => hb (by cases e; rfl))
  unfold World.cell? at *
  rw [h8]
  exact h7
/-- What a step leaves: the tally, one count turned. -/
structure OneStep (w wx : World) (tb bm K X : Nat) (C : Nat → Nat) (up : Bool) (D : Nat → Nat) : Prop where
  pt : PT wx tb bm K D
  only : OnlyAt K C D (X : Nat)
  le : if up = true then cntN K C X ≤ cntN K D X else cntN K D X ≤ cntN K C X
  grown : w.grownBy wx (some bm)
def Apart (v u : Value) : Prop := ∀ k, v.ownBlock = some k → u.ownBlock ≠ some k
theorem Apart.symm {v u : Value} (h : Apart v u) : Apart u v := fun k hu hv => h k hv hu
def ne (X : Nat) (y : Int) : Bool := !(y == (X : Int))
/-- The two rows on their way. -/
structure Two (w7 wr : World) (V U : Value) (R S : List Int) (X N M i j : Nat) : Prop where
  own1 : wr.ownsRow w7.heap.size 3 1 V ((R.take N).filter (ne X)).length (((R.take N).filter (ne X)).map (Value.int .i64))
  own2 : wr.ownsRow w7.heap.size 3 1 U ((S.take M).filter (ne X)).length (((S.take M).filter (ne X)).map (Value.int .i64))
  apart : Apart V U
  bel : Below w7.heap.size w7 wr
  pi : ∀ n, n < N → R[n]? = some (X : Int) → i = n
  pj : ∀ n, n < M → S[n]? = some (X : Int) → j = n
theorem own_lt {w : World} {B e size n : Nat} {v : Value} {xs : List Value} (h : w.ownsRow B e size v n xs) : ∀ k, v.ownBlock = some k → k < w.heap.size := by
  intro k hk
  rcases h.2 with ⟨rfl, _⟩ | ⟨g, cap, cur, rfl, _, h3, _⟩
  · simp [Value.ownBlock] at hk
  · have : g = k := by simpa [Value.ownBlock] using hk
    subst this
    exact lt_of_heap h3
theorem other_kept {w w1 : World} {o : Obj} {B e size n : Nat} {V U : Value} {xs : List Value} (hu : w.ownsRow B e size U n xs) (ha : Apart V U) (hg : (w.alloc o).grownBy w1 V.ownBlock) : w1.ownsRow B e size U n xs :=
  (hu.alloc o).kept hg (by
    cases h : U.ownBlock with
    | none => exact .inl rfl
    | some k => exact .inr fun e => ha k e.symm h)
theorem apart_new {w : World} {o : Obj} {B e size n : Nat} {V V1 U : Value} {xs : List Value} (hu : w.ownsRow B e size U n xs) (ha : Apart V U) (hat : V1.ownBlock = V.ownBlock ∨ V1.ownBlock = some (w.alloc o).heap.size) : Apart V1 U := fun k hk hk2 => by
  rcases hat with h | h
  · exact ha k (h.symm.trans hk) hk2
  · have h1 := own_lt hu k hk2
    rw [h] at hk
    cases hk
    simp at h1
    omega
theorem ne_take {l : List Int} {X I : Nat} {y : Int} (hy : l[I]? = some y) : (l.take (I + 1)).filter (ne X) = (l.take I).filter (ne X) ++ (if y = (X : Int) then [] else [y]) := filter_take_ne hy
theorem Two.start (w7 : World) (R S : List Int) (X : Nat) : Two w7 w7 (.slice none 0 0) (.slice none 0 0) R S X 0 0 0 0 :=
  ⟨World.ownsRow_nil _ _ _ _, World.ownsRow_nil _ _ _ _, fun k h => by simp [Value.ownBlock] at h, Below.refl _ _, fun n h => by omega, fun n h => by omega⟩
/-- One more of the first row. -/
theorem Two.skip1 {w7 wr : World} {V U : Value} {R S : List Int} {X N M i j : Nat} (h : Two w7 wr V U R S X N M i j) (hx : R[N]? = some (X : Int)) (hn : R.Nodup) : Two w7 wr V U R S X (N + 1) M N j := by
  have e : (R.take (N + 1)).filter (ne X) = (R.take N).filter (ne X) := by rw [ne_take hx, if_pos rfl, List.append_nil]
  refine ⟨by rw [e]; exact h.own1, h.own2, h.apart, h.bel, fun n hnN hR => ?_, h.pj⟩
  obtain ⟨h1, e1⟩ := List.getElem?_eq_some_iff.1 hx
  obtain ⟨h2, e2⟩ := List.getElem?_eq_some_iff.1 hR
  exact (List.getElem_inj hn).1 (e1.trans e2.symm)
theorem Two.skip2 {w7 wr : World} {V U : Value} {R S : List Int} {X N M i j : Nat} (h : Two w7 wr V U R S X N M i j) (hx : S[M]? = some (X : Int)) (hn : S.Nodup) : Two w7 wr V U R S X N (M + 1) i M := by
  have e : (S.take (M + 1)).filter (ne X) = (S.take M).filter (ne X) := by rw [ne_take hx, if_pos rfl, List.append_nil]
  refine ⟨h.own1, by rw [e]; exact h.own2, h.apart, h.bel, h.pi, fun n hnN hR => ?_⟩
  obtain ⟨h1, e1⟩ := List.getElem?_eq_some_iff.1 hx
  obtain ⟨h2, e2⟩ := List.getElem?_eq_some_iff.1 hR
  exact (List.getElem_inj hn).1 (e1.trans e2.symm)
theorem Two.add1 {w7 wr w1 : World} {V U V1 : Value} {R S : List Int} {X N M i j : Nat} {o : Obj} {y : Int} (h : Two w7 wr V U R S X N M i j) (hx : R[N]? = some y) (hy : y ≠ (X : Int))
    (hown : w1.ownsRow w7.heap.size 3 1 V1 (((R.take N).filter (ne X)).length + 1) (((R.take N).filter (ne X)).map (Value.int .i64) ++ [.int .i64 y])) (hg : (wr.alloc o).grownBy w1 V.ownBlock) (hat : V1.ownBlock = V.ownBlock ∨ V1.ownBlock = some (wr.alloc o).heap.size) :
    Two w7 w1 V1 U R S X (N + 1) M i j := by
  have e : (R.take (N + 1)).filter (ne X) = (R.take N).filter (ne X) ++ [y] := by rw [ne_take hx, if_neg hy]
  refine ⟨by rw [e, List.length_append, List.map_append]; exact hown, other_kept h.own2 h.apart hg, apart_new h.own2 h.apart hat, (h.bel.alloc h.bel.size _).grown hg (by simp; have := h.bel.size; omega) (own_ge h.own1), fun n hnN hR => ?_, h.pj⟩
  by_cases e : n = N
  · subst e; rw [hx] at hR; cases hR; exact absurd rfl hy
  · exact h.pi n (by omega) hR
theorem Two.add2 {w7 wr w1 : World} {V U U1 : Value} {R S : List Int} {X N M i j : Nat} {o : Obj} {y : Int} (h : Two w7 wr V U R S X N M i j) (hx : S[M]? = some y) (hy : y ≠ (X : Int))
    (hown : w1.ownsRow w7.heap.size 3 1 U1 (((S.take M).filter (ne X)).length + 1) (((S.take M).filter (ne X)).map (Value.int .i64) ++ [.int .i64 y])) (hg : (wr.alloc o).grownBy w1 U.ownBlock) (hat : U1.ownBlock = U.ownBlock ∨ U1.ownBlock = some (wr.alloc o).heap.size) :
    Two w7 w1 V U1 R S X N (M + 1) i j := by
  have e : (S.take (M + 1)).filter (ne X) = (S.take M).filter (ne X) ++ [y] := by rw [ne_take hx, if_neg hy]
  refine ⟨other_kept h.own1 h.apart.symm hg, by rw [e, List.length_append, List.map_append]; exact hown, (apart_new h.own1 h.apart.symm hat).symm, (h.bel.alloc h.bel.size _).grown hg (by simp; have := h.bel.size; omega) (own_ge h.own2), h.pi, fun n hnN hR => ?_⟩
  by_cases e : n = M
  · subst e; rw [hx] at hR; cases hR; exact absurd rfl hy
  · exact h.pj n (by omega) hR
set_option maxRecDepth 100000 in
set_option maxHeartbeats 4000000 in
theorem later_any (a0 : Int) (u1 : Value) (l1 : List Nat) (a2 : Int) (bf : Bool) (w : World) (w0 : 0 ≤ a0 ∧ a0 < 256) (h1 : BytesRd w u1 l1) (w2 : 0 ≤ a2 ∧ a2 < 256) :
    Calls Try.prog 5 #[.int .u8 a0, u1, .int .u8 a2, .bool bf] w fun e w' => e = .returned (.bool true) ∧ Below w.heap.size w w' := by
  obtain ⟨b1, cap1, rfl⟩ := h1.form
  have HR1 := Lib.hid h1
  clear h1
  obtain ⟨n0, rfl⟩ : ∃ n : Nat, a0 = n := ⟨a0.toNat, by omega⟩
  obtain ⟨n2, rfl⟩ : ∃ n : Nat, a2 = n := ⟨a2.toNat, by omega⟩
  go_enter Try.func5, Try.ntmps5
  by_cases hb1 : 300 < l1.length
  · go_wp2_with (go_at_call 7; refine (works_any _).mono ?_; rintro e w5 ⟨rfl, hb5⟩)
    go_ret
    exact ⟨rfl, hb5⟩
  · go_upto_region 4 with fail
    obtain ⟨K, hK⟩ : ∃ K : Nat, 1 + (n0 : Int) % 60 = K := ⟨1 + n0 % 60, by omega⟩
    rw [hK]
    have hK1 : 1 ≤ K ∧ K ≤ 60 := by omega
    clear hK
    obtain ⟨i0, hi, hz0, hz1, hz2⟩ := info_parts int_info
    have hKn : nodesN (K : Int) = K := by unfold nodesN; omega
    go_wp2_with fail
    refine (pnew_any (K : Int) w).mono ?_
    rintro e w1 ⟨tb, bm, rfl, hP, htb, hbm, hb⟩
    rw [hKn] at hP
    have HP1 := Lib.hid hP
    clear hP
    go_upto_region 7 with fail
    go_loopg [12] l1.length (fun gk i wr => ∃ I : Nat, I ≤ l1.length ∧ gk = l1.length - I ∧ i = .int .i64 I ∧ Hid (PT wr tb bm K (tellC cz (modI K (l1.take I)))) ∧ Below w.heap.size w wr)
    case atStart => exact ⟨0, by omega, rfl, rfl, HP1, hb⟩
    case round =>
      obtain ⟨I, hI, rfl, rfl, hP, hB⟩ := hrel
      by_cases hlt : I < l1.length
      · obtain ⟨x, hx⟩ : ∃ x, l1[I]? = some x := ⟨_, List.getElem?_eq_getElem hlt⟩
        obtain ⟨hx256, hcap, b, o, rfl, c0⟩ := (HR1.out.below hB).cell hx
        have hm1 : Int.tmod (x : Int) (K : Int) = ((x % K : Nat) : Int) := by rw [Int.tmod_eq_emod_of_nonneg (by omega)]; rfl
        have hml := Nat.mod_lt x (show 0 < K by omega)
        have hx1 : ∀ y ∈ [(x : Int) % (K : Int)], isN K y = true := fun y hy => by rw [List.mem_singleton.1 hy, isN_iff]; omega
        have HT := Lib.hid (ptell_any tb bm K _ _ [(x : Int) % (K : Int)] _ (hP.out.below (alloc_below wr _)) (lit_rd wr [(x : Int) % (K : Int)] 1 rfl) (by simp))
        have HE1 := Lib.hid (tlErr_ok hx1)
        have HC1 : Hid (tlC K (tellC cz (modI K (l1.take I))) [(x : Int) % (K : Int)] = tellC cz (modI K (l1.take (I + 1)))) := Lib.hid (by
          rw [tlC_ok hx1, modI_take K l1 I x hx, tellC_snoc]
          rfl)
        have hsz := hB.size
        clear hx hx1
        go_wp2_with (go_at_call 9; (refine HT.out.mono ?_); rintro e w9 ⟨he, hQ9, hg9⟩; rw [HE1.out] at he; subst he)
        have HP2 : Hid (PT w9 tb bm K (tellC cz (modI K (l1.take (I + 1))))) := Lib.hid (by rw [← HC1.out]; exact hQ9)
        have hB2 : Below w.heap.size w w9 := (hB.alloc hsz _).grown hg9 (by simp; omega) (fun k hk => by cases hk; exact hbm)
        go_roundg (l1.length - (I + 1))
        case measure => omega
        case rel => exact ⟨I + 1, by omega, rfl, by go_num, HP2, hB2⟩
      · obtain rfl : I = l1.length := by omega
        rw [List.take_length] at hP
        obtain ⟨C, hC⟩ : ∃ C, C = tellC cz (modI K l1) := ⟨_, rfl⟩
        rw [← hC] at hP
        clear hC HP1
        obtain ⟨w3, hw3⟩ : ∃ w3, w3 = wr := ⟨_, rfl⟩
        rw [← hw3] at hP hB ⊢
        clear hw3
        go_upto_region 11 with fail
        go_loopg [11, 13] K (fun gk ov i wr => ∃ (V : Value) (I : Nat), V = ov ∧ I ≤ K ∧ gk = K - I ∧ i = .int .i64 I ∧ Hid (wr.ownsRow w3.heap.size 3 1 V I ((upN I).map (Value.int .i64))) ∧ Hid (Below w3.heap.size w3 wr))
        case atStart => exact ⟨_, 0, rfl, by omega, rfl, rfl, Lib.hid (World.ownsRow_nil _ _ _ _), Lib.hid (Below.refl _ _)⟩
        case round =>
          obtain ⟨ov, I, rfl, hI, rfl, rfl, hO, hB3⟩ := hrel
          have hsz3 := hB3.out.size
          by_cases hlt : I < K
          · have HS : Hid ((upN (I + 1)).map (Value.int .i64) = (upN I).map (Value.int .i64) ++ [.int .i64 (I : Nat)]) := Lib.hid (by rw [upN_succ, List.map_append]; rfl)
            go_wp2_with (at_builtin; refine wpList_append_own _ rfl (.tmp 53) (.tmp 55) 25 rfl w3.heap.size 3 i0 (.int .i64 0) 1 8 Try.underlying25 hi hz0 hz1 hz2 rfl (by decide) _ _ _ rfl (hO.out.alloc _) ⟨wr.heap.size, 0, none⟩ 1 1 [.int .i64 _] rfl rfl (cell_one_new _ _ _) (by simp [Value.oneCell']) (by unfold maxLen; omega) (by omega) (by simp; omega) ?_; intro v1 w4 hown1 hgrow1 _)
            have HB4 : Hid (Below w3.heap.size w3 w4) := Lib.hid ((hB3.out.alloc hsz3 _).grown hgrow1 (by simp; omega) (own_ge hO.out))
            have HO4 : Hid (w4.ownsRow w3.heap.size 3 1 v1 (I + 1) ((upN (I + 1)).map (Value.int .i64))) := Lib.hid (by rw [HS.out]; exact hown1)
            go_roundg (K - (I + 1))
            case measure => omega
            case rel => exact ⟨_, I + 1, rfl, by omega, rfl, by go_num, HO4, HB4⟩
          · obtain rfl : I = K := by omega
            have HU := Lib.hid (IRd.of_owns hO.out)
            have hul := upN_length I
            have hP4 := hP.out.below hB3.out
            have hBw : Below w.heap.size w wr := hB.trans (hB3.out.mono hB.size)
            obtain ⟨ua, ucap, rfl⟩ := HU.out.form
            rw [hul] at HU ⊢
            clear hul
            obtain ⟨w4, hw4⟩ : ∃ w4, w4 = wr := ⟨_, rfl⟩
            rw [← hw4] at HU hP4 hBw ⊢
            clear hw4 hP hB hO hB3 hsz3
            have hUL : (upN I).length ≤ 1000000000 := by rw [upN_length]; omega
            go_upto_region 15 with fail
            obtain ⟨X, hX⟩ : ∃ X : Nat, (n2 : Int) % (I : Int) = X := ⟨n2 % I, rfl⟩
            rw [hX]
            have hXI : X < I := by have := Int.emod_lt_of_pos (n2 : Int) (show (0 : Int) < I by omega); omega
            clear hX
            go_wp2_with fail
            refine (porder_any tb bm I C _ (upN I) w4 hP4 HU.out hUL).mono ?_
            rintro e w5 ⟨bv, R, rfl, hord, hrd, hb5⟩
            have hP5 := hP4.below hb5
            have hC2 := hP5.C2
            have HU5 := Lib.hid (HU.out.below hb5)
            have HBw5 := Lib.hid (hBw.trans (hb5.mono hBw.size))
            have hRl := ord_full hord
            obtain ⟨ba, bcap, rfl⟩ := hrd.form
            rw [hRl] at hrd ⊢
            have HRD := Lib.hid hrd
            have HORD := Lib.hid hord
            have HRL := Lib.hid hRl
            have HP5 := Lib.hid hP5
            have HC2 := Lib.hid hC2
            clear hP4 hb5 hRl hrd hord hC2 HU hBw hP5
            go_upto_if 64 with fail
            go_cut [] (fun wx => ∃ D : Nat → Nat, Hid (OneStep w5 wx tb bm I X C (!bf) D))
            case first =>
              cases bf
              · have hx1 : ∀ y ∈ [(X : Int)], isN I y = true := fun y hy => by rw [List.mem_singleton.1 hy, isN_iff]; omega
                have HT := Lib.hid (ptell_any tb bm I C _ [(X : Int)] _ (HP5.out.below (alloc_below w5 _)) (lit_rd w5 [(X : Int)] 1 rfl) (by simp))
                have HE1 := Lib.hid (tlErr_ok hx1)
                have HC1 := Lib.hid (tlC_ok (C := C) hx1)
                clear hx1
                go_wp2_with (go_at_call 9; (refine HT.out.mono ?_); rintro e w6 ⟨he, hQ6, hg6⟩; rw [HE1.out] at he; subst he)
                go_meet
                refine ⟨_, Lib.hid ⟨hQ6, ?_, ?_, gb_trans (World.grownBy_alloc w5 _ _) hg6⟩⟩
                · rw [HC1.out]
                  exact only_tell I C X
                · rw [HC1.out, if_pos (by decide), cntN_yes hXI, cntN_yes hXI]
                  show C X ≤ tell1C C X X
                  have := HC2.out X
                  unfold tell1C
                  rw [if_pos rfl]
                  omega
              · have HT := Lib.hid (pforget_any tb bm I C (X : Int) w5 HP5.out)
                have HE1 : Hid (fgErr I (X : Int) = 0) := Lib.hid (if_pos (by omega))
                have HC1 : Hid (fgC I C (X : Int) = fun j => if j = X then 0 else C j) := Lib.hid (by
                  unfold fgC
                  rw [if_pos (by omega)]
                  rfl)
                go_wp2_with (go_at_call 18; (refine HT.out.mono ?_); rintro e w6 ⟨he, hQ6, hg6⟩; rw [HE1.out] at he; subst he)
                go_meet
                refine ⟨_, Lib.hid ⟨hQ6, ?_, ?_, hg6⟩⟩
                · rw [HC1.out]
                  exact only_forget I C X
                · rw [HC1.out, if_neg (by decide), cntN_yes hXI]
                  simp
            case rest =>
              obtain ⟨D, hD⟩ := hcut
              obtain ⟨w6, hw6⟩ : ∃ w6, w6 = wc := ⟨_, rfl⟩
              rw [← hw6] at hD ⊢
              clear hw6
              have hg6 := hD.out.grown
              have hb56 := HBw5.out.size
              have hBw6 : Below w.heap.size w w6 := HBw5.out.grown hg6 HBw5.out.size (fun k hk => by cases hk; exact hbm)
              have HU6 := Lib.hid (IRd.kept_map HU5.out HP5.out.mp hg6)
              have HRD6 := Lib.hid (IRd.kept_map HRD.out HP5.out.mp hg6)
              clear hg6 hb56
              go_wp2_with fail
              refine (porder_any tb bm I D _ (upN I) w6 hD.out.pt HU6.out hUL).mono ?_
              rintro e w7 ⟨cv, S, rfl, hord2, hrd2, hb7⟩
              have hSl := ord_full hord2
              obtain ⟨ca, ccap, rfl⟩ := hrd2.form
              rw [hSl] at hrd2 ⊢
              have HRD7 := Lib.hid (HRD6.out.below hb7)
              have HRD72 := Lib.hid hrd2
              have HORD2 := Lib.hid hord2
              have HSL := Lib.hid hSl
              have HBw7 := Lib.hid (hBw6.trans (hb7.mono hBw6.size))
              have HREST := Lib.hid (ord_rest HORD.out hord2 hD.out.only)
              have HRN := Lib.hid (pairwise_nodup HORD.out.sorted)
              have HSN := Lib.hid (pairwise_nodup hord2.sorted)
              clear hSl hrd2 hord2 hb7 hBw6 HU6 HRD6 HU5 HRD HP5 HBw5
              go_upto_region 25 with fail
              go_loopg [17, 18, 19, 20, 21] I (fun gk rv lv iv jv nv wr => ∃ (V U : Value) (N i j : Nat), V = rv ∧ U = lv ∧ N ≤ I ∧ gk = I - N ∧ iv = .int .i64 i ∧ jv = .int .i64 j ∧ nv = .int .i64 N ∧ Hid (Two w7 wr V U R S X N N i j))
              case atStart => exact ⟨_, _, 0, 0, 0, rfl, rfl, by omega, rfl, rfl, rfl, rfl, Lib.hid (Two.start w7 R S X)⟩
              case round =>
                obtain ⟨rv, lv, N, i, j, rfl, rfl, hN, rfl, rfl, rfl, rfl, hT⟩ := hrel
                by_cases hlt : N < I
                · obtain ⟨y, hy⟩ : ∃ y, R[N]? = some y := ⟨_, List.getElem?_eq_getElem (by rw [HRL.out]; exact hlt)⟩
                  obtain ⟨z, hz⟩ : ∃ z, S[N]? = some z := ⟨_, List.getElem?_eq_getElem (by rw [HSL.out]; exact hlt)⟩
                  have HY := Lib.hid hy
                  have HZ := Lib.hid hz
                  clear hy hz
                  have hlf1 : ((R.take N).filter (ne X)).length ≤ 60 := Nat.le_trans (List.length_filter_le _ _) (by rw [List.length_take]; omega)
                  have hlf2 : ((S.take N).filter (ne X)).length ≤ 60 := Nat.le_trans (List.length_filter_le _ _) (by rw [List.length_take]; omega)
                  have hbs := hT.out.bel.size
                  go_upto_region 27 with fail
                  obtain ⟨-, hcap, b, o, hab, hb1, c0⟩ := IRd.cell (HRD7.out.below hT.out.bel) HY.out
                  subst hab
                  have HC0 := Lib.hid c0
                  go_upto_if 95 with fail
                  go_cut [17, 19] (fun rv iv wx => ∃ (V2 : Value) (i2 : Nat), V2 = rv ∧ iv = .int .i64 i2 ∧ Hid (Two w7 wx V2 lv R S X (N + 1) N i2 j))
                  case first =>
                    by_cases hyx : y = (X : Int)
                    · subst hyx
                      have HT2 := Lib.hid (hT.out.skip1 HY.out HRN.out)
                      go_wp2_with fail
                      go_meet
                      exact ⟨_, _, rfl, rfl, HT2⟩
                    · have hne : (y == (X : Int)) = false := beq_false_of_ne hyx
                      have HNE := Lib.hid hyx
                      clear hyx
                      go_wp2_with (at_builtin; refine wpList_append_own_at _ rfl (.tmp 97) (.tmp 102) 25 rfl w7.heap.size 3 i0 (.int .i64 0) 1 8 Try.underlying25 hi hz0 hz1 hz2 rfl (by decide) _ _ _ rfl (hT.out.own1.alloc _) ⟨wr.heap.size, 0, none⟩ 1 1 [.int .i64 _] rfl rfl (cell_one_new _ _ _) (by simp [Value.oneCell']) (by unfold maxLen; omega) (by omega) (by simp; omega) ?_; intro v1 wz hown1 hgrow1 _ hat1)
                      go_meet
                      exact ⟨_, _, rfl, rfl, Lib.hid (hT.out.add1 HY.out HNE.out hown1 hgrow1 hat1)⟩
                  case rest =>
                    obtain ⟨V2, i2, rfl, rfl, hT2⟩ := hcut
                    obtain ⟨wy, rfl⟩ : ∃ wy : World, wy = wc := ⟨_, rfl⟩
                    have hbs2 := hT2.out.bel.size
                    clear hT hbs c0 HC0 hb1
                    go_upto_region 30 with fail
                    obtain ⟨-, hcap2, b2, o2, hab2, hb2, c2⟩ := IRd.cell (HRD72.out.below hT2.out.bel) HZ.out
                    subst hab2
                    go_upto_if 109 with fail
                    by_cases hzx : z = (X : Int)
                    · subst hzx
                      have HT3 := Lib.hid (hT2.out.skip2 HZ.out HSN.out)
                      go_wp2_with fail
                      go_roundg (I - (N + 1))
                      case measure => omega
                      case rel => exact ⟨_, _, N + 1, i2, N, rfl, rfl, by omega, rfl, rfl, rfl, by go_num, HT3⟩
                    · have hne : (z == (X : Int)) = false := beq_false_of_ne hzx
                      have HNE := Lib.hid hzx
                      clear hzx
                      obtain ⟨wr, hwr⟩ : ∃ wr, wr = wy := ⟨_, rfl⟩
                      rw [← hwr] at hT2 hb2 c2 hbs2 ⊢
                      clear hwr
                      go_wp2_with (at_builtin; refine wpList_append_own_at _ rfl (.tmp 111) (.tmp 116) 25 rfl w7.heap.size 3 i0 (.int .i64 0) 1 8 Try.underlying25 hi hz0 hz1 hz2 rfl (by decide) _ _ _ rfl (hT2.out.own2.alloc _) ⟨wr.heap.size, 0, none⟩ 1 1 [.int .i64 _] rfl rfl (cell_one_new _ _ _) (by simp [Value.oneCell']) (by unfold maxLen; omega) (by omega) (by simp; omega) ?_; intro v1 wz hown1 hgrow1 _ hat1)
                      have HT3 := Lib.hid (hT2.out.add2 HZ.out HNE.out hown1 hgrow1 hat1)
                      go_roundg (I - (N + 1))
                      case measure => omega
                      case rel => exact ⟨_, _, N + 1, i2, j, rfl, rfl, by omega, rfl, rfl, rfl, by go_num, HT3⟩
                · obtain rfl : N = I := by omega
                  have HA := Lib.hid (IRd.of_owns hT.out.own1)
                  have HB := Lib.hid (IRd.of_owns hT.out.own2)
                  rw [List.take_of_length_le (by rw [HRL.out]; exact Nat.le_refl _)] at HA
                  rw [List.take_of_length_le (by rw [HSL.out]; exact Nat.le_refl _)] at HB
                  have hXm : (X : Int) ∈ upN N := upN_mem (by omega)
                  obtain ⟨p, hp⟩ := List.getElem?_of_mem ((HORD.out.mem (X : Int)).2 ⟨hXm, by omega, by omega⟩)
                  obtain ⟨q, hq⟩ := List.getElem?_of_mem ((HORD2.out.mem (X : Int)).2 ⟨hXm, by omega, by omega⟩)
                  have hpi := hT.out.pi p (by have := (List.getElem?_eq_some_iff.1 hp).1; rw [HRL.out] at this; exact this) hp
                  have hqj := hT.out.pj q (by have := (List.getElem?_eq_some_iff.1 hq).1; rw [HSL.out] at this; exact this) hq
                  have hij : if bf = true then j ≤ i else i ≤ j := by
                    rw [hpi, hqj]
                    have hle := hD.out.le
                    cases bf
                    · rw [if_neg (by decide)]
                      rw [if_pos (by decide)] at hle
                      exact ord_later HORD.out HORD2.out hD.out.only hle hp hq
                    · rw [if_pos rfl]
                      rw [if_neg (by decide)] at hle
                      exact ord_later HORD2.out HORD.out (fun y hy => (hD.out.only y hy).symm) hle hq hp
                  have HEQ : Hid (R.filter (ne X) = S.filter (ne X)) := HREST
                  have HSAME := Lib.hid (same_any _ _ _ _ _ HA.out HB.out (Nat.le_trans (List.length_filter_le _ _) (by rw [HRL.out]; omega)))
                  rw [decide_eq_true HEQ.out] at HSAME
                  have HBL := Lib.hid hT.out.bel
                  clear hXm hp hq hpi hqj hT HA HB
                  cases bf
                  · rw [if_neg (by decide)] at hij
                    have hij2 : (i : Int) ≤ (j : Int) := by omega
                    go_wp2_with (first | (go_at_call 11; (refine HSAME.out.mono ?_); rintro e w8 ⟨rfl, hb8⟩) | (go_at_call 7; refine (works_any _).mono ?_; rintro e w9 ⟨rfl, hb9⟩))
                    go_ret
                    refine ⟨rfl, ?_⟩
                    have h1 := HBw7.out.trans (HBL.out.mono HBw7.out.size)
                    have h2 := h1.trans (hb8.mono h1.size)
                    exact h2.trans (hb9.mono h2.size)
                  · rw [if_pos rfl] at hij
                    have hij2 : (j : Int) ≤ (i : Int) := by omega
                    go_wp2_with (first | (go_at_call 11; (refine HSAME.out.mono ?_); rintro e w8 ⟨rfl, hb8⟩) | (go_at_call 7; refine (works_any _).mono ?_; rintro e w9 ⟨rfl, hb9⟩))
                    go_ret
                    refine ⟨rfl, ?_⟩
                    have h1 := HBw7.out.trans (HBL.out.mono HBw7.out.size)
                    have h2 := h1.trans (hb8.mono h1.size)
                    exact h2.trans (hb9.mono h2.size)
theorem law_later (a0 : Int) (u1 : Value) (l1 : List Nat) (a2 : Int) (a3 : Bool) (w : World) (w0 : (Lit.int .u8 a0).wf = true) (h1 : BytesRd w u1 l1) (w2 : (Lit.int .u8 a2).wf = true) :
    Calls Try.prog 5 #[.int .u8 a0, u1, .int .u8 a2, .bool a3] w fun e w' => e = .returned (.bool true) ∧ Below w.heap.size w w' :=
  later_any a0 u1 l1 a2 a3 w (byte_wf w0) h1 (byte_wf w2)
end Go.Proofs.Ytjlehnmcfimnfaa
