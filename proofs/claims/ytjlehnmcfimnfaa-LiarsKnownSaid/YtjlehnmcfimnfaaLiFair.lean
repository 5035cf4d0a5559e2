/-
  The law LiarsFair.
-/
import Derived.Test.YtjlehnmcfimnfaaLiFairPlain
import Derived.Deep.DeepCutAuto
namespace Go.Proofs.Ytjlehnmcfimnfaa
open Go.RowKit
set_option linter.unusedSimpArgs false
set_option linter.unusedVariables false

theorem BytesRd.form {w : World} {v : Value} {l : List Nat} (h : BytesRd w v l) : ∃ a cap, v = .slice a l.length cap := by
  obtain ⟨_, a, cap, h1, _⟩ := h
  exact ⟨a, cap, h1⟩
theorem BytesRd.cell {w : World} {a : Option Addr} {m cap : Nat} {l : List Nat} (h : BytesRd w (.slice a m cap) l) {i : Nat} {x : Nat} (hi : l[i]? = some x) : x < 256 ∧ l.length ≤ cap ∧ ∃ b o, a = some ⟨b, o, none⟩ ∧ w.cell? ⟨b, o + i, none⟩ = some (.int .u8 x) := by
  obtain ⟨h0, a', cap', h1, h2, h3⟩ := h
  cases h1
  obtain ⟨b, o, h4, h5, h6⟩ := h3 (fun e => by rw [e] at hi; simp at hi)
  exact ⟨h0 x (List.mem_of_getElem? hi), h2, b, o, h4, by
    have h7 := h6 i (List.getElem?_eq_some_iff.1 hi).1
    rw [List.getD_eq_getElem?_getD, hi] at h7
    exact h7⟩
set_option maxRecDepth 100000 in
set_option maxHeartbeats 4000000 in
theorem fair_any (a0 : Int) (u1 : Value) (l1 : List Nat) (a2 : Int) (u3 : Value) (l3 : List Nat) (a4 : Int) (w : World) (w0 : 0 ≤ a0 ∧ a0 < 256) (h1 : BytesRd w u1 l1) (w2 : 0 ≤ a2 ∧ a2 < 65536) (h3 : BytesRd w u3 l3) (w4 : 0 ≤ a4 ∧ a4 < 256) :
    Calls Try.prog 3 #[.int .u8 a0, u1, .int .u16 a2, u3, .int .u8 a4] w fun e w' => e = .returned (.bool true) ∧ Below w.heap.size w w' := by
  obtain ⟨b1, cap1, rfl⟩ := h1.form
  obtain ⟨b3, cap3, rfl⟩ := h3.form
  have HR1 := Lib.hid h1
  have HR3 := Lib.hid h3
  clear h1 h3
  obtain ⟨n0, rfl⟩ : ∃ n : Nat, a0 = n := ⟨a0.toNat, by omega⟩
  obtain ⟨n2, rfl⟩ : ∃ n : Nat, a2 = n := ⟨a2.toNat, by omega⟩
  obtain ⟨n4, rfl⟩ : ∃ n : Nat, a4 = n := ⟨a4.toNat, by omega⟩
  go_enter Try.func3, Try.ntmps3
  by_cases hb1 : 300 < l1.length
  · go_wp2_with (go_at_call 7; refine (works_any _).mono ?_; rintro e w5 ⟨rfl, hb5⟩)
    go_ret
    exact ⟨rfl, hb5⟩
  · by_cases hb3 : 300 < l3.length
    · go_wp2_with (go_at_call 7; refine (works_any _).mono ?_; rintro e w5 ⟨rfl, hb5⟩)
      go_ret
      exact ⟨rfl, hb5⟩
    · go_upto_region 4 with fail
      obtain ⟨K, hK⟩ : ∃ K : Nat, 1 + (n0 : Int) % 60 = K := ⟨1 + n0 % 60, by omega⟩
      rw [hK]
      have hK1 : 1 ≤ K ∧ K ≤ 60 := by omega
      clear hK
      obtain ⟨i0, hi, hz0, hz1, hz2⟩ := info_parts int_info
      go_upto_region 6 with fail
      go_loopg [12, 15] l1.length (fun gk ov i wr => ∃ (V : Value) (I : Nat), V = ov ∧ I ≤ l1.length ∧ (I = 0 → V = .slice none 0 0) ∧ gk = l1.length - I ∧ i = .int .i64 I ∧ Hid (wr.ownsRow w.heap.size 3 1 V I ((modI K (l1.take I)).map (Value.int .i64))) ∧ Below w.heap.size w wr)
      case atStart => exact ⟨_, 0, rfl, by omega, fun _ => rfl, rfl, rfl, Lib.hid (World.ownsRow_nil _ _ _ _), Below.refl _ _⟩
      case round =>
        obtain ⟨ov, I, rfl, hI, hnil, rfl, rfl, hO, hB⟩ := hrel
        have HNIL := Lib.hid hnil
        clear hnil
        by_cases hlt : I < l1.length
        · obtain ⟨x, hx⟩ : ∃ x, l1[I]? = some x := ⟨_, List.getElem?_eq_getElem hlt⟩
          obtain ⟨hx256, hcap, b, o, rfl, c0⟩ := (HR1.out.below hB).cell hx
          have HS : Hid ((modI K (l1.take (I + 1))).map (Value.int .i64) = (modI K (l1.take I)).map (Value.int .i64) ++ [.int .i64 (x % K : Nat)]) := Lib.hid (by rw [modI_take K l1 I x hx, List.map_append]; rfl)
          clear hx
          have hsz := hB.size
          have hm1 : Int.tmod (x : Int) (K : Int) = ((x % K : Nat) : Int) := by rw [Int.tmod_eq_emod_of_nonneg (by omega)]; rfl
          go_wp2_with (at_builtin; refine wpList_append_own _ rfl (.tmp 48) (.tmp 56) 25 rfl w.heap.size 3 i0 (.int .i64 0) 1 8 Try.underlying25 hi hz0 hz1 hz2 rfl (by decide) _ _ _ rfl (hO.out.alloc _) ⟨wr.heap.size, 0, none⟩ 1 1 [.int .i64 _] rfl rfl (cell_one_new _ _ _) (by simp [Value.oneCell']) (by unfold maxLen; omega) (by omega) (by simp; omega) ?_; intro v1 w3 hown1 hgrow1 _)
          have hB3 : Below w.heap.size w w3 := (hB.alloc hsz _).grown hgrow1 (by simp; omega) (own_ge hO.out)
          have hO3 : Hid (w3.ownsRow w.heap.size 3 1 v1 (I + 1) ((modI K (l1.take (I + 1))).map (Value.int .i64))) := Lib.hid (by rw [HS.out]; exact hown1)
          go_roundg (l1.length - (I + 1))
          case measure => omega
          case rel => exact ⟨_, I + 1, rfl, by omega, fun h => by omega, rfl, by go_num, hO3, hB3⟩
        · obtain rfl : I = l1.length := by omega
          have HA := Lib.hid (OwnI.of_owns hO.out)
          rw [List.take_length] at HA
          have HB := Lib.hid hB
          obtain ⟨w1, hw1⟩ : ∃ w1, w1 = wr := ⟨_, rfl⟩
          rw [← hw1] at HA HB ⊢
          clear hO hB hw1
          go_upto_region 10 with fail
          go_loopg [14, 16] l3.length (fun gk ov2 i wr => ∃ (V : Value) (I : Nat), V = ov2 ∧ I ≤ l3.length ∧ gk = l3.length - I ∧ i = .int .i64 I ∧ Hid (wr.ownsRow w1.heap.size 3 1 V I ((modI K (l3.take I)).map (Value.int .i64))) ∧ Below w1.heap.size w1 wr)
          case atStart => exact ⟨_, 0, rfl, by omega, rfl, rfl, Lib.hid (World.ownsRow_nil _ _ _ _), Below.refl _ _⟩
          case round =>
            obtain ⟨ov2, I, rfl, hI, rfl, rfl, hO, hB⟩ := hrel
            by_cases hlt : I < l3.length
            · obtain ⟨x, hx⟩ : ∃ x, l3[I]? = some x := ⟨_, List.getElem?_eq_getElem hlt⟩
              obtain ⟨hx256, hcap, b, o, rfl, c0⟩ := ((HR3.out.below HB.out).below hB).cell hx
              have HS : Hid ((modI K (l3.take (I + 1))).map (Value.int .i64) = (modI K (l3.take I)).map (Value.int .i64) ++ [.int .i64 (x % K : Nat)]) := Lib.hid (by rw [modI_take K l3 I x hx, List.map_append]; rfl)
              clear hx
              have hsz := hB.size
              have hm1 : Int.tmod (x : Int) (K : Int) = ((x % K : Nat) : Int) := by rw [Int.tmod_eq_emod_of_nonneg (by omega)]; rfl
              go_wp2_with (at_builtin; refine wpList_append_own _ rfl (.tmp 64) (.tmp 72) 25 rfl w1.heap.size 3 i0 (.int .i64 0) 1 8 Try.underlying25 hi hz0 hz1 hz2 rfl (by decide) _ _ _ rfl (hO.out.alloc _) ⟨wr.heap.size, 0, none⟩ 1 1 [.int .i64 _] rfl rfl (cell_one_new _ _ _) (by simp [Value.oneCell']) (by unfold maxLen; omega) (by omega) (by simp; omega) ?_; intro v1 w3 hown1 hgrow1 _)
              have hB3 : Below w1.heap.size w1 w3 := (hB.alloc hsz _).grown hgrow1 (by simp; omega) (own_ge hO.out)
              have hO3 : Hid (w3.ownsRow w1.heap.size 3 1 v1 (I + 1) ((modI K (l3.take (I + 1))).map (Value.int .i64))) := Lib.hid (by rw [HS.out]; exact hown1)
              go_roundg (l3.length - (I + 1))
              case measure => omega
              case rel => exact ⟨_, I + 1, rfl, by omega, rfl, by go_num, hO3, hB3⟩
            · obtain rfl : I = l3.length := by omega
              have HOF := Lib.hid (OwnI.of_owns hO.out)
              rw [List.take_length] at HOF
              have HA2 := Lib.hid (HA.out.below hB)
              have HB2 := Lib.hid (HB.out.trans (hB.mono HB.out.size))
              have HBX := hB.size
              obtain ⟨w2', hw2⟩ : ∃ w2, w2 = wr := ⟨_, rfl⟩
              rw [← hw2] at HA2 HOF HB2 ⊢
              clear hO hB hw2 HA HB
              have hAl := modI_length K l1
              have hFl := modI_length K l3
              have hAm : Hid (∀ x ∈ modI K l1, isN K x = true) := Lib.hid (fun x hx => modI_mem (by omega) hx)
              obtain ⟨A, hA⟩ : ∃ A, A = modI K l1 := ⟨_, rfl⟩
              obtain ⟨F, hF⟩ : ∃ F, F = modI K l3 := ⟨_, rfl⟩
              rw [← hA] at HA2 hAl hAm
              rw [← hF] at HOF hFl
              clear hA hF
              have hA3 : A.length ≤ 300 := by omega
              have hF3 : F.length ≤ 300 := by omega
              have HAL := Lib.hid hAl
              have HFL := Lib.hid hFl
              clear hAl hFl
              obtain ⟨oa, ocap, rfl⟩ := HA2.out.rd.form
              obtain ⟨fa, fcap, rfl⟩ := HOF.out.rd.form
              go_upto_if 76 with fail
              go_cut [17] (fun s wx => ∃ c : Nat, s = .int .i64 c ∧ (c = 0 ∨ c < A.length) ∧ w2' = wx)
              case first =>
                rcases Nat.eq_zero_or_pos A.length with hz | hpos
                · have hpos2 : ¬ (0 : Int) < A.length := by omega
                  clear hz
                  go_wp2_with fail
                  go_meet
                  exact ⟨0, rfl, by omega, rfl⟩
                · have hpos2 : (0 : Int) < A.length := by omega
                  have hmm : Int.tmod (n2 : Int) (A.length : Int) = ((n2 % A.length : Nat) : Int) := by rw [Int.tmod_eq_emod_of_nonneg (by omega)]; rfl
                  have hlt := Nat.mod_lt n2 hpos
                  go_wp2_with fail
                  go_meet
                  exact ⟨n2 % A.length, by rfl, by omega, rfl⟩
              case rest =>
                obtain ⟨c, rfl, hc, rfl⟩ := hcut
                go_upto_region 16 with fail
                go_cut [13] (fun s wx => ∃ V : Value, V = s ∧ (A = [] → V = .slice none 0 0) ∧ Hid (wx.ownsRow w2'.heap.size 3 1 V (A.length - c) ((A.drop c).map (Value.int .i64))) ∧ Hid (Below w2'.heap.size w2' wx))
                case first =>
                  rcases HA2.out with ⟨hov, rfl⟩ | ⟨g, cap, cur, hov, hg, hcur, hcap, hcs, hcl⟩
                  · cases hov
                    obtain rfl : c = 0 := by rcases hc with h | h; exact h; simp at h
                    go_wp2_with fail
                    go_meet
                    exact ⟨_, rfl, fun _ => rfl, Lib.hid (World.ownsRow_nil _ _ _ _), Lib.hid (Below.refl _ _)⟩
                  · cases hov
                    have hpos : 0 < A.length := Nat.pos_of_ne_zero fun e => by
                      have := HNIL.out (by rw [← HAL.out]; exact e)
                      cases this
                    have hq1 : c < A.length := by omega
                    have hq2 : ¬ ocap = c := by omega
                    have hcw : ((A.length : Int) - (c : Int)) = ((A.length - c : Nat) : Int) := by omega
                    have HN : Hid (∀ (j : Nat) (u : Value), ((A.drop c).map (Value.int .i64))[j]? = some u → w2'.cell? (({ block := g, off := c } : Addr).add j) = some u) := Lib.hid (fun j u hj => by
                      rw [List.getElem?_map, List.getElem?_drop] at hj
                      obtain ⟨x, hx⟩ : ∃ x, A[c + j]? = some x := by
                        cases h : A[c + j]? with
                        | none => rw [h] at hj; cases hj
                        | some x => exact ⟨x, rfl⟩
                      rw [hx] at hj
                      cases hj
                      have h7 := (cell_heap hcur (hcl _ _ hx)).1
                      unfold Addr.add
                      split
                      · rename_i e; subst e; exact h7
                      · exact h7)
                    clear hcl
                    go_wp2_with (at_builtin; refine wpList_append_own _ rfl (.tmp 82) (.tmp 85) 25 rfl w2'.heap.size 3 i0 (.int .i64 0) 1 8 Try.underlying25 hi hz0 hz1 hz2 rfl (by decide) (.slice none 0 0) 0 [] rfl (World.ownsRow_nil _ _ _ _) _ _ _ ((A.drop c).map (Value.int .i64)) rfl (by simp) (by first | exact HN.out | simpa using HN.out) (by intro u hu; obtain ⟨y, _, rfl⟩ := List.mem_map.1 hu; rfl) (by unfold maxLen; omega) (by omega) (Nat.le_refl _) ?_; intro v1 w3 hown1 hgrow1 _)
                    go_meet
                    exact ⟨_, rfl, fun h => by rw [h] at hpos; simp at hpos, Lib.hid (by simpa using hown1), Lib.hid ((Below.refl _ _).grown hgrow1 (Nat.le_refl _) (fun k hk => by cases hk))⟩
                case rest =>
                  obtain ⟨V, rfl, hVn, hV, hBV⟩ := hcut
                  have HVN := Lib.hid hVn
                  clear hVn
                  obtain ⟨w3, hw3⟩ : ∃ w3, w3 = wc := ⟨_, rfl⟩
                  rw [← hw3] at hV hBV ⊢
                  clear hw3
                  go_upto_region 17 with fail
                  go_cut [13] (fun s wx => ∃ V : Value, V = s ∧ Hid (wx.ownsRow w2'.heap.size 3 1 V A.length ((A.drop c ++ A.take c).map (Value.int .i64))) ∧ Hid (Below w2'.heap.size w2' wx))
                  case first =>
                    rcases HA2.out with ⟨hov, rfl⟩ | ⟨g, cap, cur, hov, hg, hcur, hcap, hcs, hcl⟩
                    · cases hov
                      obtain rfl : c = 0 := by rcases hc with h | h; exact h; simp at h
                      obtain rfl := HVN.out rfl
                      go_wp2_with fail
                      go_meet
                      exact ⟨_, rfl, Lib.hid (World.ownsRow_nil _ _ _ _), hBV⟩
                    · cases hov
                      have hpos : 0 < A.length := Nat.pos_of_ne_zero fun e => by
                        have := HNIL.out (by rw [← HAL.out]; exact e)
                        cases this
                      have hcl' : c ≤ A.length := by omega
                      have hq3 : c ≤ ocap := by omega
                      have HN : Hid (∀ (j : Nat) (u : Value), ((A.take c).map (Value.int .i64))[j]? = some u → w3.cell? (({ block := g, off := 0 } : Addr).add j) = some u) := Lib.hid (fun j u hj => by
                        rw [List.getElem?_map, List.getElem?_take] at hj
                        split at hj
                        · obtain ⟨x, hx⟩ : ∃ x, A[j]? = some x := by
                            cases h : A[j]? with
                            | none => rw [h] at hj; cases hj
                            | some x => exact ⟨x, rfl⟩
                          rw [hx] at hj
                          cases hj
                          have h7 := (cell_heap ((hBV.out.block g (lt_of_heap hcur)).trans hcur) (hcl _ _ hx)).1
                          unfold Addr.add
                          split
                          · rename_i e; subst e; exact h7
                          · simpa using h7
                        · cases hj)
                      clear hcl
                      have hs2 := hBV.out.size
                      go_wp2_with (at_builtin; refine wpList_append_own _ rfl (.tmp 87) (.tmp 90) 25 rfl w2'.heap.size 3 i0 (.int .i64 0) 1 8 Try.underlying25 hi hz0 hz1 hz2 rfl (by decide) _ _ _ rfl hV.out _ _ _ ((A.take c).map (Value.int .i64)) rfl (by simp; try omega) (by first | exact HN.out | simpa using HN.out) (by intro u hu; obtain ⟨y, _, rfl⟩ := List.mem_map.1 hu; rfl) (by unfold maxLen; omega) (by omega) (by omega) ?_; intro v1 w4 hown1 hgrow1 _)
                      go_meet
                      exact ⟨_, rfl, Lib.hid (by rw [List.map_append]; have e : A.length - c + c = A.length := by omega
                                                 rw [e] at hown1; exact hown1), Lib.hid (hBV.out.grown hgrow1 hs2 (own_ge hV.out))⟩
                  case rest =>
                    obtain ⟨V2, rfl, hD, hBD⟩ := hcut
                    obtain ⟨w4, hw4⟩ : ∃ w4, w4 = wc := ⟨_, rfl⟩
                    rw [← hw4] at hD hBD ⊢
                    clear hw4
                    have HAr := Lib.hid ((HA2.out.below hBD.out).rd)
                    have HFr := Lib.hid ((HOF.out.below hBD.out).rd)
                    have HDo := Lib.hid (OwnI.of_owns hD.out)
                    have HBw := Lib.hid (HB2.out.trans (hBD.out.mono HB2.out.size))
                    obtain ⟨D, hDD⟩ : ∃ D, D = A.drop c ++ A.take c := ⟨_, rfl⟩
                    have HPM : Hid (D.Perm A) := Lib.hid (by rw [hDD]; exact turn_perm A c)
                    rw [← hDD] at HDo
                    have hDl : D.length = A.length := HPM.out.length_eq
                    have HDm : Hid (∀ x ∈ D, isN K x = true) := Lib.hid (fun x hx => hAm.out x (HPM.out.mem_iff.1 hx))
                    have hD3 : D.length ≤ 300 := by omega
                    obtain ⟨da, dcap, rfl⟩ := HDo.out.rd.form
                    have HDl := Lib.hid hDl
                    clear hDD hDl hD hBD HA2 HOF HB2 HVN hV hBV HNIL hc
                    have HAE := Lib.hid (tlErr_ok hAm.out)
                    have HAC := Lib.hid (fun C : Nat → Nat => tlC_ok (C := C) hAm.out)
                    have hKn : nodesN (K : Int) = K := by unfold nodesN; omega
                    go_wp2_with fail
                    refine (pnew_any (K : Int) w4).mono ?_
                    rintro e w5 ⟨tb, bm, rfl, hP, htb, hbm, hb5⟩
                    rw [hKn] at hP
                    have hbm5 := hP.mp.lt
                    have htb5 := lt_of_heap hP.tl
                    go_wp2_with fail
                    refine (pnew_any (K : Int) w5).mono ?_
                    rintro e w6 ⟨tc, cm, rfl, hQ, htc, hcm, hb6⟩
                    rw [hKn] at hQ
                    have hP := hP.below hb6
                    have h56 := hb5.size
                    have h66 := hb6.size
                    have hb := hb5.trans (hb6.mono hb5.size)
                    clear hb5 hb6
                    go_wp2_with fail
                    refine (ptell_any tb bm K cz _ A w6 hP (HAr.out.below hb) (by omega)).mono ?_
                    clear hP
                    rintro e w7 ⟨he, hP, hg⟩
                    rw [HAE.out] at he
                    subst he
                    rw [HAC.out] at hP
                    have hQ := hQ.kept hg (by omega) (by omega)
                    have hb7 : Below w4.heap.size w4 w7 := hb.grown hg (by omega) (fun k hk => by cases hk; exact hbm)
                    clear hg hb
                    have HP7 := Lib.hid hP
                    have HQ7 := Lib.hid hQ
                    have HB7 := Lib.hid hb7
                    have hntb : tb ≠ cm := by omega
                    have hnbm : bm ≠ cm := by omega
                    have hcm4 : w4.heap.size ≤ cm := by omega
                    clear hP hQ hb7 htb hbm htc hcm hbm5 htb5 h56 h66
                    go_upto_region 22 with fail
                    go_loopg [20] D.length (fun gk i wr => ∃ I : Nat, I ≤ D.length ∧ gk = D.length - I ∧ i = .int .i64 I ∧ Hid (PT wr tb bm K (tellC cz A)) ∧ Hid (PT wr tc cm K (tellC cz (D.take I))) ∧ Below w4.heap.size w4 wr)
                    case atStart => exact ⟨0, by omega, rfl, rfl, HP7, HQ7, HB7.out⟩
                    case round =>
                      obtain ⟨I, hI, rfl, rfl, hP, hQ, hB⟩ := hrel
                      by_cases hlt : I < D.length
                      · obtain ⟨x, hx⟩ : ∃ x, D[I]? = some x := ⟨_, List.getElem?_eq_getElem hlt⟩
                        have HX := Lib.hid hx
                        obtain ⟨g, cap, cur, hov, hg, hcur, hcap, hcs, hcl⟩ : ∃ g cap cur, Value.slice da D.length dcap = .slice (some ⟨g, 0, none⟩) D.length cap ∧ w2'.heap.size ≤ g ∧ w4.heap[g]? = some (.cells cur 3 (0, 0)) ∧ D.length ≤ cap ∧ cur.size = cap ∧ ∀ (i : Nat) x, D[i]? = some x → cur[i]? = some (.int .i64 x) := by
                          rcases HDo.out with ⟨_, h2⟩ | h
                          · rw [h2] at hlt; simp at hlt
                          · exact h
                        cases hov
                        have hcg := (hB.block g (lt_of_heap hcur)).trans hcur
                        have hrd1 : IRd wr (.slice (some ⟨g, I, none⟩) 1 (dcap - I)) [x] := IRd.mk (l := [x]) (by simp; omega) (lt_of_heap hcg) (fun i y hy => by
                          have hi0 : i = 0 := by have := (List.getElem?_eq_some_iff.1 hy).1; simpa using this
                          subst hi0
                          simp at hy
                          subst hy
                          exact (cell_heap hcg (hcl I x hx)).1)
                        have hxn : isN K x = true := HDm.out x (List.mem_of_getElem? hx)
                        have hx1 : ∀ y ∈ [x], isN K y = true := fun y hy => by rw [List.mem_singleton.1 hy]; exact hxn
                        have HT := Lib.hid (ptell_any tc cm K (tellC cz (D.take I)) _ [x] wr hQ.out hrd1 (by simp))
                        have HE1 := Lib.hid (tlErr_ok hx1)
                        have HC1 : Hid (tlC K (tellC cz (D.take I)) [x] = tellC cz (D.take (I + 1))) := Lib.hid (by
                          rw [tlC_ok hx1, tellC_take cz D I x hx]
                          rfl)
                        clear hx hcl hcg hcur hrd1 hxn hx1
                        have hq1 : I + 1 ≤ dcap := by omega
                        have hq2 : ¬ dcap = I := by omega
                        go_wp2_with (go_at_call 9; (with_reducible refine HT.out.mono ?_); rintro e w9 ⟨he, hQ9, hg9⟩; rw [HE1.out] at he; subst he)
                        have HP2 := Lib.hid (hP.out.kept hg9 (fun e => hntb e.symm) (fun e => hnbm e.symm))
                        have HQ2 : Hid (PT w9 tc cm K (tellC cz (D.take (I + 1)))) := Lib.hid (by rw [← HC1.out]; exact hQ9)
                        have hB2 : Below w4.heap.size w4 w9 := hB.grown hg9 hB.size (fun k hk => by cases hk; exact hcm4)
                        go_roundg (D.length - (I + 1))
                        case measure => omega
                        case rel => exact ⟨I + 1, by omega, rfl, by go_num, HP2, HQ2, hB2⟩
                      · obtain rfl : I = D.length := by omega
                        have hQ8 := hQ.out
                        rw [List.take_length, tellC_perm HPM.out (by omega)] at hQ8
                        have HSUM := Lib.hid (sumN_tell K A hAm.out (by omega))
                        obtain ⟨C, hC⟩ : ∃ C, C = tellC cz A := ⟨_, rfl⟩
                        rw [← hC] at hQ8 hP HSUM
                        obtain ⟨w8, hw8⟩ : ∃ w8, w8 = wr := ⟨_, rfl⟩
                        rw [← hw8] at hQ8 hP hB ⊢
                        have hP8 := hP.out
                        clear hC hQ hP hw8 HQ7 HP7 HB7 HPM HDo HDm HDl
                        go_upto_region 27 with fail
                        obtain ⟨M, hM⟩ : ∃ M : Nat, (n4 : Int) % 70 = M := ⟨n4 % 70, by omega⟩
                        rw [hM]
                        have hM70 : M < 70 := by omega
                        clear hM
                        go_wp2_with fail
                        refine (ppick_any tb bm K C _ F M w8 hP8 (HFr.out.below hB) (by omega)).mono ?_
                        rintro e w9 ⟨av, R, rfl, hord, hra, hb9⟩
                        have hP9 := hP8.below hb9
                        have hQ9 := hQ8.below hb9
                        have hB9 := hB.trans (hb9.mono hB.size)
                        clear hP8 hQ8 hB hb9
                        go_wp2_with fail
                        refine (ppick_any tc cm K C _ F M w9 hQ9 (HFr.out.below hB9) (by omega)).mono ?_
                        rintro e w10 ⟨bv, R2, rfl, hord2, hrb, hb10⟩
                        obtain rfl := hord2.unique hord
                        have hP10 := hP9.below hb10
                        have hB10 := hB9.trans (hb10.mono hB9.size)
                        have hra := hra.below hb10
                        clear hP9 hQ9 hB9 hb10 hord2
                        have hMn : ((M : Nat) : Int).toNat = M := by omega
                        rw [hMn] at hra hrb
                        have hRK := hord.len
                        have HSL : Hid ((R2.take M).length = min M R2.length) := Lib.hid List.length_take
                        have HSR : Hid (∀ (i : Nat) x, (R2.take M)[i]? = some x → R2[i]? = some x) := Lib.hid (fun i x h => by
                          rw [List.getElem?_take] at h
                          split at h
                          · exact h
                          · cases h)
                        have HNZ : Hid (∀ (I : Nat) x, (R2.take M)[I]? = some x → ((R2.take M).take I).any (isNamed K C) = true → cntN K C x ≠ 0) := Lib.hid (fun I x h1 h2 => named_zero hord h1 h2)
                        obtain ⟨S, hS⟩ : ∃ S, S = R2.take M := ⟨_, rfl⟩
                        rw [← hS] at hra hrb HSL HSR HNZ
                        clear hS
                        have hSM : S.length ≤ M := by have := HSL.out; omega
                        have hSM2 : ¬ ((M : Int) < (S.length : Int)) := by omega
                        obtain ⟨aa, acap, rfl⟩ := hra.form
                        have HRA := Lib.hid hra
                        have HSAME := Lib.hid (same_any _ _ S S w10 hra hrb (by omega))
                        clear hra hrb
                        go_wp2_with fail
                        refine HSAME.out.mono ?_
                        rintro e w11 ⟨he, hb11⟩
                        replace he : e = .returned (.bool true) := by simpa using he
                        subst he
                        have hP11 := hP10.below hb11
                        have hB11 := hB10.trans (hb11.mono hB10.size)
                        have HRA := Lib.hid (HRA.out.below hb11)
                        clear hP10 hB10 hb11 HSAME
                        go_wp2_with fail
                        refine (ptotal_any tb bm K C w11 hP11).mono ?_
                        rintro e w12 ⟨he, hb12⟩
                        rw [HSUM.out] at he
                        subst he
                        have hP12 := hP11.below hb12
                        have hB12 := hB11.trans (hb12.mono hB11.size)
                        have HRA := Lib.hid (HRA.out.below hb12)
                        clear hP11 hB11 hb12 HSUM
                        go_wp2_with fail
                        refine (porder_any tb bm K C _ F w12 hP12 (HFr.out.below hB12) (by omega)).mono ?_
                        rintro e w13 ⟨ov3, R3, rfl, hord3, hro, hb13⟩
                        obtain rfl := hord3.unique hord
                        have hP13 := hP12.below hb13
                        have hB13 := hB12.trans (hb13.mono hB12.size)
                        have HRA := Lib.hid (HRA.out.below hb13)
                        obtain ⟨oa3, ocap3, rfl⟩ := hro.form
                        have HRO := Lib.hid hro
                        have HORD := Lib.hid hord
                        have HOUT := Lib.hid (fun x => pout_any tb bm K C x w13 hP13)
                        have HCNT := Lib.hid (fun x => pcount_any tb bm K C x w13 hP13)
                        have HC2 := Lib.hid (fun x => cntN_le K C x hP13.C2)
                        have HBF : Hid (Below w.heap.size w w13) := Lib.hid (HBw.out.trans (hB13.mono HBw.out.size))
                        clear hP12 hB12 hb13 hord3 hord hro hP13 hB13
                        go_upto_region 33 with fail
                        go_loopg [25, 26] R3.length (fun gk gd i wr => ∃ I : Nat, I ≤ R3.length ∧ gk = R3.length - I ∧ gd = .int .i64 ((R3.take I).countP (notOut K C) : Nat) ∧ i = .int .i64 I ∧ w13 = wr)
                        case atStart => exact ⟨0, by omega, rfl, rfl, rfl, rfl⟩
                        case round =>
                          obtain ⟨I, hI, rfl, rfl, rfl, rfl⟩ := hrel
                          by_cases hlt : I < R3.length
                          · obtain ⟨x, hx⟩ : ∃ x, R3[I]? = some x := ⟨_, List.getElem?_eq_getElem hlt⟩
                            have HCP := Lib.hid (countP_take_next (p := notOut K C) hx)
                            have hGl : (R3.take I).countP (notOut K C) ≤ 60 := Nat.le_trans List.countP_le_length (by rw [List.length_take]; omega)
                            obtain ⟨-, hcap, b, o, hab, hb, c0⟩ := IRd.cell HRO.out hx
                            subst hab
                            obtain ⟨G, hG⟩ : ∃ G, G = (R3.take I).countP (notOut K C) := ⟨_, rfl⟩
                            rw [← hG] at HCP hGl ⊢
                            clear hG
                            have HO1 := Lib.hid (HOUT.out x)
                            by_cases ho : 3 ≤ cntN K C x
                            · have HO2 : Hid (decide (3 ≤ cntN K C x) = true) := Lib.hid (decide_eq_true ho)
                              have HCP2 : Hid ((R3.take (I + 1)).countP (notOut K C) = G) := Lib.hid (by rw [HCP.out]; unfold notOut; rw [HO2.out]; simp)
                              rw [HO2.out] at HO1
                              clear ho hx
                              go_wp2_with (go_at_call 14; (with_reducible refine HO1.out.mono ?_); rintro e w14 ⟨rfl, rfl⟩)
                              go_roundg (R3.length - (I + 1))
                              case measure => omega
                              case rel => exact ⟨I + 1, by omega, rfl, by rw [HCP2.out], by go_num, rfl⟩
                            · have HO2 : Hid (decide (3 ≤ cntN K C x) = false) := Lib.hid (decide_eq_false ho)
                              have HCP2 : Hid ((R3.take (I + 1)).countP (notOut K C) = G + 1) := Lib.hid (by rw [HCP.out]; unfold notOut; rw [HO2.out]; simp)
                              rw [HO2.out] at HO1
                              clear ho hx
                              go_wp2_with (go_at_call 14; (with_reducible refine HO1.out.mono ?_); rintro e w14 ⟨rfl, rfl⟩)
                              go_roundg (R3.length - (I + 1))
                              case measure => omega
                              case rel => exact ⟨I + 1, by omega, rfl, by rw [HCP2.out]; go_num, by go_num, rfl⟩
                          · obtain rfl : I = R3.length := by omega
                            rw [List.take_length]
                            have HGO : Hid (∀ (i : Nat) x, S[i]? = some x → 3 ≤ cntN K C x → R3.countP (notOut K C) ≤ i) := Lib.hid (fun i x hx ho => good_out HORD.out (HSR.out i x hx) ho)
                            have hGl : R3.countP (notOut K C) ≤ 60 := Nat.le_trans List.countP_le_length (by omega)
                            obtain ⟨G, hG⟩ : ∃ G, G = R3.countP (notOut K C) := ⟨_, rfl⟩
                            rw [← hG] at HGO hGl ⊢
                            clear hG
                            go_upto_region 39 with fail
                            go_loopg [27, 28] S.length (fun gk nm i wr => ∃ I : Nat, I ≤ S.length ∧ gk = S.length - I ∧ nm = .bool ((S.take I).any (isNamed K C)) ∧ i = .int .i64 I ∧ w13 = wr)
                            case atStart => exact ⟨0, by omega, rfl, rfl, rfl, rfl⟩
                            case round =>
                              obtain ⟨I, hI, rfl, rfl, rfl, rfl⟩ := hrel
                              by_cases hlt : I < S.length
                              · obtain ⟨x, hx⟩ : ∃ x, S[I]? = some x := ⟨_, List.getElem?_eq_getElem hlt⟩
                                obtain ⟨-, hcap, b, o, hab, hb, c0⟩ := IRd.cell HRA.out hx
                                subst hab
                                have HNX := Lib.hid (any_take_next (p := isNamed K C) hx)
                                have hgo := HGO.out I x hx
                                have hnz := HNZ.out I x hx
                                have HO1 := Lib.hid (HOUT.out x)
                                have HN1 := Lib.hid (HCNT.out x)
                                have HPX : Hid (isNamed K C x = decide (0 < cntN K C x)) := Lib.hid rfl
                                obtain ⟨nm, hnm⟩ : ∃ nm, nm = (S.take I).any (isNamed K C) := ⟨_, rfl⟩
                                rw [← hnm] at HNX hnz ⊢
                                obtain ⟨n, hn⟩ : ∃ n, n = cntN K C x := ⟨_, rfl⟩
                                rw [← hn] at HO1 HN1 hgo hnz HPX
                                clear hn hnm hx
                                by_cases ho : 3 ≤ n
                                · have hMG : ¬ (M : Int) ≤ (G : Int) := by have := hgo ho; omega
                                  have HO2 : Hid (decide (3 ≤ n) = true) := Lib.hid (decide_eq_true ho)
                                  rw [HO2.out] at HO1
                                  have hn0 : ¬ n = 0 := by omega
                                  have hn1 : 0 < n := by omega
                                  have HNN : Hid ((S.take (I + 1)).any (isNamed K C) = true) := Lib.hid (by rw [HNX.out, HPX.out, decide_eq_true hn1]; simp)
                                  clear hgo hnz
                                  cases nm <;>
                                  · go_wp2_with (first | (go_at_call 14; (with_reducible refine HO1.out.mono ?_); rintro e w14 ⟨rfl, rfl⟩) | (go_at_call 15; (with_reducible refine HN1.out.mono ?_); rintro e w14 ⟨rfl, rfl⟩))
                                    go_roundg (S.length - (I + 1))
                                    case measure => omega
                                    case rel => exact ⟨I + 1, by omega, rfl, by rw [HNN.out], by go_num, rfl⟩
                                · have HO2 : Hid (decide (3 ≤ n) = false) := Lib.hid (decide_eq_false ho)
                                  rw [HO2.out] at HO1
                                  by_cases hn0 : n = 0
                                  · subst hn0
                                    have hnm0 : nm = false := by
                                      cases nm
                                      · rfl
                                      · exact absurd rfl (hnz rfl)
                                    subst hnm0
                                    have HNN : Hid ((S.take (I + 1)).any (isNamed K C) = false) := Lib.hid (by rw [HNX.out, HPX.out]; rfl)
                                    clear hgo hnz ho
                                    go_wp2_with (first | (go_at_call 14; (with_reducible refine HO1.out.mono ?_); rintro e w14 ⟨rfl, rfl⟩) | (go_at_call 15; (with_reducible refine HN1.out.mono ?_); rintro e w14 ⟨rfl, rfl⟩))
                                    go_roundg (S.length - (I + 1))
                                    case measure => omega
                                    case rel => exact ⟨I + 1, by omega, rfl, by rw [HNN.out], by go_num, rfl⟩
                                  · have hn1 : 0 < n := by omega
                                    have HNN : Hid ((S.take (I + 1)).any (isNamed K C) = true) := Lib.hid (by rw [HNX.out, HPX.out, decide_eq_true hn1]; simp)
                                    clear hgo hnz ho
                                    cases nm <;>
                                    · go_wp2_with (first | (go_at_call 14; (with_reducible refine HO1.out.mono ?_); rintro e w14 ⟨rfl, rfl⟩) | (go_at_call 15; (with_reducible refine HN1.out.mono ?_); rintro e w14 ⟨rfl, rfl⟩))
                                      go_roundg (S.length - (I + 1))
                                      case measure => omega
                                      case rel => exact ⟨I + 1, by omega, rfl, by rw [HNN.out], by go_num, rfl⟩
                              · obtain rfl : I = S.length := by omega
                                go_wp2_with (go_at_call 7; refine (works_any _).mono ?_; rintro e w5 ⟨rfl, hb5⟩)
                                · go_ret
                                  exact ⟨rfl, HBF.out.trans (hb5.mono HBF.out.size)⟩
                                · rename_i hx
                                  exfalso
                                  have hsl := HSL.out
                                  omega
end Go.Proofs.Ytjlehnmcfimnfaa
