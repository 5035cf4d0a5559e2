/-
  The law ReedDecode.
-/
import Derived.Test.YtpkeglpigjaccaaGreatL7Base
import Derived.Test.YtpkeglpigjaccaaGreatRef5
namespace Go.Proofs.YtpkeglpigjaccaaGreat
open Go.RowKit Fld
set_option linter.unusedVariables false
set_option linter.unusedSimpArgs false

/-- What both sides answer, side by side. -/
theorem dec_both {fb k : Nat} {xs ys : List GF} {ps : List Int} {w w1 w2 : World} {e e' : Ending} (hn : xs.Nodup) (h : DecPost fb xs k ps ys w e w1) (h' : RDecPost xs k ps ys w1 e' w2) :
    ∃ (a b : Value) (c : Int) (m : List GF), e = .returned (.tuple #[a, .int .i64 c]) ∧ e' = .returned (.tuple #[b, .int .i64 c]) ∧ GRd w2 a m ∧ GRd w2 b m := by
  obtain ⟨hk, hf, h3⟩ := h
  obtain ⟨hb, h4⟩ := h'
  rcases h3 with ⟨h3, rfl⟩ | ⟨h3, h5⟩
  · rcases h4 with ⟨-, rfl⟩ | ⟨h4, -⟩
    · exact ⟨_, _, 2, [], rfl, rfl, GRd.nil0 _, GRd.nil0 _⟩
    · exact absurd h4.2 (h3 h4.1)
  · rcases h4 with ⟨h4, -⟩ | ⟨h4, h6⟩
    · exact absurd h3.2 (h4 h3.1)
    · rcases h5 with ⟨h5, rfl⟩ | ⟨h5, h7⟩
      · rcases h6 with ⟨-, rfl⟩ | ⟨h6, -⟩
        · exact ⟨_, _, 70, [], rfl, rfl, GRd.nil0 _, GRd.nil0 _⟩
        · omega
      · rcases h6 with ⟨h6, -⟩ | ⟨-, h6⟩
        · omega
        · rcases h7 with ⟨g, m, rfl, hg, hv, hfit⟩ | ⟨rfl, hno⟩
          · rcases h6 with ⟨v, m', rfl, hr, hfit'⟩ | ⟨-, hno⟩
            · obtain rfl := fits_one hn h3.2 h5 hfit hfit'
              exact ⟨_, _, 0, m, rfl, rfl, (hv.list hfit.1 (Nat.le_refl _)).below hb, hr⟩
            · exact absurd hfit (hno _)
          · rcases h6 with ⟨v, m', rfl, hr, hfit'⟩ | ⟨rfl, -⟩
            · exact absurd hfit' (hno _)
            · exact ⟨_, _, 71, [], rfl, rfl, GRd.nil0 _, GRd.nil0 _⟩
theorem IRd.apart_in {w : World} {v : Value} {l : List Int} (h : IRd w v l) {S : List Nat} (hS : ∀ x ∈ S, w.heap.size ≤ x) : l = [] ∨ Apart v S := by
  obtain ⟨a, cap, rfl, h2, h3⟩ := h
  by_cases hne : l = []
  · exact .inl hne
  · obtain ⟨b, o, rfl, hb, -⟩ := h3 hne
    refine .inr fun k hk hm => ?_
    have := hS k hm
    simp [Value.ownBlock] at hk
    omega
set_option maxRecDepth 100000 in
set_option maxHeartbeats 8000000 in
theorem ldec_any (xv pv yv : Value) (xs ys : List GF) (ps : List Int) (k : Int) (w : World) (hx : GRd w xv xs) (hp : IRd w pv ps) (hy : GRd w yv ys) (hk : -9223372036854775808 ≤ k ∧ k ≤ 9223372036854775807) :
    Calls Tryz.prog 11 #[xv, .int .i64 k, pv, yv] w fun e w' => e = .returned (.bool true) ∧ Below w.heap.size w w' := by
  have HW := Lib.hid (fun W => works_any W)
  have HFN := Lib.hid (fun W => fnew_g W)
  have HBW0 : Hid (Below w.heap.size w w) := Lib.hid (Below.refl _ _)
  obtain ⟨ax, capx, rfl, hcapx⟩ := hx.form
  obtain ⟨ay, capy, rfl, hcapy⟩ := hy.form
  obtain ⟨ap, capp, rfl⟩ := hp.form
  obtain ⟨N, hN⟩ : ∃ N, xs.length = N := ⟨_, rfl⟩
  obtain ⟨Y, hY⟩ : ∃ Y, ys.length = Y := ⟨_, rfl⟩
  obtain ⟨Q, hQ⟩ : ∃ Q, ps.length = Q := ⟨_, rfl⟩
  rw [hN] at hx hcapx ⊢
  rw [hY] at hy hcapy ⊢
  rw [hQ] at hp ⊢
  have HX := Lib.hid hx
  have HY := Lib.hid hy
  have HP := Lib.hid hp
  have HN := Lib.hid hN
  have HYL := Lib.hid hY
  have HQ := Lib.hid hQ
  clear hx hy hp hN hY hQ hcapx hcapy
  go_enter Tryz.func11, Tryz.ntmps11
  by_cases h1 : 16 < N
  · have HBW := HBW0
    go_wp2_with fail
    refine (HW.out _).mono ?_
    rintro e w20 ⟨rfl, hb20⟩
    have HB20 : Hid (Below w.heap.size w w20) := Lib.hid (HBW.out.trans (hb20.mono HBW.out.size))
    clear hb20
    go_wp2
    go_ret
    exact ⟨rfl, HB20.out⟩
  · by_cases h2 : 20 < Q
    · have HBW := HBW0
      go_wp2_with fail
      refine (HW.out _).mono ?_
      rintro e w20 ⟨rfl, hb20⟩
      have HB20 : Hid (Below w.heap.size w w20) := Lib.hid (HBW.out.trans (hb20.mono HBW.out.size))
      clear hb20
      go_wp2
      go_ret
      exact ⟨rfl, HB20.out⟩
    · by_cases h3 : 20 < Y
      · have HBW := HBW0
        go_wp2_with fail
        refine (HW.out _).mono ?_
        rintro e w20 ⟨rfl, hb20⟩
        have HB20 : Hid (Below w.heap.size w w20) := Lib.hid (HBW.out.trans (hb20.mono HBW.out.size))
        clear hb20
        go_wp2
        go_ret
        exact ⟨rfl, HB20.out⟩
      · clear HBW0
        go_wp2_with fail
        refine (HFN.out _).mono ?_
        rintro e w1 ⟨fb, rfl, hfb, hf1, hb1⟩
        have HB1 := Lib.hid hb1
        have HNEW := Lib.hid (new_any fb _ xs k w1 hf1 (HX.out.below hb1) (by rw [HN.out]; omega) hk)
        clear hf1 hb1
        go_wp2_with fail
        refine HNEW.out.mono ?_
        rintro e w2 ⟨hb2, hr⟩
        rw [HN.out] at hr
        have HB2 : Hid (Below w.heap.size w w2) := Lib.hid (HB1.out.trans (hb2.mono HB1.out.size))
        rcases hr with ⟨⟨hnd, hk1, hk2⟩, cb, v, rfl, hcb, hc, ho⟩ | ⟨-, rfl⟩
        · obtain ⟨K, rfl⟩ : ∃ K : Nat, k = (K : Int) := ⟨k.toNat, by omega⟩
          rw [Int.toNat_natCast] at hc
          have HND := Lib.hid hnd
          have hfl2 := hc.ok.lt
          have hs2 := HB2.out.size
          obtain ⟨s, cap, w3, hcv1, hcv2, hcap, hv3, hb3⟩ := own_copy w2 (HY.out.below HB2.out)
          rw [HYL.out] at hcv2 hcap hv3
          have HB3 : Hid (Below w.heap.size w w3) := Lib.hid (HB2.out.trans (hb3.mono hs2))
          have hs3 := hb3.size
          have HOW3 : Hid (GRd w3 (.slice (some ⟨w2.heap.size, 0, none⟩) Y cap) ys) := Lib.hid (hv3.list HYL.out hcap)
          have hne : w2.heap.size ≠ fb := by omega
          have HDEC := Lib.hid (decode_gen w3 cb fb K v (.slice ap Q capp) _ xs ps ys (hc.below hb3) hnd (by omega) (by rw [HN.out]; omega) (by rw [HN.out]; omega) (HP.out.below HB3.out) HOW3.out (IRd.apart_in HP.out (by simpa using hfb)) (fun k hk hm => by simp [Value.ownBlock] at hk hm; omega) (by rw [HQ.out]; omega) (by rw [HYL.out]; omega))
          clear hc hnd ho hb2 hv3 hb3 HNEW HB1
          go_wp2_with fail
          refine HDEC.out.mono ?_
          intro e w4 hp4
          have HB4 : Hid (Below w.heap.size w w4) := Lib.hid (HB3.out.trans (hp4.1.below (by omega) (fun x hx => by simp at hx; omega)))
          have HOW4 := Lib.hid (HOW3.out.kp hp4.1 (fun k hk hm => by simp [Value.ownBlock] at hk hm; omega))
          have hs4 := HB4.out.size
          have HP4 := Lib.hid hp4
          have HREF := Lib.hid (rdec_any _ _ _ xs K ps ys w4 (HX.out.below HB4.out) (HP.out.below HB4.out) (HY.out.below HB4.out) HND.out (by rw [HN.out]; omega) (by rw [HQ.out]; omega) (by omega))
          have hsh : ∃ (a : Value) (c : Int), e = .returned (.tuple #[a, .int .i64 c]) := by
            obtain ⟨-, -, h⟩ := hp4
            rcases h with ⟨-, rfl⟩ | ⟨-, ⟨-, rfl⟩ | ⟨-, ⟨g, m, rfl, -⟩ | ⟨rfl, -⟩⟩⟩ <;> exact ⟨_, _, rfl⟩
          obtain ⟨a, c, rfl⟩ := hsh
          clear hp4 HDEC HOW3 HB3
          go_wp2_with fail
          refine HREF.out.mono ?_
          intro e w5 hp5
          obtain ⟨a', b', c', m, e1, e2, ha, hb⟩ := dec_both HND.out HP4.out hp5
          cases e1
          subst e2
          have HB5 : Hid (Below w.heap.size w w5) := Lib.hid (HB4.out.trans (hp5.1.mono hs4))
          have HSA := Lib.hid (same_g _ _ _ _ w5 ha hb)
          have HSO := Lib.hid (same_g _ _ _ _ w5 (HOW4.out.below hp5.1) (HY.out.below HB5.out))
          rw [decide_eq_true rfl] at HSA HSO
          clear hp5 ha hb HP4
          go_wp2_with fail
          refine HSA.out.mono ?_
          rintro e w6 ⟨rfl, rfl⟩
          go_wp2_with fail
          refine HSO.out.mono ?_
          rintro e w6 ⟨rfl, rfl⟩
          have HBW := HB5
          go_wp2_with fail
          refine (HW.out _).mono ?_
          rintro e w20 ⟨rfl, hb20⟩
          have HB20 : Hid (Below w.heap.size w w20) := Lib.hid (HBW.out.trans (hb20.mono HBW.out.size))
          clear hb20
          go_wp2
          go_ret
          exact ⟨rfl, HB20.out⟩
        · have HBW := HB2
          clear hb2
          go_wp2_with fail
          refine (HW.out _).mono ?_
          rintro e w20 ⟨rfl, hb20⟩
          have HB20 : Hid (Below w.heap.size w w20) := Lib.hid (HBW.out.trans (hb20.mono HBW.out.size))
          clear hb20
          go_wp2
          go_ret
          exact ⟨rfl, HB20.out⟩
end Go.Proofs.YtpkeglpigjaccaaGreat
