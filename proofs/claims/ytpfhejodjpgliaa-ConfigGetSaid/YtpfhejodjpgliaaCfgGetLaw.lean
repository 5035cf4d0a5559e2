/-
  starfishlaw13.ConfigGet, walked.
-/
import Derived.Test.YtpfhejodjpgliaaCfgGet
namespace Go.Proofs.Ytpfhejodjpgliaa
open Go.RowKit
set_option linter.unusedSimpArgs false
set_option linter.unusedVariables false

/-- What both Get's answer of a row of bytes. -/
theorem get_both (l : List Nat) : ∃ c n k d r t q code : Int,
    (∀ v w, BytesRd w v l → Calls Try.prog 13 #[v] w (RetCfg c n k d r t q code w)) ∧
    (∀ v w, BytesRd w v l → Calls Try.prog 14 #[v] w (RetCfg c n k d r t q code w)) ∧
    ((code = 0 ∧ (∃ s, checkF c n k d r t q = some s) ∧ [c, n, k, d, r, t, q].map Int.toNat = l) ∨ code = 130) := by
  by_cases h : l.length = 7
  · obtain ⟨c, n, k, d, r, t, q, rfl⟩ : ∃ c n k d r t q, l = [c, n, k, d, r, t, q] := by
      match l, h with
      | [c, n, k, d, r, t, q], _ => exact ⟨c, n, k, d, r, t, q, rfl⟩
    cases hc : checkF c n k d r t q with
    | none => exact ⟨_, _, _, _, _, _, _, _, fun v w hv => get_none v c n k d r t q w hv hc, fun v w hv => rget_none v c n k d r t q w hv hc, .inr rfl⟩
    | some s => exact ⟨_, _, _, _, _, _, _, _, fun v w hv => get_some v c n k d r t q w hv s hc, fun v w hv => rget_some v c n k d r t q w hv s hc, .inl ⟨rfl, ⟨s, hc⟩, by simp⟩⟩
  · exact ⟨_, _, _, _, _, _, _, _, fun v w hv => get_short v l w hv h, fun v w hv => rget_short v l w hv h, .inr rfl⟩

set_option maxHeartbeats 1000000 in
theorem lget_long (v : Value) (l : List Nat) (c1 n1 k1 d1 r1 t1 q1 : Int) (w : World) (hv : BytesRd w v l) (h : 300 < l.length) :
    Calls Try.prog 6 #[v, .agg #[.int .u8 c1, .int .i64 n1, .int .i64 k1, .int .i64 d1, .int .i64 r1, .int .i64 t1, .int .i64 q1]] w fun e w' => e = .returned (.bool true) ∧ Below w.heap.size w w' := by
  obtain ⟨a, cap, rfl⟩ := rd_len hv
  have f1 : decide ((300 : Int) < (l.length : Int)) = true := decide_eq_true (by omega)
  have HW := Lib.hid works_any
  clear hv
  generalize l.length = m at *
  go_enter Try.func6, Try.ntmps6
  go_wp2_with (go_at_call 8; refine (HW.out _).mono ?_; rintro e w5 ⟨rfl, hb5⟩)
  go_ret
  obtain ⟨b1, _, _, _⟩ := step_alloc _ (Below.refl w.heap.size w) hb5
  exact ⟨rfl, b1⟩

set_option maxHeartbeats 2000000 in
theorem lget_a (v : Value) (l : List Nat) (c1 n1 k1 d1 r1 t1 q1 : Int) (w : World) (hv : BytesRd w v l) (h : l.length ≤ 300) (c n k d r t q : Int) (hg : ∀ v w, BytesRd w v l → Calls Try.prog 13 #[v] w (RetCfg c n k d r t q 130 w)) (hrg : ∀ v w, BytesRd w v l → Calls Try.prog 14 #[v] w (RetCfg c n k d r t q 130 w)) (hc1 : checkF c1 n1 k1 d1 r1 t1 q1 = none) :
    Calls Try.prog 6 #[v, .agg #[.int .u8 c1, .int .i64 n1, .int .i64 k1, .int .i64 d1, .int .i64 r1, .int .i64 t1, .int .i64 q1]] w fun e w' => e = .returned (.bool true) ∧ Below w.heap.size w w' := by
  have HG := Lib.hid hg
  have HRG := Lib.hid hrg
  have HW := Lib.hid works_any
  have HP := Lib.hid (fun w => put_none c1 n1 k1 d1 r1 t1 q1 w hc1)
  clear hg hrg hc1
  obtain ⟨a, cap, rfl⟩ := rd_len hv
  have f1 : decide ((300 : Int) < (l.length : Int)) = false := decide_eq_false (by omega)
  have HV := Lib.hid hv
  clear hv
  go_enter Try.func6, Try.ntmps6
  go_wp2_with fail
  refine (HG.out _ _ (HV.out.alloc _)).mono ?_
  rintro e w1 ⟨rfl, hb1⟩
  obtain ⟨b1, hA, hs1, _⟩ := step_alloc _ (Below.refl w.heap.size w) hb1
  have hv1 := HV.out.below b1
  have HA := Lib.hid hA
  have HV1 := Lib.hid hv1
  clear hb1 hA HV hv1
  simp only [cfgV]
  go_wp2_with fail
  refine (HRG.out _ _ (HV1.out.alloc _)).mono ?_
  rintro e w2 ⟨rfl, hb2⟩
  obtain ⟨b2, hB, hs2, k2⟩ := step_alloc _ b1 hb2
  have hA := (k2.block _ hs1).trans HA.out
  have hv2 := HV1.out.below k2
  have hs1' : w.heap.size < w2.heap.size := by omega
  obtain ⟨x0, x1, x2, x3, x4, x5, x6⟩ := cells7 hB
  obtain ⟨z0, z1, z2, z3, z4, z5, z6⟩ := cells7 hA
  have HA2 := Lib.hid hA
  have HB2 := Lib.hid hB
  have HV2 := Lib.hid hv2
  clear hb2 b1 HA HV1 hA hB hv2 k2
  simp only [cfgV]
  go_wp2_with fail
  refine (HP.out _).mono ?_
  rintro e w3 ⟨v3, rfl, ho3, hb3⟩
  obtain ⟨b3, _, _, _⟩ := step_alloc _ b2 hb3
  obtain ⟨a3, cap3, rfl⟩ := rd_len (rd_of_ints ho3 (by simp))
  simp only [List.map_nil, List.length_nil]
  clear hb3 ho3
  go_wp2_with (go_at_call 8; refine (HW.out _).mono ?_; rintro e w5 ⟨rfl, hb5⟩)
  go_ret
  exact ⟨by simp, b3.trans (hb5.mono b3.size)⟩

theorem put_back {c1 n1 k1 d1 r1 t1 q1 : Int} {s : Sh} (hc1 : checkF c1 n1 k1 d1 r1 t1 q1 = some s) :
    (∀ x ∈ [c1, n1, k1, d1, r1, t1, q1], 0 ≤ x ∧ x ≤ 255) ∧ (∀ v w, BytesRd w v ([c1, n1, k1, d1, r1, t1, q1].map Int.toNat) → Calls Try.prog 13 #[v] w (RetCfg c1 n1 k1 d1 r1 t1 q1 0 w)) := by
  obtain ⟨⟨b1, b2, b3, b4, b5, b6, b7, b8, b9, b10⟩, b11, b12⟩ := check_in hc1
  have b13 := check_code hc1
  refine ⟨fun x hx => ?_, fun v w hv => ?_⟩
  · simp only [List.mem_cons, List.not_mem_nil, or_false] at hx
    omega
  · obtain ⟨c, rfl⟩ := Int.eq_ofNat_of_zero_le (show 0 ≤ c1 by omega)
    obtain ⟨n, rfl⟩ := Int.eq_ofNat_of_zero_le (show 0 ≤ n1 by omega)
    obtain ⟨k, rfl⟩ := Int.eq_ofNat_of_zero_le (show 0 ≤ k1 by omega)
    obtain ⟨d, rfl⟩ := Int.eq_ofNat_of_zero_le (show 0 ≤ d1 by omega)
    obtain ⟨r, rfl⟩ := Int.eq_ofNat_of_zero_le (show 0 ≤ r1 by omega)
    obtain ⟨t, rfl⟩ := Int.eq_ofNat_of_zero_le (show 0 ≤ t1 by omega)
    obtain ⟨q, rfl⟩ := Int.eq_ofNat_of_zero_le (show 0 ≤ q1 by omega)
    exact get_some v c n k d r t q w (by simpa using hv) s hc1
set_option maxHeartbeats 2000000 in
theorem lget_b (v : Value) (l : List Nat) (c1 n1 k1 d1 r1 t1 q1 : Int) (w : World) (hv : BytesRd w v l) (h : l.length ≤ 300) (c n k d r t q : Int) (hg : ∀ v w, BytesRd w v l → Calls Try.prog 13 #[v] w (RetCfg c n k d r t q 130 w)) (hrg : ∀ v w, BytesRd w v l → Calls Try.prog 14 #[v] w (RetCfg c n k d r t q 130 w)) (s : Sh) (hc1 : checkF c1 n1 k1 d1 r1 t1 q1 = some s) :
    Calls Try.prog 6 #[v, .agg #[.int .u8 c1, .int .i64 n1, .int .i64 k1, .int .i64 d1, .int .i64 r1, .int .i64 t1, .int .i64 q1]] w fun e w' => e = .returned (.bool true) ∧ Below w.heap.size w w' := by
  have HG := Lib.hid hg
  have HRG := Lib.hid hrg
  have HW := Lib.hid works_any
  have HP := Lib.hid (fun w => put_some c1 n1 k1 d1 r1 t1 q1 s w hc1)
  obtain ⟨hl, hg2⟩ := put_back hc1
  have HL := Lib.hid hl
  have HG2 := Lib.hid hg2
  clear hg hrg hc1 hg2 hl
  obtain ⟨a, cap, rfl⟩ := rd_len hv
  have f1 : decide ((300 : Int) < (l.length : Int)) = false := decide_eq_false (by omega)
  have HV := Lib.hid hv
  clear hv
  go_enter Try.func6, Try.ntmps6
  go_wp2_with fail
  refine (HG.out _ _ (HV.out.alloc _)).mono ?_
  rintro e w1 ⟨rfl, hb1⟩
  obtain ⟨b1, hA, hs1, _⟩ := step_alloc _ (Below.refl w.heap.size w) hb1
  have hv1 := HV.out.below b1
  have HA := Lib.hid hA
  have HV1 := Lib.hid hv1
  clear hb1 hA HV hv1
  simp only [cfgV]
  go_wp2_with fail
  refine (HRG.out _ _ (HV1.out.alloc _)).mono ?_
  rintro e w2 ⟨rfl, hb2⟩
  obtain ⟨b2, hB, hs2, k2⟩ := step_alloc _ b1 hb2
  have hA := (k2.block _ hs1).trans HA.out
  have hv2 := HV1.out.below k2
  have hs1' : w.heap.size < w2.heap.size := by omega
  obtain ⟨x0, x1, x2, x3, x4, x5, x6⟩ := cells7 hB
  obtain ⟨z0, z1, z2, z3, z4, z5, z6⟩ := cells7 hA
  have HA2 := Lib.hid hA
  have HB2 := Lib.hid hB
  have HV2 := Lib.hid hv2
  clear hb2 b1 HA HV1 hA hB hv2 k2
  simp only [cfgV]
  go_wp2_with fail
  refine (HP.out _).mono ?_
  rintro e w3 ⟨v3, rfl, ho3, hb3⟩
  obtain ⟨b3, hC, hs3, k3⟩ := step_alloc _ b2 hb3
  have hr3 := rd_of_ints ho3 HL.out
  have hA := (k3.block _ hs1').trans HA2.out
  have HA3 := Lib.hid hA
  have HR3 := Lib.hid hr3
  have hs1'' : w.heap.size < w3.heap.size := by omega
  clear hb3 ho3 b2 HA2 HB2 HV2 x0 x1 x2 x3 x4 x5 x6 z0 z1 z2 z3 z4 z5 z6 hC hA hr3 k3
  go_wp2_with fail
  refine (HG2.out _ _ HR3.out).mono ?_
  rintro e w4 ⟨rfl, hb4⟩
  have hA := (hb4.block _ hs1'').trans HA3.out
  have b4 := b3.trans (hb4.mono b3.size)
  obtain ⟨z0, z1, z2, z3, z4, z5, z6⟩ := cells7 hA
  have hs4 := hb4.size
  have hs5 : w.heap.size < w4.heap.size := by omega
  clear hA hb4 b3 hs4
  simp only [cfgV]
  go_wp2_with (go_at_call 8; refine (HW.out _).mono ?_; rintro e w5 ⟨rfl, hb5⟩)
  go_ret
  obtain ⟨b5, _, _, _⟩ := step_alloc _ b4 hb5
  exact ⟨by simp, b5⟩

set_option maxHeartbeats 2000000 in
theorem lget_c (v : Value) (l : List Nat) (c1 n1 k1 d1 r1 t1 q1 : Int) (w : World) (hv : BytesRd w v l) (h : l.length ≤ 300) (c n k d r t q : Int) (hg : ∀ v w, BytesRd w v l → Calls Try.prog 13 #[v] w (RetCfg c n k d r t q 0 w)) (hrg : ∀ v w, BytesRd w v l → Calls Try.prog 14 #[v] w (RetCfg c n k d r t q 0 w)) (s : Sh) (hc : checkF c n k d r t q = some s) (hlx : [c, n, k, d, r, t, q].map Int.toNat = l) (hc1 : checkF c1 n1 k1 d1 r1 t1 q1 = none) :
    Calls Try.prog 6 #[v, .agg #[.int .u8 c1, .int .i64 n1, .int .i64 k1, .int .i64 d1, .int .i64 r1, .int .i64 t1, .int .i64 q1]] w fun e w' => e = .returned (.bool true) ∧ Below w.heap.size w w' := by
  have HG := Lib.hid hg
  have HRG := Lib.hid hrg
  have HW := Lib.hid works_any
  have HP := Lib.hid (fun w => put_none c1 n1 k1 d1 r1 t1 q1 w hc1)
  have HPX := Lib.hid (fun w => put_some c n k d r t q s w hc)
  have HLX := Lib.hid (put_back hc).1
  have HLE := Lib.hid hlx
  clear hg hrg hc1 hc hlx
  obtain ⟨a, cap, rfl⟩ := rd_len hv
  have f1 : decide ((300 : Int) < (l.length : Int)) = false := decide_eq_false (by omega)
  have HV := Lib.hid hv
  clear hv
  go_enter Try.func6, Try.ntmps6
  go_wp2_with fail
  refine (HG.out _ _ (HV.out.alloc _)).mono ?_
  rintro e w1 ⟨rfl, hb1⟩
  obtain ⟨b1, hA, hs1, _⟩ := step_alloc _ (Below.refl w.heap.size w) hb1
  have hv1 := HV.out.below b1
  have HA := Lib.hid hA
  have HV1 := Lib.hid hv1
  clear hb1 hA HV hv1
  simp only [cfgV]
  go_wp2_with fail
  refine (HRG.out _ _ (HV1.out.alloc _)).mono ?_
  rintro e w2 ⟨rfl, hb2⟩
  obtain ⟨b2, hB, hs2, k2⟩ := step_alloc _ b1 hb2
  have hA := (k2.block _ hs1).trans HA.out
  have hv2 := HV1.out.below k2
  have hs1' : w.heap.size < w2.heap.size := by omega
  obtain ⟨x0, x1, x2, x3, x4, x5, x6⟩ := cells7 hB
  obtain ⟨z0, z1, z2, z3, z4, z5, z6⟩ := cells7 hA
  have HA2 := Lib.hid hA
  have HB2 := Lib.hid hB
  have HV2 := Lib.hid hv2
  clear hb2 b1 HA HV1 hA hB hv2 k2
  simp only [cfgV]
  go_wp2_with fail
  have hlx := HLE.out
  refine (HPX.out _).mono ?_
  rintro e w2' ⟨v2, rfl, ho2, hb2⟩
  obtain ⟨b2', hq1, hq2, k2⟩ := step_alloc _ b2 hb2
  have hr2 := rd_of_ints ho2 HLX.out
  rw [hlx] at hr2
  have hA := (k2.block _ hs1').trans HA2.out
  have hv3 := HV2.out.below k2
  have hs1x : w.heap.size < w2'.heap.size := by omega
  have HSM := Lib.hid (same_bytes v2 _ _ _ w2' hr2 hv3)
  clear hb2 ho2 b2 HA2 HB2 HV2 x0 x1 x2 x3 x4 x5 x6 z0 z1 z2 z3 z4 z5 z6 hr2 hv3 k2 hs1' hs2 hq1 hq2
  obtain ⟨z0, z1, z2, z3, z4, z5, z6⟩ := cells7 hA
  have HA2 := Lib.hid hA
  have hs1' := hs1x
  have b2 := b2'
  clear hA hs1x b2'
  go_wp2_with (go_at_call 12; refine HSM.out.mono ?_; rintro e w' ⟨rfl, rfl⟩)
  refine (HP.out _).mono ?_
  rintro e w3 ⟨v3, rfl, ho3, hb3⟩
  have b3 := b2.trans (hb3.mono b2.size)
  obtain ⟨a3, cap3, rfl⟩ := rd_len (rd_of_ints ho3 (by simp))
  simp only [List.map_nil, List.length_nil]
  clear hb3 ho3
  go_wp2_with (go_at_call 8; refine (HW.out _).mono ?_; rintro e w5 ⟨rfl, hb5⟩)
  go_ret
  exact ⟨by simp, b3.trans (hb5.mono b3.size)⟩
set_option maxHeartbeats 2000000 in
theorem lget_d (v : Value) (l : List Nat) (c1 n1 k1 d1 r1 t1 q1 : Int) (w : World) (hv : BytesRd w v l) (h : l.length ≤ 300) (c n k d r t q : Int) (hg : ∀ v w, BytesRd w v l → Calls Try.prog 13 #[v] w (RetCfg c n k d r t q 0 w)) (hrg : ∀ v w, BytesRd w v l → Calls Try.prog 14 #[v] w (RetCfg c n k d r t q 0 w)) (s : Sh) (hc : checkF c n k d r t q = some s) (hlx : [c, n, k, d, r, t, q].map Int.toNat = l) (s1 : Sh) (hc1 : checkF c1 n1 k1 d1 r1 t1 q1 = some s1) :
    Calls Try.prog 6 #[v, .agg #[.int .u8 c1, .int .i64 n1, .int .i64 k1, .int .i64 d1, .int .i64 r1, .int .i64 t1, .int .i64 q1]] w fun e w' => e = .returned (.bool true) ∧ Below w.heap.size w w' := by
  have HG := Lib.hid hg
  have HRG := Lib.hid hrg
  have HW := Lib.hid works_any
  have HP := Lib.hid (fun w => put_some c1 n1 k1 d1 r1 t1 q1 s1 w hc1)
  have HPX := Lib.hid (fun w => put_some c n k d r t q s w hc)
  have HLX := Lib.hid (put_back hc).1
  obtain ⟨hl, hg2⟩ := put_back hc1
  have HL := Lib.hid hl
  have HG2 := Lib.hid hg2
  have HLE := Lib.hid hlx
  clear hg hrg hc1 hc hlx hl hg2
  obtain ⟨a, cap, rfl⟩ := rd_len hv
  have f1 : decide ((300 : Int) < (l.length : Int)) = false := decide_eq_false (by omega)
  have HV := Lib.hid hv
  clear hv
  go_enter Try.func6, Try.ntmps6
  go_wp2_with fail
  refine (HG.out _ _ (HV.out.alloc _)).mono ?_
  rintro e w1 ⟨rfl, hb1⟩
  obtain ⟨b1, hA, hs1, _⟩ := step_alloc _ (Below.refl w.heap.size w) hb1
  have hv1 := HV.out.below b1
  have HA := Lib.hid hA
  have HV1 := Lib.hid hv1
  clear hb1 hA HV hv1
  simp only [cfgV]
  go_wp2_with fail
  refine (HRG.out _ _ (HV1.out.alloc _)).mono ?_
  rintro e w2 ⟨rfl, hb2⟩
  obtain ⟨b2, hB, hs2, k2⟩ := step_alloc _ b1 hb2
  have hA := (k2.block _ hs1).trans HA.out
  have hv2 := HV1.out.below k2
  have hs1' : w.heap.size < w2.heap.size := by omega
  obtain ⟨x0, x1, x2, x3, x4, x5, x6⟩ := cells7 hB
  obtain ⟨z0, z1, z2, z3, z4, z5, z6⟩ := cells7 hA
  have HA2 := Lib.hid hA
  have HB2 := Lib.hid hB
  have HV2 := Lib.hid hv2
  clear hb2 b1 HA HV1 hA hB hv2 k2
  simp only [cfgV]
  go_wp2_with fail
  have hlx := HLE.out
  refine (HPX.out _).mono ?_
  rintro e w2' ⟨v2, rfl, ho2, hb2⟩
  obtain ⟨b2', hq1, hq2, k2⟩ := step_alloc _ b2 hb2
  have hr2 := rd_of_ints ho2 HLX.out
  rw [hlx] at hr2
  have hA := (k2.block _ hs1').trans HA2.out
  have hv3 := HV2.out.below k2
  have hs1x : w.heap.size < w2'.heap.size := by omega
  have HSM := Lib.hid (same_bytes v2 _ _ _ w2' hr2 hv3)
  clear hb2 ho2 b2 HA2 HB2 HV2 x0 x1 x2 x3 x4 x5 x6 z0 z1 z2 z3 z4 z5 z6 hr2 hv3 k2 hs1' hs2 hq1 hq2
  obtain ⟨z0, z1, z2, z3, z4, z5, z6⟩ := cells7 hA
  have HA2 := Lib.hid hA
  have hs1' := hs1x
  have b2 := b2'
  clear hA hs1x b2'
  go_wp2_with (go_at_call 12; refine HSM.out.mono ?_; rintro e w' ⟨rfl, rfl⟩)
  refine (HP.out _).mono ?_
  rintro e w3 ⟨v3, rfl, ho3, hb3⟩
  have b3 := b2.trans (hb3.mono b2.size)
  have k3 := hb3
  have hs3 := hb3.size
  have hr3 := rd_of_ints ho3 HL.out
  have hA := (k3.block _ hs1').trans HA2.out
  have HA3 := Lib.hid hA
  have HR3 := Lib.hid hr3
  have hs1'' : w.heap.size < w3.heap.size := by omega
  clear hb3 ho3 b2 HA2 z0 z1 z2 z3 z4 z5 z6 hA hr3 k3 hs3
  go_wp2_with fail
  refine (HG2.out _ _ HR3.out).mono ?_
  rintro e w4 ⟨rfl, hb4⟩
  have hA := (hb4.block _ hs1'').trans HA3.out
  have b4 := b3.trans (hb4.mono b3.size)
  obtain ⟨z0, z1, z2, z3, z4, z5, z6⟩ := cells7 hA
  have hs4 := hb4.size
  have hs5 : w.heap.size < w4.heap.size := by omega
  clear hA hb4 b3 hs4
  simp only [cfgV]
  go_wp2_with (go_at_call 8; refine (HW.out _).mono ?_; rintro e w5 ⟨rfl, hb5⟩)
  go_ret
  obtain ⟨b5, _, _, _⟩ := step_alloc _ b4 hb5
  exact ⟨by simp, b5⟩

theorem law_get (v : Value) (l : List Nat) (c1 n1 k1 d1 r1 t1 q1 : Int) (w : World) (hv : BytesRd w v l) :
    Calls Try.prog 6 #[v, .agg #[.int .u8 c1, .int .i64 n1, .int .i64 k1, .int .i64 d1, .int .i64 r1, .int .i64 t1, .int .i64 q1]] w fun e w' => e = .returned (.bool true) ∧ Below w.heap.size w w' := by
  by_cases h : l.length ≤ 300
  · obtain ⟨c, n, k, d, r, t, q, code, hg, hrg, hcode⟩ := get_both l
    cases hc1 : checkF c1 n1 k1 d1 r1 t1 q1 with
    | none =>
      rcases hcode with ⟨rfl, ⟨s, hs⟩, hl⟩ | rfl
      · exact lget_c v l c1 n1 k1 d1 r1 t1 q1 w hv h c n k d r t q hg hrg s hs hl hc1
      · exact lget_a v l c1 n1 k1 d1 r1 t1 q1 w hv h c n k d r t q hg hrg hc1
    | some s1 =>
      rcases hcode with ⟨rfl, ⟨s, hs⟩, hl⟩ | rfl
      · exact lget_d v l c1 n1 k1 d1 r1 t1 q1 w hv h c n k d r t q hg hrg s hs hl s1 hc1
      · exact lget_b v l c1 n1 k1 d1 r1 t1 q1 w hv h c n k d r t q hg hrg s1 hc1
  · exact lget_long v l c1 n1 k1 d1 r1 t1 q1 w hv (by omega)
end Go.Proofs.Ytpfhejodjpgliaa
