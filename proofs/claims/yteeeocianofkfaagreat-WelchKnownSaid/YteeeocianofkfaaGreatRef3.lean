/-
  The reference's Mul, Roots and Through.
-/
import Derived.Test.YteeeocianofkfaaGreatRef2
namespace Go.Proofs.YteeeocianofkfaaGreat
open Go.RowKit Fld
set_option linter.unusedVariables false
set_option linter.unusedSimpArgs false

theorem own_lit (w : World) (l : List GF) {n : Nat} (hn : l.length = n) (hl : l.length ≤ 1000000) : OwnG (w.alloc (.cells (gv l).toArray 5)) w.heap.size (.slice (some ⟨w.heap.size, 0, none⟩) n n) l := by
  subst hn
  exact ⟨by rw [gv_length]; simp, .inr ⟨w.heap.size, l.length, (gv l).toArray, rfl, Nat.le_refl _, heap_alloc_new w _, Nat.le_refl _, by unfold maxLen; omega, by simp [gv], by simp [gv]; exact List.take_of_length_le (by simp)⟩⟩
theorem gv_rep (i : Nat) : (gv (List.replicate i (0 : GF))).toArray = Array.replicate i (.int .u8 0) := by
  simp [gv]
  exact .inr rfl
theorem own_zeros (w : World) (i : Nat) (hi : i ≤ 1000000) : OwnG (w.alloc (.cells (Array.replicate i (.int .u8 0)) 5)) w.heap.size (.slice (some ⟨w.heap.size, 0, none⟩) i i) (List.replicate i 0) := by
  rw [← gv_rep]
  exact own_lit w _ (by simp) (by simp; exact hi)
/-- A row of a product, as far as it has come. -/
noncomputable def rowK (I : Nat) (c : GF) (m : List GF) (K : Nat) : List GF := List.replicate I 0 ++ rowF (fun k => c * m.getD k 0) K
theorem rowK_len (I : Nat) (c : GF) (m : List GF) (K : Nat) : (rowK I c m K).length = I + K := by simp [rowK, rowF_len]
theorem rowK_succ (I : Nat) (c : GF) (m : List GF) (K : Nat) : rowK I c m (K + 1) = rowK I c m K ++ [c * m.getD K 0] := by simp [rowK, rowF_succ]
theorem app_rowK {W : World} {B : Nat} {V : Value} {I K : Nat} {c d : GF} {m : List GF} (h : OwnG W B V (rowK I c m K)) (hJ : I + K ≤ 1000000) (hb : B ≤ W.heap.size) (hd : m.getD K 0 = d) {n : Nat} (hn : (c * d).n = n) {ad : Nat} (had : ad = W.heap.size) :
    ∃ v1 w3, (Builtin.append_ #[22, 22] 22 #[V, .slice (some ⟨ad, 0, none⟩) 1 1]).run Tryz.prog (W.alloc (.cells #[.int .u8 (n : Int)] 5)) = .ok v1 w3 ∧
      OwnG w3 B v1 (rowK I c m (K + 1)) ∧ Below B W w3 := by
  obtain ⟨v1, w3, h1, h2, _, h3, _⟩ := app_byte (c * d) h (by rw [rowK_len]; exact hJ) hb hn had
  exact ⟨v1, w3, h1, by rw [rowK_succ, hd]; exact h2, h3⟩
/-- A product, as far as it has come. -/
structure MulI (w wo : World) (l m : List GF) (I : Nat) (V : Value) (p : List GF) : Prop where
  own : OwnG wo w.heap.size V p
  trim : Trimd p
  eval : ∀ x, ev p x = ev (l.take I) x * ev m x
  len : p.length ≤ I - 1 + m.length
  nul : I = 0 → p = []
  below : Below w.heap.size w wo
/-- What 'Mul' by definition leaves. -/
def RMulPost (l m : List GF) (w : World) (e : Ending) (w' : World) : Prop :=
  ∃ v p, e = .returned v ∧ OwnG w' w.heap.size v p ∧ Trimd p ∧ (∀ x, ev p x = ev l x * ev m x) ∧ p.length ≤ l.length - 1 + m.length ∧ Below w.heap.size w w'
set_option maxRecDepth 100000 in
set_option maxHeartbeats 4000000 in
theorem rpmul_any (u v : Value) (l m : List GF) (w : World) (hu : GRd w u l) (hv : GRd w v m) (hl : l.length ≤ 30000) (hm : m.length ≤ 30000) :
    Calls Tryz.prog 97 #[u, v] w (RMulPost l m w) := by
  obtain ⟨a, cap, rfl, hcap⟩ := hu.form
  obtain ⟨b, capb, rfl, hcapb⟩ := hv.form
  obtain ⟨i0, hi, hz0, hz1, hz2⟩ := info_parts u8_info
  obtain ⟨L, hL⟩ : ∃ L, l.length = L := ⟨_, rfl⟩
  obtain ⟨M, hM⟩ : ∃ M, m.length = M := ⟨_, rfl⟩
  have hmk : ∀ I : Nat, I ≤ 30000 → ∀ W, (Instr.makeSlice 22 (.int .i64 I) (.int .i64 I)).run Tryz.prog W = .ok (.slice (some ⟨W.heap.size, 0, none⟩) I I) (W.alloc (.cells (Array.replicate I (.int .u8 0)) 5)) := fun I hI W =>
    run_row W 22 5 i0 (.int .u8 0) Tryz.underlying22 hi hz0 hz1 rfl I (by rw [hz2]; omega) (by unfold maxLen; omega)
  have HMK := Lib.hid hmk
  have HL := Lib.hid hL
  have HM := Lib.hid hM
  rw [hL] at hl hcap hu ⊢
  rw [hM] at hm hcapb hv ⊢
  have HU := Lib.hid hu
  have HV := Lib.hid hv
  clear hu hv hL hM hmk hi hz0 hz1 hz2
  go_enter Tryz.func97, Tryz.ntmps97
  go_wp2
  go_loopg [5, 6] L (fun gk y i wr => ∃ (V : Value) (I : Nat) (p : List GF), V = y ∧ I ≤ L ∧ gk = L - I ∧ i = .int .i64 I ∧ Hid (MulI w wr l m I V p))
  case atStart => exact ⟨_, 0, [], rfl, by omega, rfl, rfl, Lib.hid ⟨OwnG.nil _ _, .inl rfl, fun x => by rw [List.take_zero, ev_nil, zmul], by simp, fun _ => rfl, Below.refl _ _⟩⟩
  case round =>
    obtain ⟨V, I, p, rfl, hI, rfl, rfl, HI⟩ := hrel
    obtain ⟨wo, rfl⟩ : ∃ wo : World, wo = wr := ⟨_, rfl⟩
    have hs := HI.out.below.size
    by_cases hlt : I < L
    · obtain ⟨c, hc, hd⟩ := at_get (l := l) (i := I) (by rw [HL.out]; omega)
      obtain ⟨ba, oa, rfl, hba, cxa⟩ := HU.out.at hc
      have hmkI := HMK.out I (by omega)
      obtain ⟨W1, hW1⟩ : ∃ W1, W1 = wo.alloc (.cells (Array.replicate I (.int .u8 0)) 5) := ⟨_, rfl⟩
      have HO1 : Hid (OwnG W1 wo.heap.size (.slice (some ⟨wo.heap.size, 0, none⟩) I I) (rowK I c m 0)) := Lib.hid (by
        rw [hW1]
        simpa [rowK, rowF] using own_zeros wo I (by omega))
      have HB1 : Hid (Below wo.heap.size wo W1) := Lib.hid (by rw [hW1]; exact (Below.refl _ _).alloc (Nat.le_refl _) _)
      have HC := Lib.hid (And.intro hc hd)
      have HW1 := Lib.hid hW1
      clear hc hd hW1 cxa
      go_wp2
      rw [← HW1.out]
      go_loopg [7, 8] M (fun gk y k wr => ∃ (V2 : Value) (K : Nat), V2 = y ∧ K ≤ M ∧ gk = M - K ∧ k = .int .i64 K ∧ Hid (OwnG wr wo.heap.size V2 (rowK I c m K)) ∧ Hid (Below wo.heap.size wo wr))
      case atStart => exact ⟨_, 0, rfl, by omega, rfl, rfl, HO1, HB1⟩
      case round =>
        clear HO1 HB1 HW1
        obtain ⟨V2, K, rfl, hK, rfl, rfl, HO, HB⟩ := hrel
        have hsk := HB.out.size
        by_cases hlt2 : K < M
        · obtain ⟨c2, hc2, hd2⟩ := at_get (l := m) (i := K) (by rw [HM.out]; omega)
          have hbel : Below w.heap.size w wr := HI.out.below.trans (HB.out.mono hs)
          obtain ⟨ba', oa', e', hba', cx1⟩ := (HU.out.below hbel).at HC.out.1
          cases e'
          obtain ⟨bb, ob, rfl, hbb0, -⟩ := HV.out.at hc2
          obtain ⟨bb', ob', e', hbb, cx2⟩ := (HV.out.below hbel).at hc2
          cases e'
          have HMU := Lib.hid (fun W => rmul_g c c2 W)
          obtain ⟨s, hs2⟩ : ∃ t, (c * c2).n = t := ⟨_, rfl⟩
          obtain ⟨v1, w6, hap, ho6, hb6⟩ := app_rowK (W := wr.drew) HO.out (by omega) (by exact hsk) hd2 hs2 (ad := wr.heap.size) rfl
          have HO6 := Lib.hid ho6
          have HB6 := Lib.hid (((Below.refl wo.heap.size wr).drew).trans hb6)
          have HBK := Lib.hid (HB.out.trans HB6.out)
          obtain ⟨cn, hcn⟩ : ∃ t, c.n = t := ⟨_, rfl⟩
          obtain ⟨dn, hdn⟩ : ∃ t, c2.n = t := ⟨_, rfl⟩
          rw [hcn] at cx1 HMU
          rw [hdn] at cx2 HMU
          rw [hs2] at HMU
          obtain ⟨kp, hkp⟩ : ∃ kp : Nat → Bool, ∀ j, kp j = true ↔ j < wo.heap.size := ⟨fun j => decide (j < wo.heap.size), by simp⟩
          have hka : kp ba = true := (hkp _).2 (by omega)
          have hkb : kp bb = true := (hkp _).2 (by omega)
          have HKP := Lib.hid hkp
          clear hkp ho6 hb6 hc2 hd2 hcn hdn hs2 hbel hbb0
          go_upto_region 9 with fail
          have hgr := fun (w0 W : World) (p : Addr) (hp : (fun j => kp j = true) p.block) => graft_cell (w0 := w0) (keep := (fun j => kp j = true)) W hp
          refine wp_region_tree (fun j => kp j = true) [9, 10, 11] (.step 0 (.step 1 (.step 2 (.step 3 (.step 4 (.step 5 (.step 6 (.step 7 (.step 8 (.step 9 (.step 10 (.step 11 (.step 12 .done))))))))))))) (by kernel_rfl) (by kernel_rfl) ?_
          simp only [slimTr, slimStep, Oper.slim, List.contains_cons, List.contains_nil, Option.map_none, Option.map_some, List.getElem?_toArray, List.getElem?_cons_zero, List.getElem?_cons_succ, Option.bind_some, beq_self_eq_true, Bool.or_false, Nat.reduceBEq, Nat.reduceAdd, Nat.zero_add]
          repeat (first | (refine wpSlimT_append _ _ _ rfl rfl rfl rfl rfl hap (fun kk hkk => HB6.out.block kk ((HKP.out kk).1 hkk)) ?_) | ((with_reducible refine wpSlimT_step (fun K hK => ?_)); go_simp; first | (refine hK _ _ ?_; clear hK K) | (refine ⟨by (intro kk hkk; first | (simp (disch := (simp; omega)) only [hp_drew, hp_drewN, hp_alloc, hp_set]; done) | (simp [hp_drew, hp_drewN, hp_alloc_if, hkk]; done) | (have hkk2 := (HKP.out kk).1 hkk; simp (disch := (simp; omega)) only [hp_drew, hp_drewN, hp_alloc, hp_set]; done)), hK _ _ ?_⟩; clear hK K)| (go_at_call 70; (with_reducible refine (HMU.out _).mono ?_); rintro e w7 ⟨rfl, rfl⟩; refine ⟨_, rfl, (fun kk hkk => rfl), hK _ _ ?_⟩; clear hK K)))
          refine wpSlimT_done ?_
          clear hgr
          go_wp2
          go_roundg (M - (K + 1))
          case measure => omega
          case rel => exact ⟨v1, K + 1, rfl, by omega, rfl, by go_num, HO6, HBK⟩
        · obtain rfl : K = M := by omega
          have HADD := Lib.hid (radd_any V V2 p (rowK I c m K) wr (HI.out.own.rd.below HB.out) HO.out.rd (by have := HI.out.len; rw [HM.out] at this; omega) (by rw [rowK_len]; omega))
          go_wp2_with fail
          refine HADD.out.mono ?_
          rintro e w9 ⟨v9, q, rfl, ho9, ht9, hev, hlq, hb9⟩
          have HI2 : Hid (MulI w w9 l m (I + 1) v9 q) := Lib.hid ⟨ho9.mono (by omega), ht9, fun x => by
            have hr : ev (rowK I c m K) x = pw x I * (c * ev m x) := by
              have := shift_ev I c m x
              rwa [HM.out] at this
            rw [hev, HI.out.eval, hr, take_ev l (by rw [HL.out]; exact hlt), HC.out.2, dam, Fld.mulA], by
            rw [rowK_len] at hlq
            have h1 := HI.out.len
            rw [HM.out] at h1 ⊢
            by_cases h0 : I = 0
            · rw [HI.out.nul h0] at hlq
              simp at hlq
              omega
            · omega, fun h => by omega, (HI.out.below.trans (HB.out.mono hs)).trans (hb9.mono (by omega))⟩
          clear ho9 ht9 hev hlq hb9
          go_wp2
          go_roundg (L - (I + 1))
          case measure => omega
          case rel => exact ⟨v9, I + 1, q, rfl, by omega, rfl, by go_num, HI2⟩
    · obtain rfl : I = L := by omega
      have HP : Hid (RMulPost l m w (.returned V) wo) := Lib.hid ⟨V, p, rfl, HI.out.own, HI.out.trim, fun x => by
        have := HI.out.eval x
        rwa [List.take_of_length_le (by rw [HL.out]; exact Nat.le_refl _)] at this, by rw [HL.out]; exact HI.out.len, HI.out.below⟩
      go_wp2
      go_ret
      exact HP.out
/-- What 'Roots' by definition leaves. -/
def RRootsPost (xs : List GF) (w : World) (e : Ending) (w' : World) : Prop :=
  ∃ v p, e = .returned v ∧ GRd w' v p ∧ (∀ y, ev p y = prodN (fun i => xs.getD i 0) y xs.length) ∧ p.length ≤ xs.length + 1 ∧ Below w.heap.size w w'
set_option maxRecDepth 100000 in
set_option maxHeartbeats 4000000 in
theorem rroots_any (u : Value) (xs : List GF) (w : World) (hu : GRd w u xs) (hl : xs.length ≤ 10000) :
    Calls Tryz.prog 94 #[u] w (RRootsPost xs w) := by
  obtain ⟨a, cap, rfl, hcap⟩ := hu.form
  obtain ⟨L, hL⟩ : ∃ L, xs.length = L := ⟨_, rfl⟩
  have HL := Lib.hid hL
  rw [hL] at hl hcap hu ⊢
  have HU := Lib.hid hu
  clear hu hL
  have h0 : GRd (w.alloc (.cells #[.int .u8 1] 5)) (.slice (some ⟨w.heap.size, 0, none⟩) 1 1) [1] := GRd.lit [1] (heap_newA _ _) rfl
  have H0 := Lib.hid h0
  clear h0
  go_enter Tryz.func94, Tryz.ntmps94
  go_wp2
  go_loopg [3, 4] L (fun gk y i wr => ∃ (V : Value) (I : Nat) (p : List GF), V = y ∧ I ≤ L ∧ gk = L - I ∧ i = .int .i64 I ∧ Hid (GRd wr V p) ∧ Hid (∀ y, ev p y = prodN (fun i => xs.getD i 0) y I) ∧ Hid (p.length ≤ I + 1) ∧ Hid (Below w.heap.size w wr))
  case atStart => exact ⟨_, 0, [1], rfl, by omega, rfl, rfl, H0, Lib.hid (fun y => ev_one1 1 y), Lib.hid (by simp), Lib.hid ((Below.refl _ _).alloc (Nat.le_refl _) _)⟩
  case round =>
    clear H0
    obtain ⟨V, I, p, rfl, hI, rfl, rfl, HG, HE, HLEN, HB⟩ := hrel
    have hs := HB.out.size
    by_cases hlt : I < L
    · obtain ⟨c, hc, hd⟩ := at_get (l := xs) (i := I) (by rw [HL.out]; omega)
      obtain ⟨b1, o1, rfl, hb1, cx⟩ := (HU.out.below HB.out).at hc
      have hb2 : Below wr.heap.size wr (wr.alloc (.cells #[.int .u8 (c.n : Nat), .int .u8 1] 5)) := (Below.refl _ _).alloc (Nat.le_refl _) _
      have HMUL := Lib.hid (rpmul_any V (.slice (some ⟨wr.heap.size, 0, none⟩) 2 2) p [c, 1] (wr.alloc (.cells #[.int .u8 (c.n : Nat), .int .u8 1] 5)) (HG.out.below hb2) (GRd.lit [c, 1] (heap_newA _ _) rfl) (by have := HLEN.out; omega) (by simp))
      have HB2 := Lib.hid hb2
      have HC := Lib.hid hd
      obtain ⟨cn, hcn⟩ : ∃ t, c.n = t := ⟨_, rfl⟩
      rw [hcn] at cx HMUL HB2
      clear hb2 hc hd hcn
      go_wp2_with fail
      refine HMUL.out.mono ?_
      rintro e w9 ⟨v9, q, rfl, ho9, ht9, hev, hlq, hb9⟩
      have HG2 := Lib.hid ho9.rd
      have HE2 : Hid (∀ y, ev q y = prodN (fun i => xs.getD i 0) y (I + 1)) := Lib.hid fun y => by rw [hev, HE.out, ev_two, prodN, HC.out]
      have HLEN2 : Hid (q.length ≤ I + 1 + 1) := Lib.hid (by have := HLEN.out; simp at hlq; omega)
      have HB9 : Hid (Below w.heap.size w w9) := Lib.hid ((HB.out.trans (HB2.out.mono hs)).trans (hb9.mono (by simp; omega)))
      clear ho9 ht9 hev hlq hb9
      go_wp2
      go_roundg (L - (I + 1))
      case measure => omega
      case rel => exact ⟨v9, I + 1, q, rfl, by omega, rfl, by go_num, HG2, HE2, HLEN2, HB9⟩
    · obtain rfl : I = L := by omega
      have HP : Hid (RRootsPost xs w (.returned V) wr) := Lib.hid ⟨V, p, rfl, HG.out, by rw [HL.out]; exact HE.out, by rw [HL.out]; exact HLEN.out, HB.out⟩
      go_wp2
      go_ret
      exact HP.out
end Go.Proofs.YteeeocianofkfaaGreat
