/-
  The reference's values of polynomials, its inverses, and a word by definition.
-/
import Derived.Test.YteeeocianofkfaaGreatMulR
import Derived.Test.YteeeocianofkfaaGreatKit
import Derived.Test.YteeeocianofkfaaGreatAnyPlain
import Derived.Test.YteeeocianofkfaaGreatRefPlain
namespace Go.Proofs.YteeeocianofkfaaGreat
open Go.RowKit Fld
set_option linter.unusedVariables false
set_option linter.unusedSimpArgs false

theorem rmul_g (a b : GF) (w : World) : Calls Tryz.prog 70 #[.int .u8 (a.n : Nat), .int .u8 (b.n : Nat)] w fun e w' => e = .returned (.int .u8 ((a * b).n : Nat)) ∧ w = w' :=
  mul_any a.n b.n w a.lt b.lt
theorem getD_of {l : List GF} {i : Nat} {c : GF} (h : l[i]? = some c) : l.getD i 0 = c := by rw [List.getD_eq_getElem?_getD, h]; rfl
theorem at_get {l : List GF} {i : Nat} (h : i < l.length) : ∃ c, l[i]? = some c ∧ l.getD i 0 = c := ⟨_, List.getElem?_eq_getElem h, getD_of (List.getElem?_eq_getElem h)⟩
set_option maxRecDepth 100000 in
set_option maxHeartbeats 2000000 in
theorem rat_any (v : Value) (l : List GF) (x : GF) (w : World) (h : GRd w v l) (hl : l.length ≤ 1000000000) :
    Calls Tryz.prog 47 #[v, .int .u8 (x.n : Nat)] w fun e w' => e = .returned (.int .u8 ((ev l x).n : Nat)) ∧ w = w' := by
  obtain ⟨a, cap, rfl, hcap⟩ := h.form
  obtain ⟨L, hL⟩ : ∃ L, l.length = L := ⟨_, rfl⟩
  have H := Lib.hid h
  have HL := Lib.hid hL
  rw [hL] at hl ⊢
  obtain ⟨xn, hxn⟩ : ∃ t, x.n = t := ⟨_, rfl⟩
  rw [hxn]
  have HXN := Lib.hid hxn
  clear h hL hcap hxn
  go_enter Tryz.func47, Tryz.ntmps47
  go_wp2
  go_loopg [5, 6, 7] L (fun gk y p i wr => ∃ (J : Nat) (yv pv : GF), J ≤ L ∧ gk = L - J ∧ i = .int .i64 J ∧ y = .int .u8 (yv.n : Nat) ∧ p = .int .u8 (pv.n : Nat) ∧ Hid (yv = ev (l.take J) x ∧ pv = pw x J) ∧ w = wr)
  case atStart => exact ⟨0, 0, 1, by omega, rfl, rfl, rfl, rfl, Lib.hid ⟨by simp [ev], rfl⟩, rfl⟩
  case round =>
    obtain ⟨J, yv, pv, hJ, rfl, rfl, rfl, rfl, HYP, rfl⟩ := hrel
    by_cases hlt : J < L
    · obtain ⟨c, hc, hd⟩ := at_get (l := l) (i := J) (by rw [HL.out]; exact hlt)
      have hat := H.out
      rw [HL.out] at hat
      obtain ⟨b, o, rfl, hb, cx⟩ := hat.at hc
      have HM1 := Lib.hid (fun W => rmul_g c pv W)
      have HM2 := Lib.hid (fun W => rmul_g pv x W)
      have hxo := GF.u8_xor yv (c * pv)
      have HN : Hid (yv + c * pv = ev (l.take (J + 1)) x ∧ pv * x = pw x (J + 1)) := Lib.hid (by
        obtain ⟨h1, h2⟩ := HYP.out
        refine ⟨?_, by rw [h2]; rfl⟩
        rw [take_ev l (by rw [HL.out]; exact hlt), ← h1, hd, h2, mulC c])
      obtain ⟨cn, hcn⟩ : ∃ t, c.n = t := ⟨_, rfl⟩
      obtain ⟨mn, hmn⟩ : ∃ t, (c * pv).n = t := ⟨_, rfl⟩
      obtain ⟨qn, hqn⟩ : ∃ t, (pv * x).n = t := ⟨_, rfl⟩
      obtain ⟨pn, hpn⟩ : ∃ t, pv.n = t := ⟨_, rfl⟩
      obtain ⟨yn, hyn⟩ : ∃ t, yv.n = t := ⟨_, rfl⟩
      obtain ⟨sn, hsn⟩ : ∃ t, (yv + c * pv).n = t := ⟨_, rfl⟩
      rw [hcn] at cx HM1
      rw [hmn] at HM1 hxo
      rw [hqn] at HM2
      rw [hpn] at HM1 HM2 ⊢
      rw [HXN.out] at HM2
      rw [hyn] at hxo ⊢
      rw [hsn] at hxo
      have HQ := Lib.hid (And.intro hqn hsn)
      clear hat hc hd hcn hmn hqn hpn hyn hsn
      go_wp2_with fail
      refine (HM1.out _).mono ?_
      rintro e w1 ⟨rfl, rfl⟩
      go_wp2_with fail
      refine (HM2.out _).mono ?_
      rintro e w1 ⟨rfl, rfl⟩
      go_wp2
      go_roundg (L - (J + 1))
      case measure => omega
      case rel => exact ⟨J + 1, yv + c * pv, pv * x, by omega, rfl, by go_num, by rw [HQ.out.2], by rw [HQ.out.1], HN, rfl⟩
    · obtain rfl : J = L := by omega
      have hy : yv = ev l x := by
        have := HYP.out.1
        rwa [List.take_of_length_le (by rw [HL.out]; exact Nat.le_refl _)] at this
      have HY := Lib.hid hy
      clear hy
      go_wp2
      go_ret
      exact ⟨by rw [HY.out]; rfl, rfl⟩
/-- What 'Encode' by definition leaves. -/
def REncPost (xs : List GF) (k : Int) (ms : List GF) (w : World) (e : Ending) (w' : World) : Prop :=
  Below w.heap.size w w' ∧ (((ms.length : Int) = k ∧ ∃ v, e = .returned (.tuple #[v, .int .i64 0]) ∧ OwnG w' w.heap.size v (rowF (fun i => ev ms (xs.getD i 0)) xs.length)) ∨
    (ms.length : Int) ≠ k ∧ e = .returned (.tuple #[.slice none 0 0, .int .i64 2]))
set_option maxRecDepth 100000 in
set_option maxHeartbeats 2000000 in
theorem renc_any (xv mv : Value) (xs ms : List GF) (k : Int) (w : World) (hx : GRd w xv xs) (hm : GRd w mv ms) (hxl : xs.length ≤ 100000) (hml : ms.length ≤ 1000000000) (hk : -9223372036854775808 ≤ k ∧ k ≤ 9223372036854775807) :
    Calls Tryz.prog 29 #[xv, .int .i64 k, mv] w (REncPost xs k ms w) := by
  obtain ⟨a, cap, rfl, hcap⟩ := hx.form
  obtain ⟨am, capm, rfl, hcapm⟩ := hm.form
  obtain ⟨L, hL⟩ : ∃ L, xs.length = L := ⟨_, rfl⟩
  obtain ⟨M, hM⟩ : ∃ M, ms.length = M := ⟨_, rfl⟩
  have HX := Lib.hid hx
  have HM := Lib.hid hm
  have HL := Lib.hid hL
  have HML := Lib.hid hM
  unfold REncPost
  rw [hL] at hxl ⊢
  rw [hM] at hml ⊢
  clear hx hm hL hM hcap hcapm
  go_enter Tryz.func29, Tryz.ntmps29
  by_cases hk' : (M : Int) = k
  · subst hk'
    go_wp2
    go_loopg [8, 9] L (fun gk l i wr => ∃ (V : Value) (J : Nat), V = l ∧ J ≤ L ∧ gk = L - J ∧ i = .int .i64 J ∧ Hid (OwnG wr w.heap.size V (rowF (fun i => ev ms (xs.getD i 0)) J)) ∧ Hid (Below w.heap.size w wr))
    case atStart => exact ⟨_, 0, rfl, by omega, rfl, rfl, Lib.hid (OwnG.nil _ _), Lib.hid (Below.refl _ _)⟩
    case round =>
      obtain ⟨V, J, rfl, hJ, rfl, rfl, HO, HB⟩ := hrel
      have hs := HB.out.size
      by_cases hlt : J < L
      · obtain ⟨c, hc, hd⟩ := at_get (l := xs) (i := J) (by rw [HL.out]; exact hlt)
        have hat := HX.out
        rw [HL.out] at hat
        obtain ⟨b, o, rfl, hb, cx⟩ := (hat.below HB.out).at hc
        have HAT : Hid (∀ W, Below w.heap.size w W → Calls Tryz.prog 47 #[.slice am M capm, .int .u8 (c.n : Nat)] W fun e w' => e = .returned (.int .u8 ((ev ms c).n : Nat)) ∧ W = w') := Lib.hid fun W hW => by
          have := HM.out
          rw [HML.out] at this
          exact rat_any _ ms c W (this.below hW) (by rw [HML.out]; exact hml)
        obtain ⟨y, hy⟩ : ∃ t, (ev ms c).n = t := ⟨_, rfl⟩
        have hy2 : ((fun i => ev ms (xs.getD i 0)) J).n = y := by rw [← hy, ← hd]
        obtain ⟨v1, w6, hap, ho1, -, hb6, -⟩ := app_row (W := wr) HO.out (by omega) (by omega) hy2 (ad := wr.heap.size) rfl
        obtain ⟨cn, hcn⟩ : ∃ t, c.n = t := ⟨_, rfl⟩
        rw [hcn] at cx HAT
        rw [hy] at HAT
        have HO6 := Lib.hid ho1
        have HB6 := Lib.hid (HB.out.trans hb6)
        have HATR := Lib.hid (HAT.out wr HB.out)
        clear hat hc hd hcn hy hy2 ho1 hb6 HAT
        go_wp2_with fail
        refine HATR.out.mono ?_
        rintro e w1 ⟨rfl, rfl⟩
        go_wp2_with (at_builtin; refine wpList_append rfl _ _ _ rfl rfl rfl hap ?_)
        go_roundg (L - (J + 1))
        case measure => omega
        case rel => exact ⟨_, J + 1, rfl, by omega, rfl, by go_num, HO6, HB6⟩
      · obtain rfl : J = L := by omega
        go_wp2
        go_ret2
        exact ⟨HB.out, _, rfl, HO.out⟩
  · go_wp2
    go_ret2
    exact ⟨Below.refl _ _, .inr ⟨hk', rfl⟩⟩
theorem inv_of_mul {a b : GF} (h : a * b = 1) : a ≠ 0 ∧ b = Fld.inv a := by
  have ha : a ≠ 0 := fun e => one_ne0 (F := GF) (by rw [← h, e, zmul])
  exact ⟨ha, mul_cancel ha (by rw [h, m_inv a ha])⟩
/-- A number as a byte. -/
def gfn (n : Nat) : GF := ⟨n % 256, Nat.mod_lt _ (by omega)⟩
set_option maxRecDepth 100000 in
set_option maxHeartbeats 2000000 in
theorem rinv_any (a : GF) (w : World) :
    Calls Tryz.prog 117 #[.int .u8 (a.n : Nat)] w fun e w' => e = .returned (.tuple #[.int .u8 ((Fld.inv a).n : Nat), .bool (decide (a ≠ 0))]) ∧ w = w' := by
  go_enter Tryz.func117, Tryz.ntmps117
  go_wp2
  go_loopg [4] 255 (fun gk i wr => ∃ J : Nat, 1 ≤ J ∧ J ≤ 256 ∧ gk = 256 - J ∧ i = .int .i64 J ∧ Hid (∀ j, j < J → a * gfn j ≠ 1) ∧ w = wr)
  case atStart => exact ⟨1, by omega, by omega, rfl, rfl, Lib.hid (fun j hj e => by
    obtain rfl : j = 0 := by omega
    exact one_ne0 (F := GF) (by rw [← e]; exact mzero a)), rfl⟩
  case round =>
    obtain ⟨J, hJ1, hJ, rfl, rfl, HNO, rfl⟩ := hrel
    by_cases hlt : J < 256
    · have hmod : J % 256 = J := Nat.mod_eq_of_lt hlt
      have hgn : (gfn J).n = J := hmod
      have HM : Hid (∀ W, Calls Tryz.prog 70 #[.int .u8 (a.n : Nat), .int .u8 (J : Nat)] W fun e w' => e = .returned (.int .u8 ((a * gfn J).n : Nat)) ∧ W = w') := Lib.hid fun W => by
        have := rmul_g a (gfn J) W
        rwa [hgn] at this
      have hwr : IntKind.u8.wrap (J : Int) = (J : Int) := by
        have : ((J : Int) % 256) = J := by omega
        first | exact this | (unfold IntKind.wrap; simp; omega)
      by_cases h1 : a * gfn J = 1
      · obtain ⟨ha, hi⟩ := inv_of_mul h1
        have hm1 : (a * gfn J).n = 1 := by rw [h1]; rfl
        have hin : (Fld.inv a).n = J := by rw [← hi, hgn]
        rw [hm1] at HM
        have HIN := Lib.hid (And.intro hin ha)
        clear hm1 hin h1 ha hi hgn hmod
        go_wp2_with fail
        refine (HM.out _).mono ?_
        rintro e w1 ⟨rfl, rfl⟩
        go_wp2
        go_ret2
        exact ⟨by rw [HIN.out.1, decide_eq_true HIN.out.2]; rfl, rfl⟩
      · obtain ⟨m, hm⟩ : ∃ t, (a * gfn J).n = t := ⟨_, rfl⟩
        have hm1 : ¬ (m : Int) = 1 := fun e => h1 (GF.ext' (by rw [hm, GF.n_one]; omega))
        have HNO2 : Hid (∀ j, j < J + 1 → a * gfn j ≠ 1) := Lib.hid fun j hj => by
          by_cases e : j = J
          · rw [e]; exact h1
          · exact HNO.out j (by omega)
        rw [hm] at HM
        clear hm h1 hgn hmod
        go_wp2_with fail
        refine (HM.out _).mono ?_
        rintro e w1 ⟨rfl, rfl⟩
        go_wp2
        go_roundg (256 - (J + 1))
        case measure => omega
        case rel => exact ⟨J + 1, by omega, by omega, rfl, by go_num, HNO2, rfl⟩
    · obtain rfl : J = 256 := by omega
      have ha : a = 0 := by
        refine Decidable.byContradiction fun ha => HNO.out (Fld.inv a).n (Fld.inv a).lt ?_
        rw [show gfn (Fld.inv a).n = Fld.inv a from GF.ext' (Nat.mod_eq_of_lt (Fld.inv a).lt)]
        exact m_inv a ha
      have HA := Lib.hid ha
      clear ha
      go_wp2
      go_ret2
      exact ⟨by rw [show decide (a ≠ 0) = false from by simp [HA.out], HA.out, inv_zero]; rfl, rfl⟩
set_option maxRecDepth 100000 in
set_option maxHeartbeats 2000000 in
theorem rdiv_any (a b : GF) (w : World) :
    Calls Tryz.prog 95 #[.int .u8 (a.n : Nat), .int .u8 (b.n : Nat)] w fun e w' => e = .returned (.tuple #[.int .u8 ((a * Fld.inv b).n : Nat), .bool (decide (b ≠ 0))]) ∧ w = w' := by
  have HI := Lib.hid (fun W => rinv_any b W)
  have HM := Lib.hid (fun W => rmul_g a (Fld.inv b) W)
  by_cases hb : b = 0
  · have hz : (a * Fld.inv b).n = 0 := by rw [hb, inv_zero, mzero]; rfl
    rw [hz]
    rw [show decide (b ≠ 0) = false from by simp [hb]] at HI ⊢
    clear hz hb
    go_enter Tryz.func95, Tryz.ntmps95
    go_wp2_with fail
    refine (HI.out _).mono ?_
    rintro e w1 ⟨rfl, rfl⟩
    go_wp2
    go_ret2
    exact ⟨rfl, rfl⟩
  · rw [show decide (b ≠ 0) = true from by simp [hb]] at HI ⊢
    clear hb
    go_enter Tryz.func95, Tryz.ntmps95
    go_wp2_with fail
    refine (HI.out _).mono ?_
    rintro e w1 ⟨rfl, rfl⟩
    go_wp2_with fail
    refine (HM.out _).mono ?_
    rintro e w1 ⟨rfl, rfl⟩
    go_wp2
    go_ret2
    exact ⟨rfl, rfl⟩
end Go.Proofs.YteeeocianofkfaaGreat
