/-
  The reference's Trim and Add.
-/
import Derived.Test.YteeeocianofkfaaGreatRef1
namespace Go.Proofs.YteeeocianofkfaaGreat
open Go.RowKit Fld
set_option linter.unusedVariables false
set_option linter.unusedSimpArgs false

theorem u8_size : ∀ w, (sizeOf (Tryz.prog.elem 22)).run Tryz.prog w = .ok 1 w := by
  have : Tryz.prog.elem 22 = 5 := by kernel_rfl
  rw [this]
  obtain ⟨i0, hi, hz0, hz1, hz2⟩ := info_parts u8_info
  intro w
  simp [sizeOf, typeInfo, hi, hz1]
/-- Where the first bytes of a row lie. -/
theorem slice_h (a : Option Addr) (n cap J : Nat) (hJ : J ≤ cap) : ∃ sa sc, (∀ W, (Instr.slice 22 (.slice a n cap) none (some (.int .i64 (J : Nat))) none).run Tryz.prog W = .ok (.slice sa J sc) W) ∧
    (∀ W l, GRd W (.slice a n cap) l → J ≤ l.length → GRd W (.slice sa J sc) (l.take J)) ∧ (a ≠ none → sa ≠ none) := by
  refine ⟨if cap = 0 then a else a.map (·.add (0 * 1)), cap - 0, fun W => ?_, fun W l h hJl => ?_, ?_⟩
  · rw [run_slice_h (P := Tryz.prog) (w := W) 22 a n cap (by kernel_rfl) .i64 (J : Int) (by omega) (by omega), u8_size]
    simp only [Result.andThen_ok, sliced, Int.toNat_natCast]
    rfl
  · obtain ⟨hl, a', cap', h1, h2, h3⟩ := h
    obtain ⟨rfl, rfl, rfl⟩ := (Value.slice.injEq ..).mp h1
    rw [List.length_map] at h2 h3
    refine ⟨fun x hx => ?_, _, _, by rw [List.length_map, List.length_take, Nat.min_eq_left hJl], by rw [List.length_map, List.length_take, Nat.min_eq_left hJl]; omega, fun hne => ?_⟩
    · obtain ⟨y, _, rfl⟩ := List.mem_map.1 hx
      exact y.lt
    · have hJ0 : 0 < J := Nat.pos_of_ne_zero fun e => hne (by rw [e]; rfl)
      obtain ⟨b, o, rfl, h5, h6⟩ := h3 (fun e => by
        have := congrArg List.length e
        simp at this
        rw [this] at hJl
        simp at hJl
        omega)
      refine ⟨b, o, ?_, h5, fun i hi => ?_⟩
      · rw [if_neg (by omega)]
        simp [Addr.add]
      · rw [List.length_map, List.length_take, Nat.min_eq_left hJl] at hi
        rw [h6 i (by omega), List.getD_eq_getElem?_getD, List.getD_eq_getElem?_getD, List.getElem?_map, List.getElem?_map, List.getElem?_take, if_pos hi]
  · intro ha
    cases a with
    | none => exact absurd rfl ha
    | some A => split <;> simp
theorem slice_l (a : Option Addr) (n cap k : Nat) (hk : k ≤ n) (hn : n ≤ cap) : ∃ sa sc, (∀ W, (Instr.slice 22 (.slice a n cap) (some (.int .i64 (k : Nat))) none none).run Tryz.prog W = .ok (.slice sa (n - k) sc) W) ∧
    (∀ W l, GRd W (.slice a n cap) l → GRd W (.slice sa (n - k) sc) (l.drop k)) ∧ (a ≠ none → sa ≠ none) := by
  refine ⟨if cap = k then a else a.map (·.add (k * 1)), cap - k, fun W => ?_, fun W l h => ?_, ?_⟩
  · rw [run_slice_l (P := Tryz.prog) (w := W) 22 a n cap (by kernel_rfl) .i64 (k : Int) (by omega) (by omega), u8_size]
    simp only [Result.andThen_ok, sliced, Int.toNat_natCast]
  · obtain ⟨hl, a', cap', h1, h2, h3⟩ := h
    obtain ⟨rfl, rfl, rfl⟩ := (Value.slice.injEq ..).mp h1
    rw [List.length_map] at h2 h3 hk hn ⊢
    refine ⟨fun x hx => ?_, _, _, by rw [List.length_map, List.length_drop], by rw [List.length_map, List.length_drop]; omega, fun hne => ?_⟩
    · obtain ⟨y, _, rfl⟩ := List.mem_map.1 hx
      exact y.lt
    · have hk0 : k < l.length := Nat.lt_of_not_le fun e => hne (by rw [List.drop_eq_nil_of_le e]; rfl)
      obtain ⟨b, o, rfl, h5, h6⟩ := h3 (fun e => by
        have := congrArg List.length e
        simp at this
        rw [this] at hk0
        simp at hk0)
      refine ⟨b, o + k, ?_, h5, fun i hi => ?_⟩
      · rw [if_neg (by omega)]
        simp only [Option.map_some, Nat.mul_one, Option.some.injEq]
        unfold Addr.add
        split <;> simp_all
      · rw [List.length_map, List.length_drop] at hi
        have := h6 (k + i) (by omega)
        rw [show o + (k + i) = o + k + i by omega] at this
        rw [this, List.getD_eq_getElem?_getD, List.getD_eq_getElem?_getD, List.getElem?_map, List.getElem?_map, List.getElem?_drop]
  · intro ha
    cases a with
    | none => exact absurd rfl ha
    | some A => split <;> simp
/-- What an append of a row leaves. -/
theorem app_rows {W : World} {base : Nat} {V : Value} {l m : List GF} {A : Addr} {n cap : Nat} (h : OwnG W base V l) (hs : GRd W (.slice (some A) n cap) m) (hl : l.length ≤ 1000000000) (hm : m.length ≤ 1000000000) (hb : base ≤ W.heap.size) :
    ∃ v1 w3, (Builtin.append_ #[22, 22] 22 #[V, .slice (some A) n cap]).run Tryz.prog W = .ok v1 w3 ∧ OwnG w3 base v1 (l ++ m) ∧ Kp V.ownBlock.toList W w3 ∧ Below base W w3 := by
  obtain ⟨i0, hi, hz0, hz1, hz2⟩ := info_parts u8_info
  obtain ⟨v1, w3, hap, hown1, hgrow1, -⟩ := run_append_own_at (P := Tryz.prog) (w := W) base 22 22 5 i0 (.int .u8 0) 1 1 Tryz.underlying22 hi hz0 hz1 hz2 rfl (by decide) V l.length _ h A m.length cap (gv m) (by rw [gv_length]; omega) (by
    obtain ⟨a', c', e, _⟩ := hs.form
    exact hs.news) gv_one (by unfold maxLen; omega) (by omega) hb
  obtain ⟨a', c', e, _⟩ := hs.form
  cases e
  refine ⟨v1, w3, hap, ?_, kp_grown hgrow1, (Below.refl base W).grown hgrow1 hb (fun b hb => (h.lt b hb).1)⟩
  unfold OwnG
  rw [gv_append, List.length_append]
  exact hown1
theorem GRd.nil_of {w : World} {n cap : Nat} {l : List GF} (h : GRd w (.slice none n cap) l) : l = [] := by
  refine Classical.byContradiction fun hne => ?_
  obtain ⟨x, hx⟩ : ∃ x, l[0]? = some x := ⟨_, List.getElem?_eq_getElem (List.length_pos_iff.2 hne)⟩
  obtain ⟨b, o, e, _⟩ := h.at hx
  cases e
/-- An append onto nothing. -/
theorem app_nil {W : World} {m : List GF} {a : Option Addr} {n cap : Nat} (hs : GRd W (.slice a n cap) m) (hm : m.length ≤ 1000000000) :
    ∃ v1 w3, (Builtin.append_ #[22, 22] 22 #[.slice none 0 0, .slice a n cap]).run Tryz.prog W = .ok v1 w3 ∧ OwnG w3 W.heap.size v1 m ∧ Below W.heap.size W w3 := by
  cases a with
  | none =>
    obtain rfl := hs.nil_of
    obtain ⟨a', c', e, _⟩ := hs.form
    cases e
    obtain ⟨i0, hi, hz0, hz1, hz2⟩ := info_parts u8_info
    refine ⟨.slice none 0 0, W, ?_, OwnG.nil _ _, Below.refl _ _⟩
    simp [Builtin.append_, run_underlying Tryz.underlying22, sizeOf, typeInfo, hi, Builtin.lenOf, Builtin.firstCells, loadCells, loadCellsFrom]
  | some A =>
    obtain ⟨v1, w3, h1, h2, -, h3⟩ := app_rows (OwnG.nil W W.heap.size) hs (by simp) hm (Nat.le_refl _)
    exact ⟨v1, w3, h1, by simpa using h2, h3⟩
/-- What 'Trim' by definition leaves. -/
def RTrimPost (l : List GF) (w : World) (e : Ending) (w' : World) : Prop :=
  ∃ v p, e = .returned v ∧ TrimOf l p ∧ OwnG w' w.heap.size v p ∧ Below w.heap.size w w'
set_option maxRecDepth 100000 in
set_option maxHeartbeats 2000000 in
theorem rtrim_any (v : Value) (l : List GF) (w : World) (h : GRd w v l) (hl : l.length ≤ 1000000) :
    Calls Tryz.prog 118 #[v] w (RTrimPost l w) := by
  obtain ⟨a, cap, rfl, hcap⟩ := h.form
  obtain ⟨L, hL⟩ : ∃ L, l.length = L := ⟨_, rfl⟩
  have HL := Lib.hid hL
  rw [hL] at hl hcap h ⊢
  have H := Lib.hid h
  clear h hL
  go_enter Tryz.func118, Tryz.ntmps118
  go_wp2
  go_loopg [3] L (fun gk n wr => ∃ (J : Nat), J ≤ L ∧ J = gk ∧ n = .int .i64 J ∧ Hid (∀ j, J ≤ j → l.getD j 0 = 0) ∧ w = wr)
  case atStart => exact ⟨L, by omega, rfl, rfl, Lib.hid (fun j hj => by rw [List.getD_eq_getElem?_getD, List.getElem?_eq_none (by rw [HL.out]; exact hj)]; rfl), rfl⟩
  case round =>
    obtain ⟨J, hJ, rfl, rfl, HZ, rfl⟩ := hrel
    have hfin : ∀ (hT : J = 0 ∨ l.getD (J - 1) 0 ≠ 0), ∃ sa sc v1 w3, (∀ W, (Instr.slice 22 (.slice a L cap) none (some (.int .i64 (J : Nat))) none).run Tryz.prog W = .ok (.slice sa J sc) W) ∧
        (Builtin.append_ #[22, 22] 22 #[.slice none 0 0, .slice sa J sc]).run Tryz.prog w = .ok v1 w3 ∧ RTrimPost l w (.returned v1) w3 := fun hT => by
      obtain ⟨sa, sc, h1, h2, -⟩ := slice_h a L cap J (by omega)
      obtain ⟨v1, w3, h3, h4, h5⟩ := app_nil (h2 w l H.out (by rw [HL.out]; exact hJ)) (by rw [List.length_take]; omega)
      exact ⟨sa, sc, v1, w3, h1, h3, v1, _, rfl, ⟨J, by rw [HL.out]; exact hJ, rfl, trimd_take (by rw [HL.out]; exact hJ) hT, HZ.out⟩, h4, h5⟩
    by_cases h0 : J = 0
    · obtain ⟨sa, sc, v1, w3, hsl, hap, hpost⟩ := hfin (.inl h0)
      have HP := Lib.hid hpost
      have h0' : ¬ (0 : Int) < (J : Int) := by omega
      clear hfin hpost h0
      go_wp2_with (at_builtin; refine wpList_append rfl _ _ _ rfl rfl rfl hap ?_)
      go_ret
      exact HP.out
    · obtain ⟨I, hIJ⟩ : ∃ I, I + 1 = J := ⟨J - 1, by omega⟩
      obtain ⟨c, hc, hd⟩ := at_get (l := l) (i := I) (by rw [HL.out]; omega)
      obtain ⟨b, o, rfl, hb, cx⟩ := H.out.at hc
      have hw : wrap64 ((J : Int) - 1) = (I : Int) := by
        rw [show ((J : Int) - 1) = (I : Int) by omega]
        exact IntWalk.wrap64_in _ (by omega)
      have h0' : (0 : Int) < (J : Int) := by omega
      have q1 : (0 : Int) ≤ (I : Int) ∧ (I : Int) < (L : Int) := by omega
      have HIJ := Lib.hid hIJ
      by_cases hc0 : c.n = 0
      · have HZ2 : Hid (∀ j, I ≤ j → l.getD j 0 = 0) := Lib.hid fun j hj => by
          by_cases e : j = I
          · rw [e, hd]; exact GF.eq0.2 hc0
          · exact HZ.out j (by omega)
        rw [hc0, show I = J - 1 by omega] at cx
        clear hfin hc hd hc0 h0 hIJ
        go_wp2
        go_roundg I
        case measure => have := HIJ.out; omega
        case rel => exact ⟨I, by have := HIJ.out; omega, rfl, by have := HIJ.out; first | go_num | (congr 1; omega), HZ2, rfl⟩
      · obtain ⟨sa, sc, v1, w3, hsl, hap, hpost⟩ := hfin (.inr (by rw [show J - 1 = I by omega, hd]; exact GF.ne0.2 hc0))
        have HP := Lib.hid hpost
        have hc0' : ¬ (c.n : Int) = 0 := by omega
        rw [show I = J - 1 by omega] at cx
        clear hfin hpost hc hd h0 hIJ hc0
        go_wp2_with (at_builtin; refine wpList_append rfl _ _ _ rfl rfl rfl hap ?_)
        go_ret
        exact HP.out
/-- What 'Add' by definition leaves. -/
def RAddPost (l m : List GF) (w : World) (e : Ending) (w' : World) : Prop :=
  ∃ v p, e = .returned v ∧ OwnG w' w.heap.size v p ∧ Trimd p ∧ (∀ x, ev p x = ev l x + ev m x) ∧ p.length ≤ max l.length m.length ∧ Below w.heap.size w w'
theorem getD_over {l : List GF} {i : Nat} (h : l.length ≤ i) : l.getD i 0 = 0 := by rw [List.getD_eq_getElem?_getD, List.getElem?_eq_none h]; rfl
set_option maxHeartbeats 4000000 in
theorem radd_any (u v : Value) (l m : List GF) (w : World) (hu : GRd w u l) (hv : GRd w v m) (hl : l.length ≤ 100000) (hm : m.length ≤ 100000) :
    Calls Tryz.prog 96 #[u, v] w (RAddPost l m w) := by
  obtain ⟨a, cap, rfl, hcap⟩ := hu.form
  obtain ⟨b, capb, rfl, hcapb⟩ := hv.form
  obtain ⟨L, hL⟩ : ∃ L, l.length = L := ⟨_, rfl⟩
  obtain ⟨M, hM⟩ : ∃ M, m.length = M := ⟨_, rfl⟩
  have HL := Lib.hid hL
  have HM := Lib.hid hM
  rw [hL] at hl hcap hu ⊢
  rw [hM] at hm hcapb hv ⊢
  have HU := Lib.hid hu
  have HV := Lib.hid hv
  obtain ⟨T, hT⟩ : ∃ T, max L M = T := ⟨_, rfl⟩
  have HT := Lib.hid hT
  have hT1 : L ≤ T ∧ M ≤ T ∧ (T = L ∨ T = M) := by omega
  clear hu hv hL hM hT
  go_enter Tryz.func96, Tryz.ntmps96
  go_wp2
  go_loopg [5, 6] T (fun gk y i wr => ∃ (V : Value) (J : Nat), V = y ∧ J ≤ T ∧ gk = T - J ∧ i = .int .i64 J ∧ Hid (OwnG wr w.heap.size V (rowF (sumF l m) J)) ∧ Hid (Below w.heap.size w wr))
  case atStart => exact ⟨_, 0, rfl, by omega, rfl, rfl, Lib.hid (OwnG.nil _ _), Lib.hid (Below.refl _ _)⟩
  case round =>
    obtain ⟨V, J, rfl, hJ, rfl, rfl, HO, HB⟩ := hrel
    have hs := HB.out.size
    by_cases hlt : J < T
    · by_cases h1 : J < L
      · obtain ⟨c, hc, hd⟩ := at_get (l := l) (i := J) (by rw [HL.out]; omega)
        obtain ⟨b1, o1, rfl, hb1, cx⟩ := (HU.out.below HB.out).at hc
        by_cases h2 : J < M
        · obtain ⟨c2, hc2, hd2⟩ := at_get (l := m) (i := J) (by rw [HM.out]; omega)
          obtain ⟨b2, o2, rfl, hb2, cx2⟩ := (HV.out.below HB.out).at hc2
          have hxo := GF.u8_xor c c2
          obtain ⟨s, hs2⟩ : ∃ t, (c + c2).n = t := ⟨_, rfl⟩
          have hs1 : (sumF l m J).n = s := by rw [sumF, hd, hd2, hs2]
          obtain ⟨cn, hcn⟩ : ∃ t, c.n = t := ⟨_, rfl⟩
          obtain ⟨dn, hdn⟩ : ∃ t, c2.n = t := ⟨_, rfl⟩
          rw [hcn] at cx hxo
          rw [hdn] at cx2 hxo
          rw [hs2] at hxo
          clear hc hc2 hd hd2 hcn hdn hs2
          obtain ⟨v1, w6, hap, ho1, -, hb6, -⟩ := app_row (W := wr) HO.out (by omega) (by omega) hs1 (ad := wr.heap.size) rfl
          have HO6 := Lib.hid ho1
          have HB6 := Lib.hid (HB.out.trans hb6)
          clear ho1 hb6 hs1
          go_wp2_with (at_builtin; refine wpList_append rfl _ _ _ rfl rfl rfl hap ?_)
          go_roundg (T - (J + 1))
          case measure => omega
          case rel => exact ⟨v1, J + 1, rfl, by omega, rfl, by go_num, HO6, HB6⟩
        · have h2' : ¬ (J : Int) < (M : Int) := by omega
          obtain ⟨s, hs2⟩ : ∃ t, c.n = t := ⟨_, rfl⟩
          have hs1 : (sumF l m J).n = s := by rw [sumF, hd, getD_over (l := m) (by rw [HM.out]; omega), addz, hs2]
          rw [hs2] at cx
          clear hc hd hs2
          obtain ⟨v1, w6, hap, ho1, -, hb6, -⟩ := app_row (W := wr) HO.out (by omega) (by omega) hs1 (ad := wr.heap.size) rfl
          have HO6 := Lib.hid ho1
          have HB6 := Lib.hid (HB.out.trans hb6)
          clear ho1 hb6 hs1
          go_wp2_with (at_builtin; refine wpList_append rfl _ _ _ rfl rfl rfl hap ?_)
          go_roundg (T - (J + 1))
          case measure => omega
          case rel => exact ⟨v1, J + 1, rfl, by omega, rfl, by go_num, HO6, HB6⟩
      · have h1' : ¬ (J : Int) < (L : Int) := by omega
        have h2 : J < M := by omega
        obtain ⟨c2, hc2, hd2⟩ := at_get (l := m) (i := J) (by rw [HM.out]; omega)
        obtain ⟨b2, o2, rfl, hb2, cx2⟩ := (HV.out.below HB.out).at hc2
        have hxo := GF.u8_xor 0 c2
        obtain ⟨s, hs2⟩ : ∃ t, c2.n = t := ⟨_, rfl⟩
        have hs1 : (sumF l m J).n = s := by rw [sumF, hd2, getD_over (l := l) (by rw [HL.out]; omega), zadd, hs2]
        rw [zadd, hs2, GF.n_zero] at hxo
        simp only [Int.natCast_zero] at hxo
        rw [hs2] at cx2
        clear hc2 hd2 hs2
        obtain ⟨v1, w6, hap, ho1, -, hb6, -⟩ := app_row (W := wr) HO.out (by omega) (by omega) hs1 (ad := wr.heap.size) rfl
        have HO6 := Lib.hid ho1
        have HB6 := Lib.hid (HB.out.trans hb6)
        clear ho1 hb6 hs1
        go_wp2_with (at_builtin; refine wpList_append rfl _ _ _ rfl rfl rfl hap ?_)
        go_roundg (T - (J + 1))
        case measure => omega
        case rel => exact ⟨v1, J + 1, rfl, by omega, rfl, by go_num, HO6, HB6⟩
    · obtain rfl : J = T := by omega
      have h1' : ¬ (J : Int) < (L : Int) := by omega
      have h2' : ¬ (J : Int) < (M : Int) := by omega
      have HTR := Lib.hid (rtrim_any V _ wr HO.out.rd (by rw [rowF_len]; omega))
      go_wp2_with fail
      refine HTR.out.mono ?_
      rintro e w9 ⟨v9, p, rfl, htr, ho9, hb9⟩
      have HP : Hid (RAddPost l m w (.returned v9) w9) := Lib.hid ⟨v9, p, rfl, ho9.mono hs, htr.trimd, fun x => by rw [htr.ev, sumF_ev l m (by rw [HL.out]; omega) (by rw [HM.out]; omega)], by
        have := htr.len
        rw [rowF_len] at this
        rw [HL.out, HM.out]
        omega, HB.out.trans (hb9.mono hs)⟩
      clear htr ho9 hb9
      go_wp2
      go_ret
      have := HP.out
      exact this
end Go.Proofs.YteeeocianofkfaaGreat
