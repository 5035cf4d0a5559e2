/-
  The reference's Order.
-/
import Derived.Test.YtjlehnmcfimnfaaLiPlain
import Derived.Test.YtjlehnmcfimnfaaLiTotal
import Derived.Laws.AppendOwn
import Derived.Maps.AppendAt
namespace Go.Proofs.Ytjlehnmcfimnfaa
open Go.RowKit
set_option linter.unusedSimpArgs false
set_option linter.unusedVariables false

/-- What a row of nodes is told as. -/
def OrdPost (n : Nat) (C : Nat → Nat) (l : List Int) (w : World) (e : Ending) (w' : World) : Prop := ∃ v R, e = .returned v ∧ OrdOf n C l R ∧ IRd w' v R ∧ Below w.heap.size w w'
theorem own_below {w w' : World} {B e size n : Nat} {v : Value} {xs : List Value} (h : w.ownsRow B e size v n xs) (hb : Below w.heap.size w w') : w'.ownsRow B e size v n xs :=
  h.kept (row := none) ⟨hb.os, hb.tape, hb.output, hb.size, fun k hk _ => hb.block k hk⟩ (by cases v.ownBlock <;> simp)
theorem own_ge {w : World} {base : Nat} {e : TypeId} {size n : Nat} {v : Value} {xs : List Value} (h : w.ownsRow base e size v n xs) : ∀ k, v.ownBlock = some k → base ≤ k := by
  intro k hk
  rcases h.2 with ⟨rfl, _⟩ | ⟨g, cap, cur, rfl, hg, _⟩
  · simp [Value.ownBlock] at hk
  · simp [Value.ownBlock] at hk
    omega
theorem mem_take_next {L : List Int} {K : Nat} {x y : Int} (hy : L[K]? = some y) : (x ∈ L.take (K + 1)) ↔ (x ∈ L.take K ∨ x = y) := by
  rw [List.take_add_one, hy]; simp
set_option maxRecDepth 100000 in
set_option maxHeartbeats 2000000 in
theorem rorder_any (tb g n : Nat) (C : Nat → Nat) (v : Value) (l : List Int) (w : World) (h : RT w tb g n C) (hr : IRd w v l) (hl : l.length ≤ 1000000000) :
    Calls Try.prog 20 #[.pointer (some ⟨tb, 0, none⟩), v] w (OrdPost n C l w) := by
  obtain ⟨a, cap, rfl⟩ := hr.form
  have hn2 := h.n2
  have HH := Lib.hid h
  have HR := Lib.hid hr
  clear h hr
  go_enter Try.func20, Try.ntmps20
  go_wp2
  go_loopg [5, 6] n (fun gk ov i wr => ∃ (V : Value) (L : List Int), V = ov ∧ L.length ≤ n ∧ gk = n - L.length ∧ i = .int .i64 (L.length : Nat) ∧ Hid (Found n C l L) ∧ Hid (wr.ownsRow w.heap.size 3 1 V L.length (L.map (Value.int .i64))) ∧ Below w.heap.size w wr)
  case atStart => exact ⟨_, [], rfl, by simp, rfl, rfl, Lib.hid (Found.nil _ _ _), Lib.hid (World.ownsRow_nil _ _ _ _), Below.refl _ _⟩
  case round =>
    obtain ⟨ov, L, rfl, hL, rfl, rfl, hF, hO, hB⟩ := hrel
    obtain ⟨c0, -⟩ := (HH.out.below hB).cells
    obtain ⟨a5, cap5, rfl⟩ := (IRd.of_owns hO.out).form
    by_cases hlt : L.length < n
    · go_upto_region 5 with fail
      go_upto_region 6 with fail
      go_upto_region 7 with fail
      go_loopg [7, 8] l.length (fun gk bv i wr2 => ∃ I : Nat, I ≤ l.length ∧ gk = l.length - I ∧ bv = .int .i64 (bestF n C L (l.take I)) ∧ i = .int .i64 I ∧ Hid (wr2.ownsRow w.heap.size 3 1 (.slice a5 L.length cap5) L.length (L.map (Value.int .i64))) ∧ Below w.heap.size w wr2)
      case atStart => exact ⟨0, by omega, rfl, rfl, rfl, hO, hB⟩
      case round =>
        obtain ⟨I, hI, rfl, rfl, rfl, hO2, hB2⟩ := hrel
        obtain ⟨r0, rc⟩ := (HH.out.below hB2).cells
        by_cases hlt2 : I < l.length
        · obtain ⟨x, hx⟩ : ∃ x, l[I]? = some x := ⟨_, List.getElem?_eq_getElem hlt2⟩
          obtain ⟨-, hcap, b, o, hab, hb, d0⟩ := IRd.cell (HR.out.below hB2) hx
          subst hab
          have HX := Lib.hid hx
          have HBT := Lib.hid (bestF_take n C L l I x hx)
          have HROW := Lib.hid (IRd.of_owns hO2.out)
          clear hx
          go_upto_region 11 with fail
          go_upto_region 12 with fail
          go_loopg [10, 11] L.length (fun gk th k wr3 => ∃ K : Nat, K ≤ L.length ∧ gk = L.length - K ∧ th = .bool (decide (x ∈ L.take K)) ∧ k = .int .i64 K ∧ wr = wr3)
          case atStart => exact ⟨0, by omega, rfl, by simp, rfl, rfl⟩
          case round =>
            obtain ⟨K, hK, rfl, rfl, rfl, rfl⟩ := hrel
            by_cases hlt3 : K < L.length
            · obtain ⟨y, hy⟩ : ∃ y, L[K]? = some y := ⟨_, List.getElem?_eq_getElem hlt3⟩
              obtain ⟨-, hcap5, b5, o5, hab5, hb5, e0⟩ := IRd.cell HROW.out hy
              subst hab5
              have HM := Lib.hid (mem_take_next (x := x) hy)
              clear hy
              by_cases hin : x ∈ L.take K
              · have e1 : decide (x ∈ L.take K) = true := by simpa using hin
                have HE : Hid (decide (x ∈ L.take (K + 1)) = true) := Lib.hid (by rw [decide_eq_true_eq, HM.out]; exact .inl hin)
                rw [e1]
                clear hin e1
                go_wp2
                go_roundg (L.length - (K + 1))
                case measure => omega
                case rel => exact ⟨K + 1, by omega, rfl, by rw [HE.out], by go_num, rfl⟩
              · have e1 : decide (x ∈ L.take K) = false := by simpa using hin
                have HE : Hid (decide (x ∈ L.take (K + 1)) = (y == x)) := Lib.hid (by
                  by_cases e : y = x
                  · simp only [e, beq_self_eq_true, decide_eq_true_eq]; rw [HM.out]; exact .inr e.symm
                  · rw [beq_eq_false_iff_ne.2 e, decide_eq_false_iff_not]; rw [HM.out]; rintro (h | h)
                    · exact hin h
                    · exact e h.symm)
                rw [e1]
                clear hin e1
                go_wp2
                go_roundg (L.length - (K + 1))
                case measure => omega
                case rel => exact ⟨K + 1, by omega, rfl, by rw [HE.out], by go_num, rfl⟩
            · obtain rfl : K = L.length := by omega
              rw [List.take_length]
              have HIS := Lib.hid (ris_any tb g n C x _ (HH.out.below hB2))
              obtain ⟨vn, hvn⟩ : ∃ z, z = isN n x := ⟨_, rfl⟩
              rw [← hvn] at HIS
              obtain ⟨vi, hvi⟩ : ∃ z, z = decide (x ∈ L) := ⟨_, rfl⟩
              rw [← hvi]
              have HVN := Lib.hid hvn
              have HVI := Lib.hid hvi
              clear hvn hvi
              by_cases hgo : vn = true ∧ vi = false
              · obtain ⟨rfl, rfl⟩ := hgo
                have hin : x ∉ L := by have := HVI.out; simpa using this.symm
                have hxn := (isN_iff n x).1 HVN.out.symm
                have HBT2 : Hid (bestF n C L (l.take (I + 1)) = if bestF n C L (l.take I) < 0 ∨ keyLt (cntN n C) x (bestF n C L (l.take I)) then x else bestF n C L (l.take I)) := Lib.hid (by
                  rw [HBT.out]
                  unfold bestS
                  rw [if_neg]
                  rintro (h | h)
                  · rw [← HVN.out] at h; cases h
                  · exact hin h)
                have HBN : Hid (bestF n C L (l.take I) < 0 ∨ isN n (bestF n C L (l.take I)) = true) := Lib.hid (by
                  rcases best_spec n C L (l.take I) with ⟨e, _⟩ | ⟨h, _⟩
                  · exact .inl (by omega)
                  · exact .inr h)
                obtain ⟨B, hBB⟩ : ∃ B, B = bestF n C L (l.take I) := ⟨_, rfl⟩
                rw [← hBB] at HBT2 HBN ⊢
                clear hBB
                go_upto_region 16 with (go_at_call 30; (with_reducible refine HIS.out.mono ?_); rintro e w1 ⟨rfl, rfl⟩)
                obtain ⟨k, rfl⟩ : ∃ k : Nat, x = k := ⟨x.toNat, by omega⟩
                have hk : k < n := by omega
                have ck := (rc k hk).1
                by_cases hB0 : B < 0
                · rw [if_pos (.inl hB0)] at HBT2
                  clear HBN
                  go_quiet (fail)
                  go_wp2
                  go_roundg (l.length - (I + 1))
                  case measure => omega
                  case rel => exact ⟨I + 1, by omega, rfl, by rw [HBT2.out], by go_num, Lib.hid (own_below hO2.out (bel_drewN (Below.refl _ _) _)), bel_drewN hB2 _⟩
                · have hBn := (isN_iff n B).1 (HBN.out.resolve_left hB0)
                  obtain ⟨kb, rfl⟩ : ∃ kb : Nat, B = kb := ⟨B.toNat, by omega⟩
                  have hkb : kb < n := by omega
                  have ckb := (rc kb hkb).1
                  have HKL : Hid ((((kb : Int) < 0 ∨ keyLt (cntN n C) k kb)) ↔ (C k < C kb ∨ (C k = C kb ∧ k < kb))) := Lib.hid (by
                    unfold keyLt
                    rw [cntN_yes hk, cntN_yes hkb]
                    simp only [Int.ofNat_lt]
                    constructor
                    · rintro (h | h)
                      · omega
                      · exact h
                    · exact .inr)
                  clear HBN
                  by_cases h1 : C k < C kb
                  · have h1' : ((C k : Nat) : Int) < (C kb : Nat) := by omega
                    rw [if_pos (HKL.out.2 (.inl h1))] at HBT2
                    go_quiet (fail)
                    go_wp2
                    go_roundg (l.length - (I + 1))
                    case measure => omega
                    case rel => exact ⟨I + 1, by omega, rfl, by rw [HBT2.out], by go_num, Lib.hid (own_below hO2.out (bel_drewN (Below.refl _ _) _)), bel_drewN hB2 _⟩
                  · have h1' : ¬ ((C k : Nat) : Int) < (C kb : Nat) := by omega
                    by_cases h2 : C k = C kb
                    · by_cases h3 : k < kb
                      · have h3' : (k : Int) < (kb : Int) := by omega
                        rw [if_pos (HKL.out.2 (.inr ⟨h2, h3⟩))] at HBT2
                        go_quiet (fail)
                        go_wp2
                        go_roundg (l.length - (I + 1))
                        case measure => omega
                        case rel => exact ⟨I + 1, by omega, rfl, by rw [HBT2.out], by go_num, Lib.hid (own_below hO2.out (bel_drewN (Below.refl _ _) _)), bel_drewN hB2 _⟩
                      · have h3' : ¬ (k : Int) < (kb : Int) := by omega
                        rw [if_neg (by rw [HKL.out]; omega)] at HBT2
                        go_quiet (fail)
                        go_wp2
                        go_roundg (l.length - (I + 1))
                        case measure => omega
                        case rel => exact ⟨I + 1, by omega, rfl, by rw [HBT2.out], by go_num, Lib.hid (own_below hO2.out (bel_drewN (Below.refl _ _) _)), bel_drewN hB2 _⟩
                    · have h2' : ¬ ((C k : Nat) : Int) = (C kb : Nat) := by omega
                      rw [if_neg (by rw [HKL.out]; omega)] at HBT2
                      go_quiet (fail)
                      go_wp2
                      go_roundg (l.length - (I + 1))
                      case measure => omega
                      case rel => exact ⟨I + 1, by omega, rfl, by rw [HBT2.out], by go_num, Lib.hid (own_below hO2.out (bel_drewN (Below.refl _ _) _)), bel_drewN hB2 _⟩
              · have HBT2 : Hid (bestF n C L (l.take (I + 1)) = bestF n C L (l.take I)) := Lib.hid (by
                  rw [HBT.out]
                  unfold bestS
                  rw [if_pos]
                  rw [HVN.out, HVI.out] at hgo
                  by_cases h1 : isN n x = true
                  · exact .inr (Classical.byContradiction fun h2 => hgo ⟨h1, by simpa using h2⟩)
                  · exact .inl (by simpa using h1))
                cases vn <;> cases vi
                case true.false => exact absurd ⟨rfl, rfl⟩ hgo
                all_goals
                  go_wp2_with (go_at_call 30; (with_reducible refine HIS.out.mono ?_); rintro e w1 ⟨rfl, rfl⟩)
                  go_roundg (l.length - (I + 1))
                  case measure => omega
                  case rel => exact ⟨I + 1, by omega, rfl, by rw [HBT2.out], by go_num, hO2, hB2⟩
        · obtain rfl : I = l.length := by omega
          rw [List.take_length]
          by_cases hend : bestF n C L l < 0
          · have HORD := Lib.hid (hF.out.done hend)
            go_wp2
            go_ret
            exact ⟨_, L, rfl, HORD.out, IRd.of_owns hO2.out, hB2⟩
          · have HF2 := Lib.hid (hF.out.next hend)
            have hle := HF2.out.len
            rw [List.length_append] at hle
            obtain ⟨B, hBB⟩ : ∃ B, B = bestF n C L l := ⟨_, rfl⟩
            rw [← hBB] at hend HF2 ⊢
            clear hBB
            obtain ⟨i0, hi, hz0, hz1, hz2⟩ := info_parts int_info
            have hsz := hB2.size
            go_wp2_with (at_builtin; refine wpList_append_own _ rfl (.tmp 98) (.tmp 100) 25 rfl w.heap.size 3 i0 (.int .i64 0) 1 8 Try.underlying25 hi hz0 hz1 hz2 rfl (by decide) _ _ _ rfl (hO2.out.alloc _) ⟨wr.heap.size, 0, none⟩ 1 1 [.int .i64 _] rfl rfl (cell_one_new _ _ _) (by simp [Value.oneCell']) (by unfold maxLen; omega) (by omega) (by simp; omega) ?_; intro v1 w3 hown1 hgrow1 _)
            have hB3 : Below w.heap.size w w3 := (hB2.alloc hsz _).grown hgrow1 (by simp; omega) (own_ge hO2.out)
            have hO3 : Hid (w3.ownsRow w.heap.size 3 1 v1 (L ++ [B]).length ((L ++ [B]).map (Value.int .i64))) := Lib.hid (by rw [List.length_append, List.map_append]; exact hown1)
            go_roundg (n - (L ++ [B]).length)
            case measure => rw [List.length_append]; simp; omega
            case rel => exact ⟨_, L ++ [B], rfl, by rw [List.length_append]; simpa using hle, rfl, by rw [List.length_append]; go_num, HF2, hO3, hB3⟩
    · have HORD := Lib.hid (hF.out.full (by omega))
      go_wp2
      go_ret
      exact ⟨_, L, rfl, HORD.out, IRd.of_owns hO.out, hB⟩

/-- What the first so many of a row's nodes in order are told as. -/
def PickPost (n : Nat) (C : Nat → Nat) (l : List Int) (m : Int) (w : World) (e : Ending) (w' : World) : Prop := ∃ v R, e = .returned v ∧ OrdOf n C l R ∧ IRd w' v (R.take m.toNat) ∧ Below w.heap.size w w'
set_option maxRecDepth 100000 in
set_option maxHeartbeats 2000000 in
theorem rpick_any (tb g n : Nat) (C : Nat → Nat) (v : Value) (l : List Int) (m : Int) (w : World) (h : RT w tb g n C) (hr : IRd w v l) (hl : l.length ≤ 1000000000) :
    Calls Try.prog 21 #[.pointer (some ⟨tb, 0, none⟩), v, .int .i64 m] w (PickPost n C l m w) := by
  have hn2 := h.n2
  have HO := Lib.hid (rorder_any tb g n C v l w h hr hl)
  clear h hr
  go_enter Try.func21, Try.ntmps21
  go_upto_region 2 with (go_at_call 20; (with_reducible refine HO.out.mono ?_); rintro e w1 ⟨ov, R, rfl, hord, hrd, hb⟩)
  have hRn := hord.len
  obtain ⟨a, cap, rfl⟩ := hrd.form
  have HORD := Lib.hid hord
  have HRD := Lib.hid hrd
  clear HO hord hrd
  go_wp2
  go_loopg [8, 9] R.length (fun gk ov i wr => ∃ (V : Value) (I : Nat), V = ov ∧ I ≤ R.length ∧ gk = R.length - I ∧ i = .int .i64 I ∧ Hid (I ≤ m.toNat) ∧ Hid (wr.ownsRow w1.heap.size 3 1 V I ((R.take I).map (Value.int .i64))) ∧ Below w1.heap.size w1 wr)
  case atStart => exact ⟨_, 0, rfl, by omega, rfl, rfl, Lib.hid (by omega), Lib.hid (World.ownsRow_nil _ _ _ _), Below.refl _ _⟩
  case round =>
    obtain ⟨ov, I, rfl, hI, rfl, rfl, hM, hO, hB⟩ := hrel
    by_cases hlt : I < R.length
    · obtain ⟨x, hx⟩ : ∃ x, R[I]? = some x := ⟨_, List.getElem?_eq_getElem hlt⟩
      obtain ⟨-, hcap, b, o, hab, hb1, d0⟩ := IRd.cell (HRD.out.below hB) hx
      subst hab
      have HS : Hid ((R.take (I + 1)).map (Value.int .i64) = (R.take I).map (Value.int .i64) ++ [.int .i64 x]) := Lib.hid (by rw [List.take_add_one, hx, List.map_append]; rfl)
      clear hx
      by_cases hm : (I : Int) < m
      · obtain ⟨i0, hi, hz0, hz1, hz2⟩ := info_parts int_info
        have hsz := hB.size
        have hsz0 := hb.size
        go_wp2_with (at_builtin; refine wpList_append_own _ rfl (.tmp 24) (.tmp 29) 25 rfl w1.heap.size 3 i0 (.int .i64 0) 1 8 Try.underlying25 hi hz0 hz1 hz2 rfl (by decide) _ _ _ rfl (hO.out.alloc _) ⟨wr.heap.size, 0, none⟩ 1 1 [.int .i64 _] rfl rfl (cell_one_new _ _ _) (by simp [Value.oneCell']) (by unfold maxLen; omega) (by omega) (by simp; omega) ?_; intro v1 w3 hown1 hgrow1 _)
        have hB3 : Below w1.heap.size w1 w3 := (hB.alloc hsz _).grown hgrow1 (by simp; omega) (own_ge hO.out)
        rw [← HS.out] at hown1
        have hO3 := Lib.hid hown1
        go_roundg (R.length - (I + 1))
        case measure => omega
        case rel => exact ⟨_, I + 1, rfl, by omega, rfl, by go_num, Lib.hid (by omega), hO3, hB3⟩
      · have HE : Hid (I = m.toNat) := Lib.hid (by have := hM.out; omega)
        go_wp2
        go_ret
        refine ⟨_, R, rfl, HORD.out, ?_, hb.trans (hB.mono hb.size)⟩
        rw [← HE.out]
        have := hO.out
        exact IRd.of_owns this
    · obtain rfl : I = R.length := by omega
      go_wp2
      go_ret
      refine ⟨_, R, rfl, HORD.out, ?_, hb.trans (hB.mono hb.size)⟩
      rw [List.take_of_length_le hM.out]
      have := hO.out
      rw [List.take_length] at this
      exact IRd.of_owns this
end Go.Proofs.Ytjlehnmcfimnfaa
