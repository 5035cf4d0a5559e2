/-
  The law LiarsKnown.
-/
import Derived.Test.YtjlehnmcfimnfaaLiPlays2
import Derived.Test.YtjlehnmcfimnfaaLiFair
import Derived.Test.YtjlehnmcfimnfaaLiLater
import Derived.Deep.CutBlock
import Derived.Test.YtjlehnmcfimnfaaMake
namespace Go.Proofs.Ytjlehnmcfimnfaa
open Go.RowKit
set_option linter.unusedSimpArgs false
set_option linter.unusedVariables false

theorem wrap_b (x : Int) : 0 ≤ IntKind.u8.wrap x ∧ IntKind.u8.wrap x < 256 := by rw [IntKind.wrap_u8]; omega
theorem lit_bytes (W : World) (xs : List Nat) (n : Nat) (hn : n = xs.length) (hx : ∀ x ∈ xs, x < 256) : BytesRd (W.alloc (.cells (xs.map fun x => Value.int .u8 ((x : Nat) : Int)).toArray 5)) (.slice (some ⟨W.heap.size, 0, none⟩) n n) xs := by
  subst hn
  refine ⟨hx, _, _, rfl, Nat.le_refl _, fun hne => ⟨W.heap.size, 0, rfl, by simp, fun i hi => ?_⟩⟩
  rw [cell_of_row _ _ _ _ _ (0, 0) (heap_newA _ _)]
  simp [List.getElem?_eq_getElem hi, List.getD]
theorem tell_zeros (C : Nat → Nat) (h : C 0 ≤ 1000000) : ∀ k, (tellC C (List.replicate k 0)) 0 = min 1000000 (C 0 + k)
  | 0 => by simp [tellC]; omega
  | k + 1 => by
    rw [List.replicate_succ', tellC_snoc, tell1C, Int.toNat_zero, if_pos rfl, tell_zeros C h k]
    omega
theorem heap_newE (w : World) (o : Obj) (k : Nat) (h : k = w.heap.size) : (w.alloc o).heap[k]? = some o := by subst h; exact heap_newA w o
theorem rd_heap (W : World) (b n : Nat) (xs : List Int) (cs : Array Value) (hc : cs = (xs.map (Value.int .i64)).toArray) (h : W.heap[b]? = some (.cells cs 3 (0, 0))) (hn : n = xs.length) : IRd W (.slice (some ⟨b, 0, none⟩) n n) xs := by
  subst hn hc
  refine IRd.mk (Nat.le_refl _) (lt_of_heap h) fun i x hx => ?_
  rw [cell_of_row _ _ _ _ _ (0, 0) h]
  simp [hx]
theorem lit_bytesE (W : World) (b : Nat) (xs : List Nat) (n : Nat) (hb : b = W.heap.size) (hn : n = xs.length) (hx : ∀ x ∈ xs, x < 256) : BytesRd (W.alloc (.cells (xs.map fun x => Value.int .u8 ((x : Nat) : Int)).toArray 5)) (.slice (some ⟨b, 0, none⟩) n n) xs := by
  subst hb; exact lit_bytes W xs n hn hx
theorem lit_srd (W : World) (l : List LC) (n : Nat) (hn : n = l.length) (hl : l.length ≤ 1000) (cs : Array Value) (hc : cs = (flatS LC.cells l).toArray) : CRd (W.alloc (.cells cs 42)) (.slice (some ⟨W.heap.size, 0, none⟩) n n) l := by
  subst hn hc
  have hf := flatS_length LC.cells_length l
  refine SRd.of_owns (base := 0) (t := 42) (m := l.length) LC.cells_length (by omega) ⟨hf, .inr ⟨W.heap.size, l.length, _, rfl, Nat.zero_le _, heap_newA _ _, Nat.le_refl _, by unfold maxLen; omega, by simpa using hf, ?_⟩⟩
  rw [List.toList_toArray]
  exact List.take_of_length_le (by omega)
set_option maxRecDepth 100000 in
set_option maxHeartbeats 4000000 in
theorem known_any (w : World) :
    Calls Try.prog 6 #[] w fun e w' => e = .returned (.bool true) ∧ Below w.heap.size w w' := by
  go_enter Try.func6, Try.ntmps6
  go_upto_region 2 with fail
  go_cut [2] (fun s wx => s = .bool true ∧ Hid (Below w.heap.size w wx))
  case first =>
    go_wp2_with fail
    refine (ptell_nil _ _).mono ?_
    rintro e w1 ⟨rfl, hb1⟩
    go_wp2_with (first
      | (go_at_call 18; refine (pforget_nil _ _).mono ?_; rintro e w2 ⟨rfl, rfl⟩)
      | (go_at_call 15; refine (pcount_nil _ _).mono ?_; rintro e w2 ⟨rfl, rfl⟩)
      | (go_at_call 14; refine (pout_nil _ _).mono ?_; rintro e w2 ⟨rfl, rfl⟩)
      | (go_at_call 12; refine (ptotal_nil _).mono ?_; rintro e w2 ⟨rfl, rfl⟩))
    refine (porder_nil _ [0] _ (lit_rd _ [0] 1 rfl) (by simp)).mono ?_
    rintro e w2 ⟨v2, rfl, ho2, hb2⟩
    obtain ⟨a2, c2, rfl⟩ := ho2.form
    have hb3 := (hb1.alloc hb1.size (.cells #[.int .i64 0] 3)).trans (hb2.mono (by have := hb1.size; simp; omega))
    have HB3 := Lib.hid hb3
    clear hb1 hb2 hb3 ho2
    go_wp2_with fail
    refine (ppick_nil _ [0] _ _ (lit_rd _ [0] 1 rfl) (by simp)).mono ?_
    rintro e w3 ⟨v3, rfl, ho3, hb4⟩
    obtain ⟨a3, c3, rfl⟩ := ho3.form
    have HB4 := Lib.hid ((HB3.out.alloc HB3.out.size (.cells #[.int .i64 0] 3)).trans (hb4.mono (by have := HB3.out.size; simp; omega)))
    clear hb4 ho3
    go_wp2_with fail
    go_meet
    exact ⟨rfl, HB4⟩
  case rest =>
    obtain ⟨rfl, HB⟩ := hcut
    obtain ⟨w1, hw1⟩ : ∃ w1 : World, w1 = wc := ⟨_, rfl⟩
    rw [← hw1] at HB ⊢
    clear hw1
    go_upto_region 3 with fail
    go_cut [3] (fun s wx => ∃ (v : Value) (l : List LC), v = s ∧ Hid (CRd wx v l) ∧ Hid (∀ c ∈ l, c.rd wx) ∧ Hid (Below w.heap.size w wx))
    case first =>
      go_wp2_with fail
      go_meet
      refine ⟨_, [⟨0, some ⟨w1.heap.size, 0, none⟩, 4, 4, 0, [0, 1, 2, 1]⟩, ⟨1, some ⟨w1.heap.size + 1, 0, none⟩, 2, 2, 0, [2, 3]⟩, ⟨1, some ⟨w1.heap.size + 1 + 1, 0, none⟩, 1, 1, 0, [-1]⟩, ⟨0, some ⟨w1.heap.size + 1 + 1 + 1, 0, none⟩, 2, 2, 0, [0, 255]⟩, ⟨4, some ⟨w1.heap.size + 1 + 1 + 1 + 1, 0, none⟩, 7, 7, 2, [2, 1, 0, 1, -5, 99, 3]⟩, ⟨4, some ⟨w1.heap.size + 1 + 1 + 1 + 1 + 1, 0, none⟩, 3, 3, -1, [2, 1, 0]⟩, ⟨4, some ⟨w1.heap.size + 1 + 1 + 1 + 1 + 1 + 1, 0, none⟩, 3, 3, 99, [2, 1, 0]⟩, ⟨3, none, 0, 0, 1, []⟩, ⟨3, none, 0, 0, -1, []⟩, ⟨3, none, 0, 0, 255, []⟩, ⟨2, some ⟨w1.heap.size + 1 + 1 + 1 + 1 + 1 + 1 + 1, 0, none⟩, 4, 4, 0, [0, 0, 0, 0]⟩, ⟨4, some ⟨w1.heap.size + 1 + 1 + 1 + 1 + 1 + 1 + 1 + 1, 0, none⟩, 3, 3, 3, [2, 1, 0]⟩], rfl, Lib.hid ?_, Lib.hid ?_, Lib.hid ?_⟩
      · refine (show ∀ (W : World) (b : Nat), W.heap.size = b → CRd (W.alloc (.cells _ 42)) (.slice (some ⟨b, 0, none⟩) 12 12) _ from fun W b hb => by subst hb; exact lit_srd W _ 12 (by rfl) (by simp) _ (by rfl)) _ _ (by simp)
      · intro c hc
        simp only [List.mem_cons, List.not_mem_nil, or_false] at hc
        rcases hc with rfl | rfl | rfl | rfl | rfl | rfl | rfl | rfl | rfl | rfl | rfl | rfl
        · exact ⟨rd_heap _ _ 4 _ _ (by rfl) (by (repeat (refine Eq.trans (hp_alloc _ _ _ ?_) ?_; (· first | (simp; done) | (simp; omega)))); exact heap_newE _ _ _ (by simp)) (by rfl), by simp, by simp⟩
        · exact ⟨rd_heap _ _ 2 _ _ (by rfl) (by (repeat (refine Eq.trans (hp_alloc _ _ _ ?_) ?_; (· first | (simp; done) | (simp; omega)))); exact heap_newE _ _ _ (by simp)) (by rfl), by simp, by simp⟩
        · exact ⟨rd_heap _ _ 1 _ _ (by rfl) (by (repeat (refine Eq.trans (hp_alloc _ _ _ ?_) ?_; (· first | (simp; done) | (simp; omega)))); exact heap_newE _ _ _ (by simp)) (by rfl), by simp, by simp⟩
        · exact ⟨rd_heap _ _ 2 _ _ (by rfl) (by (repeat (refine Eq.trans (hp_alloc _ _ _ ?_) ?_; (· first | (simp; done) | (simp; omega)))); exact heap_newE _ _ _ (by simp)) (by rfl), by simp, by simp⟩
        · exact ⟨rd_heap _ _ 7 _ _ (by rfl) (by (repeat (refine Eq.trans (hp_alloc _ _ _ ?_) ?_; (· first | (simp; done) | (simp; omega)))); exact heap_newE _ _ _ (by simp)) (by rfl), by simp, by simp⟩
        · exact ⟨rd_heap _ _ 3 _ _ (by rfl) (by (repeat (refine Eq.trans (hp_alloc _ _ _ ?_) ?_; (· first | (simp; done) | (simp; omega)))); exact heap_newE _ _ _ (by simp)) (by rfl), by simp, by simp⟩
        · exact ⟨rd_heap _ _ 3 _ _ (by rfl) (by (repeat (refine Eq.trans (hp_alloc _ _ _ ?_) ?_; (· first | (simp; done) | (simp; omega)))); exact heap_newE _ _ _ (by simp)) (by rfl), by simp, by simp⟩
        · exact ⟨SRd.nil _, by simp, by simp⟩
        · exact ⟨SRd.nil _, by simp, by simp⟩
        · exact ⟨SRd.nil _, by simp, by simp⟩
        · exact ⟨rd_heap _ _ 4 _ _ (by rfl) (by (repeat (refine Eq.trans (hp_alloc _ _ _ ?_) ?_; (· first | (simp; done) | (simp; omega)))); exact heap_newE _ _ _ (by simp)) (by rfl), by simp, by simp⟩
        · exact ⟨rd_heap _ _ 3 _ _ (by rfl) (by (repeat (refine Eq.trans (hp_alloc _ _ _ ?_) ?_; (· first | (simp; done) | (simp; omega)))); exact heap_newE _ _ _ (by simp)) (by rfl), by simp, by simp⟩
      · exact (((((((((HB.out.alloc (by have := HB.out.size; simp; omega) _).alloc (by have := HB.out.size; simp; omega) _).alloc (by have := HB.out.size; simp; omega) _).alloc (by have := HB.out.size; simp; omega) _).alloc (by have := HB.out.size; simp; omega) _).alloc (by have := HB.out.size; simp; omega) _).alloc (by have := HB.out.size; simp; omega) _).alloc (by have := HB.out.size; simp; omega) _).alloc (by have := HB.out.size; simp; omega) _).alloc (by have := HB.out.size; simp; omega) _
    case rest =>
      obtain ⟨v, l, rfl, hV, hL, HB2⟩ := hcut
      obtain ⟨w2, hw2⟩ : ∃ w2 : World, w2 = wc := ⟨_, rfl⟩
      rw [← hw2] at hV hL HB2 ⊢
      clear hw2
      go_upto_region 5 with fail
      go_loopg [4] 7 (fun gk i wr => ∃ I : Nat, I ≤ 7 ∧ gk = 7 - I ∧ i = .int .i64 ((I : Int) - 1) ∧ Hid (Below w2.heap.size w2 wr))
      case atStart => exact ⟨0, by omega, rfl, rfl, Lib.hid (Below.refl _ _)⟩
      case round =>
        obtain ⟨I, hI, rfl, rfl, hB⟩ := hrel
        by_cases hlt : I < 7
        · have hi2 : (I : Int) - 1 < 6 := by omega
          obtain ⟨bb, hbb⟩ : ∃ bb, ((I : Int) - 1).tmod 2 = bb := ⟨_, rfl⟩
          go_wp2_with fail
          refine (plays_any _ v l _ (hV.out.below hB.out) (fun c hc => (hL.out c hc).below hB.out)).mono ?_
          rintro e w3 ⟨rfl, hb3⟩
          have HB3 := Lib.hid (hB.out.trans (hb3.mono hB.out.size))
          clear hb3
          go_wp2_with fail
          refine (fair_any _ _ [1, 2, 1, 1, 0] _ _ [0, 1, 2, 3, 4] _ _ (by omega) ((lit_bytes w3 [1, 2, 1, 1, 0] 5 rfl (by simp)).alloc _) (by omega) (lit_bytesE _ _ [0, 1, 2, 3, 4] 5 (by simp) rfl (by simp)) (by omega)).mono ?_
          rintro e w4 ⟨rfl, hb4⟩
          have HB4 := Lib.hid (((HB3.out.alloc HB3.out.size (.cells #[.int .u8 1, .int .u8 2, .int .u8 1, .int .u8 1, .int .u8 0] 5)).alloc (by have := HB3.out.size; simp; omega) (.cells #[.int .u8 0, .int .u8 1, .int .u8 2, .int .u8 3, .int .u8 4] 5)).trans (hb4.mono (by have := HB3.out.size; simp; omega)))
          clear hb4 HB3
          go_wp2_with fail
          refine (later_any _ _ [1, 2, 1, 1, 0] _ _ _ (by omega) (lit_bytes w4 [1, 2, 1, 1, 0] 5 rfl (by simp)) (by omega)).mono ?_
          rintro e w5 ⟨rfl, hb5⟩
          have HB5 := Lib.hid ((HB4.out.alloc HB4.out.size (.cells #[.int .u8 1, .int .u8 2, .int .u8 1, .int .u8 1, .int .u8 0] 5)).trans (hb5.mono (by have := HB4.out.size; simp; omega)))
          clear hb5 HB4
          go_wp2
          go_roundg (7 - (I + 1))
          case measure => omega
          case rel => exact ⟨I + 1, by omega, rfl, by go_num, HB5⟩
        · obtain rfl : I = 7 := by omega
          go_wp2_with fail
          refine (pnew_any 300 _).mono ?_
          rintro e w3 ⟨tb, bm, rfl, hP, htb, hbm, hb3⟩
          change PT w3 tb bm 255 cz at hP
          have HB3 := Lib.hid (hB.out.trans (hb3.mono hB.out.size))
          have hbm2 : w2.heap.size ≤ bm := by have := hB.out.size; omega
          clear hb3
          go_wp2_with fail
          refine (ptell_any tb bm 255 _ _ [254] _ (hP.below (alloc_below _ _)) (lit_rd _ [254] 1 rfl) (by simp)).mono ?_
          clear hP
          rintro e w4 ⟨he, hP, hg⟩
          rw [show tlErr 255 [254] = 0 from by decide] at he
          subst he
          have HB4 := Lib.hid ((HB3.out.alloc HB3.out.size (.cells #[.int .i64 254] 3)).grown hg (by have := HB3.out.size; simp; omega) (fun k hk => by cases hk; exact hbm2))
          clear hg HB3
          go_wp2_with fail
          refine (ptell_any tb bm 255 _ _ [255] _ (hP.below (alloc_below _ _)) (lit_rd _ [255] 1 rfl) (by simp)).mono ?_
          clear hP
          rintro e w5 ⟨he, hP, hg⟩
          rw [show tlErr 255 [255] = 2 from by decide] at he
          subst he
          have HB5 := Lib.hid ((HB4.out.alloc HB4.out.size (.cells #[.int .i64 255] 3)).grown hg (by have := HB4.out.size; simp; omega) (fun k hk => by cases hk; exact hbm2))
          clear hg HB4
          rw [show tlC 255 (tlC 255 cz [254]) [255] = tlC 255 cz [254] from by rfl] at hP
          have HP := Lib.hid hP
          clear hP
          obtain ⟨i0, hi, hz0, hz1, hz2⟩ := info_parts int_info
          obtain ⟨zs, hzs⟩ : ∃ zs, Array.replicate 1001 (Value.int .i64 0) = zs := ⟨_, rfl⟩
          have hmk : ∀ W, (Instr.makeSlice 25 (.int .i64 1001) (.int .i64 1001)).run Try.prog W = .ok (.slice (some ⟨W.heap.size, 0, none⟩) 1001 1001) (W.alloc (.cells zs 3)) := fun W => by
            rw [← hzs]
            exact run_row W 25 3 i0 (.int .i64 0) Try.underlying25 hi hz0 hz1 rfl 1001 (by rw [hz2]; omega) (by unfold maxLen; omega)
          have HRL : Hid (IRd (w5.alloc (.cells zs 3)) (.slice (some ⟨w5.heap.size, 0, none⟩) 1001 1001) (List.replicate 1001 0)) := Lib.hid (rd_heap _ _ 1001 _ zs (by rw [← hzs, List.map_replicate, List.toArray_replicate]) (heap_newA _ _) (by simp))
          have HC0 : Hid ((tlC 255 cz [254]) 0 = min 1000000 (1001 * 0)) := Lib.hid (by rfl)
          have HBA := Lib.hid (HB5.out.alloc HB5.out.size (.cells zs 3))
          have HPA := Lib.hid (HP.out.below (alloc_below w5 (.cells zs 3)))
          clear hzs hi hz0 hz1 hz2 HB5 HP
          go_upto_region 14 with fail
          obtain ⟨lb, hlb⟩ : ∃ lb, w5.heap.size = lb := ⟨_, rfl⟩
          rw [hlb] at HRL ⊢
          clear hlb hmk
          obtain ⟨C5, hC5⟩ : ∃ C5, tlC 255 cz [254] = C5 := ⟨_, rfl⟩
          rw [hC5] at HC0 HPA
          go_loopg [7] 1000 (fun gk i wr => ∃ (J : Nat) (C : Nat → Nat), J ≤ 1000 ∧ gk = 1000 - J ∧ i = .int .i64 J ∧ Hid (PT wr tb bm 255 C) ∧ Hid (C 0 = min 1000000 (1001 * J)) ∧ Hid (IRd wr (.slice (some ⟨lb, 0, none⟩) 1001 1001) (List.replicate 1001 0)) ∧ Hid (Below w2.heap.size w2 wr))
          case atStart => exact ⟨0, C5, by omega, rfl, rfl, HPA, HC0, HRL, HBA⟩
          case round =>
            clear HPA HC0 HRL HBA hC5
            obtain ⟨J, C, hJ, rfl, rfl, hP, hC0, hRL, hB⟩ := hrel
            by_cases hJ2 : J < 1000
            · have HIN : Hid (∀ x ∈ List.replicate 1001 (0 : Int), isN 255 x = true) := Lib.hid (fun x hx => by rw [(List.mem_replicate.1 hx).2]; rfl)
              go_wp2_with fail
              refine (ptell_any tb bm 255 C _ _ _ hP.out hRL.out (by simp)).mono ?_
              rintro e w6 ⟨he, hP2, hg⟩
              rw [tlErr_ok HIN.out] at he
              subst he
              rw [tlC_ok HIN.out] at hP2
              have HP2 := Lib.hid hP2
              have HC2 : Hid (tellC C (List.replicate 1001 0) 0 = min 1000000 (1001 * (J + 1))) := Lib.hid (by rw [tell_zeros C (hP.out.C2 0), hC0.out]; omega)
              have HR2 := Lib.hid (IRd.kept_map hRL.out hP.out.mp hg)
              have HB2' := Lib.hid (hB.out.grown hg hB.out.size (fun k hk => by cases hk; exact hbm2))
              clear hP2 hg
              go_wp2
              go_roundg (1000 - (J + 1))
              case measure => omega
              case rel => exact ⟨J + 1, _, by omega, rfl, by go_num, HP2, HC2, HR2, HB2'⟩
            · obtain rfl : J = 1000 := by omega
              have HCN : Hid (cntN 255 C 0 = 1000000) := Lib.hid (by rw [cntN, if_pos (by omega)]; exact hC0.out)
              go_wp2_with fail
              refine (pcount_any tb bm 255 C 0 _ hP.out).mono ?_
              rintro e w6 ⟨he, rfl⟩
              rw [HCN.out] at he
              subst he
              go_wp2_with fail
              refine (plays_any 300 v l _ (hV.out.below hB.out) (fun c hc => (hL.out c hc).below hB.out)).mono ?_
              rintro e w7 ⟨rfl, hb7⟩
              have HB7 := Lib.hid (hB.out.trans (hb7.mono hB.out.size))
              clear hb7
              go_wp2_with fail
              refine (works_any _).mono ?_
              rintro e w8 ⟨rfl, hb8⟩
              have HB8 := Lib.hid (HB7.out.trans (hb8.mono HB7.out.size))
              clear hb8
              go_wp2
              go_ret
              exact ⟨rfl, HB2.out.trans (HB8.out.mono HB2.out.size)⟩
end Go.Proofs.Ytjlehnmcfimnfaa
