/-
  The reference's Key and Permits.
-/
import Derived.Test.YtggecoekoilahaaIdGoes
namespace Go.Proofs.Ytggecoekoilahaa
open Go.RowKit
set_option linter.unusedSimpArgs false
set_option linter.unusedVariables false

/-- Does a call count, of this key? -/
def ofC (key : ByteArray) (m : CM) : Bool := (m.c.key.toList == key.toList) && m.c.counts
def ofM (l : List CM) (key : ByteArray) : List CM := l.filter (ofC key)
/-- May the calls of a key be? -/
def goesKey (l : List CM) (key : ByteArray) : Bool := goesM (ofM l key).length (ofM l key) false []

theorem ofM_succ {l : List CM} {k : Nat} {m : CM} (h : l[k]? = some m) (key : ByteArray) : ofM (l.take (k + 1)) key = ofM (l.take k) key ++ (if ofC key m = true then [m] else []) := by
  unfold ofM
  rw [List.take_add_one, h, List.filter_append]
  congr 1
  simp only [Option.toList_some, List.filter_cons, List.filter_nil]
theorem ofM_le (l : List CM) (key : ByteArray) : (ofM l key).length ≤ l.length := List.length_filter_le _ _
theorem ofM_mem {l : List CM} {key : ByteArray} {m : CM} (h : m ∈ ofM l key) : m ∈ l := (List.mem_filter.1 h).1

theorem cells_news {W : World} {B : Nat} {cs : List Value} {ty : TypeId} (hh : W.heap[B]? = some (.cells cs.toArray ty)) : ∀ j u, cs[j]? = some u → W.cell? ((⟨B, 0, none⟩ : Addr).add j) = some u := by
  intro j u hj
  have h1 : W.cell? ⟨B, j, none⟩ = cs.toArray[j]? := by
    unfold World.cell?
    simp only [hh]
    rfl
  have e : (⟨B, 0, none⟩ : Addr).add j = ⟨B, j, none⟩ := by unfold Addr.add; split <;> simp_all
  rw [e, h1]
  simpa using hj

set_option maxRecDepth 100000 in
set_option maxHeartbeats 1000000 in
theorem rkey_any (v : Value) (key : ByteArray) (l : List CM) (w : World) (h : RowRd w v (rcs l)) (hl : l.length ≤ 1000) (hr : AllRd w l) :
    Calls Try.prog 19 #[v, .string key] w (RetB (rightM (rcs l) ∧ goesKey l key = true) w) := by
  obtain ⟨a, cap, rfl⟩ := h.form
  obtain ⟨i0, hi, hz0, hz1, hz2⟩ := info_parts rcall_info
  have H := Lib.hid h
  have HR := Lib.hid hr
  clear h hr
  have hll := rcs_length l
  rw [hll] at *
  clear hll
  go_enter Try.func19, Try.ntmps19
  go_wp2
  go_loopw [5, 6] (fun ov i wr => ∃ (V : Value) (I : Nat), V = ov ∧ I ≤ l.length ∧ i = .int .i64 I ∧ Hid (wr.ownsRow w.heap.size 42 8 V (ofM (l.take I) key).length (flat (rcs (ofM (l.take I) key)))) ∧ Below w.heap.size w wr) (fun _ i _ => l.length - (intOf i).toNat)
  case atStart => exact ⟨_, 0, rfl, by omega, rfl, Lib.hid (World.ownsRow_nil _ _ _ _), Below.refl _ _⟩
  case round =>
    obtain ⟨ov, I, rfl, hI, rfl, hO, hB⟩ := hrel
    by_cases hlt : I < l.length
    · obtain ⟨m, hm⟩ : ∃ m, l[I]? = some m := ⟨_, List.getElem?_eq_getElem hlt⟩
      obtain ⟨_, b, o, rfl, hb, c0, c1, c2, c3, c4, c5, c6, c7⟩ := RowRd.at (H.out.below hB) (rcs_at hm)
      have HM := Lib.hid hm
      have HS := Lib.hid (ofM_succ hm key)
      clear hm
      go_upto_region 5 with fail
      refine wp_region_units (.step 0 (.step 1 (.step 2 (.step 3 (.step 4 (.step 5 (.step 6 (.step 7 (.unit 7 true (.step 8 (.step 9 (.step 10 (.step 11 (.step 12 .done))))) 13 12 .done))))))))) (by kernel_rfl) (by kernel_rfl) ?_
      simp only [mkUT, dstOf, bare, Oper.slim, List.contains_cons, List.contains_nil, Option.map_none, Option.map_some, List.getElem?_toArray, List.getElem?_cons_zero, List.getElem?_cons_succ, Option.bind_some, beq_self_eq_true, Bool.or_false, Nat.reduceBEq, Nat.reduceAdd, Nat.zero_add, Option.getD_some, Option.isSome_some, Option.isSome_none, Bool.false_and, Bool.true_and, Bool.false_eq_true, if_false, if_true, Option.some_beq_some, Option.some_beq_none, Option.none_beq_some, reduceCtorEq, ite_true, ite_false]
      repeat ((with_reducible refine wpUT_step (fun K hK => ?_)); go_simp; first | (refine hK _ _ ?_; clear hK K) | (refine ⟨by (intro kk hkk; first | exact hkk.elim | (simp (disch := (simp; omega)) only [hp_drew, hp_drewN, hp_alloc, hp_set]; done) | (simp [hp_drew, hp_drewN, hp_alloc_if, hkk]; done) | fail), hK _ _ ?_⟩; clear hK K)| (go_at_call 16; refine (rcounts_any m.c _).mono ?_; rintro e wc ⟨rfl, hbc⟩; refine ⟨_, rfl, (fun kk hkk => hkk.elim), hK _ _ ?_⟩; clear hK K))
      refine wpUT_unit_below (x := ?_) (by rfl) ?_ ?_
      rotate_left
      · intro hgd
        repeat ((with_reducible refine wpUT_step (fun K hK => ?_)); go_simp; first | (refine hK _ _ ?_; clear hK K) | (refine ⟨by (intro kk hkk; first | exact hkk.elim | (simp (disch := (simp; omega)) only [hp_drew, hp_drewN, hp_alloc, hp_set]; done) | (simp [hp_drew, hp_drewN, hp_alloc_if, hkk]; done) | fail), hK _ _ ?_⟩; clear hK K)| (go_at_call 16; refine (rcounts_any m.c _).mono ?_; rintro e wc ⟨rfl, hbc⟩; refine ⟨_, rfl, (fun kk hkk => hkk.elim), hK _ _ ?_⟩; clear hK K))
        exact wpUT_done ⟨by rfl, by (repeat' (first | (with_reducible exact RowKit.Below.refl _ _) | (with_reducible assumption) | (with_reducible refine RowKit.Below.drew ?_) | (with_reducible refine RowKit.Below.alloc ?_ ?_ _) | omega | (simp; done) | (simp; omega)))⟩
      intro js wu hbu
      simp only [UT.dsts, junk, SOp.dst, Option.toList_some, Option.toList_none, List.cons_append, List.nil_append, List.append_nil, cond_true, cond_false]
      try go_simp
      refine wpUT_done ?_
      try go_simp
      have hBu : Below w.heap.size w wu := hB.trans (hbu.mono hB.size)
      have hOu := Lib.hid (own_below hO.out hbu)
      obtain ⟨_, b', o', hab, hb', d0, d1, d2, d3, d4, d5, d6, d7⟩ := RowRd.at (H.out.below hBu) (rcs_at HM.out)
      cases hab
      obtain ⟨cn, hcn⟩ : ∃ x, x = ofC key m := ⟨_, rfl⟩
      rw [show ((m.c.key.toList == key.toList) && m.c.counts) = cn from hcn.symm]
      have HCN := Lib.hid hcn
      have hle := ofM_le (l.take I) key
      have htk : (l.take I).length ≤ I := List.length_take_le _ _
      clear hcn c0 c1 c2 c3 c4 c5 c6 c7 hb hB hbu hO
      cases cn
      case false =>
        have HE : Hid (ofM (l.take (I + 1)) key = ofM (l.take I) key) := Lib.hid (by rw [HS.out, ← HCN.out]; simp)
        go_wp2
        go_roundw
        case rel => exact ⟨_, I + 1, rfl, by omega, by go_num, Lib.hid (by rw [HE.out]; exact hOu.out), hBu⟩
        case measure => simp [intOf]; omega
      case true =>
        have HE : Hid (ofM (l.take (I + 1)) key = ofM (l.take I) key ++ [m]) := Lib.hid (by rw [HS.out, ← HCN.out]; simp)
        go_wp2_with (at_builtin; refine wpList_append_own _ rfl (.tmp 27) (.tmp 32) 39 rfl w.heap.size 42 i0 (.agg #[.int .i64 0, .int .u8 0, .string ⟨#[]⟩, .slice none 0 0, .int .i64 0, .int .i64 0, .int .i64 0, .slice none 0 0]) 8 104 Try.underlying39 hi hz0 hz1 hz2 rfl (by decide) _ _ _ rfl (hOu.out.alloc _) ⟨wu.heap.size, 0, none⟩ 1 1 m.c.cells rfl (by rfl) (cells_news (heap_newA _ _)) (by intro u hu; exact flat_one [m.c] u (by simpa [flat] using hu)) (by unfold maxLen; omega) (by omega) (by simp; have := hBu.size; omega) ?_; intro v1 w3 hown1 hgrow1 _)
        have hB3 : Below w.heap.size w w3 := (hBu.alloc hBu.size _).grown hgrow1 (by simp; have := hBu.size; omega) (fun k hk => (hOu.out.lt k hk).1)
        have hO3 : Hid (w3.ownsRow w.heap.size 42 8 v1 (ofM (l.take (I + 1)) key).length (flat (rcs (ofM (l.take (I + 1)) key)))) := Lib.hid (by
          rw [HE.out, List.length_append]
          have e9 : flat (rcs (ofM (l.take I) key ++ [m])) = flat (rcs (ofM (l.take I) key)) ++ m.c.cells := by simp [rcs, flat_append, flat]
          rw [e9]
          exact hown1)
        go_roundw
        case rel => exact ⟨_, I + 1, rfl, by omega, by go_num, hO3, hB3⟩
        case measure => simp [intOf]; omega
    · obtain rfl : I = l.length := by omega
      have hrow : RowRd wr ov (rcs (ofM l key)) := by have h9 := RowRd.of_owns hO.out; rwa [List.take_length] at h9
      have HROW := Lib.hid hrow
      have HRI := Lib.hid (rright_any (.slice a l.length cap) (rcs l) wr (by have h9 := H.out.below hB; rwa [rcs_length] at h9) (by rw [rcs_length]; omega))
      have hle := ofM_le l key
      obtain ⟨g, hg⟩ : ∃ g, g = goesKey l key := ⟨_, rfl⟩
      have HG := Lib.hid hg
      have HGO : Hid (∀ wc, Below wr.heap.size wr wc → Calls Try.prog 31 #[ov, .bool false, .slice none 0 0] wc fun e w' => e = .returned (.bool g) ∧ Below wc.heap.size wc w') := Lib.hid (fun wc hwc => by
        rw [HG.out]
        exact goes_any _ ov false _ (ofM l key) [] wc rfl (by omega) (HROW.out.below hwc) (fun k hk => (HR.out k (ofM_mem hk)).below (hB.trans (hwc.mono hB.size))) (BytesRd.nil _))
      clear hrow hg hO
      go_upto_region 7 with fail
      refine wp_region_units (.step 0 (.step 1 (.step 2 (.unit 2 true (.step 3 (.step 4 .done)) 5 4 (.step 6 .done))))) (by kernel_rfl) (by kernel_rfl) ?_
      simp only [mkUT, dstOf, bare, Oper.slim, List.contains_cons, List.contains_nil, Option.map_none, Option.map_some, List.getElem?_toArray, List.getElem?_cons_zero, List.getElem?_cons_succ, Option.bind_some, beq_self_eq_true, Bool.or_false, Nat.reduceBEq, Nat.reduceAdd, Nat.zero_add, Option.getD_some, Option.isSome_some, Option.isSome_none, Bool.false_and, Bool.true_and, Bool.false_eq_true, if_false, if_true, Option.some_beq_some, Option.some_beq_none, Option.none_beq_some, reduceCtorEq, ite_true, ite_false]
      repeat ((with_reducible refine wpUT_step (fun K hK => ?_)); go_simp; first | (refine hK _ _ ?_; clear hK K) | (refine ⟨by (intro kk hkk; first | exact hkk.elim | (simp (disch := (simp; omega)) only [hp_drew, hp_drewN, hp_alloc, hp_set]; done) | (simp [hp_drew, hp_drewN, hp_alloc_if, hkk]; done) | fail), hK _ _ ?_⟩; clear hK K)| (go_at_call 17; (with_reducible refine HRI.out.mono ?_); rintro e wc ⟨rb, rfl, hrb, hbc⟩; refine ⟨_, rfl, (fun kk hkk => hkk.elim), hK _ _ ?_⟩; clear hK K) | (go_at_call 31; (with_reducible refine (HGO.out _ hbc).mono ?_); rintro e wd ⟨rfl, hbd⟩; refine ⟨_, rfl, (fun kk hkk => hkk.elim), hK _ _ ?_⟩; clear hK K))
      refine wpUT_unit_below (x := ?_) (by rfl) ?_ ?_
      rotate_left
      · intro hgd
        repeat ((with_reducible refine wpUT_step (fun K hK => ?_)); go_simp; first | (refine hK _ _ ?_; clear hK K) | (refine ⟨by (intro kk hkk; first | exact hkk.elim | (simp (disch := (simp; omega)) only [hp_drew, hp_drewN, hp_alloc, hp_set]; done) | (simp [hp_drew, hp_drewN, hp_alloc_if, hkk]; done) | fail), hK _ _ ?_⟩; clear hK K)| (go_at_call 17; (with_reducible refine HRI.out.mono ?_); rintro e wc ⟨rb, rfl, hrb, hbc⟩; refine ⟨_, rfl, (fun kk hkk => hkk.elim), hK _ _ ?_⟩; clear hK K) | (go_at_call 31; (with_reducible refine (HGO.out _ hbc).mono ?_); rintro e wd ⟨rfl, hbd⟩; refine ⟨_, rfl, (fun kk hkk => hkk.elim), hK _ _ ?_⟩; clear hK K))
        exact wpUT_done ⟨by rfl, by (repeat' (first | (with_reducible exact RowKit.Below.refl _ _) | (with_reducible assumption) | (with_reducible refine RowKit.Below.drew ?_) | (with_reducible refine RowKit.Below.alloc ?_ ?_ _) | omega | (simp; done) | (simp; omega)))⟩
      intro js wu hbu
      simp only [UT.dsts, junk, SOp.dst, Option.toList_some, Option.toList_none, List.cons_append, List.nil_append, List.append_nil, cond_true, cond_false]
      repeat ((with_reducible refine wpUT_step (fun K hK => ?_)); go_simp; first | (refine hK _ _ ?_; clear hK K) | (refine ⟨by (intro kk hkk; first | exact hkk.elim | (simp (disch := (simp; omega)) only [hp_drew, hp_drewN, hp_alloc, hp_set]; done) | (simp [hp_drew, hp_drewN, hp_alloc_if, hkk]; done) | fail), hK _ _ ?_⟩; clear hK K)| (go_at_call 17; (with_reducible refine HRI.out.mono ?_); rintro e wc ⟨rb, rfl, hrb, hbc⟩; refine ⟨_, rfl, (fun kk hkk => hkk.elim), hK _ _ ?_⟩; clear hK K) | (go_at_call 31; (with_reducible refine (HGO.out _ hbc).mono ?_); rintro e wd ⟨rfl, hbd⟩; refine ⟨_, rfl, (fun kk hkk => hkk.elim), hK _ _ ?_⟩; clear hK K))
      refine wpUT_done ?_
      go_wp2
      go_ret
      refine ⟨_, rfl, ?_, ?_⟩
      · rw [Bool.and_eq_true, HG.out, hrb]
      · exact hB.trans ((hbc.trans (hbu.mono hbc.size)).mono hB.size)

set_option maxRecDepth 100000 in
set_option maxHeartbeats 1000000 in
theorem rpermits_any (v : Value) (l : List CM) (w : World) (h : RowRd w v (rcs l)) (hl : l.length ≤ 1000) (hr : AllRd w l) :
    Calls Try.prog 20 #[v] w (RetB (∀ m ∈ l, rightM (rcs l) ∧ goesKey l m.c.key = true) w) := by
  obtain ⟨a, cap, rfl⟩ := h.form
  have H := Lib.hid h
  have HR := Lib.hid hr
  clear h hr
  have hll := rcs_length l
  rw [hll] at *
  clear hll
  go_enter Try.func20, Try.ntmps20
  go_wp2
  go_loopw [3] (fun i wr => ∃ I : Nat, I ≤ l.length ∧ i = .int .i64 I ∧ Hid (∀ m ∈ l.take I, rightM (rcs l) ∧ goesKey l m.c.key = true) ∧ Below w.heap.size w wr) (fun i _ => l.length - (intOf i).toNat)
  case atStart => exact ⟨0, by omega, rfl, Lib.hid (fun m hm => by simp at hm), Below.refl _ _⟩
  case round =>
    obtain ⟨I, hI, rfl, hF, hB⟩ := hrel
    by_cases hlt : I < l.length
    · obtain ⟨m, hm⟩ : ∃ m, l[I]? = some m := ⟨_, List.getElem?_eq_getElem hlt⟩
      obtain ⟨_, b, o, rfl, hb, c0, c1, c2, c3, c4, c5, c6, c7⟩ := RowRd.at (H.out.below hB) (rcs_at hm)
      have HM := Lib.hid hm
      have HK := Lib.hid (rkey_any (.slice (some ⟨b, o, none⟩) l.length cap) m.c.key l wr (by have h9 := H.out.below hB; rwa [rcs_length] at h9) (by omega) (fun k hk => (HR.out k hk).below hB))
      clear hm
      go_wp2_with (go_at_call 19; (with_reducible refine HK.out.mono ?_); rintro e wc ⟨rb, rfl, hrb, hbc⟩; have HRB := Lib.hid hrb; clear hrb; cases rb)
      all_goals have hB2 := hB.trans (hbc.mono hB.size)
      · go_ret
        refine ⟨false, rfl, ⟨(fun h => (by cases h)), (fun h => ?_)⟩, hB2⟩
        have := HRB.out.2 (h m (List.mem_of_getElem? HM.out))
        cases this
      · have HF2 : Hid (∀ m ∈ l.take (I + 1), rightM (rcs l) ∧ goesKey l m.c.key = true) := Lib.hid (by
          intro k hk
          rw [List.take_add_one, HM.out, List.mem_append] at hk
          rcases hk with hk | hk
          · exact hF.out k hk
          · obtain rfl : k = m := by simpa using hk
            exact HRB.out.1 (by trivial))
        go_roundw
        case rel => exact ⟨I + 1, by omega, by go_num, HF2, hB2⟩
        case measure => simp [intOf]; omega
    · obtain rfl : I = l.length := by omega
      go_wp2
      go_ret
      exact ⟨true, rfl, ⟨fun _ m hm => hF.out m (by rw [List.take_length]; exact hm), fun _ => rfl⟩, hB⟩
end Go.Proofs.Ytggecoekoilahaa
