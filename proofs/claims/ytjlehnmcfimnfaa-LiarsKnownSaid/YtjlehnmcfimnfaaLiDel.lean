/-
  slices.DeleteFunc at numbers, with the program's closure.
-/
import Derived.Test.YtjlehnmcfimnfaaLiSort
import Derived.Laws.IdiomCopy
namespace Go.Proofs.Ytjlehnmcfimnfaa
open Go.RowKit
set_option linter.unusedSimpArgs false
set_option linter.unusedVariables false

set_option maxHeartbeats 1000000 in
theorem index_del (v : Value) (l : List Int) (p : Int → Bool) (kb : Nat) (w : World) (h : IRd w v l) (hl : l.length ≤ 1000000000)
    (hp : ∀ (x : Int), Calls Try.prog 34 #[.int .i64 x, .pointer (some ⟨kb, 0, none⟩)] w fun e w' => e = .returned (.bool (p x)) ∧ w = w') :
    Calls Try.prog 31 #[v, .func (.func 34) #[] #[.pointer (some ⟨kb, 0, none⟩)]] w (IdxI l p w) := by
  obtain ⟨a, cap, rfl⟩ := h.form
  have H := Lib.hid h
  have HP := Lib.hid hp
  clear h hp
  go_enter Try.func31, Try.ntmps31
  go_wp2
  go_loop [8] (fun i => ∃ I : Nat, I ≤ l.length ∧ i = .int .i64 I ∧ Hid (∀ i x, i < I → l[i]? = some x → p x = false)) (fun i => l.length - (intOf i).toNat)
  case atStart => exact ⟨0, by omega, rfl, Lib.hid (fun i c hi => by omega)⟩
  case round =>
    obtain ⟨I, hI, rfl, hN⟩ := hrel
    by_cases hlt : I < l.length
    · obtain ⟨x, hx⟩ : ∃ x, l[I]? = some x := ⟨_, List.getElem?_eq_getElem hlt⟩
      obtain ⟨-, hcap, b, o, rfl, hb, c0⟩ := H.out.cell hx
      have HX := Lib.hid hx
      have HCALL := Lib.hid (HP.out x)
      clear hx
      obtain ⟨pc, hpc⟩ : ∃ y, y = p x := ⟨_, rfl⟩
      rw [← hpc] at HCALL
      have HPC := Lib.hid hpc
      clear hpc
      cases pc
      · go_wp2_with (go_at_call 34; (with_reducible refine HCALL.out.mono ?_); rintro e wc ⟨rfl, rfl⟩)
        have HN2 : Hid (∀ i c', i < I + 1 → l[i]? = some c' → p c' = false) := Lib.hid (fun i c' hi hc' => by
          by_cases e : i = I
          · subst e
            have : c' = x := by have := HX.out; rw [hc'] at this; exact Option.some.inj this
            subst this
            exact HPC.out.symm
          · exact hN.out i c' (by omega) hc')
        go_round
        case rel => exact ⟨I + 1, by omega, by go_num, HN2⟩
        case measure => simp [intOf]; omega
      · go_wp2_with (go_at_call 34; (with_reducible refine HCALL.out.mono ?_); rintro e wc ⟨rfl, rfl⟩)
        go_ret
        exact ⟨I, rfl, rfl, .inr ⟨I, rfl, hlt, hN.out, fun c' hc' => by
          have : c' = x := by have := HX.out; rw [hc'] at this; exact Option.some.inj this
          subst this
          exact HPC.out.symm⟩⟩
    · obtain rfl : I = l.length := by omega
      go_wp2
      go_ret
      exact ⟨-1, rfl, rfl, .inl ⟨rfl, fun x hx => by
        obtain ⟨i, hi⟩ := List.getElem?_of_mem hx
        exact hN.out i x (List.getElem?_eq_some_iff.1 hi).1 hi⟩⟩
theorem del1_any (tb bm n kb : Nat) (C : Nat → Nat) (w : World) (h : PT w tb bm n C) (hk : w.cell? ⟨kb, 0, none⟩ = some (.pointer (some ⟨tb, 0, none⟩))) (x : Int) :
    Calls Try.prog 34 #[.int .i64 x, .pointer (some ⟨kb, 0, none⟩)] w fun e w' => e = .returned (.bool (!isN n x)) ∧ w = w' := by
  have HIS := Lib.hid (pis_any tb bm n C x w h)
  clear h
  go_enter Try.func34, Try.ntmps34
  go_wp2_with (go_at_call 27; refine HIS.out.mono ?_; rintro e w1 ⟨rfl, rfl⟩)
  go_ret
  exact ⟨rfl, rfl⟩
theorem del1_nil (kb : Nat) (w : World) (hk : w.cell? ⟨kb, 0, none⟩ = some (.pointer none)) (x : Int) :
    Calls Try.prog 34 #[.int .i64 x, .pointer (some ⟨kb, 0, none⟩)] w fun e w' => e = .returned (.bool true) ∧ w = w' := by
  have HIS := Lib.hid (pis_nil x w)
  go_enter Try.func34, Try.ntmps34
  go_wp2_with (go_at_call 27; refine HIS.out.mono ?_; rintro e w1 ⟨rfl, rfl⟩)
  go_ret
  exact ⟨rfl, rfl⟩

/-- A row of numbers whose block was laid from B on. -/
def OwnI (B : Nat) (w : World) (v : Value) (l : List Int) : Prop := (v = .slice none 0 0 ∧ l = []) ∨
  ∃ g cap cur, v = .slice (some ⟨g, 0, none⟩) l.length cap ∧ B ≤ g ∧ w.heap[g]? = some (.cells cur 3 (0, 0)) ∧ l.length ≤ cap ∧ cur.size = cap ∧ ∀ (i : Nat) x, l[i]? = some x → cur[i]? = some (.int .i64 x)
theorem OwnI.of_owns {B n : Nat} {w : World} {v : Value} {l : List Int} (h : w.ownsRow B 3 1 v n (l.map (Value.int .i64))) : OwnI B w v l := by
  have hn : l.length = n := by have := h.1; simpa using this
  subst hn
  rcases h.2 with ⟨h1, h2⟩ | ⟨g, cap, cur, h1, h2, h3, h4, h5, h6, h7⟩
  · exact .inl ⟨by rw [h1], List.eq_nil_of_length_eq_zero h2⟩
  · refine .inr ⟨g, cap, cur, h1, h2, h3, h4, by omega, fun i x hx => ?_⟩
    have hi := (List.getElem?_eq_some_iff.1 hx).1
    have h8 : (cur.toList.take (l.length * 1))[i]? = some (.int .i64 x) := by rw [h7, List.getElem?_map, hx]; rfl
    rw [List.getElem?_take, if_pos (by omega)] at h8
    simpa using h8
theorem OwnI.rd {B : Nat} {w : World} {v : Value} {l : List Int} (h : OwnI B w v l) : IRd w v l := by
  rcases h with ⟨rfl, rfl⟩ | ⟨g, cap, cur, rfl, h2, h3, h4, h5, h6⟩
  · exact SRd.nil _
  · refine IRd.mk h4 (lt_of_heap h3) fun i x hx => ?_
    unfold World.cell?
    simp only [h3]
    have := h6 i x hx
    simpa using this
theorem OwnI.below {B : Nat} {w w' : World} {v : Value} {l : List Int} (h : OwnI B w v l) (hb : Below w.heap.size w w') : OwnI B w' v l := by
  rcases h with h | ⟨g, cap, cur, h1, h2, h3, h4, h5, h6⟩
  · exact .inl h
  · exact .inr ⟨g, cap, cur, h1, h2, keepB hb h3, h4, h5, h6⟩

def DelPost (l : List Int) (p : Int → Bool) (B : Nat) (w : World) (e : Ending) (w' : World) : Prop := ∃ v', e = .returned v' ∧ OwnI B w' v' (l.filter fun x => !p x) ∧ Below B w w'

theorem setCells_of (g : Nat) (ty : TypeId) : ∀ (vs : List Value) (o : Nat) (w : World) (cur : Array Value), w.heap[g]? = some (.cells cur ty) → o + vs.length ≤ cur.size →
    (∃ cur2, (w.setCells g o vs).heap[g]? = some (.cells cur2 ty) ∧ cur2.size = cur.size ∧ ∀ t, t < o → cur2[t]? = cur[t]?) ∧ w.grownBy (w.setCells g o vs) (some g)
  | [], o, w, cur, h, _ => ⟨⟨cur, h, rfl, fun _ _ => rfl⟩, World.grownBy.refl _ _⟩
  | v :: r, o, w, cur, h, hs => by
    have h1 := heap_set_same h o v
    have hg1 : w.grownBy (w.setCell ⟨g, o, none⟩ v) (some g) := ⟨rfl, rfl, rfl, by simp [World.setCell], fun k hk hne => by
      unfold World.setCell
      simp only [Array.getElem?_modify]
      rw [if_neg (fun e => hne (by rw [e]))]⟩
    obtain ⟨⟨cur2, h2, h5, h3⟩, h4⟩ := setCells_of g ty r (o + 1) _ _ h1 (by simp at hs ⊢; omega)
    exact ⟨⟨cur2, h2, by rw [h5]; simp, fun t ht => (h3 t (by omega)).trans (by rw [Array.getElem?_setIfInBounds, if_neg (by omega)])⟩, gb_trans hg1 h4⟩
theorem setCell_gb (w : World) (g o : Nat) (v : Value) : w.grownBy (w.setCell ⟨g, o, none⟩ v) (some g) := ⟨rfl, rfl, rfl, by simp [World.setCell], fun k hk hne => by
  unfold World.setCell
  simp only [Array.getElem?_modify]
  rw [if_neg (fun e => hne (by rw [e]))]⟩

theorem clear_ints (w : World) (g o n c : Nat) (cur : Array Value) (hg : w.heap[g]? = some (.cells cur 3)) (hn : 0 < n) (hs : o + n ≤ cur.size) :
    ∃ w', (∀ ty, (Builtin.clear_ #[25] ty #[.slice (some ⟨g, o, none⟩) n c]).run Try.prog w = .ok (.tuple #[]) w') ∧ (∃ cur2, w'.heap[g]? = some (.cells cur2 3) ∧ cur2.size = cur.size ∧ ∀ t, t < o → cur2[t]? = cur[t]?) ∧ w.grownBy w' (some g) := by
  have hlen : (Builtin.zeroCells (Value.cells (.int .i64 0)) n).toList.length = n := by simp [Builtin.zeroCells, Value.cells]
  have h1 : ∀ v ∈ (Builtin.zeroCells (Value.cells (.int .i64 0)) n).toList, v.oneCell' = true := by
    intro v hv
    unfold Builtin.zeroCells at hv
    rw [Array.toList_map, List.mem_map] at hv
    obtain ⟨i, _, rfl⟩ := hv
    have hs : (Value.cells (.int .i64 0)).size = 1 := rfl
    rw [hs, Nat.mod_one]
    rfl
  have hcell : ∀ j, j < n → w.cell? ⟨g, o + j, none⟩ = cur[o + j]? := fun j hj => by
    unfold World.cell?
    simp only [hg]
    rfl
  have hst := run_storeCells_cells (P := Try.prog) g o (Builtin.zeroCells (Value.cells (.int .i64 0)) n).toList 0 w
    (fun j hj => by rw [Nat.add_zero, hcell j (by omega), Array.getElem?_eq_getElem (by omega)]; rfl)
    (fun j hj => by unfold World.frozen?; simp [hg]) h1
  simp only [Nat.add_zero] at hst
  obtain ⟨⟨cur2, h2, h5, h3⟩, h4⟩ := setCells_of g _ (Builtin.zeroCells (Value.cells (.int .i64 0)) n).toList o w cur hg (by omega)
  obtain ⟨m, rfl⟩ : ∃ m, n = m + 1 := ⟨n - 1, by omega⟩
  refine ⟨_, fun ty => ?_, ⟨cur2, h2, h5, h3⟩, h4⟩
  simp [Builtin.clear_, run_underlying Try.underlying25, zeroInt, hst]

def DelSt (l : List Int) (q : Int → Bool) (g cap K J : Nat) (cur : Array Value) (w : World) : Prop :=
  w.heap[g]? = some (.cells cur 3) ∧ cur.size = cap ∧ ((l.take J).filter q).length = K ∧ (∀ (i : Nat) x, ((l.take J).filter q)[i]? = some x → cur[i]? = some (.int .i64 x)) ∧ (∀ (i : Nat) x, J ≤ i → l[i]? = some x → cur[i]? = some (.int .i64 x))
theorem filter_take_succ (l : List Int) (p : Int → Bool) (J : Nat) (c : Int) (h : l[J]? = some c) : (l.take (J + 1)).filter p = (l.take J).filter p ++ (if p c = true then [c] else []) := by
  rw [List.take_add_one, h, List.filter_append]
  congr 1
  simp only [Option.toList_some, List.filter_cons, List.filter_nil]
theorem cell_heap {w : World} {g : Nat} {cur : Array Value} {ty : TypeId} {i : Nat} {v : Value} (h : w.heap[g]? = some (.cells cur ty)) (hc : cur[i]? = some v) : w.cell? ⟨g, i, none⟩ = some v ∧ w.frozen? ⟨g, i, none⟩ = false := by
  unfold World.cell? World.frozen?
  simp only [h]
  exact ⟨by simpa using hc, by simp⟩

set_option maxRecDepth 100000 in
set_option maxHeartbeats 2000000 in
theorem delete_any (v : Value) (l : List Int) (p : Int → Bool) (kb B : Nat) (w : World) (ho : OwnI B w v l) (hl : l.length ≤ 1000000000) (hBw : B ≤ w.heap.size)
    (hp : ∀ (x : Int) (W : World), Below B w W → Calls Try.prog 34 #[.int .i64 x, .pointer (some ⟨kb, 0, none⟩)] W fun e w' => e = .returned (.bool (p x)) ∧ W = w') :
    Calls Try.prog 32 #[v, .func (.func 34) #[] #[.pointer (some ⟨kb, 0, none⟩)]] w (DelPost l p B w) := by
  have hrow := ho.rd
  have HIDX := Lib.hid (index_del v l p kb w hrow hl (fun x => hp x w (Below.refl _ _)))
  have HROW := Lib.hid hrow
  have HO := Lib.hid ho
  have HP := Lib.hid hp
  clear hrow ho hp
  go_enter Try.func32, Try.ntmps32
  go_upto_region 2 with (go_at_call 31; (with_reducible refine HIDX.out.mono ?_); rintro e w1 ⟨r, rfl, rfl, hr⟩)
  have HR := Lib.hid hr
  clear hr
  by_cases hr1 : r = -1
  · have HFA : Hid (l.filter (fun x => !p x) = l) := Lib.hid (by
      rcases HR.out with ⟨_, h⟩ | ⟨I, h, _⟩
      · exact List.filter_eq_self.2 fun c hc => by simp [h c hc]
      · omega)
    subst hr1
    go_wp2
    go_ret
    exact ⟨v, rfl, by rw [HFA.out]; exact HO.out, Below.refl _ _⟩
  · obtain ⟨I, hI, hIl, HNO, HYES⟩ : ∃ I : Nat, r = I ∧ I < l.length ∧ Hid (∀ (i : Nat) c, i < I → l[i]? = some c → p c = false) ∧ Hid (∀ c, l[I]? = some c → p c = true) := by
      rcases HR.out with ⟨h, _⟩ | ⟨I, h1, h2, h3, h4⟩
      · exact absurd h hr1
      · exact ⟨I, h1, h2, Lib.hid h3, Lib.hid h4⟩
    subst hI
    clear hr1 HR
    obtain ⟨g, cap, cur, rfl, hg, hcur, hcap, hsz, hcl⟩ : ∃ g cap cur, v = .slice (some ⟨g, 0, none⟩) l.length cap ∧ B ≤ g ∧ w.heap[g]? = some (.cells cur 3 (0, 0)) ∧ l.length ≤ cap ∧ cur.size = cap ∧ ∀ (i : Nat) x, l[i]? = some x → cur[i]? = some (.int .i64 x) := by
      rcases HO.out with ⟨_, h2⟩ | h
      · rw [h2] at hIl; simp at hIl
      · exact h
    have fneg : ((I : Int) == -1) = false := beq_false_of_ne (by omega)
    go_upto_region 4 with fail
    go_wp2
    have HST0 : Hid (DelSt l (fun x => !p x) g cap I (I + 1) cur w) := Lib.hid (by
      obtain ⟨c, hc⟩ : ∃ c, l[I]? = some c := ⟨_, List.getElem?_eq_getElem hIl⟩
      have hft : (l.take (I + 1)).filter (fun x => !p x) = l.take I := by
        rw [filter_take_succ l _ I c hc, if_neg (by have := HYES.out c hc; simp [this]), List.append_nil]
        refine List.filter_eq_self.2 fun d hd => ?_
        obtain ⟨i, hi⟩ := List.getElem?_of_mem hd
        rw [List.getElem?_take] at hi
        split at hi
        · have := HNO.out i d (by assumption) hi
          simp [this]
        · cases hi
      refine ⟨hcur, hsz, ?_, ?_, fun i x _ hx => hcl i x hx⟩
      · rw [hft, List.length_take]; omega
      · rw [hft]; intro i x hx
        rw [List.getElem?_take] at hx
        split at hx
        · exact hcl i x hx
        · cases hx)
    have hBg : B ≤ g := hg
    clear hcur hsz HNO HYES HIDX HO hg hcl HROW
    go_loopw [5, 6] (fun iv jv wr => ∃ (K J : Nat) (cur' : Array Value), iv = .int .i64 K ∧ jv = .int .i64 J ∧ J ≤ l.length ∧ K < J ∧ Hid (DelSt l (fun x => !p x) g cap K J cur' wr) ∧ Below B w wr) (fun _ j _ => l.length - (intOf j).toNat)
    case atStart => exact ⟨I, I + 1, cur, rfl, by go_num, by omega, by omega, HST0, Below.refl _ _⟩
    case round =>
      obtain ⟨K, J, cur', rfl, rfl, hJ, hKJ, hSt, hB⟩ := hrel
      obtain ⟨hcu, hsz, hfl, hF, hR⟩ := hSt.out
      by_cases hlt : J < l.length
      · obtain ⟨c, hc⟩ : ∃ c, l[J]? = some c := ⟨_, List.getElem?_eq_getElem hlt⟩
        obtain ⟨c0, -⟩ := cell_heap hcu (hR J c (Nat.le_refl _) hc)
        have hKs : K < cur'.size := by omega
        obtain ⟨z, hz⟩ : ∃ z, cur'[K]? = some z := ⟨_, Array.getElem?_eq_getElem hKs⟩
        obtain ⟨k0, k1⟩ := cell_heap hcu hz
        have HFT := Lib.hid (filter_take_succ l (fun x => !p x) J c hc)
        have HFL := Lib.hid hfl
        have HF := Lib.hid hF
        have HRS := Lib.hid hR
        have HCU := Lib.hid hcu
        have HCALL := Lib.hid (HP.out c wr hB)
        have hset := heap_set_same hcu K (.int .i64 c)
        have HST3 := Lib.hid hset
        have HB3 : Hid (Below B w (wr.setCell ⟨g, K, none⟩ (.int .i64 c))) := Lib.hid (hB.grown (setCell_gb wr g K _) (Nat.le_trans hBw hB.size) (fun k hk => by cases hk; exact hBg))
        clear hc hfl hF hR hcu hset hz
        obtain ⟨pc, hpc⟩ : ∃ x, x = p c := ⟨_, rfl⟩
        rw [← hpc] at HCALL
        have HPC := Lib.hid hpc
        clear hpc
        cases pc
        · go_wp2_with (go_at_call 34; (with_reducible refine HCALL.out.mono ?_); rintro e wc ⟨rfl, rfl⟩)
          go_roundw
          case rel => exact ⟨K + 1, J + 1, _, by go_num, by go_num, by omega, by omega, Lib.hid (by
            have e9 : (l.take (J + 1)).filter (fun x => !p x) = (l.take J).filter (fun x => !p x) ++ [c] := by rw [HFT.out, ← HPC.out]; simp
            refine ⟨HST3.out, by simpa using hsz, by rw [e9, List.length_append, HFL.out]; rfl, ?_, ?_⟩
            · rw [e9]
              intro i x hx
              rw [Array.getElem?_setIfInBounds]
              by_cases e : K = i
              · subst e
                rw [if_pos rfl, if_pos hKs]
                rw [← HFL.out] at hx
                simp at hx
                rw [hx]
              · rw [if_neg e]
                rw [List.getElem?_append] at hx
                split at hx
                · exact HF.out i x hx
                · have := (List.getElem?_eq_some_iff.1 hx).1
                  have h9 := HFL.out
                  simp at this
                  omega
            · intro i x hi hx
              rw [Array.getElem?_setIfInBounds, if_neg (by omega)]
              exact HRS.out i x (by omega) hx), HB3.out⟩
          case measure => simp [intOf]; omega
        · go_wp2_with (go_at_call 34; (with_reducible refine HCALL.out.mono ?_); rintro e wc ⟨rfl, rfl⟩)
          go_roundw
          case rel => exact ⟨K, J + 1, cur', rfl, by go_num, by omega, by omega, Lib.hid (by
            have e9 : (l.take (J + 1)).filter (fun x => !p x) = (l.take J).filter (fun x => !p x) := by rw [HFT.out, ← HPC.out]; simp
            exact ⟨HCU.out, hsz, by rw [e9]; exact HFL.out, by rw [e9]; exact HF.out, fun i x hi hx => HRS.out i x (by omega) hx⟩), hB⟩
          case measure => simp [intOf]; omega
      · obtain rfl : J = l.length := by omega
        rw [List.take_length] at hfl hF
        obtain ⟨w9, hclr, ⟨cur2, hc2, hs2, hk2⟩, hg9⟩ := clear_ints wr g K (l.length - K) (cap - K) cur' hcu (by omega) (by omega)
        have hB9 : Below B w w9 := hB.grown hg9 (Nat.le_trans hBw hB.size) (fun k hk => by cases hk; exact hBg)
        have HOWN : Hid (OwnI B w9 (.slice (some ⟨g, 0, none⟩) (l.filter fun x => !p x).length cap) (l.filter fun x => !p x)) := Lib.hid (.inr ⟨g, cap, cur2, rfl, hBg, hc2, by omega, by omega, fun i x hx => by
          have := (List.getElem?_eq_some_iff.1 hx).1
          rw [hk2 i (by omega)]
          exact hF i x hx⟩)
        have HFL := Lib.hid hfl
        clear hF hc2 hk2 hfl hSt hR hcu hg9
        have hcK : ¬ cap = K := by omega
        go_wp2
        go_ret
        exact ⟨_, rfl, by have := HOWN.out; rw [HFL.out] at this; exact this, hB9⟩
end Go.Proofs.Ytjlehnmcfimnfaa
