/-
  slices.DeleteFunc at calls, with the program's closure: walked.
-/
import Derived.Test.YtggecoekoilahaaIdDel
namespace Go.Proofs.Ytggecoekoilahaa
open Go.RowKit
set_option linter.unusedSimpArgs false
set_option linter.unusedVariables false

def DelPost (l : List RC) (key : ByteArray) (B : Nat) (w : World) (e : Ending) (w' : World) : Prop := ∃ v', e = .returned v' ∧ RowRd w' v' (l.filter (RC.isOf key)) ∧ Below B w w'

theorem setCells_of (g : Nat) (ty : TypeId) : ∀ (vs : List Value) (o : Nat) (w : World) (cur : Array Value), w.heap[g]? = some (.cells cur ty) → o + vs.length ≤ cur.size →
    (∃ cur2, (w.setCells g o vs).heap[g]? = some (.cells cur2 ty) ∧ ∀ t, t < o → cur2[t]? = cur[t]?) ∧ w.grownBy (w.setCells g o vs) (some g)
  | [], o, w, cur, h, _ => ⟨⟨cur, h, fun _ _ => rfl⟩, World.grownBy.refl _ _⟩
  | v :: r, o, w, cur, h, hs => by
    have h1 := heap_set_same h o v
    have hg1 : w.grownBy (w.setCell ⟨g, o, none⟩ v) (some g) := ⟨rfl, rfl, rfl, by simp [World.setCell], fun k hk hne => by
      unfold World.setCell
      simp only [Array.getElem?_modify]
      rw [if_neg (fun e => hne (by rw [e]))]⟩
    obtain ⟨⟨cur2, h2, h3⟩, h4⟩ := setCells_of g ty r (o + 1) _ _ h1 (by simp at hs ⊢; omega)
    exact ⟨⟨cur2, h2, fun t ht => (h3 t (by omega)).trans (by rw [Array.getElem?_setIfInBounds, if_neg (by omega)])⟩, gb_trans hg1 h4⟩

theorem clear_calls (w : World) (g o n c : Nat) (cur : Array Value) (hg : w.heap[g]? = some (.cells cur 30)) (hn : 0 < n) (hs : o + n * 8 ≤ cur.size) :
    ∃ w', (∀ ty, (Builtin.clear_ #[22] ty #[.slice (some ⟨g, o, none⟩) n c]).run Try.prog w = .ok (.tuple #[]) w') ∧ (∃ cur2, w'.heap[g]? = some (.cells cur2 30) ∧ ∀ t, t < o → cur2[t]? = cur[t]?) ∧ w.grownBy w' (some g) := by
  have hv : ∀ w, (zeroValue 30).run Try.prog w = .ok (.agg #[.int .i64 0, .int .u8 0, .string ⟨#[]⟩, .slice none 0 0, .int .i64 0, .int .i64 0, .int .i64 0, .slice none 0 0]) w := fun w => by kernel_rfl
  have hlen : (Builtin.zeroCells (Value.cells (.agg #[.int .i64 0, .int .u8 0, .string ⟨#[]⟩, .slice none 0 0, .int .i64 0, .int .i64 0, .int .i64 0, .slice none 0 0])) n).toList.length = n * 8 := by simp [Builtin.zeroCells, Value.cells]
  have h1 : ∀ v ∈ (Builtin.zeroCells (Value.cells (.agg #[.int .i64 0, .int .u8 0, .string ⟨#[]⟩, .slice none 0 0, .int .i64 0, .int .i64 0, .int .i64 0, .slice none 0 0])) n).toList, v.oneCell' = true := by
    intro v hv
    unfold Builtin.zeroCells at hv
    rw [Array.toList_map, List.mem_map] at hv
    obtain ⟨i, _, rfl⟩ := hv
    have hs : (Value.cells (.agg #[.int .i64 0, .int .u8 0, .string ⟨#[]⟩, .slice none 0 0, .int .i64 0, .int .i64 0, .int .i64 0, .slice none 0 0])).size = 8 := rfl
    rw [hs]
    have hq : i % 8 < 8 := Nat.mod_lt _ (by omega)
    generalize i % 8 = q at *
    match q, hq with
    | 0, _ | 1, _ | 2, _ | 3, _ | 4, _ | 5, _ | 6, _ | 7, _ => rfl
  have hcell : ∀ j, j < n * 8 → w.cell? ⟨g, o + j, none⟩ = cur[o + j]? := fun j hj => by
    unfold World.cell?
    simp only [hg]
    rfl
  have hst := run_storeCells_cells (P := Try.prog) g o (Builtin.zeroCells (Value.cells (.agg #[.int .i64 0, .int .u8 0, .string ⟨#[]⟩, .slice none 0 0, .int .i64 0, .int .i64 0, .int .i64 0, .slice none 0 0])) n).toList 0 w
    (fun j hj => by rw [Nat.add_zero, hcell j (by omega), Array.getElem?_eq_getElem (by omega)]; rfl)
    (fun j hj => by unfold World.frozen?; simp [hg]) h1
  simp only [Nat.add_zero] at hst
  obtain ⟨⟨cur2, h2, h3⟩, h4⟩ := setCells_of g _ (Builtin.zeroCells (Value.cells (.agg #[.int .i64 0, .int .u8 0, .string ⟨#[]⟩, .slice none 0 0, .int .i64 0, .int .i64 0, .int .i64 0, .slice none 0 0])) n).toList o w cur hg (by omega)
  obtain ⟨m, rfl⟩ : ∃ m, n = m + 1 := ⟨n - 1, by omega⟩
  refine ⟨_, fun ty => ?_, ⟨cur2, h2, h3⟩, h4⟩
  simp [Builtin.clear_, run_underlying Try.underlying22, hv, hst]

def DelSt (l : List RC) (key : ByteArray) (g cap K J : Nat) (cur : Array Value) (w : World) : Prop :=
  w.heap[g]? = some (.cells cur 30) ∧ cur.size = cap * 8 ∧ ((l.take J).filter (RC.isOf key)).length = K ∧ CellsAt cur 0 ((l.take J).filter (RC.isOf key)) ∧ CellsAt cur J (l.drop J)
theorem filter_take_succ (l : List RC) (p : RC → Bool) (J : Nat) (c : RC) (h : l[J]? = some c) : (l.take (J + 1)).filter p = (l.take J).filter p ++ (if p c = true then [c] else []) := by
  rw [List.take_add_one, h, List.filter_append]
  congr 1
  simp only [Option.toList_some, List.filter_cons, List.filter_nil]
theorem cells_at8 {w : World} {g : Nat} {cur : Array Value} {ty : TypeId} {J : Nat} {l : List RC} {c : RC} (hw : w.heap[g]? = some (.cells cur ty)) (h : CellsAt cur J (l.drop J)) (hc : l[J]? = some c) :
    w.cell? ⟨g, J * 8, none⟩ = some (.int .i64 c.cl) ∧ w.cell? ⟨g, J * 8 + 1, none⟩ = some (.int .u8 c.kd) ∧ w.cell? ⟨g, J * 8 + 2, none⟩ = some (.string c.key) ∧ w.cell? ⟨g, J * 8 + 3, none⟩ = some (.slice c.va c.vl c.vc) ∧
    w.cell? ⟨g, J * 8 + 4, none⟩ = some (.int .i64 c.fr) ∧ w.cell? ⟨g, J * 8 + 5, none⟩ = some (.int .i64 c.to) ∧ w.cell? ⟨g, J * 8 + 6, none⟩ = some (.int .i64 c.co) ∧ w.cell? ⟨g, J * 8 + 7, none⟩ = some (.slice c.ga c.gl c.gc) := by
  have h0 : (l.drop J)[0]? = some c := by rw [List.getElem?_drop]; simpa using hc
  have hh : ∀ j u, c.cells[j]? = some u → w.cell? ⟨g, J * 8 + j, none⟩ = some u := fun j u hj => by
    have h1 := h 0 c j u h0 hj
    have h2 : w.cell? ⟨g, J * 8 + j, none⟩ = cur[J * 8 + j]? := by
      unfold World.cell?
      simp only [hw]
      rfl
    rw [h2]
    simpa using h1
  exact ⟨hh 0 _ rfl, hh 1 _ rfl, hh 2 _ rfl, hh 3 _ rfl, hh 4 _ rfl, hh 5 _ rfl, hh 6 _ rfl, hh 7 _ rfl⟩

set_option maxRecDepth 100000 in
set_option maxHeartbeats 2000000 in
theorem delete_any (v : Value) (n : Nat) (l : List RC) (key : ByteArray) (kb B : Nat) (w : World) (ho : w.ownsRow B 30 8 v n (flat l)) (hl : l.length ≤ 1000) (hkb : kb < B) (hBw : B ≤ w.heap.size) (hkey : w.cell? ⟨kb, 0, none⟩ = some (.string key)) :
    Calls Try.prog 36 #[v, .func (.func 37) #[] #[.pointer (some ⟨kb, 0, none⟩)]] w (DelPost l key B w) := by
  have hrow := RowRd.of_owns ho
  have hkw : kb < w.heap.size := by omega
  have HIDX := Lib.hid (index_of v l (fun c => !c.isOf key) kb w hrow hl (fun c W hb => of1_any c key kb W ((hb.cell (p := ⟨kb, 0, none⟩) hkw).trans hkey) (Nat.lt_of_lt_of_le hkw hb.size)))
  have HROW := Lib.hid hrow
  have HO := Lib.hid ho
  have HKEY := Lib.hid hkey
  clear hrow ho hkey
  go_enter Try.func36, Try.ntmps36
  go_upto_region 2 with (go_at_call 32; (with_reducible refine HIDX.out.mono ?_); rintro e w1 ⟨r, rfl, hb1, hr⟩)
  have HR := Lib.hid hr
  clear hr
  by_cases hr1 : r = -1
  · have HFA : Hid (l.filter (RC.isOf key) = l) := Lib.hid (by
      rcases HR.out with ⟨_, h⟩ | ⟨I, h, _⟩
      · refine List.filter_eq_self.2 fun c hc => ?_
        obtain ⟨i, hi⟩ := List.getElem?_of_mem hc
        have := h i c hi
        simpa using this
      · omega)
    subst hr1
    go_wp2
    go_ret
    exact ⟨v, rfl, by rw [HFA.out]; exact HROW.out.below hb1, hb1.mono hBw⟩
  · obtain ⟨I, hI, hIl, HNO, HYES⟩ : ∃ I : Nat, r = I ∧ I < l.length ∧ Hid (∀ (i : Nat) c, i < I → l[i]? = some c → (!c.isOf key) = false) ∧ Hid (∀ c, l[I]? = some c → (!c.isOf key) = true) := by
      rcases HR.out with ⟨h, _⟩ | ⟨I, h1, h2, h3, h4⟩
      · exact absurd h hr1
      · exact ⟨I, h1, h2, Lib.hid h3, Lib.hid h4⟩
    subst hI
    clear hr1 HR
    have hn : l.length = n := by have := HO.out.1; rw [flat_length] at this; omega
    subst hn
    obtain ⟨g, cap, cur, rfl, hg, hcur, hcap, hm, hsz⟩ : ∃ g cap cur, v = .slice (some ⟨g, 0, none⟩) l.length cap ∧ B ≤ g ∧ w.heap[g]? = some (.cells cur 30) ∧ l.length ≤ cap ∧ cap ≤ maxLen ∧ cur.size = cap * 8 := by
      rcases HO.out.2 with ⟨_, h2⟩ | ⟨g, cap, cur, rfl, h2, h3, h4, h5, h6, h7⟩
      · omega
      · exact ⟨g, cap, cur, rfl, h2, h3, h4, h5, h6⟩
    have fneg : ((I : Int) == -1) = false := beq_false_of_ne (by omega)
    go_upto_region 4 with fail
    go_wp2
    have HST0 : Hid (DelSt l key g cap I (I + 1) cur w1) := Lib.hid (by
      have hc1 := (hb1.block g (lt_of_heap hcur)).trans hcur
      have hca := CellsAt.of_row (HROW.out.below hb1) hc1
      obtain ⟨c, hc⟩ : ∃ c, l[I]? = some c := ⟨_, List.getElem?_eq_getElem hIl⟩
      have hft : (l.take (I + 1)).filter (RC.isOf key) = l.take I := by
        rw [filter_take_succ l _ I c hc, if_neg (by have := HYES.out c hc; simpa using this), List.append_nil]
        refine List.filter_eq_self.2 fun d hd => ?_
        obtain ⟨i, hi⟩ := List.getElem?_of_mem hd
        rw [List.getElem?_take] at hi
        split at hi
        · have := HNO.out i d (by assumption) hi
          simpa using this
        · cases hi
      refine ⟨hc1, hsz, ?_, ?_, hca.drop _⟩
      · rw [hft, List.length_take]; omega
      · rw [hft]; exact hca.take I)
    have hBg : B ≤ g := hg
    have hB1 : Below B w w1 := hb1.mono hBw
    clear hcur hsz HNO HYES HIDX HO hb1 hg
    go_loopw [5, 6] (fun iv jv wr => ∃ (K J : Nat) (cur' : Array Value), iv = .int .i64 K ∧ jv = .int .i64 J ∧ J ≤ l.length ∧ K < J ∧ Hid (DelSt l key g cap K J cur' wr) ∧ Below B w wr) (fun _ j _ => l.length - (intOf j).toNat)
    case atStart => exact ⟨I, I + 1, cur, rfl, by go_num, by omega, by omega, HST0, hB1⟩
    case round =>
      obtain ⟨K, J, cur', rfl, rfl, hJ, hKJ, hSt, hB⟩ := hrel
      obtain ⟨hcu, hsz, hfl, hF, hR⟩ := hSt.out
      by_cases hlt : J < l.length
      · obtain ⟨c, hc⟩ : ∃ c, l[J]? = some c := ⟨_, List.getElem?_eq_getElem hlt⟩
        obtain ⟨c0, c1, c2, c3, c4, c5, c6, c7⟩ := cells_at8 hcu hR hc
        have hgr := lt_of_heap hcu
        have HC := Lib.hid hc
        have HFT := Lib.hid (filter_take_succ l (RC.isOf key) J c hc)
        have HFL := Lib.hid hfl
        have HF := Lib.hid hF
        have HRS := Lib.hid hR
        have HSZ := Lib.hid hsz
        have hKc : K * 8 + 8 ≤ cur'.size := by rw [hsz]; omega
        have HKC := Lib.hid hKc
        clear hc hfl hF hR hKc hsz
        go_upto_region 8 with fail
        generalize hw2 : wr.alloc (.cells #[.int .i64 c.cl, .int .u8 c.kd, .string c.key, .slice c.va c.vl c.vc, .int .i64 c.fr, .int .i64 c.to, .int .i64 c.co, .slice c.ga c.gl c.gc] 30) = W
        have hBW : Below B w W := by rw [← hw2]; exact hB.alloc (by omega) _
        have hX : W.heap[wr.heap.size]? = some (.cells #[.int .i64 c.cl, .int .u8 c.kd, .string c.key, .slice c.va c.vl c.vc, .int .i64 c.fr, .int .i64 c.to, .int .i64 c.co, .slice c.ga c.gl c.gc] 30) := by rw [← hw2]; exact heap_newA _ _
        have hcW : W.heap[g]? = some (.cells cur' 30) := by rw [← hw2]; exact keepA hcu _
        obtain ⟨x0, x1, x2, x3, x4, x5, x6, x7⟩ := cells8 hX
        have hbx := lt_of_heap hX
        clear hw2 hcu hSt c0 c1 c2 c3 c4 c5 c6 c7 hB
        have hgX : g < wr.heap.size := hgr
        clear hgr
        generalize wr.heap.size = B7 at *
        clear wr
        have HCALL := Lib.hid (of1_any c key kb W ((hBW.cell (p := ⟨kb, 0, none⟩) hkb).trans HKEY.out) (by have := lt_of_heap hcW; omega))
        obtain ⟨pc, hpc⟩ : ∃ x, x = c.isOf key := ⟨_, rfl⟩
        rw [← hpc] at HCALL
        have HPC := Lib.hid hpc
        have HX := Lib.hid hX
        have HCW := Lib.hid hcW
        clear hpc hX hcW
        go_upto_region 9 with (go_at_call 37; (with_reducible refine HCALL.out.mono ?_); rintro e wc ⟨rfl, hbc⟩; cases pc)
        · have hcc := (hbc.block g (lt_of_heap HCW.out)).trans HCW.out
          have hST2 : DelSt l key g cap K (J + 1) cur' wc := by
            have e9 : (l.take (J + 1)).filter (RC.isOf key) = (l.take J).filter (RC.isOf key) := by rw [HFT.out, ← HPC.out]; simp
            exact ⟨hcc, HSZ.out, by rw [e9]; exact HFL.out, by rw [e9]; exact HF.out, HRS.out.next⟩
          have HST2 := Lib.hid hST2
          have hB2 := hBW.trans (hbc.mono (by have := hBW.size; omega))
          clear hcc hST2
          go_roundw
          case rel => exact ⟨K, J + 1, cur', rfl, by go_num, by omega, by omega, HST2, hB2⟩
          case measure => simp [intOf]; omega
        · have hcc := (hbc.block g (lt_of_heap HCW.out)).trans HCW.out
          have hB2 := hBW.trans (hbc.mono (by have := hBW.size; omega))
          have hx7 := (hbc.block B7 hbx).trans HX.out
          have hb7 : B7 < wc.heap.size := lt_of_heap hx7
          have hne7 : B7 ≠ g := by omega
          have hz : ∀ i, i < 8 → ∃ z, cur'[K * 8 + i]? = some z := fun i hi => ⟨_, Array.getElem?_eq_getElem (by have := HKC.out; omega)⟩
          obtain ⟨z0, g0⟩ := hz 0 (by omega)
          obtain ⟨z1, g1⟩ := hz 1 (by omega)
          obtain ⟨z2, g2⟩ := hz 2 (by omega)
          obtain ⟨z3, g3⟩ := hz 3 (by omega)
          obtain ⟨z4, g4⟩ := hz 4 (by omega)
          obtain ⟨z5, g5⟩ := hz 5 (by omega)
          obtain ⟨z6, g6⟩ := hz 6 (by omega)
          obtain ⟨z7, g7⟩ := hz 7 (by omega)
          rw [Nat.add_zero] at g0
          obtain ⟨w5, rfl, hz5, hp⟩ := put_of hcc
          have h7 := hp (fun w => w.heap[B7]? = some (.cells #[.int .i64 c.cl, .int .u8 c.kd, .string c.key, .slice c.va c.vl c.vc, .int .i64 c.fr, .int .i64 c.to, .int .i64 c.co, .slice c.ga c.gl c.gc] 30)) hx7
          have hB5 := hp (fun w' => Below B w w') hB2
          obtain ⟨y0, y1, y2, y3, y4, y5, y6, y7⟩ := cells8 h7
          rw [size_putBlk] at hb7
          clear x0 x1 x2 x3 x4 x5 x6 x7 hcc hx7 h7 hp hz hbc hB2
          have HST2 : Hid (DelSt l key g cap (K + 1) (J + 1) (set8 cur' (K * 8) c) (putBlk w5 g (.cells (set8 cur' (K * 8) c) 30))) := Lib.hid (by
            have e9 : (l.take (J + 1)).filter (RC.isOf key) = (l.take J).filter (RC.isOf key) ++ [c] := by rw [HFT.out, ← HPC.out]; simp
            have hp8 := HF.out.push (c := c) (by rw [HFL.out]; exact HKC.out)
            rw [HFL.out] at hp8
            exact ⟨heap_putBlk _ hz5, by rw [set8_size]; exact HSZ.out, by rw [e9, List.length_append, HFL.out]; rfl, by rw [e9]; exact hp8, HRS.out.rest (by omega)⟩)
          have HB5 := Lib.hid (bel_putBlk hB5 hBg (.cells (set8 cur' (K * 8) c) 30))
          go_wp2
          go_roundw
          case rel => exact ⟨K + 1, J + 1, set8 cur' (K * 8) c, by go_num, by go_num, by omega, by omega, HST2, HB5.out⟩
          case measure => simp [intOf]; omega
      · obtain rfl : J = l.length := by omega
        have htl : l.take l.length = l := List.take_length
        rw [htl] at hfl hF
        obtain ⟨w9, hclr, ⟨cur2, hc2, hk2⟩, hg9⟩ := clear_calls wr g (K * 8) (l.length - K) (cap - K) cur' hcu (by omega) (by rw [hsz]; omega)
        have hB9 : Below B w w9 := hB.grown hg9 (by have := hB.size; omega) (fun k hk => by cases hk; exact hBg)
        have hF2 : CellsAt cur2 0 (l.filter (RC.isOf key)) := by
          intro t c j u ht hj
          have h1 := hF t c j u ht hj
          have h2 := cells_lt hj
          have h3 : t < (l.filter (RC.isOf key)).length := (List.getElem?_eq_some_iff.1 ht).1
          rw [hk2 _ (by omega)]
          exact h1
        have HROW2 := Lib.hid (hF2.row hc2 (cap := cap) (by omega))
        have HFL := Lib.hid hfl
        clear hF hF2 hc2 hk2 hfl hSt hR hcu htl hg9
        have hcK : ¬ cap = K := by omega
        go_wp2
        go_ret
        exact ⟨_, rfl, by have := HROW2.out; rw [HFL.out] at this; exact this, hB9⟩
end Go.Proofs.Ytggecoekoilahaa
