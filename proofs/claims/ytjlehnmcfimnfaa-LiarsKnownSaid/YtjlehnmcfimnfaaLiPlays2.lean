/-
  The law LiarsPlays: its walk.
-/
import Derived.Test.YtjlehnmcfimnfaaLiPlays
import Derived.Deep.CutBlock
namespace Go.Proofs.Ytjlehnmcfimnfaa
open Go.RowKit
set_option linter.unusedSimpArgs false
set_option linter.unusedVariables false

/-- Both tallies, counted alike. -/
structure Both (w wx : World) (tb bm tr g n : Nat) (C : Nat → Nat) : Prop where
  pt : PT wx tb bm n C
  rt : RT wx tr g n C
  bel : Below w.heap.size w wx
/-- Both tallies, and the call that is done. -/
structure St (w wx : World) (tb bm tr g n xb : Nat) (c : LC) (C : Nat → Nat) : Prop where
  bo : Both w wx tb bm tr g n C
  xc : wx.heap[xb]? = some (.cells #[.int .u8 c.kd, .slice c.a c.ln c.cp, .int .i64 c.n] 42 (0, 0))
  xw : w.heap.size ≤ xb
theorem St.cells {w wx : World} {tb bm tr g n xb : Nat} {c : LC} {C : Nat → Nat} (h : St w wx tb bm tr g n xb c C) :
    wx.cell? ⟨xb, 0, none⟩ = some (.int .u8 c.kd) ∧ wx.cell? ⟨xb, 1, none⟩ = some (.slice c.a c.ln c.cp) ∧ wx.cell? ⟨xb, 2, none⟩ = some (.int .i64 c.n) := by
  refine ⟨?_, ?_, ?_⟩ <;> rw [cell_of_row _ _ _ _ _ (0, 0) h.xc] <;> rfl
theorem St.below {w wx w' : World} {tb bm tr g n xb : Nat} {c : LC} {C : Nat → Nat} (h : St w wx tb bm tr g n xb c C) (hb : Below wx.heap.size wx w') : St w w' tb bm tr g n xb c C :=
  ⟨⟨h.bo.pt.below hb, h.bo.rt.below hb, h.bo.bel.trans (hb.mono h.bo.bel.size)⟩, keepB hb h.xc, h.xw⟩
theorem St.drew {w wx : World} {tb bm tr g n xb : Nat} {c : LC} {C : Nat → Nat} (h : St w wx tb bm tr g n xb c C) : St w wx.drew tb bm tr g n xb c C :=
  ⟨⟨h.bo.pt.drew, h.bo.rt.drew, h.bo.bel.drew⟩, h.xc, h.xw⟩
/-- Behind a step of both tallies. -/
theorem St.both {w wx w1 w2 : World} {tb bm tr g n xb : Nat} {c : LC} {C D : Nat → Nat} (h : St w wx tb bm tr g n xb c C) (hP : PT w1 tb bm n D) (h1 : wx.grownBy w1 (some bm)) (hQ : RT w2 tr g n D) (h2 : w1.grownBy w2 (some g))
    (n1 : g ≠ tb) (n2 : g ≠ bm) (n3 : xb ≠ bm) (n4 : xb ≠ g) (b1 : w.heap.size ≤ bm) (b2 : w.heap.size ≤ g) : St w w2 tb bm tr g n xb c D :=
  ⟨⟨hP.kept h2 n1 n2, hQ, (h.bo.bel.grown h1 h.bo.bel.size (fun k hk => by cases hk; exact b1)).grown h2 (Nat.le_trans h.bo.bel.size h1.size) (fun k hk => by cases hk; exact b2)⟩,
    by rw [h2.block xb (Nat.lt_of_lt_of_le (lt_of_heap h.xc) h1.size) (fun e => n4 (by cases e; rfl)), h1.block xb (lt_of_heap h.xc) (fun e => n3 (by cases e; rfl))]; exact h.xc, h.xw⟩

theorem St.row {w wx w' : World} {tb bm tr g n xb r B : Nat} {c : LC} {C : Nat → Nat} (h : St w wx tb bm tr g n xb c C) (hg : wx.grownBy w' (some r)) (hB : B ≤ r) (h1 : tb < B ∧ bm < B ∧ tr < B ∧ g < B ∧ xb < B ∧ w.heap.size ≤ B) : St w w' tb bm tr g n xb c C :=
  ⟨⟨h.bo.pt.kept hg (by omega) (by omega), h.bo.rt.kept hg (by omega) (by omega), h.bo.bel.grown hg h.bo.bel.size (fun k hk => by cases hk; omega)⟩,
    (hg.block xb (lt_of_heap h.xc) (fun e => by have : xb = r := by cases e; rfl
                                                omega)).trans h.xc, h.xw⟩
/-- A row of numbers stands through a step on another block. -/
theorem IRd.row_ne {w w' : World} {r : Nat} {v : Value} {l : List Int} (h : IRd w v l) (hg : w.grownBy w' (some r)) (hne : l ≠ [] → ∀ b o m, v = .slice (some ⟨b, o, none⟩) l.length m → b ≠ r) : IRd w' v l := by
  obtain ⟨a, cap, h1, h2, h3⟩ := h
  refine ⟨a, cap, h1, h2, fun hn => ?_⟩
  obtain ⟨b, o, h4, h5, h6⟩ := h3 hn
  refine ⟨b, o, h4, Nat.lt_of_lt_of_le h5 hg.size, fun i c hi j u hj => ?_⟩
  have h7 := h6 i c hi j u hj
  have hb : b ≠ r := hne hn b o cap (by rw [h1, h4])
  have h8 : w'.heap[b]? = w.heap[b]? := hg.block b h5 (fun e => hb (by cases e; rfl))
  unfold World.cell? at *
  rw [h8]
  exact h7
/-- A row of our own that is written over. -/
def OwnL (B : Nat) (w : World) (a : Option Addr) (n : Nat) : Prop := 0 < n → ∃ g cur, a = some ⟨g, 0, none⟩ ∧ B ≤ g ∧ w.heap[g]? = some (.cells cur 3 (0, 0)) ∧ n ≤ cur.size
theorem OwnL.of {B : Nat} {w : World} {a : Option Addr} {n cap : Nat} {l : List Int} (h : OwnI B w (.slice a n cap) l) : OwnL B w a n := by
  rcases h with ⟨h1, h2⟩ | ⟨g, cap, cur, h1, h2, h3, h4, h5, h6⟩
  · cases h1
    exact fun h => by omega
  · cases h1
    exact fun _ => ⟨g, cur, rfl, h2, h3, by omega⟩
theorem OwnL.mono {B B' : Nat} {w : World} {a : Option Addr} {n : Nat} (h : OwnL B w a n) (hb : B' ≤ B) : OwnL B' w a n := fun h0 => by
  obtain ⟨g, cur, h1, h2, h3⟩ := h h0
  exact ⟨g, cur, h1, by omega, h3⟩
theorem OwnL.below {B : Nat} {w w' : World} {a : Option Addr} {n : Nat} (h : OwnL B w a n) (hb : Below w.heap.size w w') : OwnL B w' a n := fun h0 => by
  obtain ⟨g, cur, h1, h2, h3, h4⟩ := h h0
  exact ⟨g, cur, h1, h2, keepB hb h3, h4⟩
theorem OwnL.set {B : Nat} {w : World} {a : Option Addr} {n : Nat} (h : OwnL B w a n) (k i : Nat) (u : Value) : OwnL B (w.setCell ⟨k, i, none⟩ u) a n := fun h0 => by
  obtain ⟨g, cur, h1, h2, h3, h4⟩ := h h0
  by_cases e : k = g
  · subst e
    exact ⟨k, _, h1, h2, heap_set_same h3 i u, by simpa using h4⟩
  · exact ⟨g, cur, h1, h2, by rw [Below.heap_setCell _ _ _ _ (fun e2 => e e2.symm)]; exact h3, h4⟩
theorem OwnI.form {B : Nat} {w : World} {v : Value} {l : List Int} (h : OwnI B w v l) : ∃ a cap, v = .slice a l.length cap := by
  rcases h with ⟨rfl, rfl⟩ | ⟨g, cap, cur, rfl, h2⟩
  · exact ⟨none, 0, rfl⟩
  · exact ⟨_, _, rfl⟩
theorem OwnL.at {B : Nat} {w : World} {a : Option Addr} {n : Nat} (h : OwnL B w a n) {i : Nat} (hi : i < n) : ∃ g x, a = some ⟨g, 0, none⟩ ∧ B ≤ g ∧ w.cell? ⟨g, i, none⟩ = some x ∧ w.frozen? ⟨g, i, none⟩ = false := by
  obtain ⟨g, cur, h1, h2, h3, h4⟩ := h (by omega)
  exact ⟨g, cur[i]'(by omega), h1, h2, by rw [cell_of_row _ _ _ _ _ (0, 0) h3]; exact Array.getElem?_eq_getElem (by omega), by simp [World.frozen?, h3]⟩

set_option maxRecDepth 100000 in
set_option maxHeartbeats 4000000 in
theorem plays_any (a0 : Int) (v : Value) (l : List LC) (w : World) (h : CRd w v l) (hr : ∀ c ∈ l, c.rd w) :
    Calls Try.prog 4 #[.int .i64 a0, v] w fun e w' => e = .returned (.bool true) ∧ Below w.heap.size w w' := by
  obtain ⟨a, cap, rfl⟩ := h.form
  have HL := Lib.hid (large_any (.slice a l.length cap) l w h hr)
  have H := Lib.hid h
  have HR := Lib.hid hr
  clear h hr
  go_enter Try.func4, Try.ntmps4
  go_wp2_with fail
  refine HL.out.mono ?_
  rintro e w1 ⟨b, rfl, rfl, hsm⟩
  cases b
  case true =>
    go_wp2_with (go_at_call 7; refine (works_any _).mono ?_; rintro e w5 ⟨rfl, hb5⟩)
    go_ret
    exact ⟨rfl, hb5⟩
  case false =>
    obtain ⟨hl100, hl2⟩ := hsm rfl
    have HL2 := Lib.hid hl2
    clear hsm hl2 HL
    have hn := nodesN_b a0
    go_wp2_with fail
    refine (pnew_any a0 w).mono ?_
    rintro e w1 ⟨tb, bm, rfl, hP, htb, hbm, hb1⟩
    have hbm1 := hP.mp.lt
    have htb1 := lt_of_heap hP.tl
    go_wp2_with fail
    refine (rnew_any a0 w1).mono ?_
    rintro e w2 ⟨tr, g, rfl, hQ, htr, hg, hb2⟩
    have hP2 := hP.below hb2
    have hB2 := hb1.trans (hb2.mono hb1.size)
    have hs1 := hb1.size
    obtain ⟨n, hnn⟩ : ∃ n, n = nodesN a0 := ⟨_, rfl⟩
    rw [← hnn] at hP2 hQ hn
    have HBO : Hid (Both w w2 tb bm tr g n cz) := Lib.hid ⟨hP2, hQ, hB2⟩
    have hn2 : n ≤ 255 := hn.2.1
    have hne1 : bm ≠ tr := by omega
    have hne2 : g ≠ bm := by omega
    have hne3 : g ≠ tb := by omega
    have HBM : Hid (w.heap.size ≤ bm) := Lib.hid hbm
    have HG : Hid (w.heap.size ≤ g) := Lib.hid (by omega)
    have HNE := Lib.hid (And.intro hne2 hne3)
    have HTR : Hid (g ≠ tr) := Lib.hid (fun e => by
      have h1 := hQ.tl
      have h2 := hQ.row
      rw [← e, h2] at h1
      have h3 := congrArg (Option.map fun o => match o with | .cells cs _ _ => cs.size | _ => 0) h1
      have h4 := congrArg (Option.map fun o => match o with | .cells _ t _ => t | _ => 0) h1
      simp at h4)
    have HNT := Lib.hid hne1
    clear hP hb1 hb2 hP2 hQ hB2 hn hnn htr hg htb hbm hs1 hbm1 htb1 hne1 hne2 hne3
    go_upto_region 5 with fail
    go_loopg [7] l.length (fun gk i wr => ∃ (I : Nat) (C : Nat → Nat), I ≤ l.length ∧ gk = l.length - I ∧ i = .int .i64 I ∧ Hid (Both w wr tb bm tr g n C))
    case atStart => exact ⟨0, cz, by omega, rfl, rfl, HBO⟩
    case round =>
      obtain ⟨I, C, hI, rfl, rfl, hBo⟩ := hrel
      by_cases hlt : I < l.length
      · obtain ⟨c, hc⟩ : ∃ c, l[I]? = some c := ⟨_, List.getElem?_eq_getElem hlt⟩
        obtain ⟨-, hcap, b, o, rfl, hb, hat⟩ := SRd.at (H.out.below hBo.out.bel) hc
        have c0 : wr.cell? ⟨b, o + I * 3, none⟩ = some (.int .u8 c.kd) := hat 0 _ rfl
        have c1 : wr.cell? ⟨b, o + I * 3 + 1, none⟩ = some (.slice c.a c.ln c.cp) := hat 1 _ rfl
        have c2 : wr.cell? ⟨b, o + I * 3 + 2, none⟩ = some (.int .i64 c.n) := hat 2 _ rfl
        have HC := Lib.hid hc
        clear hat hc HBO
        go_upto_region 7 with fail
        go_cut [8] (fun s wx => s = .pointer (some ⟨wr.heap.size, 0, none⟩) ∧ Hid (St w wx tb bm tr g n wr.heap.size c C))
        case first =>
          go_wp2_with fail
          go_meet
          exact ⟨rfl, Lib.hid ⟨⟨hBo.out.pt.below ((Below.refl _ _).alloc (Nat.le_refl _) _), hBo.out.rt.below ((Below.refl _ _).alloc (Nat.le_refl _) _), hBo.out.bel.alloc hBo.out.bel.size _⟩, heap_newA _ _, hBo.out.bel.size⟩⟩
        case rest =>
          obtain ⟨rfl, HST⟩ := hcut
          have HX1 : Hid (bm < wr.heap.size ∧ g < wr.heap.size) := Lib.hid ⟨hBo.out.pt.mp.lt, lt_of_heap hBo.out.rt.row⟩
          obtain ⟨xb, hxb⟩ : ∃ xb, wr.heap.size = xb := ⟨_, rfl⟩
          obtain ⟨w7, hw7⟩ : ∃ w7 : World, w7 = wc := ⟨_, rfl⟩
          rw [hxb] at HST HX1 ⊢
          rw [← hw7] at HST ⊢
          have HRC := Lib.hid (HR.out c (List.mem_of_getElem? HC.out))
          have HLC := Lib.hid (HL2.out c (List.mem_of_getElem? HC.out))
          clear c0 c1 c2 hcap hb hBo hxb hw7
          obtain ⟨hk1, hk2⟩ := HRC.out.2.1
          obtain ⟨x0, x1, x2⟩ := HST.out.cells
          go_upto_block 2 with fail
          go_cut [] (fun wx => ∃ D : Nat → Nat, Hid (St w wx tb bm tr g n xb c D))
          case first =>
            have hxl := lt_of_heap HST.out.xc
            by_cases h3 : c.kd % 5 = 3
            · skip
              -- <K3
              have h3b : (c.kd % 5 == 3) = true := by simpa using h3
              have H3 := Lib.hid h3
              clear h3
              obtain ⟨kp, hkp⟩ : ∃ kp : Nat → Bool, ∀ k, kp k = true ↔ k < w7.heap.size ∧ k ≠ bm ∧ k ≠ g := ⟨fun k => decide (k < w7.heap.size ∧ k ≠ bm ∧ k ≠ g), by simp⟩
              have hkx : kp xb = true := (hkp xb).2 ⟨hxl, by have := HX1.out; omega, by have := HX1.out; omega⟩
              have HKP := Lib.hid hkp
              clear hkp
              go_upto_region 18 with fail
              have hgr := fun (w0 W : World) (p : Addr) (hp : (fun k => kp k = true) p.block) => graft_cell (w0 := w0) (keep := (fun k => kp k = true)) W hp
              refine wp_region_tree (fun k => kp k = true) [3, 7] (.step 0 (.step 1 (.step 2 (.step 4 (.step 5 (.step 6 (.step 3 (.step 7 (.step 8 .done))))))))) (by kernel_rfl) (by kernel_rfl) ?_
              simp only [slimTr, slimStep, Oper.slim, List.contains_cons, List.contains_nil, Option.map_none, Option.map_some, List.getElem?_toArray, List.getElem?_cons_zero, List.getElem?_cons_succ, Option.bind_some, beq_self_eq_true, Bool.or_false, Nat.reduceBEq, Nat.reduceAdd, Nat.zero_add]
              repeat ((with_reducible refine wpSlimT_step (fun K hK => ?_)); go_simp; first | (refine hK _ _ ?_; clear hK K) | (refine ⟨by (intro kk hkk; first | (simp (disch := (simp; omega)) only [hp_drew, hp_drewN, hp_alloc, hp_set]; done) | (simp [hp_drew, hp_drewN, hp_alloc_if, hkk]; done) | fail), hK _ _ ?_⟩; clear hK K)| (go_at_call 18; (with_reducible refine (pforget_any tb bm n C c.n _ HST.out.drew.bo.pt).mono ?_); rintro e wc ⟨rfl, hP1, hg1⟩; have HQ1 := Lib.hid (HST.out.drew.bo.rt.kept hg1 HNT.out (fun e => HNE.out.1 e.symm)); refine ⟨_, rfl, (fun kk hkk => hg1.block kk ((HKP.out kk).1 hkk).1 (fun e => ((HKP.out kk).1 hkk).2.1 (by cases e; rfl))), hK _ _ ?_⟩; clear hK K) | (go_at_call 19; (with_reducible refine (rforget_any tr g n C c.n _ HQ1.out).mono ?_); rintro e wd ⟨rfl, hQ2, hg2⟩; refine ⟨_, rfl, (fun kk hkk => (hg2.block kk (Nat.lt_of_lt_of_le ((HKP.out kk).1 hkk).1 hg1.size) (fun e => ((HKP.out kk).1 hkk).2.2 (by cases e; rfl))).trans (hg1.block kk ((HKP.out kk).1 hkk).1 (fun e => ((HKP.out kk).1 hkk).2.1 (by cases e; rfl)))), hK _ _ ?_⟩; clear hK K))
              refine wpSlimT_done ?_
              clear hgr
              have HF := Lib.hid (HST.out.drew.both hP1 hg1 hQ2 hg2 HNE.out.2 HNE.out.1 (by have := HX1.out; omega) (by have := HX1.out; omega) HBM.out HG.out)
              clear hP1 hg1 hQ2 hg2
              go_wp2
              go_meet
              exact ⟨_, HF⟩
              -- K3>
            · have h3b : (c.kd % 5 == 3) = false := by simpa using h3
              clear h3
              have HIR := Lib.hid (HRC.out.1.below HST.out.bo.bel)
              by_cases h4 : c.kd % 5 = 4
              · skip
                -- <K4
                have h4b : (c.kd % 5 == 4) = true := by simpa using h4
                have H4 := Lib.hid h4
                clear h4
                go_upto_region 22 with fail
                go_loopg [9] 2 (fun gk i wr => ∃ J : Nat, J ≤ 2 ∧ gk = 2 - J ∧ i = .int .i64 J ∧ Hid (St w wr tb bm tr g n xb c C))
                case atStart => exact ⟨0, by omega, rfl, rfl, HST⟩
                case round =>
                  clear HST x0 x1 x2 hxl HIR
                  obtain ⟨J, hJ, rfl, rfl, HST⟩ := hrel
                  obtain ⟨w8, hw8⟩ : ∃ w8 : World, w8 = wr := ⟨_, rfl⟩
                  rw [← hw8] at HST ⊢
                  clear hw8
                  by_cases hJ2 : J < 2
                  · have HIR := Lib.hid (HRC.out.1.below HST.out.bo.bel)
                    obtain ⟨x0, x1, x2⟩ := HST.out.cells
                    have hxl := lt_of_heap HST.out.xc
                    have HLL := Lib.hid (HLC.out)
                    go_upto_region 24 with fail
                    have hgr := fun (w0 W : World) (p : Addr) (hp : (fun k => k < w8.heap.size) p.block) => graft_cell (w0 := w0) (keep := (fun k => k < w8.heap.size)) W hp
                    refine wp_region_tree (fun k => k < w8.heap.size) [3, 9] (.step 0 (.step 1 (.step 2 (.step 4 (.step 5 (.step 6 (.step 7 (.step 8 (.step 3 (.step 9 (.step 10 (.step 11 .done)))))))))))) (by kernel_rfl) (by kernel_rfl) ?_
                    simp only [slimTr, slimStep, Oper.slim, List.contains_cons, List.contains_nil, Option.map_none, Option.map_some, List.getElem?_toArray, List.getElem?_cons_zero, List.getElem?_cons_succ, Option.bind_some, beq_self_eq_true, Bool.or_false, Nat.reduceBEq, Nat.reduceAdd, Nat.zero_add]
                    repeat ((with_reducible refine wpSlimT_step (fun K hK => ?_)); go_simp; first | (refine hK _ _ ?_; clear hK K) | (refine ⟨by (intro kk hkk; first | (simp (disch := (simp; omega)) only [hp_drew, hp_drewN, hp_alloc, hp_set]; done) | (simp [hp_drew, hp_drewN, hp_alloc_if, hkk]; done) | fail), hK _ _ ?_⟩; clear hK K)| (go_at_call 13; (with_reducible refine (porder_own tb bm n C _ c.l _ HST.out.drew.bo.pt (HIR.out.below ((Below.refl _ _).drew)) (by have := HLL.out; omega)).mono ?_); rintro e wa ⟨va, R, rfl, ho1, hw1, hba⟩; refine ⟨_, rfl, (fun kk hkk => hba.block kk (by simpa using hkk)), hK _ _ ?_⟩; clear hK K) | (go_at_call 10; (with_reducible refine (ppick_own tb bm n C _ c.l c.n _ (HST.out.drew.bo.pt.below hba) ((HIR.out.below ((Below.refl _ _).drew)).below hba) (by have := HLL.out; omega)).mono ?_); rintro e wb ⟨vb, S, rfl, ho2, hw2, hbb⟩; refine ⟨_, rfl, (fun kk hkk => (hbb.block kk (by have := hba.size; simp at this hkk; omega)).trans (hba.block kk (by simpa using hkk))), hK _ _ ?_⟩; clear hK K))
                    refine wpSlimT_done ?_
                    clear hgr
                    have hB1 : Below w8.heap.size w8 wb := (((Below.refl w8.heap.size w8).drew).trans hba).trans (hbb.mono hba.size)
                    have hs8 := hba.size
                    change w8.heap.size ≤ wa.heap.size at hs8
                    obtain ⟨aa, ca, hva⟩ := hw1.form
                    obtain ⟨ab, cb, hvb⟩ := hw2.form
                    subst hva hvb
                    have hR := ho1.len
                    obtain ⟨S2, hS2⟩ : ∃ S2, S2 = S.take c.n.toNat := ⟨_, rfl⟩
                    rw [← hS2] at hw2 ⊢
                    have HSS := Lib.hid hS2
                    have hSl : S2.length ≤ n := by rw [hS2, List.length_take]; have := ho2.len; omega
                    have HRA := Lib.hid (hw1.rd.below hbb)
                    have HRB := Lib.hid hw2.rd
                    have HOA := Lib.hid ((OwnL.of hw1).below hbb)
                    have HOB := Lib.hid ((OwnL.of hw2).mono hs8)
                    have HO1 := Lib.hid ho1
                    have HO2 := Lib.hid ho2
                    have HS1 := Lib.hid (HST.out.below hB1)
                    have HB1 := Lib.hid hB1
                    have HIR1 := Lib.hid (HIR.out.below hB1)
                    obtain ⟨y0, y1, y2⟩ := HS1.out.cells
                    clear hw1 hw2 ho1 ho2 hB1 hba hbb hS2 x0 x1 x2
                    go_wp2_with fail
                    refine (rorder_any tr g n C _ c.l _ HS1.out.bo.rt HIR1.out (by have := HLL.out; omega)).mono ?_
                    rintro e w9 ⟨v9, R2, rfl, ho3, hr3, hb3⟩
                    obtain rfl := HO1.out.unique ho3
                    have HB3 := Lib.hid hb3
                    clear ho3
                    go_wp2_with fail
                    refine (same_any _ v9 R R _ (HRA.out.below HB3.out) hr3 (by omega)).mono ?_
                    rintro e w10 ⟨he, hb10⟩
                    rw [decide_eq_true rfl] at he
                    subst he
                    have HB4 := Lib.hid (HB3.out.trans (hb10.mono HB3.out.size))
                    clear hr3 hb10 hb3 HB3
                    obtain ⟨y0, y1, y2⟩ := (HS1.out.below HB4.out).cells
                    go_wp2_with fail
                    refine (rpick_any tr g n C _ c.l c.n _ (HS1.out.below HB4.out).bo.rt (HIR1.out.below HB4.out) (by have := HLL.out; omega)).mono ?_
                    rintro e w11 ⟨v11, R2, rfl, ho3, hr3, hb3⟩
                    obtain rfl := HO2.out.unique ho3
                    rw [← HSS.out] at hr3
                    have HB5 := Lib.hid (HB4.out.trans (hb3.mono HB4.out.size))
                    clear ho3 hb3 HB4
                    go_wp2_with fail
                    refine (same_any _ v11 S2 S2 _ (HRB.out.below HB5.out) hr3 (by omega)).mono ?_
                    rintro e w12 ⟨he, hb10⟩
                    rw [decide_eq_true rfl] at he
                    subst he
                    have HB6 := Lib.hid (HB5.out.trans (hb10.mono HB5.out.size))
                    have HBB : Hid (Below w8.heap.size w8 w12) := Lib.hid (HB1.out.trans (HB6.out.mono HB1.out.size))
                    have HOA6 := Lib.hid (HOA.out.below HB6.out)
                    have HOB6 := Lib.hid (HOB.out.below HB6.out)
                    clear hr3 hb10 HB5 HRA HRB HOA HOB HO1 HO2 HS1 HIR1 HB6 HB1 HSS y0 y1 y2
                    go_upto_region 28 with fail
                    go_loopg [12] R.length (fun gk i wx => ∃ I2 : Nat, I2 ≤ R.length ∧ gk = R.length - I2 ∧ i = .int .i64 I2 ∧ Hid (OwnL w8.heap.size wx aa R.length) ∧ Hid (OwnL w8.heap.size wx ab S2.length) ∧ Hid (Below w8.heap.size w8 wx))
                    case atStart => exact ⟨0, by omega, rfl, rfl, HOA6, HOB6, HBB⟩
                    case round =>
                      clear HOA6 HOB6 HBB
                      obtain ⟨I2, hI2, rfl, rfl, hoa, hob, hBx⟩ := hrel
                      by_cases hlt2 : I2 < R.length
                      · obtain ⟨ga, xa, rfl, hga, ck, fk⟩ := hoa.out.at hlt2
                        go_wp2
                        go_roundg (R.length - (I2 + 1))
                        case measure => omega
                        case rel => exact ⟨I2 + 1, by omega, rfl, by go_num, Lib.hid (hoa.out.set _ _ _), Lib.hid (hob.out.set _ _ _), Lib.hid (hBx.out.setCell hga _)⟩
                      · go_upto_region 32 with fail
                        go_loopg [13] S2.length (fun gk i wx => ∃ I3 : Nat, I3 ≤ S2.length ∧ gk = S2.length - I3 ∧ i = .int .i64 I3 ∧ Hid (OwnL w8.heap.size wx ab S2.length) ∧ Hid (Below w8.heap.size w8 wx))
                        case atStart => exact ⟨0, by omega, rfl, rfl, hob, hBx⟩
                        case round =>
                          clear hoa hob hBx
                          obtain ⟨I3, hI3, rfl, rfl, hob, hBx⟩ := hrel
                          by_cases hlt3 : I3 < S2.length
                          · obtain ⟨ga, xa, rfl, hga, ck, fk⟩ := hob.out.at hlt3
                            go_wp2
                            go_roundg (S2.length - (I3 + 1))
                            case measure => omega
                            case rel => exact ⟨I3 + 1, by omega, rfl, by go_num, Lib.hid (hob.out.set _ _ _), Lib.hid (hBx.out.setCell hga _)⟩
                          · have HSN := Lib.hid (HST.out.below hBx.out)
                            clear hob hBx
                            go_wp2
                            go_roundg (2 - (J + 1))
                            case measure => omega
                            case rel => exact ⟨J + 1, by omega, rfl, by go_num, HSN⟩
                  · go_wp2
                    go_meet
                    exact ⟨_, HST⟩
                -- K4>
              · skip
                -- <KD
                have h4b : (c.kd % 5 == 4) = false := by simpa using h4
                clear h4
                have HNN := Lib.hid HRC.out.2.2
                have HLN := Lib.hid (SRd.cap_le HIR.out).1
                have HW7 : Hid (c.l ≠ [] → ∀ b o m, (Value.slice c.a c.l.length c.cp) = .slice (some ⟨b, o, none⟩) c.l.length m → b ≠ g ∧ b ≠ bm) := Lib.hid (fun hne b o m e => by
                  obtain ⟨a1, cap1, e1, -, h2⟩ := HRC.out.1
                  obtain ⟨b1, o1, e2, hb1, -⟩ := h2 hne
                  have e3 := (Value.slice.injEq ..).mp e
                  have e4 := (Value.slice.injEq ..).mp e1
                  have e5 : some (⟨b, o, none⟩ : Addr) = some ⟨b1, o1, none⟩ := e3.1.symm.trans (e4.1.trans e2)
                  cases e5
                  exact ⟨by have := HG.out; omega, by have := HBM.out; omega⟩)
                have HLL := Lib.hid (HLC.out)
                rw [HLN.out] at x1 HIR
                go_upto_region 10 with fail
                go_cut [14] (fun s wx => ∃ V : Value, V = s ∧ Hid (wx.ownsRow w7.heap.size 3 1 V c.l.length (c.l.map (Value.int .i64))) ∧ Hid (Below w7.heap.size w7 wx))
                case first =>
                  obtain ⟨ca, hca⟩ : ∃ ca, c.a = ca := ⟨_, rfl⟩
                  rw [hca] at x1
                  cases ca with
                  | none =>
                    have hcp := HNN.out hca
                    have hl0 : c.l = [] := by
                      refine Classical.byContradiction fun hne => ?_
                      obtain ⟨a1, cap1, e1, -, h2⟩ := HRC.out.1
                      obtain ⟨b1, o1, e2, hb1, -⟩ := h2 hne
                      have e4 := (Value.slice.injEq ..).mp e1
                      rw [hca, e2] at e4
                      exact absurd e4.1 (by simp)
                    rw [hcp, hl0] at x1
                    have HL0 := Lib.hid hl0
                    clear hcp hl0 hca
                    go_wp2_with fail
                    go_meet
                    exact ⟨_, rfl, Lib.hid (by rw [HL0.out]; exact World.ownsRow_nil _ _ _ _), Lib.hid (Below.refl _ _)⟩
                  | some A =>
                    obtain ⟨i0, hi, hz0, hz1, hz2⟩ := info_parts int_info
                    have HN : Hid (∀ (j : Nat) (u : Value), (c.l.map (Value.int .i64))[j]? = some u → w7.cell? (A.add j) = some u) := Lib.hid (fun j u hj => by
                      rw [List.getElem?_map] at hj
                      obtain ⟨x, hx⟩ : ∃ x, c.l[j]? = some x := by
                        cases h : c.l[j]? with
                        | none => rw [h] at hj; cases hj
                        | some x => exact ⟨x, rfl⟩
                      rw [hx] at hj
                      cases hj
                      obtain ⟨-, -, b1, o1, e2, hb1, h7⟩ := IRd.cell HIR.out hx
                      rw [hca] at e2
                      cases e2
                      unfold Addr.add
                      split
                      · rename_i e; subst e; exact h7
                      · exact h7)
                    have hll := HLL.out
                    clear hca
                    go_wp2_with (at_builtin; refine wpList_append_own _ rfl (.tmp 37) (.tmp 39) 25 rfl w7.heap.size 3 i0 (.int .i64 0) 1 8 Try.underlying25 hi hz0 hz1 hz2 rfl (by decide) (.slice none 0 0) 0 [] rfl (World.ownsRow_nil _ _ _ _) _ _ _ (c.l.map (Value.int .i64)) rfl (by simp) (by first | exact HN.out | simpa using HN.out) (by intro u hu; obtain ⟨y, _, rfl⟩ := List.mem_map.1 hu; rfl) (by unfold maxLen; omega) (by omega) (Nat.le_refl _) ?_; intro v1 w3 hown1 hgrow1 _)
                    go_meet
                    exact ⟨_, rfl, Lib.hid (by simpa using hown1), Lib.hid ((Below.refl _ _).grown hgrow1 (Nat.le_refl _) (fun k hk => by cases hk))⟩
                case rest =>
                  obtain ⟨V, rfl, hV, hBV⟩ := hcut
                  have hS8 := HST.out.below hBV.out
                  obtain ⟨w8, hw8⟩ : ∃ w8 : World, w8 = wc := ⟨_, rfl⟩
                  rw [← hw8] at hS8 hV hBV ⊢
                  have HS8 := Lib.hid hS8
                  have HIR8 := Lib.hid (HIR.out.below hBV.out)
                  have hs78 := hBV.out.size
                  obtain ⟨av, cv, hav⟩ := (IRd.of_owns hV.out).form
                  subst hav
                  have HV := hV
                  have hvb : ∀ k, (Value.slice av c.l.length cv).ownBlock = some k → w7.heap.size ≤ k := own_ge hV.out
                  have HVB := Lib.hid hvb
                  have hxl8 : xb < w8.heap.size := lt_of_heap hS8.xc
                  obtain ⟨D, hD⟩ : ∃ D, tlC n C c.l = D := ⟨_, rfl⟩
                  have HDD := Lib.hid hD
                  have hxb7 : xb < w7.heap.size := lt_of_heap HST.out.xc
                  have HLT7 : Hid (tb < w7.heap.size ∧ bm < w7.heap.size ∧ tr < w7.heap.size ∧ g < w7.heap.size ∧ xb < w7.heap.size ∧ w.heap.size ≤ w7.heap.size) := Lib.hid ⟨lt_of_heap HST.out.bo.pt.tl, HST.out.bo.pt.mp.lt, lt_of_heap HST.out.bo.rt.tl, lt_of_heap HST.out.bo.rt.row, lt_of_heap HST.out.xc, HST.out.bo.bel.size⟩
                  clear hw8 hS8 hV hvb x0 x1 x2 hxl HIR HST hD
                  obtain ⟨x0, x1, x2⟩ := HS8.out.cells
                  rw [HLN.out] at x1
                  obtain ⟨kp, hkp⟩ : ∃ kp : Nat → Bool, ∀ k, kp k = true ↔ k < w8.heap.size ∧ k ≠ bm ∧ k ≠ g := ⟨fun k => decide (k < w8.heap.size ∧ k ≠ bm ∧ k ≠ g), by simp⟩
                  have hkx : kp xb = true := (hkp xb).2 ⟨hxl8, by have := HX1.out; omega, by have := HX1.out; omega⟩
                  have HKP := Lib.hid hkp
                  clear hkp
                  go_upto_region 11 with fail
                  have hgr := fun (w0 W : World) (p : Addr) (hp : (fun k => kp k = true) p.block) => graft_cell (w0 := w0) (keep := (fun k => kp k = true)) W hp
                  refine wp_region_tree (fun k => kp k = true) [2, 6, 12] (.step 0 (.step 1 (.step 3 (.step 4 (.step 5 (.step 2 (.step 6 (.step 7 (.step 8 (.step 9 (.step 10 (.step 11 (.step 12 (.step 13 (.step 14 .done))))))))))))))) (by kernel_rfl) (by kernel_rfl) ?_
                  simp only [slimTr, slimStep, Oper.slim, List.contains_cons, List.contains_nil, Option.map_none, Option.map_some, List.getElem?_toArray, List.getElem?_cons_zero, List.getElem?_cons_succ, Option.bind_some, beq_self_eq_true, Bool.or_false, Nat.reduceBEq, Nat.reduceAdd, Nat.zero_add]
                  repeat ((with_reducible refine wpSlimT_step (fun K hK => ?_)); go_simp; first | (refine hK _ _ ?_; clear hK K) | (refine ⟨by (intro kk hkk; first | (simp (disch := (simp; omega)) only [hp_drew, hp_drewN, hp_alloc, hp_set]; done) | (simp [hp_drew, hp_drewN, hp_alloc_if, hkk]; done) | fail), hK _ _ ?_⟩; clear hK K)| (go_at_call 9; (with_reducible refine (ptell_any tb bm n C _ c.l _ HS8.out.drew.bo.pt ((IRd.of_owns HV.out).below ((Below.refl _ _).drew)) (by have := HLL.out; omega)).mono ?_); rintro e wa ⟨rfl, hP1, hg1⟩; have HQ1 := Lib.hid (HS8.out.drew.bo.rt.kept hg1 HNT.out (fun e => HNE.out.1 e.symm)); have HI1 := Lib.hid (IRd.row_ne (HIR8.out.below ((Below.refl _ _).drew)) hg1 (fun h b o m e => (HW7.out h b o m e).2)); have HV1 := Lib.hid (HV.out.kept (w := w8.drew) hg1 (.inr (fun e => by have := HVB.out _ e; have := HX1.out; omega))); refine ⟨_, rfl, (fun kk hkk => hg1.block kk ((HKP.out kk).1 hkk).1 (fun e => ((HKP.out kk).1 hkk).2.1 (by cases e; rfl))), hK _ _ ?_⟩; clear hK K) | (go_at_call 22; (with_reducible refine (rtell_any tr g n C _ c.l _ HQ1.out HI1.out (by have := HLL.out; omega) (fun h b o m e => (HW7.out h b o m e).1)).mono ?_); rintro e wb ⟨rfl, hQ2, hg2⟩; have HV2 := Lib.hid (HV1.out.kept hg2 (.inr (fun e => by have := HVB.out _ e; have := HX1.out; omega))); have HI2 : Hid (IRd wb (.slice c.a c.l.length c.cp) c.l) := Lib.hid (IRd.row_ne HI1.out hg2 (fun h b o m e => (HW7.out h b o m e).1)); refine ⟨_, rfl, (fun kk hkk => (hg2.block kk (Nat.lt_of_lt_of_le ((HKP.out kk).1 hkk).1 hg1.size) (fun e => ((HKP.out kk).1 hkk).2.2 (by cases e; rfl))).trans (hg1.block kk ((HKP.out kk).1 hkk).1 (fun e => ((HKP.out kk).1 hkk).2.1 (by cases e; rfl)))), hK _ _ ?_⟩; clear hK K) | (go_at_call 11; (with_reducible refine (same_any _ _ c.l c.l _ (IRd.of_owns HV2.out) HI2.out (by have := HLL.out; omega)).mono ?_); rintro e wd ⟨he, hbd⟩; rw [decide_eq_true rfl] at he; subst he; refine ⟨_, rfl, (fun kk hkk => (hbd.block kk (Nat.lt_of_lt_of_le ((HKP.out kk).1 hkk).1 (Nat.le_trans hg1.size hg2.size))).trans ((hg2.block kk (Nat.lt_of_lt_of_le ((HKP.out kk).1 hkk).1 hg1.size) (fun e => ((HKP.out kk).1 hkk).2.2 (by cases e; rfl))).trans (hg1.block kk ((HKP.out kk).1 hkk).1 (fun e => ((HKP.out kk).1 hkk).2.1 (by cases e; rfl))))), hK _ _ ?_⟩; clear hK K))
                  refine wpSlimT_done ?_
                  clear hgr
                  have HF := Lib.hid ((HS8.out.drew.both hP1 hg1 hQ2 hg2 HNE.out.2 HNE.out.1 (by have := HX1.out; omega) (by have := HX1.out; omega) HBM.out HG.out).below hbd)
                  have HOL := Lib.hid (OwnL.of (OwnI.of_owns (own_below HV2.out hbd)))
                  have hlt7 : tb < w7.heap.size ∧ bm < w7.heap.size ∧ tr < w7.heap.size ∧ g < w7.heap.size ∧ xb < w7.heap.size ∧ w.heap.size ≤ w7.heap.size := HLT7.out
                  have HLT := Lib.hid hlt7
                  clear hP1 hg1 hQ2 hg2 hbd HQ1 HI1 HV1 HV2 HI2 HV HVB HS8 hBV HIR8 x0 x1 x2 hlt7
                  go_upto_region 14 with fail
                  go_loopg [15] c.l.length (fun gk i wx => ∃ I2 : Nat, I2 ≤ c.l.length ∧ gk = c.l.length - I2 ∧ i = .int .i64 I2 ∧ Hid (OwnL w7.heap.size wx av c.l.length) ∧ Hid (St w wx tb bm tr g n xb c (tlC n C c.l)))
                  case atStart => exact ⟨0, by omega, rfl, rfl, HOL, HF⟩
                  case round =>
                    clear HOL HF
                    obtain ⟨I2, hI2, rfl, rfl, hoa, hSx⟩ := hrel
                    have hll := HLL.out
                    by_cases hlt2 : I2 < c.l.length
                    · obtain ⟨ga, xa, rfl, hga, ck, fk⟩ := hoa.out.at hlt2
                      go_wp2
                      go_roundg (c.l.length - (I2 + 1))
                      case measure => omega
                      case rel => exact ⟨I2 + 1, by omega, rfl, by go_num, Lib.hid (hoa.out.set _ _ _), Lib.hid (hSx.out.row (setCell_gb _ _ _ _) hga HLT.out)⟩
                    · go_wp2
                      go_meet
                      exact ⟨_, hSx⟩
                -- KD>
          case rest =>
            -- <REST
            clear HST x0 x1 x2
            obtain ⟨D, HSD⟩ := hcut
            have HLN := Lib.hid (SRd.cap_le HRC.out.1).1
            have HLL := Lib.hid (HLC.out)
            have hll := HLL.out
            go_upto_region 36 with fail
            go_loopg [16] c.l.length (fun gk i wx => ∃ J : Nat, J ≤ c.l.length ∧ gk = c.l.length - J ∧ i = .int .i64 J ∧ Hid (St w wx tb bm tr g n xb c D))
            case atStart => exact ⟨0, by omega, rfl, rfl, HSD⟩
            case round =>
              clear HSD
              obtain ⟨J, hJ, rfl, rfl, HSD⟩ := hrel
              obtain ⟨w9, hw9⟩ : ∃ w9 : World, w9 = wr := ⟨_, rfl⟩
              rw [← hw9] at HSD ⊢
              clear hw9
              obtain ⟨x0, x1, x2⟩ := HSD.out.cells
              rw [HLN.out] at x1
              have hxl := lt_of_heap HSD.out.xc
              by_cases hJ2 : J < c.l.length
              · obtain ⟨y, hy⟩ : ∃ y, c.l[J]? = some y := ⟨_, List.getElem?_eq_getElem hJ2⟩
                have hIR := HRC.out.1.below HSD.out.bo.bel
                rw [HLN.out] at hIR
                obtain ⟨-, hcp, b2, o2, hab, hb2, cy⟩ := IRd.cell hIR hy
                obtain ⟨cn, hcn⟩ : ∃ cn, cntN n D y = cn := ⟨_, rfl⟩
                have HC1 : Hid (∀ W, PT W tb bm n D → Calls Try.prog 15 #[.pointer (some ⟨tb, 0, none⟩), .int .i64 y] W fun e w' => e = .returned (.int .i64 (cn : Nat)) ∧ W = w') := Lib.hid (fun W hW => by rw [← hcn]; exact pcount_any tb bm n D y W hW)
                have HC2 : Hid (∀ W, RT W tr g n D → Calls Try.prog 23 #[.pointer (some ⟨tr, 0, none⟩), .int .i64 y] W fun e w' => e = .returned (.int .i64 (cn : Nat)) ∧ W = w') := Lib.hid (fun W hW => by rw [← hcn]; exact rcount_any tr g n D y W hW)
                have HC3 : Hid (∀ W, PT W tb bm n D → Calls Try.prog 14 #[.pointer (some ⟨tb, 0, none⟩), .int .i64 y] W fun e w' => e = .returned (.bool (decide ((3 : Int) ≤ (cn : Int)))) ∧ W = w') := Lib.hid (fun W hW => by
                  rw [← hcn, show decide ((3 : Int) ≤ (cntN n D y : Nat)) = decide (3 ≤ cntN n D y) from by rw [decide_eq_decide]; omega]
                  exact pout_any tb bm n D y W hW)
                rw [hab] at x1
                have hq1 : (0 : Int) ≤ (J : Int) ∧ (J : Int) < (c.l.length : Int) := by omega
                clear hcn hy hIR hab
                go_upto_region 38 with fail
                have hgr := fun (w0 W : World) (p : Addr) (hp : (fun k => k < w9.heap.size) p.block) => graft_cell (w0 := w0) (keep := (fun k => k < w9.heap.size)) W hp
                refine wp_region_tree (fun k => k < w9.heap.size) [6, 13, 22, 29] (.step 0 (.step 1 (.step 2 (.step 3 (.step 4 (.step 5 (.step 7 (.step 8 (.step 9 (.step 10 (.step 11 (.step 12 (.step 6 (.step 13 (.step 14 (.step 15 (.step 16 (.step 17 (.step 18 (.step 19 (.step 20 (.step 21 (.step 23 (.step 24 (.step 25 (.step 26 (.step 27 (.step 28 (.step 22 (.step 29 (.step 30 (.step 31 (.step 32 .done))))))))))))))))))))))))))))))))) (by kernel_rfl) (by kernel_rfl) ?_
                simp only [slimTr, slimStep, Oper.slim, List.contains_cons, List.contains_nil, Option.map_none, Option.map_some, List.getElem?_toArray, List.getElem?_cons_zero, List.getElem?_cons_succ, Option.bind_some, beq_self_eq_true, Bool.or_false, Nat.reduceBEq, Nat.reduceAdd, Nat.zero_add]
                repeat ((with_reducible refine wpSlimT_step (fun K hK => ?_)); go_simp; first | (refine hK _ _ ?_; clear hK K) | (refine ⟨by (intro kk hkk; first | (simp (disch := (simp; omega)) only [hp_drew, hp_drewN, hp_alloc, hp_set]; done) | (simp [hp_drew, hp_drewN, hp_alloc_if, hkk]; done) | fail), hK _ _ ?_⟩; clear hK K)| (go_at_call 15; (with_reducible refine (HC1.out _ HSD.out.drew.bo.pt).mono ?_); rintro e wa ⟨rfl, rfl⟩; refine ⟨_, rfl, (fun kk hkk => rfl), hK _ _ ?_⟩; clear hK K) | (go_at_call 23; (with_reducible refine (HC2.out _ HSD.out.drew.bo.rt).mono ?_); rintro e wa ⟨rfl, rfl⟩; refine ⟨_, rfl, (fun kk hkk => rfl), hK _ _ ?_⟩; clear hK K) | (go_at_call 14; (with_reducible refine (HC3.out _ HSD.out.drew.bo.pt).mono ?_); rintro e wa ⟨rfl, rfl⟩; refine ⟨_, rfl, (fun kk hkk => rfl), hK _ _ ?_⟩; clear hK K))
                refine wpSlimT_done ?_
                clear hgr
                go_wp2
                go_roundg (c.l.length - (J + 1))
                case measure => omega
                case rel => exact ⟨J + 1, by omega, rfl, by go_num, Lib.hid HSD.out.drew⟩
              · obtain ⟨cn, hcn⟩ : ∃ cn, cntN n D c.n = cn := ⟨_, rfl⟩
                have HC1 : Hid (∀ W, PT W tb bm n D → Calls Try.prog 15 #[.pointer (some ⟨tb, 0, none⟩), .int .i64 c.n] W fun e w' => e = .returned (.int .i64 (cn : Nat)) ∧ W = w') := Lib.hid (fun W hW => by rw [← hcn]; exact pcount_any tb bm n D c.n W hW)
                have HC2 : Hid (∀ W, RT W tr g n D → Calls Try.prog 23 #[.pointer (some ⟨tr, 0, none⟩), .int .i64 c.n] W fun e w' => e = .returned (.int .i64 (cn : Nat)) ∧ W = w') := Lib.hid (fun W hW => by rw [← hcn]; exact rcount_any tr g n D c.n W hW)
                clear hcn
                go_upto_region 40 with fail
                have hgr := fun (w0 W : World) (p : Addr) (hp : (fun k => k < w9.heap.size) p.block) => graft_cell (w0 := w0) (keep := (fun k => k < w9.heap.size)) W hp
                refine wp_region_tree (fun k => k < w9.heap.size) [3, 7, 11, 13] (.step 0 (.step 1 (.step 2 (.step 4 (.step 5 (.step 6 (.step 3 (.step 7 (.step 8 (.step 9 (.step 10 (.step 12 (.step 11 (.step 13 (.step 14 (.step 15 .done)))))))))))))))) (by kernel_rfl) (by kernel_rfl) ?_
                simp only [slimTr, slimStep, Oper.slim, List.contains_cons, List.contains_nil, Option.map_none, Option.map_some, List.getElem?_toArray, List.getElem?_cons_zero, List.getElem?_cons_succ, Option.bind_some, beq_self_eq_true, Bool.or_false, Nat.reduceBEq, Nat.reduceAdd, Nat.zero_add]
                repeat ((with_reducible refine wpSlimT_step (fun K hK => ?_)); go_simp; first | (refine hK _ _ ?_; clear hK K) | (refine ⟨by (intro kk hkk; first | (simp (disch := (simp; omega)) only [hp_drew, hp_drewN, hp_alloc, hp_set]; done) | (simp [hp_drew, hp_drewN, hp_alloc_if, hkk]; done) | fail), hK _ _ ?_⟩; clear hK K)| (go_at_call 15; (with_reducible refine (HC1.out _ HSD.out.drew.bo.pt).mono ?_); rintro e wa ⟨rfl, rfl⟩; refine ⟨_, rfl, (fun kk hkk => rfl), hK _ _ ?_⟩; clear hK K) | (go_at_call 23; (with_reducible refine (HC2.out _ HSD.out.drew.bo.rt).mono ?_); rintro e wa ⟨rfl, rfl⟩; refine ⟨_, rfl, (fun kk hkk => rfl), hK _ _ ?_⟩; clear hK K) | (go_at_call 12; (with_reducible refine (ptotal_any tb bm n D _ HSD.out.drew.bo.pt).mono ?_); rintro e wa ⟨rfl, hba⟩; refine ⟨_, rfl, (fun kk hkk => hba.block kk (by simpa using hkk)), hK _ _ ?_⟩; clear hK K) | (go_at_call 24; (with_reducible refine (rtotal_any tr g n D _ (HSD.out.drew.bo.rt.below hba)).mono ?_); rintro e wb ⟨rfl, rfl⟩; refine ⟨_, rfl, (fun kk hkk => hba.block kk (by simpa using hkk)), hK _ _ ?_⟩; clear hK K))
                refine wpSlimT_done ?_
                clear hgr
                have HSN := Lib.hid (HSD.out.drew.below hba).bo
                clear hba
                go_wp2
                go_roundg (l.length - (I + 1))
                case measure => omega
                case rel => exact ⟨I + 1, D, by omega, rfl, by go_num, HSN⟩
            -- REST>
      · go_wp2_with (go_at_call 7; refine (works_any _).mono ?_; rintro e w5 ⟨rfl, hb5⟩)
        go_ret
        exact ⟨rfl, hBo.out.bel.trans (hb5.mono hBo.out.bel.size)⟩
end Go.Proofs.Ytjlehnmcfimnfaa
