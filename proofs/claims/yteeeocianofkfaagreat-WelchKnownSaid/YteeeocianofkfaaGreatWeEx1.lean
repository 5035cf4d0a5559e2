/-
  What a word is asked of: the linear system is laid.
-/
import Derived.Test.YteeeocianofkfaaGreatDiv
import Derived.Test.YteeeocianofkfaaGreatWeEx0
import Derived.Test.YteeeocianofkfaaGreatDec3
import Derived.Test.YteeeocianofkfaaGreatWePlain
namespace Go.Proofs.YteeeocianofkfaaGreat
open Go.RowKit Fld
set_option linter.unusedVariables false
set_option linter.unusedSimpArgs false

/-- What holds while the system is laid. -/
structure ExI (fb A0 B1 base k L C Y : Nat) (ax : Option Addr) (cx : Nat) (ay : Option Addr) (cy : Nat) (w : World) (V R : Value) (a b : List GF) (W : World) : Prop where
  ok : FOk W fb
  hA : W.heap[A0]? = some (.cells #[.pointer (some ⟨fb, 0, none⟩), .int .i64 k, .slice ax L cx, .slice ay Y cy] 59 (0, 0))
  hM : W.heap[B1]? = some (.cells #[.int .i64 L, .int .i64 C, V] 72 (0, 0))
  ov : OwnG W base V a
  orr : OwnG W base R b
  ap : Apart R V.ownBlock.toList
  kp : Kp [fb] w W
  sz : base ≤ W.heap.size
section
variable {fb A0 B1 base k L C Y : Nat} {ax : Option Addr} {cx : Nat} {ay : Option Addr} {cy : Nat} {w W : World} {V R : Value} {a b : List GF}
theorem ExI.call {W5 : World} (h : ExI fb A0 B1 base k L C Y ax cx ay cy w V R a b W) (ho : fb < A0 ∧ A0 < B1 ∧ B1 < base ∧ w.heap.size ≤ A0) (hk : Kp [fb] W W5) (hf : FOk W5 fb) : ExI fb A0 B1 base k L C Y ax cx ay cy w V R a b W5 :=
  ⟨hf, hk.heap h.hA (by simp; omega), hk.heap h.hM (by simp; omega), h.ov.kp hk (fun c hc hm => by have := (h.ov.lt c hc).1; simp at hm; omega), h.orr.kp hk (fun c hc hm => by have := (h.orr.lt c hc).1; simp at hm; omega), h.ap, h.kp.trans hk, Nat.le_trans h.sz hk.size⟩
theorem ExI.drew (h : ExI fb A0 B1 base k L C Y ax cx ay cy w V R a b W) : ExI fb A0 B1 base k L C Y ax cx ay cy w V R a b W.drew :=
  ⟨h.ok.below ((Below.refl _ _).drew), h.hA, h.hM, h.ov, h.orr, h.ap, h.kp.drew, h.sz⟩
theorem ExI.push (h : ExI fb A0 B1 base k L C Y ax cx ay cy w V R a b W) (ho : fb < A0 ∧ A0 < B1 ∧ B1 < base ∧ w.heap.size ≤ A0) (x : GF) {n : Nat} (hn : x.n = n) (hl : a.length ≤ 1000000) :
    ∃ a1 m1 c1 w6, (Builtin.append_ #[22, 22] 22 #[V, .slice (some ⟨W.heap.size, 0, none⟩) 1 1]).run Tryz.prog (W.alloc (.cells #[.int .u8 (n : Int)] 5)) = .ok (.slice a1 m1 c1) w6 ∧ m1 = a.length + 1 ∧
      (∀ kk, kk < base → w6.heap[kk]? = W.heap[kk]?) ∧ ExI fb A0 B1 base k L C Y ax cx ay cy w (.slice a1 m1 c1) R (a ++ [x]) b (w6.setCell ⟨B1, 2, none⟩ (.slice a1 m1 c1)) := by
  obtain ⟨v1, w6, hap, ho6, hk6, hb6, hat⟩ := app_byte x h.ov hl h.sz hn (ad := W.heap.size) rfl
  obtain ⟨a1, c1, rfl, -⟩ := ho6.form
  have hV : ∀ y, y ∈ V.ownBlock.toList → base ≤ y := fun y hy => (h.ov.lt y (by simpa using hy)).1
  have hk7 : Kp [B1] w6 (w6.setCell ⟨B1, 2, none⟩ (.slice a1 (a ++ [x]).length c1)) := (Kp.refl _ _).setCell (.inl (by simp)) _
  refine ⟨a1, (a ++ [x]).length, c1, w6, hap, by simp, fun kk hkk => hb6.block kk hkk, ?_⟩
  refine ⟨(h.ok.kp hk6 (fun hm => by have := hV _ hm; omega)).kp hk7 (by simp; omega), hk7.heap (hk6.heap h.hA (fun hm => by have := hV _ hm; omega)) (by simp; omega), ?_, ho6.kp hk7 (fun c hc hm => by have := (ho6.lt c hc).1; simp at hm; omega),
    (h.orr.kp hk6 h.ap).kp hk7 (fun c hc hm => by have := (h.orr.lt c hc).1; simp at hm; omega), apart_grow h.ap (fun c hc => (h.orr.lt c hc).2) hat, (h.kp.step hk6 (fun y hy => .inr (by have := hV y hy; omega))).step hk7 (fun y hy => by simp at hy; right; omega), ?_⟩
  · have := heap_set_same (hk6.heap h.hM (fun hm => by have := hV _ hm; omega)) 2 (.slice a1 (a ++ [x]).length c1)
    simpa using this
  · have h1 := hk6.size
    have h2 := hk7.size
    have := h.sz
    omega
theorem ExI.pushR (h : ExI fb A0 B1 base k L C Y ax cx ay cy w V R a b W) (ho : fb < A0 ∧ A0 < B1 ∧ B1 < base ∧ w.heap.size ≤ A0) (x : GF) {n : Nat} (hn : x.n = n) (hl : b.length ≤ 1000000) :
    ∃ a1 m1 c1 w6, (Builtin.append_ #[22, 22] 22 #[R, .slice (some ⟨W.heap.size, 0, none⟩) 1 1]).run Tryz.prog (W.alloc (.cells #[.int .u8 (n : Int)] 5)) = .ok (.slice a1 m1 c1) w6 ∧ m1 = b.length + 1 ∧
      (∀ kk, kk < base → w6.heap[kk]? = W.heap[kk]?) ∧ ExI fb A0 B1 base k L C Y ax cx ay cy w V (.slice a1 m1 c1) a (b ++ [x]) w6 := by
  obtain ⟨v1, w6, hap, ho6, hk6, hb6, hat⟩ := app_byte x h.orr hl h.sz hn (ad := W.heap.size) rfl
  obtain ⟨a1, c1, rfl, -⟩ := ho6.form
  have hR : ∀ y, y ∈ R.ownBlock.toList → base ≤ y := fun y hy => (h.orr.lt y (by simpa using hy)).1
  refine ⟨a1, (b ++ [x]).length, c1, w6, hap, by simp, fun kk hkk => hb6.block kk hkk, ?_⟩
  refine ⟨h.ok.kp hk6 (fun hm => by have := hR _ hm; omega), hk6.heap h.hA (fun hm => by have := hR _ hm; omega), hk6.heap h.hM (fun hm => by have := hR _ hm; omega), h.ov.kp hk6 (apart_swap h.ap), ho6,
    apart_swap (apart_grow (apart_swap h.ap) (fun c hc => (h.ov.lt c hc).2) hat), h.kp.step hk6 (fun y hy => .inr (by have := hR y hy; omega)), ?_⟩
  have h1 := hk6.size
  have := h.sz
  omega
end
/-- What 'exactly' leaves. -/
def ExPost (fb k v : Nat) (X ys : List GF) (w : World) (e : Ending) (w' : World) : Prop :=
  Kp [fb] w w' ∧ FOk w' fb ∧ ((e = .returned (.tuple #[.slice none 0 0, .bool false]) ∧ ∀ m0 : List GF, m0.length = k → (wrI X ys m0).length = v → k + 2 * v ≤ X.length → False) ∨
    ∃ u m, e = .returned (.tuple #[u, .bool true]) ∧ m.length = k ∧ OwnG w' w.heap.size u m ∧ ∀ m0 : List GF, m0.length = k → (wrI X ys m0).length = v → k + 2 * v ≤ X.length → m = m0)
set_option maxRecDepth 100000 in
set_option maxHeartbeats 4000000 in
theorem exactly_any (fb k v : Nat) (xv yv : Value) (X ys : List GF) (w : World) (hF : FOk w fb) (hx : GRd w xv X) (hy : GRd w yv ys) (hxa : Apart xv [fb]) (hya : Apart yv [fb]) (hk0 : 0 < k) (hL : 0 < X.length) (hyl : X.length ≤ ys.length) (hXl : X.length ≤ 256) (hkl : k ≤ 256) (hvl : v ≤ 256) (hnd : X.Nodup) :
    Calls Tryz.prog 33 #[.agg #[.pointer (some ⟨fb, 0, none⟩), .int .i64 k, xv, yv], .int .i64 v] w (ExPost fb k v X ys w) := by
  obtain ⟨ax, cx, rfl, hcx⟩ := hx.form
  obtain ⟨ay, cy, rfl, hcy⟩ := hy.form
  obtain ⟨L, hLe⟩ : ∃ L, X.length = L := ⟨_, rfl⟩
  obtain ⟨Y, hYe⟩ : ∃ Y, ys.length = Y := ⟨_, rfl⟩
  obtain ⟨n, hn⟩ : ∃ n, k + v = n := ⟨_, rfl⟩
  obtain ⟨C, hC⟩ : ∃ C, n + v = C := ⟨_, rfl⟩
  have HLE := Lib.hid hLe
  have HYE := Lib.hid hYe
  have HN := Lib.hid hn
  have HC := Lib.hid hC
  have hfw := hF.lt
  have HF := Lib.hid hF
  rw [hLe] at hx hcx hXl hL hyl ⊢
  rw [hYe] at hy hcy hyl ⊢
  have HX := Lib.hid hx
  have HY := Lib.hid hy
  have HXA := Lib.hid hxa
  have HYA := Lib.hid hya
  have HND := Lib.hid hnd
  have x1 : (k : Int) + (v : Int) = (n : Int) := by omega
  have x2 : IntKind.i64.wrap (n : Int) = (n : Int) := IntWalk.i64_in _ (by omega)
  have x3 : (n : Int) + (v : Int) = (C : Int) := by omega
  have x4 : IntKind.i64.wrap (C : Int) = (C : Int) := IntWalk.i64_in _ (by omega)
  have hn2 : n ≤ 512 := by omega
  have hC2 : C ≤ 768 := by omega
  clear hF hx hy hxa hya hnd hLe hYe hn hC hcx hcy
  go_enter Tryz.func33, Tryz.ntmps33
  go_wp2
  have ho : fb < w.heap.size ∧ w.heap.size < w.heap.size + 1 ∧ w.heap.size + 1 < w.heap.size + 1 + 1 ∧ w.heap.size ≤ w.heap.size := ⟨hfw, by omega, by omega, Nat.le_refl _⟩
  have HO := Lib.hid ho
  have HE0 : Hid (ExI fb w.heap.size (w.heap.size + 1) (w.heap.size + 1 + 1) k L C Y ax cx ay cy w (.slice none 0 0) (.slice none 0 0) (rowF (flat C (sysA X ys n)) (0 * C)) (rowF (sysB X ys v) 0) ((w.alloc (.cells #[.pointer (some ⟨fb, 0, none⟩), .int .i64 k, .slice ax L cx, .slice ay Y cy] 59)).alloc (.cells #[.int .i64 L, .int .i64 C, .slice none 0 0] 72))) := Lib.hid (by
    have hb : Below w.heap.size w ((w.alloc (.cells #[.pointer (some ⟨fb, 0, none⟩), .int .i64 k, .slice ax L cx, .slice ay Y cy] 59)).alloc (.cells #[.int .i64 L, .int .i64 C, .slice none 0 0] 72)) := by (repeat' (first | (with_reducible exact RowKit.Below.refl _ _) | (with_reducible assumption) | (with_reducible refine RowKit.Below.drew ?_) | (with_reducible refine RowKit.Below.alloc ?_ ?_ _) | omega | (simp; done) | (simp; omega)))
    rw [Nat.zero_mul]
    exact ⟨HF.out.below hb, keepA (heap_newA _ _) _, heap_newE _ _ _ (by simp), OwnG.nil _ _, OwnG.nil _ _, fun k _ hm => by simp [Value.ownBlock] at hm, Kp.of_below hb, by simp⟩)
  clear ho x1 x2 x3 x4
  go_loopg [8, 31] L (fun gk r i wr => ∃ (ar : Option Addr) (mr cr : Nat) (av : Option Addr) (mv cv I : Nat), r = .slice ar mr cr ∧ I ≤ L ∧ gk = L - I ∧ i = .int .i64 I ∧ Hid (ExI fb w.heap.size (w.heap.size + 1) (w.heap.size + 1 + 1) k L C Y ax cx ay cy w (.slice av mv cv) (.slice ar mr cr) (rowF (flat C (sysA X ys n)) (I * C)) (rowF (sysB X ys v) I) wr))
  case atStart => exact ⟨none, 0, 0, none, 0, 0, 0, rfl, by omega, rfl, rfl, HE0⟩
  case round =>
    clear HE0
    obtain ⟨ar, mr, cr, av, mv, cv, I, rfl, hI, rfl, rfl, HE⟩ := hrel
    by_cases hlt : I < L
    · obtain ⟨c, hc, hcd⟩ := at_get (l := X) (i := I) (by rw [HLE.out]; exact hlt)
      obtain ⟨y, hy, hyd⟩ := at_get (l := ys) (i := I) (by rw [HYE.out]; omega)
      obtain ⟨b1, o1, rfl, hb1, -⟩ := HX.out.at hc
      obtain ⟨b2, o2, rfl, hb2, -⟩ := HY.out.at hy
      have hb1f : b1 ≠ fb := by have := HXA.out b1 rfl; simpa using this
      have hb2f : b2 ≠ fb := by have := HYA.out b2 rfl; simpa using this
      obtain ⟨cN, hcN⟩ : ∃ t, c.n = t := ⟨_, rfl⟩
      obtain ⟨yN, hyN⟩ : ∃ t, y.n = t := ⟨_, rfl⟩
      have HCX : Hid (∀ W, Kp [fb] w W → W.cell? ⟨b1, o1 + I, none⟩ = some (.int .u8 (cN : Nat))) := Lib.hid fun W hk => by
        obtain ⟨_, _, e, -, h⟩ := (HX.out.kp hk HXA.out).at hc
        cases e
        rw [← hcN]
        exact h
      have HCY : Hid (∀ W, Kp [fb] w W → W.cell? ⟨b2, o2 + I, none⟩ = some (.int .u8 (yN : Nat))) := Lib.hid fun W hk => by
        obtain ⟨_, _, e, -, h⟩ := (HY.out.kp hk HYA.out).at hy
        cases e
        rw [← hyN]
        exact h
      have HPOW : Hid (∀ p : Nat, p ≤ 1000 → ∀ W, FOk W fb → Calls Tryz.prog 50 #[.pointer (some ⟨fb, 0, none⟩), .int .u8 (cN : Nat), .int .i64 (p : Nat)] W (fun e w' => e = .returned (.int .u8 ((pw c p).n : Nat)) ∧ Kp [fb] W w' ∧ FOk w' fb)) := Lib.hid fun p hp W h => by
        rw [← hcN]
        exact fpow_any c p fb W h (by omega)
      have HMUL : Hid (∀ z : GF, ∀ W, FOk W fb → Calls Tryz.prog 51 #[.pointer (some ⟨fb, 0, none⟩), .int .u8 (yN : Nat), .int .u8 (z.n : Nat)] W (fun e w' => e = .returned (.int .u8 ((y * z).n : Nat)) ∧ Kp [fb] W w' ∧ FOk w' fb)) := Lib.hid fun z W h => by
        rw [← hyN]
        exact fmul_any y z fb W h
      have HBD : Hid (I * C + C ≤ 200000) := Lib.hid (by
        have := Nat.mul_le_mul (show I + 1 ≤ 256 by omega) hC2
        rw [Nat.succ_mul] at this
        omega)
      have HVA : Hid (∀ p, p < n → flat C (sysA X ys n) (I * C + p) = pw c p) := Lib.hid fun p hp => by
        rw [flat_at (by have := HC.out; omega) _ _ _ (by have := HC.out; omega), sysA, if_pos hp, hcd]
      have HVB : Hid (∀ p, p < v → flat C (sysA X ys n) (I * C + (n + p)) = y * pw c p) := Lib.hid fun p hp => by
        rw [flat_at (by have := HC.out; omega) _ _ _ (by have := HC.out; omega), sysA, if_neg (by omega), hcd, hyd, show n + p - n = p by omega]
      have HVR : Hid (sysB X ys v I = y * pw c v) := Lib.hid (by rw [sysB, hcd, hyd])
      have cx0 := HCX.out wr HE.out.kp
      have i1 : (0 : Int) ≤ (I : Int) ∧ (I : Int) < (L : Int) := by omega
      have i2 : (0 : Int) ≤ (I : Int) ∧ (I : Int) < (Y : Int) := by omega
      clear hc hcd hy hyd hcN hyN
      go_wp2
      clear cx0
      go_loopg [37] n (fun gk s wr => ∃ (P J : Nat) (av : Option Addr) (mv cv : Nat), P ≤ n ∧ gk = n - P ∧ s = .int .i64 P ∧ Hid (J = I * C + P) ∧ Hid (ExI fb w.heap.size (w.heap.size + 1) (w.heap.size + 1 + 1) k L C Y (some ⟨b1, o1, none⟩) cx (some ⟨b2, o2, none⟩) cy w (.slice av mv cv) (.slice ar mr cr) (rowF (flat C (sysA X ys n)) J) (rowF (sysB X ys v) I) wr))
      case atStart => exact ⟨0, _, av, mv, cv, by omega, rfl, rfl, Lib.hid rfl, HE⟩
      case round =>
        clear HE
        obtain ⟨P, J, av, mv, cv, hP, rfl, rfl, HJ, HE⟩ := hrel
        by_cases hlt2 : P < n
        · have HVX : Hid (flat C (sysA X ys n) J = pw c P) := Lib.hid (by rw [HJ.out]; exact HVA.out P hlt2)
          have HJL : Hid ((rowF (flat C (sysA X ys n)) J).length ≤ 1000000) := Lib.hid (by rw [rowF_len, HJ.out]; have := HBD.out; have := HC.out; omega)
          obtain ⟨pN, hpN⟩ : ∃ t, (pw c P).n = t := ⟨_, rfl⟩
          have HPW : Hid (∀ W, FOk W fb → Calls Tryz.prog 50 #[.pointer (some ⟨fb, 0, none⟩), .int .u8 (cN : Nat), .int .i64 (P : Nat)] W (fun e w' => e = .returned (.int .u8 (pN : Nat)) ∧ Kp [fb] W w' ∧ FOk w' fb)) := Lib.hid (by
            have := HPOW.out P (by omega)
            rwa [hpN] at this)
          have HPN := Lib.hid hpN
          have HED := Lib.hid HE.out.drew
          have y0 := cell_of_heap HE.out.hA (j := 0) rfl
          have m2 := cell_of_heap HE.out.hM (j := 2) rfl
          have g1 := lt_of_heap HE.out.hA
          have g2 := lt_of_heap HE.out.hM
          obtain ⟨kp, hkp⟩ : ∃ kp : Nat → Bool, ∀ j, kp j = true ↔ j < w.heap.size + 1 ∧ j ≠ fb := ⟨fun j => decide (j < w.heap.size + 1 ∧ j ≠ fb), by simp⟩
          have k1 : kp w.heap.size = true := (hkp _).2 ⟨by omega, by omega⟩
          have HKP := Lib.hid hkp
          clear hkp hpN
          go_upto_region 10 with fail
          have hgr := fun (w0 W : World) (p : Addr) (hp : (fun j => kp j = true) p.block) => graft_cell (w0 := w0) (keep := (fun j => kp j = true)) W hp
          refine wp_region_tree (fun j => kp j = true) [1, 6, 7, 8, 10] (.step 0 (.step 2 (.step 3 (.step 4 (.step 5 (.fork 1 (.step 6 (.step 7 (.step 8 (.step 9 (.step 10 .done))))) 6 (.fork 1 (.step 7 (.step 8 (.step 9 (.step 10 .done)))) 7 (.step 1 (.step 8 (.step 9 (.step 10 .done))))))))))) (by kernel_rfl) (by kernel_rfl) ?_
          simp only [slimTr, slimStep, Oper.slim, List.contains_cons, List.contains_nil, Option.map_none, Option.map_some, List.getElem?_toArray, List.getElem?_cons_zero, List.getElem?_cons_succ, Option.bind_some, beq_self_eq_true, Bool.or_false, Nat.reduceBEq, Nat.reduceAdd, Nat.zero_add]
          repeat (first | (refine wpSlimT_append _ _ _ rfl rfl rfl rfl rfl hap (fun kk hkk => HKE.out kk ((HKP.out kk).1 hkk).1 ((HKP.out kk).1 hkk).2) ?_) | ((with_reducible refine wpSlimT_step (fun K hK => ?_)); go_simp; first | (refine hK _ _ ?_; clear hK K) | (refine ⟨by (intro kk hkk; first | (simp (disch := (simp; omega)) only [hp_drew, hp_drewN, hp_alloc, hp_set]; done) | (simp [hp_drew, hp_drewN, hp_alloc_if, hkk]; done) | (have hkk2 := (HKP.out kk).1 hkk; first | exact HKC.out kk hkk2.1 hkk2.2 | exact HKC4.out kk hkk2.1 hkk2.2 | exact (hp_alloc _ _ _ (by first | omega | (simp; omega))).trans (HKC.out kk hkk2.1 hkk2.2) | exact (hp_set _ _ _ _ (by simp; omega)).trans (HKE.out kk hkk2.1 hkk2.2) | exact hp_alloc _ _ _ (by first | omega | (simp; omega)))), hK _ _ ?_⟩; clear hK K)| (go_at_call 50; (with_reducible refine (HPW.out _ HED.out.ok).mono ?_); rintro e w5 ⟨rfl, hk5, hf5⟩; have he5 := HED.out.call HO.out hk5 hf5; obtain ⟨a1, m1, c1, w6, hap, hm1, hke, he7⟩ := he5.push HO.out _ HPN.out HJL.out; have m25 := cell_of_heap he5.hM (j := 2) rfl; have m26 := cell_of_heap ((hke _ (by omega)).trans he5.hM) (j := 2) rfl; have z26 := free_of_heap ((hke _ (by omega)).trans he5.hM) 2; have g25 := lt_of_heap he5.hM; have g26 := lt_of_heap ((hke _ (by omega)).trans he5.hM); have HKC : Hid (∀ kk, kk < w.heap.size + 1 → kk ≠ fb → w5.heap[kk]? = wr.heap[kk]?) := Lib.hid (fun kk h1 h2 => hk5.block kk (by have := HE.out.sz; show kk < wr.heap.size; omega) (by simpa using h2)); have HKE : Hid (∀ kk, kk < w.heap.size + 1 → kk ≠ fb → w6.heap[kk]? = wr.heap[kk]?) := Lib.hid (fun kk h1 h2 => (hke kk (by omega)).trans (HKC.out kk h1 h2)); have HE7 := Lib.hid he7; clear hk5 hf5 he5 hm1 hke he7; refine ⟨_, rfl, (fun kk hkk => HKC.out kk ((HKP.out kk).1 hkk).1 ((HKP.out kk).1 hkk).2), hK _ _ ?_⟩; clear hK K)))
          first
            | with_reducible refine wpSlimT_done ?_
            | refine wpSlimT_fork ?_ ?_
              all_goals
                repeat (first | (refine wpSlimT_append _ _ _ rfl rfl rfl rfl rfl hap (fun kk hkk => HKE.out kk ((HKP.out kk).1 hkk).1 ((HKP.out kk).1 hkk).2) ?_) | ((with_reducible refine wpSlimT_step (fun K hK => ?_)); go_simp; first | (refine hK _ _ ?_; clear hK K) | (refine ⟨by (intro kk hkk; first | (simp (disch := (simp; omega)) only [hp_drew, hp_drewN, hp_alloc, hp_set]; done) | (simp [hp_drew, hp_drewN, hp_alloc_if, hkk]; done) | (have hkk2 := (HKP.out kk).1 hkk; first | exact HKC.out kk hkk2.1 hkk2.2 | exact HKC4.out kk hkk2.1 hkk2.2 | exact (hp_alloc _ _ _ (by first | omega | (simp; omega))).trans (HKC.out kk hkk2.1 hkk2.2) | exact (hp_set _ _ _ _ (by simp; omega)).trans (HKE.out kk hkk2.1 hkk2.2) | exact hp_alloc _ _ _ (by first | omega | (simp; omega)))), hK _ _ ?_⟩; clear hK K)| (go_at_call 50; (with_reducible refine (HPW.out _ HED.out.ok).mono ?_); rintro e w5 ⟨rfl, hk5, hf5⟩; have he5 := HED.out.call HO.out hk5 hf5; obtain ⟨a1, m1, c1, w6, hap, hm1, hke, he7⟩ := he5.push HO.out _ HPN.out HJL.out; have m25 := cell_of_heap he5.hM (j := 2) rfl; have m26 := cell_of_heap ((hke _ (by omega)).trans he5.hM) (j := 2) rfl; have z26 := free_of_heap ((hke _ (by omega)).trans he5.hM) 2; have g25 := lt_of_heap he5.hM; have g26 := lt_of_heap ((hke _ (by omega)).trans he5.hM); have HKC : Hid (∀ kk, kk < w.heap.size + 1 → kk ≠ fb → w5.heap[kk]? = wr.heap[kk]?) := Lib.hid (fun kk h1 h2 => hk5.block kk (by have := HE.out.sz; show kk < wr.heap.size; omega) (by simpa using h2)); have HKE : Hid (∀ kk, kk < w.heap.size + 1 → kk ≠ fb → w6.heap[kk]? = wr.heap[kk]?) := Lib.hid (fun kk h1 h2 => (hke kk (by omega)).trans (HKC.out kk h1 h2)); have HE7 := Lib.hid he7; clear hk5 hf5 he5 hm1 hke he7; refine ⟨_, rfl, (fun kk hkk => HKC.out kk ((HKP.out kk).1 hkk).1 ((HKP.out kk).1 hkk).2), hK _ _ ?_⟩; clear hK K)))
                first
                  | with_reducible refine wpSlimT_done ?_
                  | refine wpSlimT_fork ?_ ?_
                    all_goals
                      repeat (first | (refine wpSlimT_append _ _ _ rfl rfl rfl rfl rfl hap (fun kk hkk => HKE.out kk ((HKP.out kk).1 hkk).1 ((HKP.out kk).1 hkk).2) ?_) | ((with_reducible refine wpSlimT_step (fun K hK => ?_)); go_simp; first | (refine hK _ _ ?_; clear hK K) | (refine ⟨by (intro kk hkk; first | (simp (disch := (simp; omega)) only [hp_drew, hp_drewN, hp_alloc, hp_set]; done) | (simp [hp_drew, hp_drewN, hp_alloc_if, hkk]; done) | (have hkk2 := (HKP.out kk).1 hkk; first | exact HKC.out kk hkk2.1 hkk2.2 | exact HKC4.out kk hkk2.1 hkk2.2 | exact (hp_alloc _ _ _ (by first | omega | (simp; omega))).trans (HKC.out kk hkk2.1 hkk2.2) | exact (hp_set _ _ _ _ (by simp; omega)).trans (HKE.out kk hkk2.1 hkk2.2) | exact hp_alloc _ _ _ (by first | omega | (simp; omega)))), hK _ _ ?_⟩; clear hK K)| (go_at_call 50; (with_reducible refine (HPW.out _ HED.out.ok).mono ?_); rintro e w5 ⟨rfl, hk5, hf5⟩; have he5 := HED.out.call HO.out hk5 hf5; obtain ⟨a1, m1, c1, w6, hap, hm1, hke, he7⟩ := he5.push HO.out _ HPN.out HJL.out; have m25 := cell_of_heap he5.hM (j := 2) rfl; have m26 := cell_of_heap ((hke _ (by omega)).trans he5.hM) (j := 2) rfl; have z26 := free_of_heap ((hke _ (by omega)).trans he5.hM) 2; have g25 := lt_of_heap he5.hM; have g26 := lt_of_heap ((hke _ (by omega)).trans he5.hM); have HKC : Hid (∀ kk, kk < w.heap.size + 1 → kk ≠ fb → w5.heap[kk]? = wr.heap[kk]?) := Lib.hid (fun kk h1 h2 => hk5.block kk (by have := HE.out.sz; show kk < wr.heap.size; omega) (by simpa using h2)); have HKE : Hid (∀ kk, kk < w.heap.size + 1 → kk ≠ fb → w6.heap[kk]? = wr.heap[kk]?) := Lib.hid (fun kk h1 h2 => (hke kk (by omega)).trans (HKC.out kk h1 h2)); have HE7 := Lib.hid he7; clear hk5 hf5 he5 hm1 hke he7; refine ⟨_, rfl, (fun kk hkk => HKC.out kk ((HKP.out kk).1 hkk).1 ((HKP.out kk).1 hkk).2), hK _ _ ?_⟩; clear hK K)))
                      with_reducible refine wpSlimT_done ?_
          all_goals clear hgr
          all_goals
            have HE8 : Hid (ExI fb w.heap.size (w.heap.size + 1) (w.heap.size + 1 + 1) k L C Y (some ⟨b1, o1, none⟩) cx (some ⟨b2, o2, none⟩) cy w (.slice a1 m1 c1) (.slice ar mr cr) (rowF (flat C (sysA X ys n)) (J + 1)) (rowF (sysB X ys v) I) (w6.setCell ⟨w.heap.size + 1, 2, none⟩ (.slice a1 m1 c1))) := Lib.hid (by rw [rowF_succ, HVX.out]; exact HE7.out)
            go_wp2
            go_roundg (n - (P + 1))
            case measure => omega
            case rel => exact ⟨P + 1, J + 1, a1, m1, c1, by omega, rfl, by go_num, Lib.hid (by rw [HJ.out]; rfl), HE8⟩
        · obtain rfl : P = n := by omega
          go_wp2
          go_loopg [52] v (fun gk s wr => ∃ (P2 J : Nat) (av : Option Addr) (mv cv : Nat), P2 ≤ v ∧ gk = v - P2 ∧ s = .int .i64 P2 ∧ Hid (J = I * C + (P + P2)) ∧ Hid (ExI fb w.heap.size (w.heap.size + 1) (w.heap.size + 1 + 1) k L C Y (some ⟨b1, o1, none⟩) cx (some ⟨b2, o2, none⟩) cy w (.slice av mv cv) (.slice ar mr cr) (rowF (flat C (sysA X ys P)) J) (rowF (sysB X ys v) I) wr))
          case atStart => exact ⟨0, _, av, mv, cv, by omega, rfl, rfl, HJ, HE⟩
          case round =>
            clear HE HJ
            obtain ⟨P2, J, av, mv, cv, hP2, rfl, rfl, HJ, HE⟩ := hrel
            by_cases hlt3 : P2 < v
            · have HVX : Hid (flat C (sysA X ys P) J = y * pw c P2) := Lib.hid (by rw [HJ.out]; exact HVB.out P2 hlt3)
              have HJL : Hid ((rowF (flat C (sysA X ys P)) J).length ≤ 1000000) := Lib.hid (by rw [rowF_len, HJ.out]; have := HBD.out; have := HC.out; omega)
              obtain ⟨pN, hpN⟩ : ∃ t, (pw c P2).n = t := ⟨_, rfl⟩
              obtain ⟨qN, hqN⟩ : ∃ t, (y * pw c P2).n = t := ⟨_, rfl⟩
              have HPW : Hid (∀ W, FOk W fb → Calls Tryz.prog 50 #[.pointer (some ⟨fb, 0, none⟩), .int .u8 (cN : Nat), .int .i64 (P2 : Nat)] W (fun e w' => e = .returned (.int .u8 (pN : Nat)) ∧ Kp [fb] W w' ∧ FOk w' fb)) := Lib.hid (by
                have := HPOW.out P2 (by omega)
                rwa [hpN] at this)
              have HMU : Hid (∀ W, FOk W fb → Calls Tryz.prog 51 #[.pointer (some ⟨fb, 0, none⟩), .int .u8 (yN : Nat), .int .u8 (pN : Nat)] W (fun e w' => e = .returned (.int .u8 (qN : Nat)) ∧ Kp [fb] W w' ∧ FOk w' fb)) := Lib.hid (by
                have := HMUL.out (pw c P2)
                rwa [hpN, hqN] at this)
              have HQN := Lib.hid hqN
              have HED := Lib.hid HE.out.drew
              have y0 := cell_of_heap HE.out.hA (j := 0) rfl
              have y3 := cell_of_heap HE.out.hA (j := 3) rfl
              have m2 := cell_of_heap HE.out.hM (j := 2) rfl
              have cy0 := HCY.out wr HE.out.kp
              have g1 := lt_of_heap HE.out.hA
              have g2 := lt_of_heap HE.out.hM
              obtain ⟨kp, hkp⟩ : ∃ kp : Nat → Bool, ∀ j, kp j = true ↔ j < w.heap.size + 1 ∧ j ≠ fb := ⟨fun j => decide (j < w.heap.size + 1 ∧ j ≠ fb), by simp⟩
              have k1 : kp w.heap.size = true := (hkp _).2 ⟨by omega, by omega⟩
              have k2 : kp b2 = true := (hkp _).2 ⟨by omega, by omega⟩
              have HKP := Lib.hid hkp
              clear hkp hpN hqN
              go_upto_region 15 with fail
              have hgr := fun (w0 W : World) (p : Addr) (hp : (fun j => kp j = true) p.block) => graft_cell (w0 := w0) (keep := (fun j => kp j = true)) W hp
              refine wp_region_tree (fun j => kp j = true) [1, 13, 14, 15, 16, 18] (.step 0 (.step 2 (.step 3 (.step 4 (.step 5 (.step 6 (.step 7 (.step 8 (.step 9 (.step 10 (.step 11 (.step 12 (.fork 1 (.step 13 (.step 14 (.step 15 (.step 16 (.step 17 (.step 18 .done)))))) 13 (.fork 1 (.step 14 (.step 15 (.step 16 (.step 17 (.step 18 .done))))) 14 (.fork 1 (.step 15 (.step 16 (.step 17 (.step 18 .done)))) 15 (.step 1 (.step 16 (.step 17 (.step 18 .done))))))))))))))))))) (by kernel_rfl) (by kernel_rfl) ?_
              simp only [slimTr, slimStep, Oper.slim, List.contains_cons, List.contains_nil, Option.map_none, Option.map_some, List.getElem?_toArray, List.getElem?_cons_zero, List.getElem?_cons_succ, Option.bind_some, beq_self_eq_true, Bool.or_false, Nat.reduceBEq, Nat.reduceAdd, Nat.zero_add]
              repeat (first | (refine wpSlimT_append _ _ _ rfl rfl rfl rfl rfl hap (fun kk hkk => HKE.out kk ((HKP.out kk).1 hkk).1 ((HKP.out kk).1 hkk).2) ?_) | ((with_reducible refine wpSlimT_step (fun K hK => ?_)); go_simp; first | (refine hK _ _ ?_; clear hK K) | (refine ⟨by (intro kk hkk; first | (simp (disch := (simp; omega)) only [hp_drew, hp_drewN, hp_alloc, hp_set]; done) | (simp [hp_drew, hp_drewN, hp_alloc_if, hkk]; done) | (have hkk2 := (HKP.out kk).1 hkk; first | exact HKC.out kk hkk2.1 hkk2.2 | exact HKC4.out kk hkk2.1 hkk2.2 | exact (hp_alloc _ _ _ (by first | omega | (simp; omega))).trans (HKC.out kk hkk2.1 hkk2.2) | exact (hp_set _ _ _ _ (by simp; omega)).trans (HKE.out kk hkk2.1 hkk2.2) | exact hp_alloc _ _ _ (by first | omega | (simp; omega)))), hK _ _ ?_⟩; clear hK K)| (go_at_call 50; (with_reducible refine (HPW.out _ HED.out.ok).mono ?_); rintro e w4 ⟨rfl, hk4, hf4⟩; have he4 := HED.out.call HO.out hk4 hf4; have m24 := cell_of_heap he4.hM (j := 2) rfl; have g24 := lt_of_heap he4.hM; have HKC4 : Hid (∀ kk, kk < w.heap.size + 1 → kk ≠ fb → w4.heap[kk]? = wr.heap[kk]?) := Lib.hid (fun kk h1 h2 => hk4.block kk (by have := HE.out.sz; show kk < wr.heap.size; omega) (by simpa using h2)); have HE4 := Lib.hid he4; clear hk4 hf4 he4; refine ⟨_, rfl, (fun kk hkk => HKC4.out kk ((HKP.out kk).1 hkk).1 ((HKP.out kk).1 hkk).2), hK _ _ ?_⟩; clear hK K) | (go_at_call 51; (with_reducible refine (HMU.out _ HE4.out.ok).mono ?_); rintro e w5 ⟨rfl, hk5, hf5⟩; have he5 := HE4.out.call HO.out hk5 hf5; obtain ⟨a1, m1, c1, w6, hap, hm1, hke, he7⟩ := he5.push HO.out _ HQN.out HJL.out; have m25 := cell_of_heap he5.hM (j := 2) rfl; have m26 := cell_of_heap ((hke _ (by omega)).trans he5.hM) (j := 2) rfl; have z26 := free_of_heap ((hke _ (by omega)).trans he5.hM) 2; have g25 := lt_of_heap he5.hM; have g26 := lt_of_heap ((hke _ (by omega)).trans he5.hM); have HKC : Hid (∀ kk, kk < w.heap.size + 1 → kk ≠ fb → w5.heap[kk]? = wr.heap[kk]?) := Lib.hid (fun kk h1 h2 => (hk5.block kk (by have := HE4.out.sz; omega) (by simpa using h2)).trans (HKC4.out kk h1 h2)); have HKE : Hid (∀ kk, kk < w.heap.size + 1 → kk ≠ fb → w6.heap[kk]? = wr.heap[kk]?) := Lib.hid (fun kk h1 h2 => (hke kk (by omega)).trans (HKC.out kk h1 h2)); have HE7 := Lib.hid he7; clear hk5 hf5 he5 hm1 hke he7; refine ⟨_, rfl, (fun kk hkk => HKC.out kk ((HKP.out kk).1 hkk).1 ((HKP.out kk).1 hkk).2), hK _ _ ?_⟩; clear hK K)))
              first
                | with_reducible refine wpSlimT_done ?_
                | refine wpSlimT_fork ?_ ?_
                  all_goals
                    repeat (first | (refine wpSlimT_append _ _ _ rfl rfl rfl rfl rfl hap (fun kk hkk => HKE.out kk ((HKP.out kk).1 hkk).1 ((HKP.out kk).1 hkk).2) ?_) | ((with_reducible refine wpSlimT_step (fun K hK => ?_)); go_simp; first | (refine hK _ _ ?_; clear hK K) | (refine ⟨by (intro kk hkk; first | (simp (disch := (simp; omega)) only [hp_drew, hp_drewN, hp_alloc, hp_set]; done) | (simp [hp_drew, hp_drewN, hp_alloc_if, hkk]; done) | (have hkk2 := (HKP.out kk).1 hkk; first | exact HKC.out kk hkk2.1 hkk2.2 | exact HKC4.out kk hkk2.1 hkk2.2 | exact (hp_alloc _ _ _ (by first | omega | (simp; omega))).trans (HKC.out kk hkk2.1 hkk2.2) | exact (hp_set _ _ _ _ (by simp; omega)).trans (HKE.out kk hkk2.1 hkk2.2) | exact hp_alloc _ _ _ (by first | omega | (simp; omega)))), hK _ _ ?_⟩; clear hK K)| (go_at_call 50; (with_reducible refine (HPW.out _ HED.out.ok).mono ?_); rintro e w4 ⟨rfl, hk4, hf4⟩; have he4 := HED.out.call HO.out hk4 hf4; have m24 := cell_of_heap he4.hM (j := 2) rfl; have g24 := lt_of_heap he4.hM; have HKC4 : Hid (∀ kk, kk < w.heap.size + 1 → kk ≠ fb → w4.heap[kk]? = wr.heap[kk]?) := Lib.hid (fun kk h1 h2 => hk4.block kk (by have := HE.out.sz; show kk < wr.heap.size; omega) (by simpa using h2)); have HE4 := Lib.hid he4; clear hk4 hf4 he4; refine ⟨_, rfl, (fun kk hkk => HKC4.out kk ((HKP.out kk).1 hkk).1 ((HKP.out kk).1 hkk).2), hK _ _ ?_⟩; clear hK K) | (go_at_call 51; (with_reducible refine (HMU.out _ HE4.out.ok).mono ?_); rintro e w5 ⟨rfl, hk5, hf5⟩; have he5 := HE4.out.call HO.out hk5 hf5; obtain ⟨a1, m1, c1, w6, hap, hm1, hke, he7⟩ := he5.push HO.out _ HQN.out HJL.out; have m25 := cell_of_heap he5.hM (j := 2) rfl; have m26 := cell_of_heap ((hke _ (by omega)).trans he5.hM) (j := 2) rfl; have z26 := free_of_heap ((hke _ (by omega)).trans he5.hM) 2; have g25 := lt_of_heap he5.hM; have g26 := lt_of_heap ((hke _ (by omega)).trans he5.hM); have HKC : Hid (∀ kk, kk < w.heap.size + 1 → kk ≠ fb → w5.heap[kk]? = wr.heap[kk]?) := Lib.hid (fun kk h1 h2 => (hk5.block kk (by have := HE4.out.sz; omega) (by simpa using h2)).trans (HKC4.out kk h1 h2)); have HKE : Hid (∀ kk, kk < w.heap.size + 1 → kk ≠ fb → w6.heap[kk]? = wr.heap[kk]?) := Lib.hid (fun kk h1 h2 => (hke kk (by omega)).trans (HKC.out kk h1 h2)); have HE7 := Lib.hid he7; clear hk5 hf5 he5 hm1 hke he7; refine ⟨_, rfl, (fun kk hkk => HKC.out kk ((HKP.out kk).1 hkk).1 ((HKP.out kk).1 hkk).2), hK _ _ ?_⟩; clear hK K)))
                    first
                      | with_reducible refine wpSlimT_done ?_
                      | refine wpSlimT_fork ?_ ?_
                        all_goals
                          repeat (first | (refine wpSlimT_append _ _ _ rfl rfl rfl rfl rfl hap (fun kk hkk => HKE.out kk ((HKP.out kk).1 hkk).1 ((HKP.out kk).1 hkk).2) ?_) | ((with_reducible refine wpSlimT_step (fun K hK => ?_)); go_simp; first | (refine hK _ _ ?_; clear hK K) | (refine ⟨by (intro kk hkk; first | (simp (disch := (simp; omega)) only [hp_drew, hp_drewN, hp_alloc, hp_set]; done) | (simp [hp_drew, hp_drewN, hp_alloc_if, hkk]; done) | (have hkk2 := (HKP.out kk).1 hkk; first | exact HKC.out kk hkk2.1 hkk2.2 | exact HKC4.out kk hkk2.1 hkk2.2 | exact (hp_alloc _ _ _ (by first | omega | (simp; omega))).trans (HKC.out kk hkk2.1 hkk2.2) | exact (hp_set _ _ _ _ (by simp; omega)).trans (HKE.out kk hkk2.1 hkk2.2) | exact hp_alloc _ _ _ (by first | omega | (simp; omega)))), hK _ _ ?_⟩; clear hK K)| (go_at_call 50; (with_reducible refine (HPW.out _ HED.out.ok).mono ?_); rintro e w4 ⟨rfl, hk4, hf4⟩; have he4 := HED.out.call HO.out hk4 hf4; have m24 := cell_of_heap he4.hM (j := 2) rfl; have g24 := lt_of_heap he4.hM; have HKC4 : Hid (∀ kk, kk < w.heap.size + 1 → kk ≠ fb → w4.heap[kk]? = wr.heap[kk]?) := Lib.hid (fun kk h1 h2 => hk4.block kk (by have := HE.out.sz; show kk < wr.heap.size; omega) (by simpa using h2)); have HE4 := Lib.hid he4; clear hk4 hf4 he4; refine ⟨_, rfl, (fun kk hkk => HKC4.out kk ((HKP.out kk).1 hkk).1 ((HKP.out kk).1 hkk).2), hK _ _ ?_⟩; clear hK K) | (go_at_call 51; (with_reducible refine (HMU.out _ HE4.out.ok).mono ?_); rintro e w5 ⟨rfl, hk5, hf5⟩; have he5 := HE4.out.call HO.out hk5 hf5; obtain ⟨a1, m1, c1, w6, hap, hm1, hke, he7⟩ := he5.push HO.out _ HQN.out HJL.out; have m25 := cell_of_heap he5.hM (j := 2) rfl; have m26 := cell_of_heap ((hke _ (by omega)).trans he5.hM) (j := 2) rfl; have z26 := free_of_heap ((hke _ (by omega)).trans he5.hM) 2; have g25 := lt_of_heap he5.hM; have g26 := lt_of_heap ((hke _ (by omega)).trans he5.hM); have HKC : Hid (∀ kk, kk < w.heap.size + 1 → kk ≠ fb → w5.heap[kk]? = wr.heap[kk]?) := Lib.hid (fun kk h1 h2 => (hk5.block kk (by have := HE4.out.sz; omega) (by simpa using h2)).trans (HKC4.out kk h1 h2)); have HKE : Hid (∀ kk, kk < w.heap.size + 1 → kk ≠ fb → w6.heap[kk]? = wr.heap[kk]?) := Lib.hid (fun kk h1 h2 => (hke kk (by omega)).trans (HKC.out kk h1 h2)); have HE7 := Lib.hid he7; clear hk5 hf5 he5 hm1 hke he7; refine ⟨_, rfl, (fun kk hkk => HKC.out kk ((HKP.out kk).1 hkk).1 ((HKP.out kk).1 hkk).2), hK _ _ ?_⟩; clear hK K)))
                          first
                            | with_reducible refine wpSlimT_done ?_
                            | refine wpSlimT_fork ?_ ?_
                              all_goals
                                repeat (first | (refine wpSlimT_append _ _ _ rfl rfl rfl rfl rfl hap (fun kk hkk => HKE.out kk ((HKP.out kk).1 hkk).1 ((HKP.out kk).1 hkk).2) ?_) | ((with_reducible refine wpSlimT_step (fun K hK => ?_)); go_simp; first | (refine hK _ _ ?_; clear hK K) | (refine ⟨by (intro kk hkk; first | (simp (disch := (simp; omega)) only [hp_drew, hp_drewN, hp_alloc, hp_set]; done) | (simp [hp_drew, hp_drewN, hp_alloc_if, hkk]; done) | (have hkk2 := (HKP.out kk).1 hkk; first | exact HKC.out kk hkk2.1 hkk2.2 | exact HKC4.out kk hkk2.1 hkk2.2 | exact (hp_alloc _ _ _ (by first | omega | (simp; omega))).trans (HKC.out kk hkk2.1 hkk2.2) | exact (hp_set _ _ _ _ (by simp; omega)).trans (HKE.out kk hkk2.1 hkk2.2) | exact hp_alloc _ _ _ (by first | omega | (simp; omega)))), hK _ _ ?_⟩; clear hK K)| (go_at_call 50; (with_reducible refine (HPW.out _ HED.out.ok).mono ?_); rintro e w4 ⟨rfl, hk4, hf4⟩; have he4 := HED.out.call HO.out hk4 hf4; have m24 := cell_of_heap he4.hM (j := 2) rfl; have g24 := lt_of_heap he4.hM; have HKC4 : Hid (∀ kk, kk < w.heap.size + 1 → kk ≠ fb → w4.heap[kk]? = wr.heap[kk]?) := Lib.hid (fun kk h1 h2 => hk4.block kk (by have := HE.out.sz; show kk < wr.heap.size; omega) (by simpa using h2)); have HE4 := Lib.hid he4; clear hk4 hf4 he4; refine ⟨_, rfl, (fun kk hkk => HKC4.out kk ((HKP.out kk).1 hkk).1 ((HKP.out kk).1 hkk).2), hK _ _ ?_⟩; clear hK K) | (go_at_call 51; (with_reducible refine (HMU.out _ HE4.out.ok).mono ?_); rintro e w5 ⟨rfl, hk5, hf5⟩; have he5 := HE4.out.call HO.out hk5 hf5; obtain ⟨a1, m1, c1, w6, hap, hm1, hke, he7⟩ := he5.push HO.out _ HQN.out HJL.out; have m25 := cell_of_heap he5.hM (j := 2) rfl; have m26 := cell_of_heap ((hke _ (by omega)).trans he5.hM) (j := 2) rfl; have z26 := free_of_heap ((hke _ (by omega)).trans he5.hM) 2; have g25 := lt_of_heap he5.hM; have g26 := lt_of_heap ((hke _ (by omega)).trans he5.hM); have HKC : Hid (∀ kk, kk < w.heap.size + 1 → kk ≠ fb → w5.heap[kk]? = wr.heap[kk]?) := Lib.hid (fun kk h1 h2 => (hk5.block kk (by have := HE4.out.sz; omega) (by simpa using h2)).trans (HKC4.out kk h1 h2)); have HKE : Hid (∀ kk, kk < w.heap.size + 1 → kk ≠ fb → w6.heap[kk]? = wr.heap[kk]?) := Lib.hid (fun kk h1 h2 => (hke kk (by omega)).trans (HKC.out kk h1 h2)); have HE7 := Lib.hid he7; clear hk5 hf5 he5 hm1 hke he7; refine ⟨_, rfl, (fun kk hkk => HKC.out kk ((HKP.out kk).1 hkk).1 ((HKP.out kk).1 hkk).2), hK _ _ ?_⟩; clear hK K)))
                                with_reducible refine wpSlimT_done ?_
              all_goals clear hgr
              all_goals
                have HE8 : Hid (ExI fb w.heap.size (w.heap.size + 1) (w.heap.size + 1 + 1) k L C Y (some ⟨b1, o1, none⟩) cx (some ⟨b2, o2, none⟩) cy w (.slice a1 m1 c1) (.slice ar mr cr) (rowF (flat C (sysA X ys P)) (J + 1)) (rowF (sysB X ys v) I) (w6.setCell ⟨w.heap.size + 1, 2, none⟩ (.slice a1 m1 c1))) := Lib.hid (by rw [rowF_succ, HVX.out]; exact HE7.out)
                go_wp2
                go_roundg (v - (P2 + 1))
                case measure => omega
                case rel => exact ⟨P2 + 1, J + 1, a1, m1, c1, by omega, rfl, by go_num, Lib.hid (by rw [HJ.out]; rfl), HE8⟩
            · obtain rfl : P2 = v := by omega
              have HJL : Hid ((rowF (sysB X ys P2) I).length ≤ 1000000) := Lib.hid (by rw [rowF_len]; omega)
              obtain ⟨pN, hpN⟩ : ∃ t, (pw c P2).n = t := ⟨_, rfl⟩
              obtain ⟨qN, hqN⟩ : ∃ t, (y * pw c P2).n = t := ⟨_, rfl⟩
              have HPW : Hid (∀ W, FOk W fb → Calls Tryz.prog 50 #[.pointer (some ⟨fb, 0, none⟩), .int .u8 (cN : Nat), .int .i64 (P2 : Nat)] W (fun e w' => e = .returned (.int .u8 (pN : Nat)) ∧ Kp [fb] W w' ∧ FOk w' fb)) := Lib.hid (by
                have := HPOW.out P2 (by omega)
                rwa [hpN] at this)
              have HMU : Hid (∀ W, FOk W fb → Calls Tryz.prog 51 #[.pointer (some ⟨fb, 0, none⟩), .int .u8 (yN : Nat), .int .u8 (pN : Nat)] W (fun e w' => e = .returned (.int .u8 (qN : Nat)) ∧ Kp [fb] W w' ∧ FOk w' fb)) := Lib.hid (by
                have := HMUL.out (pw c P2)
                rwa [hpN, hqN] at this)
              have HQN := Lib.hid hqN
              have HED := Lib.hid HE.out.drew
              have y0 := cell_of_heap HE.out.hA (j := 0) rfl
              have y3 := cell_of_heap HE.out.hA (j := 3) rfl
              have m2 := cell_of_heap HE.out.hM (j := 2) rfl
              have cy0 := HCY.out wr HE.out.kp
              have g1 := lt_of_heap HE.out.hA
              have g2 := lt_of_heap HE.out.hM
              obtain ⟨kp, hkp⟩ : ∃ kp : Nat → Bool, ∀ j, kp j = true ↔ j < w.heap.size + 1 ∧ j ≠ fb := ⟨fun j => decide (j < w.heap.size + 1 ∧ j ≠ fb), by simp⟩
              have k1 : kp w.heap.size = true := (hkp _).2 ⟨by omega, by omega⟩
              have k2 : kp b2 = true := (hkp _).2 ⟨by omega, by omega⟩
              have HKP := Lib.hid hkp
              clear hkp hpN hqN
              go_upto_region 17 with fail
              have hgr := fun (w0 W : World) (p : Addr) (hp : (fun j => kp j = true) p.block) => graft_cell (w0 := w0) (keep := (fun j => kp j = true)) W hp
              refine wp_region_tree (fun j => kp j = true) [12, 13, 14, 15] (.step 0 (.step 1 (.step 2 (.step 3 (.step 4 (.step 5 (.step 6 (.step 7 (.step 8 (.step 9 (.step 10 (.step 11 (.step 12 (.step 13 (.step 14 (.step 15 (.step 16 .done))))))))))))))))) (by kernel_rfl) (by kernel_rfl) ?_
              simp only [slimTr, slimStep, Oper.slim, List.contains_cons, List.contains_nil, Option.map_none, Option.map_some, List.getElem?_toArray, List.getElem?_cons_zero, List.getElem?_cons_succ, Option.bind_some, beq_self_eq_true, Bool.or_false, Nat.reduceBEq, Nat.reduceAdd, Nat.zero_add]
              repeat (first | (refine wpSlimT_append _ _ _ rfl rfl rfl rfl rfl hap (fun kk hkk => HKE.out kk ((HKP.out kk).1 hkk).1 ((HKP.out kk).1 hkk).2) ?_) | ((with_reducible refine wpSlimT_step (fun K hK => ?_)); go_simp; first | (refine hK _ _ ?_; clear hK K) | (refine ⟨by (intro kk hkk; first | (simp (disch := (simp; omega)) only [hp_drew, hp_drewN, hp_alloc, hp_set]; done) | (simp [hp_drew, hp_drewN, hp_alloc_if, hkk]; done) | (have hkk2 := (HKP.out kk).1 hkk; first | exact HKC.out kk hkk2.1 hkk2.2 | exact HKC4.out kk hkk2.1 hkk2.2 | exact (hp_alloc _ _ _ (by first | omega | (simp; omega))).trans (HKC.out kk hkk2.1 hkk2.2) | exact (hp_set _ _ _ _ (by simp; omega)).trans (HKE.out kk hkk2.1 hkk2.2) | exact hp_alloc _ _ _ (by first | omega | (simp; omega)))), hK _ _ ?_⟩; clear hK K)| (go_at_call 50; (with_reducible refine (HPW.out _ HED.out.ok).mono ?_); rintro e w4 ⟨rfl, hk4, hf4⟩; have he4 := HED.out.call HO.out hk4 hf4; have m24 := cell_of_heap he4.hM (j := 2) rfl; have g24 := lt_of_heap he4.hM; have HKC4 : Hid (∀ kk, kk < w.heap.size + 1 → kk ≠ fb → w4.heap[kk]? = wr.heap[kk]?) := Lib.hid (fun kk h1 h2 => hk4.block kk (by have := HE.out.sz; show kk < wr.heap.size; omega) (by simpa using h2)); have HE4 := Lib.hid he4; clear hk4 hf4 he4; refine ⟨_, rfl, (fun kk hkk => HKC4.out kk ((HKP.out kk).1 hkk).1 ((HKP.out kk).1 hkk).2), hK _ _ ?_⟩; clear hK K) | (go_at_call 51; (with_reducible refine (HMU.out _ HE4.out.ok).mono ?_); rintro e w5 ⟨rfl, hk5, hf5⟩; have he5 := HE4.out.call HO.out hk5 hf5; obtain ⟨a1, m1, c1, w6, hap, hm1, hke, he7⟩ := he5.pushR HO.out _ HQN.out HJL.out; have g25 := lt_of_heap he5.hM; have HKC : Hid (∀ kk, kk < w.heap.size + 1 → kk ≠ fb → w5.heap[kk]? = wr.heap[kk]?) := Lib.hid (fun kk h1 h2 => (hk5.block kk (by have := HE4.out.sz; omega) (by simpa using h2)).trans (HKC4.out kk h1 h2)); have HKE : Hid (∀ kk, kk < w.heap.size + 1 → kk ≠ fb → w6.heap[kk]? = wr.heap[kk]?) := Lib.hid (fun kk h1 h2 => (hke kk (by omega)).trans (HKC.out kk h1 h2)); have HE7 := Lib.hid he7; clear hk5 hf5 he5 hm1 hke he7; refine ⟨_, rfl, (fun kk hkk => HKC.out kk ((HKP.out kk).1 hkk).1 ((HKP.out kk).1 hkk).2), hK _ _ ?_⟩; clear hK K)))
              with_reducible refine wpSlimT_done ?_
              all_goals clear hgr
              all_goals
                have HE8 : Hid (ExI fb w.heap.size (w.heap.size + 1) (w.heap.size + 1 + 1) k L C Y (some ⟨b1, o1, none⟩) cx (some ⟨b2, o2, none⟩) cy w (.slice av mv cv) (.slice a1 m1 c1) (rowF (flat C (sysA X ys P)) ((I + 1) * C)) (rowF (sysB X ys P2) (I + 1)) w6) := Lib.hid (by
                  have h1 := HE7.out
                  rw [← HVR.out, ← rowF_succ, HJ.out, HC.out] at h1
                  rw [Nat.succ_mul]
                  exact h1)
                go_wp2
                go_roundg (L - (I + 1))
                case measure => omega
                case rel => exact ⟨a1, m1, c1, av, mv, cv, I + 1, rfl, by omega, rfl, by go_num, HE8⟩
    · obtain rfl : I = L := by omega
      have hlv := (GRd.len HE.out.ov.rd).1
      have hlr := (GRd.len HE.out.orr.rd).1
      rw [rowF_len] at hlv hlr
      obtain rfl : I = mr := hlr
      have hmv2 : mv ≤ 200000 := by
        have := Nat.mul_le_mul hXl hC2
        omega
      have HSOL := Lib.hid (((solve_any fb I C 1 mv I av ar cv cr _ _ (sysA X ys n) (fun i _ => sysB X ys v i) wr HE.out.ok HE.out.ov.rd HE.out.orr.rd hlv (Nat.mul_one _)
        (fun j hj => rowF_get _ (by omega))
        (fun j hj => by
          rw [rowF_get _ hj]
          have := flat_at (by omega : 0 < 1) (fun i (_ : Nat) => sysB X ys v i) j 0 (by omega)
          simpa using this.symm) (by omega) (by have := HC.out; have := HN.out; omega) (by omega) (by omega) (by omega) (by omega) (by omega) (by omega)).mono fun e w' h => sold_of h))
      have a0 := cell_of_heap HE.out.hA (j := 0) rfl
      have a2 := cell_of_heap HE.out.hA (j := 2) rfl
      have m0 := cell_of_heap HE.out.hM (j := 0) rfl
      have m1 := cell_of_heap HE.out.hM (j := 1) rfl
      have m2 := cell_of_heap HE.out.hM (j := 2) rfl
      clear hlv
      go_wp2_with fail
      refine HSOL.out.mono ?_
      rintro e w7 ⟨p, q, sa, sn, sc, ec, rfl, hk7, hf7, hs7⟩
      have HK7 := Lib.hid (HE.out.kp.trans hk7)
      have HA7 := Lib.hid (hk7.heap HE.out.hA (by simp; omega))
      have HF7 := Lib.hid hf7
      have hs37 := hk7.size
      have hszE := HE.out.sz
      have gA7 := lt_of_heap HA7.out
      clear a0 a2 m0 m1 m2 HSOL hk7 hf7
      rcases hs7 with ⟨rfl, g, Xs, h2, h3, h4, h5⟩ | ⟨rfl, h6⟩
      · obtain ⟨rfl, rfl, rfl⟩ := (Value.slice.injEq ..).mp h2
        have hC0 : 0 < sc := by have := HC.out; have := HN.out; omega
        have hnC : n ≤ sc := by have := HC.out; omega
        have HV7 := Lib.hid h4
        have HSYS : Hid (∀ i, i < X.length → sm (k + v + v) (fun p => sysA X ys (k + v) i p * Xs p) = sysB X ys v i) := Lib.hid fun i hi => by
          have := (eqn_iff _ _ _ _ _ _ i).1 (h5 i (by rw [← HLE.out]; exact hi))
          rw [sm_dlt (by omega : 0 < 1) (fun _ => sysB X ys v i)] at this
          rw [HN.out, HC.out]
          exact this
        have hsf := slice_front g n sc hC0 hnC
        obtain ⟨so, hsb, hso⟩ := slice_back g n v sc hC0 HC.out
        obtain ⟨w8, hw8⟩ : ∃ w8, w8 = w7.alloc (.cells #[.int .i64 p, .int .i64 q, .slice (some ⟨g, 0, none⟩) sc sc] 72) := ⟨_, rfl⟩
        have hb78 : Below w7.heap.size w7 w8 := by rw [hw8]; exact (Below.refl _ _).alloc (Nat.le_refl _) _
        have HBOX : Hid (w8.heap[w7.heap.size]? = some (.cells #[.int .i64 p, .int .i64 q, .slice (some ⟨g, 0, none⟩) sc sc] 72 (0, 0))) := Lib.hid (by rw [hw8]; exact heap_newA _ _)
        have HA8 := Lib.hid (keepB hb78 HA7.out)
        have HV8 := Lib.hid (HV7.out.below hb78)
        have hs78 := hb78.size
        obtain ⟨c1, mE, aE, w10, hap, hb10, ho10, hm10⟩ := app_full (W := w8.drew) (g := g) (so := so) (v := v) (r := fun j => Xs (n + j)) (fun j hj => by
          rw [hso (by omega)]
          exact (HV8.out.2 (n + j) (by have := HC.out; omega)).1) HV8.out.1 (by omega) 1 (nn := 1) rfl (ad := w8.heap.size) rfl
        have hb810 : Below w8.heap.size w8 w10 := ((Below.refl _ _).drew).trans (hb10.mono (Nat.le_refl _))
        have hb710 : Below w7.heap.size w7 w10 := hb78.trans (hb810.mono hs78)
        have HB710 := Lib.hid hb710
        have HB810 := Lib.hid hb810
        have HDIV : Hid (Calls Tryz.prog 52 #[.pointer (some ⟨fb, 0, none⟩), .slice (some ⟨g, 0, none⟩) n sc, .slice aE mE c1] w10 (PDivPost fb (rowF Xs n) (eOf Xs n v) v w10)) := Lib.hid (by
          have h1 := (HV7.out.below hb710).rd (o := 0) (m := n) (cap := sc) (by omega) hnC
          have e1 : ((List.range n).map fun j => Xs (0 + j)) = rowF Xs n := by simp [rowF]
          rw [e1] at h1
          refine pdiv_any fb _ _ _ _ v w10 (HF7.out.below hb710) h1 ho10.rd (eOf_len _ _ _) ?_ (by rw [rowF_len]; omega) (by omega)
          have : (eOf Xs n v).getD v 0 = 1 := by
            rw [eOf, List.getD_eq_getElem?_getD, List.getElem?_append_right (by rw [rowF_len]; exact Nat.le_refl _), rowF_len]
            simp
          rw [this]
          exact one_ne0)
        have HW8 := Lib.hid hw8
        have HKE : Hid (∀ kk, kk < w8.heap.size → kk ≠ fb → w10.heap[kk]? = w8.heap[kk]?) := Lib.hid fun kk h1 _ => hb810.block kk h1
        have gA8 := lt_of_heap HA8.out
        have gB8 := lt_of_heap HBOX.out
        have y0 := cell_of_heap HA8.out (j := 0) rfl
        have y1 := cell_of_heap HA8.out (j := 1) rfl
        have b2 := cell_of_heap HBOX.out (j := 2) rfl
        obtain ⟨kp, hkp⟩ : ∃ kp : Nat → Bool, ∀ j, kp j = true ↔ j < w8.heap.size ∧ j ≠ fb := ⟨fun j => decide (j < w8.heap.size ∧ j ≠ fb), by simp⟩
        have k1 : kp w.heap.size = true := (hkp _).2 ⟨gA8, by omega⟩
        have k2 : kp w7.heap.size = true := (hkp _).2 ⟨gB8, by omega⟩
        have HKP := Lib.hid hkp
        have hsc2 : sc ≤ 768 := by omega
        have j1 : (0 : Int) ≤ (n : Int) ∧ (n : Int) ≤ (sc : Int) := by omega
        clear hkp hw8 hb78 hb10 ho10 hm10 hb810 hb710 h2 h3 h4 h5
        go_upto_region 22 with fail
        rw [← HW8.out]
        have hgr := fun (w0 W : World) (p : Addr) (hp : (fun j => kp j = true) p.block) => graft_cell (w0 := w0) (keep := (fun j => kp j = true)) W hp
        refine wp_region_tree (fun j => kp j = true) [16, 17, 18] (.step 0 (.step 1 (.step 2 (.step 3 (.step 4 (.step 5 (.step 6 (.step 7 (.step 8 (.step 9 (.step 10 (.step 11 (.step 12 (.step 13 (.step 14 (.step 15 (.step 16 (.step 17 (.step 18 (.step 19 (.step 20 (.step 21 (.step 22 (.step 23 (.step 24 (.step 25 .done)))))))))))))))))))))))))) (by kernel_rfl) (by kernel_rfl) ?_
        simp only [slimTr, slimStep, Oper.slim, List.contains_cons, List.contains_nil, Option.map_none, Option.map_some, List.getElem?_toArray, List.getElem?_cons_zero, List.getElem?_cons_succ, Option.bind_some, beq_self_eq_true, Bool.or_false, Nat.reduceBEq, Nat.reduceAdd, Nat.zero_add]
        repeat (first | (refine wpSlimT_append _ _ _ rfl rfl rfl rfl rfl hap (fun kk hkk => HKE.out kk ((HKP.out kk).1 hkk).1 ((HKP.out kk).1 hkk).2) ?_) | ((with_reducible refine wpSlimT_step (fun K hK => ?_)); go_simp; first | (refine hK _ _ ?_; clear hK K) | (refine ⟨by (intro kk hkk; first | (simp (disch := (simp; omega)) only [hp_drew, hp_drewN, hp_alloc, hp_set]; done) | (simp [hp_drew, hp_drewN, hp_alloc_if, hkk]; done) | (have hkk2 := (HKP.out kk).1 hkk; first | exact HKC.out kk hkk2.1 hkk2.2 | exact HKC4.out kk hkk2.1 hkk2.2 | exact (hp_alloc _ _ _ (by first | omega | (simp; omega))).trans (HKC.out kk hkk2.1 hkk2.2) | exact (hp_set _ _ _ _ (by simp; omega)).trans (HKE.out kk hkk2.1 hkk2.2) | exact hp_alloc _ _ _ (by first | omega | (simp; omega)))), hK _ _ ?_⟩; clear hK K)| (go_at_call 52; (with_reducible refine HDIV.out.mono ?_); rintro e w11 ⟨u, v', Qp, Rp, rfl, hoq, hor, htq, htr, hev, hrl, hql, hk11, hf11⟩; obtain ⟨au, cu, rfl, -⟩ := hoq.form; obtain ⟨avr, cvr, rfl, -⟩ := hor.form; have HOQ := Lib.hid hoq; have HTR := Lib.hid htr; have HEV := Lib.hid hev; have HRL := Lib.hid hrl; have HQL := Lib.hid hql; have HK11 := Lib.hid hk11; have HF11 := Lib.hid hf11; clear hoq hor htq htr hev hrl hql hk11 hf11; refine ⟨_, rfl, (fun kk hkk => (HK11.out.block kk (Nat.lt_of_lt_of_le ((HKP.out kk).1 hkk).1 HB810.out.size) (by simpa using ((HKP.out kk).1 hkk).2)).trans (HKE.out kk ((HKP.out kk).1 hkk).1 ((HKP.out kk).1 hkk).2)), hK _ _ ?_⟩; clear hK K)))
        with_reducible refine wpSlimT_done ?_
        all_goals clear hgr
        all_goals
          have hqk : Qp.length ≤ k := by
            have h1 := HQL.out
            rw [rowF_len] at h1
            have := HN.out
            omega
          have HDT : Hid (∀ m0 : List GF, m0.length = k → (wrI X ys m0).length = v → k + 2 * v ≤ X.length → Rp = [] ∧ padTo Qp k = m0) := Lib.hid fun m0 hm hv hk => by
            have h1 := HEV.out
            have h2 := HN.out
            rw [← h2] at h1
            exact div_tells HND.out hm hv hk HSYS.out h1 HRL.out HTR.out hqk
          have HK12 : Hid (Kp [fb] w w11) := Lib.hid ((HK7.out.below_step HB710.out).trans HK11.out)
          have y1 := cell_of_heap (HK11.out.heap (keepB HB810.out HA8.out) (by simp; omega)) (j := 1) rfl
          obtain ⟨rl, hrl⟩ : ∃ rl, Rp.length = rl := ⟨_, rfl⟩
          obtain ⟨ql, hql⟩ : ∃ ql, Qp.length = ql := ⟨_, rfl⟩
          have HRLE := Lib.hid hrl
          have HQLE := Lib.hid hql
          rw [hql] at hqk
          have HOQ2 := HOQ
          rw [hql] at HOQ2
          rw [hrl, hql]
          have hs10 := HB710.out.size
          have hsQ := HK11.out.size
          clear hrl hql b2 y0 hap
          by_cases hr0 : rl = 0
          · subst hr0
            have hqk' : ¬ (k : Int) < (ql : Int) := by omega
            obtain ⟨Z, hZ⟩ : ∃ Z, k - ql = Z := ⟨_, rfl⟩
            have z1 : (k : Int) - (ql : Int) = (Z : Int) := by omega
            have z2 : IntKind.i64.wrap (Z : Int) = (Z : Int) := IntWalk.i64_in _ (by omega)
            obtain ⟨v1, w12, hapz, ho12, hk12, hb12⟩ := app_zeros (W := w11) HOQ2.out (by rw [HQLE.out]; omega) hsQ Z (by omega)
            have hpad : Qp ++ List.replicate Z 0 = padTo Qp k := by
              unfold padTo
              rw [HQLE.out, hZ]
            rw [hpad] at ho12
            have hVB : ∀ y, y ∈ (Value.slice au ql cu).ownBlock.toList → w10.heap.size ≤ y := fun y hy => (HOQ2.out.lt y (by simpa using hy)).1
            have HFIN : Hid (ExPost fb k v X ys w (.returned (.tuple #[v1, .bool true])) w12) := Lib.hid
              ⟨HK12.out.step hk12 (fun y hy => .inr (by have := hVB y hy; omega)), HF11.out.kp hk12 (fun hm => by have := hVB _ hm; omega), .inr ⟨v1, _, rfl, padTo_len _ (by rw [HQLE.out]; exact hqk), ho12.mono (by omega), fun m0 h1 h2 h3 => (HDT.out m0 h1 h2 h3).2⟩⟩
            clear hZ ho12 hk12 hb12 hpad hVB
            go_wp2_with (at_builtin; refine Lib.wpList_append_run _ rfl _ _ _ _ rfl _ _ rfl rfl _ _ hapz ?_)
            go_ret2
            exact HFIN.out
          · have hr1 : (0 : Int) < (rl : Int) := by omega
            have HFIN : Hid (ExPost fb k v X ys w (.returned (.tuple #[.slice none 0 0, .bool false])) w11) := Lib.hid
              ⟨HK12.out, HF11.out, .inl ⟨rfl, fun m0 h1 h2 h3 => by
                have := (HDT.out m0 h1 h2 h3).1
                have h4 := HRLE.out
                rw [this] at h4
                exact hr0 h4.symm⟩⟩
            clear hr0
            go_wp2
            go_ret2
            exact HFIN.out
      · have HNO : Hid (∀ m0 : List GF, m0.length = k → (wrI X ys m0).length = v → k + 2 * v ≤ X.length → False) := Lib.hid fun m0 hm hv hk => by
          have hN := HN.out
          have hCC := HC.out
          rw [← HLE.out] at h6
          subst hN
          subst hCC
          rcases h6 with ⟨x, ⟨c, hc, hne⟩, hz⟩ | h
          · exact hne (sol_one HND.out hm hv hk hz c hc)
          · obtain ⟨s, hs⟩ := sol_ex HND.out hm hv hk
            refine h s fun i hi => (eqn_iff _ _ _ _ _ _ i).2 ?_
            rw [sm_dlt (by omega : 0 < 1) (fun _ => sysB X ys v i)]
            exact hs i hi
        have hb78 : Below w7.heap.size w7 (w7.alloc (.cells #[.int .i64 p, .int .i64 q, .slice sa sn sc] 72)) := (Below.refl _ _).alloc (Nat.le_refl _) _
        have HFIN := Lib.hid (And.intro (HK7.out.below_step hb78) (HF7.out.below hb78))
        clear h6 hb78
        go_wp2
        go_ret2
        exact ⟨HFIN.out.1, HFIN.out.2, .inl ⟨rfl, HNO.out⟩⟩
end Go.Proofs.YteeeocianofkfaaGreat
