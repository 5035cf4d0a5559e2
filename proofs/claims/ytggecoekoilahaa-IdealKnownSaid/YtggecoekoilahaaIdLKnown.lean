/-
  starfishlaw29.IdealKnown, walked.
-/
import Derived.Test.YtggecoekoilahaaIdKnownMem
import Derived.Test.YtggecoekoilahaaIdKnownPlain
namespace Go.Proofs.Ytggecoekoilahaa
open Go.RowKit
set_option linter.unusedSimpArgs false
set_option linter.unusedVariables false

/-- The call in its block, whatever it is. -/
def KAny (w : World) (V : Value) (H : List CM) (cb : Nat) (wx : World) : Prop := ∃ m, KSt w V H cb m wx
def KPtr (w : World) (V : Value) (H : List CM) (s : Value) (wx : World) : Prop := ∃ cb m, s = .pointer (some ⟨cb, 0, none⟩) ∧ KSt w V H cb m wx
theorem KSt.cells {w : World} {V : Value} {H : List CM} {cb : Nat} {m : CM} {wx : World} (h : KSt w V H cb m wx) :
    (wx.cell? ⟨cb, 0, none⟩ = some (.int .i64 m.c.cl) ∧ wx.cell? ⟨cb, 1, none⟩ = some (.int .u8 m.c.kd) ∧ wx.cell? ⟨cb, 2, none⟩ = some (.string m.c.key) ∧ wx.cell? ⟨cb, 3, none⟩ = some (.slice m.c.va m.c.vl m.c.vc) ∧
    wx.cell? ⟨cb, 4, none⟩ = some (.int .i64 m.c.fr) ∧ wx.cell? ⟨cb, 5, none⟩ = some (.int .i64 m.c.to) ∧ wx.cell? ⟨cb, 6, none⟩ = some (.int .i64 m.c.co) ∧ wx.cell? ⟨cb, 7, none⟩ = some (.slice m.c.ga m.c.gl m.c.gc)) ∧
    (wx.frozen? ⟨cb, 5, none⟩ = false ∧ wx.frozen? ⟨cb, 6, none⟩ = false ∧ wx.frozen? ⟨cb, 7, none⟩ = false) ∧ cb < wx.heap.size ∧ w.heap.size ≤ wx.heap.size := by
  have hf : ∀ j, wx.frozen? ⟨cb, j, none⟩ = false := fun j => by have := h.at'; unfold World.frozen?; simp [this]
  exact ⟨cellsC h.at', ⟨hf 5, hf 6, hf 7⟩, lt_of_heap h.at', h.bel.size⟩
def Rel1 (w : World) (gk : Nat) (mv : Value) (wr : World) : Prop := ∃ M : Nat, M ≤ 864 ∧ gk = 864 - M ∧ mv = .int .i64 M ∧ Below w.heap.size w wr
def Rel2 (w : World) (gk : Nat) (hv xv iv : Value) (wr : World) : Prop := ∃ (V : Value) (H : List CM) (x : Nat), V = hv ∧ xv = .int .i64 x ∧ x ≤ 864 ∧ H.length ≤ 3 ∧ gk = 3 - H.length ∧ iv = .int .i64 H.length ∧ Hid (HSt w V H wr)

def mkX (cl kd fr tt : Int) : RC := ⟨cl, kd, keyA, none, 0, 0, fr, tt, 0, none, 0, 0⟩
def cmX (cl kd fr tt : Int) : CM := ⟨mkX cl kd fr tt, [], []⟩
def AtX (wx : World) (b : Nat) (cl kd fr tt : Int) : Prop := wx.heap[b]? = some (.cells #[.int .i64 cl, .int .u8 kd, .string keyA, .slice none 0 0, .int .i64 fr, .int .i64 tt, .int .i64 0, .slice none 0 0] 30 (0, 0))
def Rel3 (w : World) (ob : Nat) (gk : Nat) (cv : Value) (wr : World) : Prop := ∃ C : Nat, C ≤ 9 ∧ gk = 9 - C ∧ cv = .int .i64 C ∧ AtX wr ob 1 1 1 2 ∧ Below w.heap.size w wr

def XAny (w : World) (xb ob : Nat) (wx : World) : Prop := ∃ cl kd fr tt, AtX wx xb cl kd fr tt ∧ AtX wx ob 1 1 1 2 ∧ Below w.heap.size w wx
def Rel4 (w : World) (gk : Nat) (mv iv : Value) (wr : World) : Prop := ∃ (V : Value) (I : Nat), V = mv ∧ I ≤ 11 ∧ gk = 11 - I ∧ iv = .int .i64 I ∧ Hid (MadeC wr w.heap.size V (manyL I)) ∧ Below w.heap.size w wr
theorem permits_new (W : World) (L : List CM) (key : ByteArray) (hl : L.length ≤ 3) (hL : ∀ m ∈ L, ∃ cl kd fr tt, m = cmX cl kd fr tt) :
    Calls Try.prog 6 #[.slice (some ⟨W.heap.size, 0, none⟩) (rcs L).length (rcs L).length, .string key] (W.alloc (.cells (flat (rcs L)).toArray 30)) fun e w' => e = .returned (.bool true) ∧ Below W.heap.size W w' :=
  (law_permits _ key L _ (row_new W (rcs L) _) (fun m hm => by obtain ⟨cl, kd, fr, tt, rfl⟩ := hL m hm; exact ⟨BytesRd.nil _, BytesRd.nil _⟩) (fun m hm => by obtain ⟨cl, kd, fr, tt, rfl⟩ := hL m hm; exact (show keyA.size ≤ maxLen by decide))).mono fun e w' ⟨he, hb⟩ =>
    ⟨he, ((Below.refl _ _).alloc (Nat.le_refl _) _).trans (hb.mono (by simp))⟩
theorem allX1 (a b c d : Int) : ∀ m ∈ [cmX a b c d], ∃ cl kd fr tt, m = cmX cl kd fr tt := by
  intro m hm
  rw [List.mem_singleton.1 hm]
  exact ⟨_, _, _, _, rfl⟩
theorem allX2 (a b c d a' b' c' d' : Int) : ∀ m ∈ [cmX a b c d, cmX a' b' c' d'], ∃ cl kd fr tt, m = cmX cl kd fr tt := by
  intro m hm
  rcases List.mem_cons.1 hm with rfl | hm
  · exact ⟨_, _, _, _, rfl⟩
  · rw [List.mem_singleton.1 hm]
    exact ⟨_, _, _, _, rfl⟩
theorem row_new4 (W : World) : Calls Try.prog 4 #[.slice (some ⟨W.heap.size, 0, none⟩) 4 4, .int .u16 3]
    (W.alloc (.cells #[.int .u8 0, .int .u8 0, .int .u8 5, .bool false, .int .u8 1, .int .u8 0, .int .u8 5, .bool true, .int .u8 2, .int .u8 0, .int .u8 0, .bool false, .int .u8 1, .int .u8 0, .int .u8 5, .bool true] 36)) fun e w' => e = .returned (.bool true) ∧ Below W.heap.size W w' := by
  refine (law_row _ [⟨0, 0, 5, false⟩, ⟨1, 0, 5, true⟩, ⟨2, 0, 0, false⟩, ⟨1, 0, 5, true⟩] 3 _ ?_ ?_ (by omega)).mono fun e w' ⟨he, hb⟩ => ⟨he, ((Below.refl _ _).alloc (Nat.le_refl _) _).trans (hb.mono (by simp))⟩
  · refine ⟨_, 4, rfl, by simp, fun _ => ⟨W.heap.size, 0, rfl, by simp, fun i c hi j u hj => ?_⟩⟩
    have hh := heap_newA W (.cells #[.int .u8 0, .int .u8 0, .int .u8 5, .bool false, .int .u8 1, .int .u8 0, .int .u8 5, .bool true, .int .u8 2, .int .u8 0, .int .u8 0, .bool false, .int .u8 1, .int .u8 0, .int .u8 5, .bool true] 36)
    have hf := flatS_at (cells := AB.cells) (n := 4) AB.cells_length _ _ _ _ _ hi hj
    have hc := cell_of_row _ W.heap.size (i * 4 + j) _ _ (0, 0) hh
    rw [Nat.zero_add, hc, List.getElem?_toArray]
    exact hf
  · intro a ha
    simp only [List.mem_cons, List.not_mem_nil, or_false] at ha
    rcases ha with rfl | rfl | rfl | rfl <;> exact ⟨by decide, by decide, by decide⟩

set_option maxRecDepth 100000 in
set_option maxHeartbeats 2000000 in
theorem law_known (w : World) : Calls Try.prog 7 #[] w fun e w' => e = .returned (.bool true) ∧ Below w.heap.size w w' := by
  have HW := Lib.hid (fun W => idworks_any W)
  obtain ⟨i0, hi, hz0, hz1, hz2⟩ := info_parts mcall_info
  go_enter Try.func7, Try.ntmps7
  go_wp2
  go_loopg [1] 864 (fun gk mv wr => Rel1 w gk mv wr)
  case atStart => exact ⟨0, by omega, rfl, rfl, Below.refl _ _⟩
  case round =>
    obtain ⟨M, hM, rfl, rfl, hB⟩ := hrel
    by_cases hlt : M < 864
    · have fm : decide ((M : Int) < 864) = true := decide_eq_true (by omega)
      go_wp2
      obtain ⟨wo, hwo⟩ : ∃ wo : World, wo = wr := ⟨_, rfl⟩
      have HB := Lib.hid hB
      have hb0 : HSt w (.slice none 0 0) [] wr := HSt.nil hB
      have HB0 := Lib.hid hb0
      clear hB hb0 hwo
      go_loopg [2, 3, 4] 3 (fun gj hv xv iv wk => Rel2 w gj hv xv iv wk)
      case atStart => exact ⟨_, [], M, rfl, rfl, by omega, by simp, rfl, rfl, HB0⟩
      case round =>
        obtain ⟨V, H, x, rfl, rfl, hx, hH, rfl, rfl, hS⟩ := hrel
        by_cases hl3 : H.length < 3
        · have hu1 : IntKind.u8.wrap (5 + (H.length : Int)) = ((5 + H.length : Nat) : Int) := by rw [IntWalk.u8_in _ (by omega)]; omega
          have hk0 := KSt.start hS.out ((H.length : Int) % 2) (1 + (x : Int) % 3) (5 + H.length) (3 * (H.length : Int) + 1) (3 * (H.length : Int) + 2) (by omega)
          have e0 : ((5 + H.length : Nat) : Int) = 5 + (H.length : Int) := by omega
          rw [e0] at hk0 hu1
          have HK0 := Lib.hid hk0
          have HKEY := Lib.hid hS.out.key
          clear hk0 e0 hS
          go_upto_region 9 with fail
          go_cut [5] (fun s wx => KPtr w V H s wx)
          case first =>
            go_wp2_with fail
            go_meet
            exact ⟨_, _, rfl, HK0.out⟩
          case rest =>
            clear HK0 hu1
            obtain ⟨wa, rfl⟩ : ∃ wa : World, wa = wc := ⟨_, rfl⟩
            obtain ⟨cb, m0, rfl, hk⟩ := hcut
            have HK := Lib.hid hk
            clear hk
            go_upto_region 11 with fail
            have hw1 : IntKind.i64.wrap ((H.length : Int) + 1) = (H.length : Int) + 1 := IntWalk.i64_in _ (by omega)
            have hw2 : (0 : Int) ≤ (H.length : Int) + 1 := by omega
            have hw3 : ((H.length : Int) + 1).toNat = H.length + 1 := by omega
            refine wp_region_units (.step 0 (.step 1 (.step 2 (.step 3 (.step 4 (.step 5 (.step 6 (.unit 6 true (.step 7 (.step 8 .done)) 9 8 .done)))))))) (by kernel_rfl) (by kernel_rfl) ?_
            simp only [mkUT, dstOf, bare, Oper.slim, List.contains_cons, List.contains_nil, Option.map_none, Option.map_some, List.getElem?_toArray, List.getElem?_cons_zero, List.getElem?_cons_succ, Option.bind_some, beq_self_eq_true, Bool.or_false, Nat.reduceBEq, Nat.reduceAdd, Nat.zero_add, Option.getD_some, Option.isSome_some, Option.isSome_none, Bool.false_and, Bool.true_and, Bool.false_eq_true, if_false, if_true, Option.some_beq_some, Option.some_beq_none, Option.none_beq_some, reduceCtorEq, ite_true, ite_false]
            repeat ((with_reducible refine wpUT_step (fun K hK => ?_)); go_simp; first | (refine hK _ _ ?_; clear hK K) | (refine ⟨by (intro kk hkk; first | exact hkk.elim | (simp (disch := (simp; omega)) only [hp_drew, hp_drewN, hp_alloc, hp_set]; done) | (simp [hp_drew, hp_drewN, hp_alloc_if, hkk]; done) | fail), hK _ _ ?_⟩; clear hK K))
            refine wpUT_unit (x := ?_) (by rfl) ?_ ?_
            rotate_left
            · intro hgd
              repeat ((with_reducible refine wpUT_step (fun K hK => ?_)); go_simp; first | (refine hK _ _ ?_; clear hK K) | (refine ⟨by (intro kk hkk; first | exact hkk.elim | (simp (disch := (simp; omega)) only [hp_drew, hp_drewN, hp_alloc, hp_set]; done) | (simp [hp_drew, hp_drewN, hp_alloc_if, hkk]; done) | fail), hK _ _ ?_⟩; clear hK K))
              exact wpUT_done ⟨by rfl, rfl⟩
            intro js
            simp only [UT.dsts, junk, SOp.dst, Option.toList_some, Option.toList_none, List.cons_append, List.nil_append, List.append_nil, cond_true, cond_false]
            try go_simp
            refine wpUT_done ?_
            try go_simp
            clear hw1 hw2 hw3
            obtain ⟨b1, hb1⟩ : ∃ b : Bool, b = ((bits .and .i64 ((M : Int) / 2 ^ (H.length + 1)) 1 == 1) && decide ((H.length : Int) < 2)) := ⟨_, rfl⟩
            rw [← hb1]
            clear hb1
            go_upto_if 48 with fail
            go_cut [] (fun wx => KAny w V H cb wx)
            case first =>
              obtain ⟨⟨p0, p1, p2, p3, p4, p5, p6, p7⟩, ⟨z5, z6, z7⟩, hcl, hwl⟩ := HK.out.cells
              cases b1
              · go_wp2_with fail
                go_meet
                exact ⟨_, HK.out⟩
              · go_wp2_with fail
                go_meet
                exact ⟨_, HK.out.set5 _⟩
            case rest =>
              clear HK
              obtain ⟨wb, rfl⟩ : ∃ wb : World, wb = wc := ⟨_, rfl⟩
              obtain ⟨m1, hk⟩ := hcut
              have HK := Lib.hid hk
              clear hk
              have hz : H.length ≤ 2 := by omega
              obtain ⟨⟨p0, p1, p2, p3, p4, p5, p6, p7⟩, ⟨z5, z6, z7⟩, hcl, hwl⟩ := HK.out.cells
              go_upto_if 55 with fail
              go_cut [] (fun wx => KAny w V H cb wx)
              case first =>
                cases hkd : (m1.c.kd == 2)
                · go_wp2_with fail
                  go_meet
                  exact ⟨_, HK.out⟩
                · have hk7 := HK.out.set7 (5 + M % 3) (by omega)
                  have e0 : ((5 + M % 3 : Nat) : Int) = 5 + (M : Int) % 3 := by omega
                  rw [e0] at hk7
                  have HK7 := Lib.hid hk7
                  clear e0 hk7
                  go_upto_region 14 with fail
                  go_cut [] (fun wx => KAny w V H cb wx)
                  case first =>
                    go_wp2_with fail
                    go_meet
                    exact ⟨_, HK7.out⟩
                  case rest =>
                    obtain ⟨wd, rfl⟩ : ∃ wd : World, wd = wc := ⟨_, rfl⟩
                    clear p0 p1 p2 p3 p4 p5 p6 p7 z5 z6 z7 hcl hwl hkd HK7
                    obtain ⟨m2, hk⟩ := hcut
                    have HK2 := Lib.hid hk
                    clear hk
                    obtain ⟨⟨p0, p1, p2, p3, p4, p5, p6, p7⟩, ⟨z5, z6, z7⟩, hcl, hwl⟩ := HK2.out.cells
                    by_cases e5 : M % 5 = H.length
                    · have f5 : ((M : Int) % 5 == (H.length : Int)) = true := by simp; omega
                      clear e5
                      go_wp2_with fail
                      go_meet
                      exact ⟨_, HK2.out.set6 _⟩
                    · have f5 : ((M : Int) % 5 == (H.length : Int)) = false := by simp; omega
                      clear e5
                      go_wp2_with fail
                      go_meet
                      exact ⟨_, HK2.out⟩
              case rest =>
                clear p0 p1 p2 p3 p4 p5 p6 p7 z5 z6 z7 hcl hwl HK
                obtain ⟨we, rfl⟩ : ∃ we : World, we = wc := ⟨_, rfl⟩
                obtain ⟨m2, hk⟩ := hcut
                have HK := Lib.hid hk
                clear hk
                go_upto_if 70 with fail
                go_cut [] (fun wx => KAny w V H cb wx)
                case first =>
                  obtain ⟨⟨p0, p1, p2, p3, p4, p5, p6, p7⟩, ⟨z5, z6, z7⟩, hcl, hwl⟩ := HK.out.cells
                  by_cases e7 : M % 7 = H.length
                  · have f7 : ((M : Int) % 7 == (H.length : Int)) = true := by simp; omega
                    clear e7
                    go_wp2_with fail
                    go_meet
                    exact ⟨_, HK.out.set5 _⟩
                  · have f7 : ((M : Int) % 7 == (H.length : Int)) = false := by simp; omega
                    clear e7
                    go_wp2_with fail
                    go_meet
                    exact ⟨_, HK.out⟩
                case rest =>
                  clear HK
                  obtain ⟨wf, rfl⟩ : ∃ wf : World, wf = wc := ⟨_, rfl⟩
                  obtain ⟨m3, hk⟩ := hcut
                  have HK := Lib.hid hk
                  clear hk
                  go_upto_if 75 with fail
                  go_cut [] (fun wx => KAny w V H cb wx)
                  case first =>
                    obtain ⟨⟨p0, p1, p2, p3, p4, p5, p6, p7⟩, ⟨z5, z6, z7⟩, hcl, hwl⟩ := HK.out.cells
                    by_cases e7 : M % 11 = H.length
                    · have f7 : ((M : Int) % 11 == (H.length : Int)) = true := by simp; omega
                      clear e7
                      go_wp2_with fail
                      go_meet
                      exact ⟨_, HK.out.set6 _⟩
                    · have f7 : ((M : Int) % 11 == (H.length : Int)) = false := by simp; omega
                      clear e7
                      go_wp2_with fail
                      go_meet
                      exact ⟨_, HK.out⟩
                  case rest =>
                    clear HK
                    obtain ⟨wg, rfl⟩ : ∃ wg : World, wg = wc := ⟨_, rfl⟩
                    obtain ⟨m4, hk⟩ := hcut
                    have HO := Lib.hid hk.made
                    have HK := Lib.hid hk
                    clear hk
                    obtain ⟨⟨p0, p1, p2, p3, p4, p5, p6, p7⟩, ⟨z5, z6, z7⟩, hcl, hwl⟩ := HK.out.cells
                    go_wp2_with (at_builtin; refine wpList_append_own_at _ rfl (.tmp 77) (.tmp 79) 22 rfl w.heap.size 30 i0 (.agg #[.int .i64 0, .int .u8 0, .string ⟨#[]⟩, .slice none 0 0, .int .i64 0, .int .i64 0, .int .i64 0, .slice none 0 0]) 8 104 Try.underlying22 hi hz0 hz1 hz2 rfl (by decide) _ _ _ rfl (HO.out.alloc _) ⟨wg.heap.size, 0, none⟩ 1 1 m4.c.cells rfl (by rfl) (cells_news (heap_newS _ _ _ (by simp))) (by intro u hu; exact flat_one [m4.c] u (by simpa [flat] using hu)) (by unfold maxLen; omega) (by omega) (by simp; omega) ?_; intro vq wq hownq hgrowq _ hatq)
                    have hnext := HK.out.append _ (MadeC.next hownq rfl) hgrowq HKEY.out
                    have hrel2 : Rel2 w (3 - (H.length + 1)) vq (.int .i64 ((x : Int) / 3)) (.int .i64 ((H.length : Int) + 1)) wq := ⟨vq, H ++ [m4], x / 3, rfl, by rw [Int.natCast_ediv]; rfl, by omega, by simp; omega, by simp, by simp, Lib.hid hnext⟩
                    have HREL2 := Lib.hid hrel2
                    clear hnext hrel2 hownq hgrowq hatq
                    go_roundg (3 - (H.length + 1))
                    case measure => omega
                    case rel => exact HREL2.out
        · obtain h3 : H.length = 3 := by omega
          have hlr : (rcs H).length = 3 := by rw [rcs_length]; exact h3
          obtain ⟨va, ca, hvf⟩ := hS.out.made.rd.form
          have X1 := Lib.hid (law_permits V ⟨#[97]⟩ H wr hS.out.made.rd hS.out.rds hS.out.keys)
          have X2 := Lib.hid (fun W (hb : Below wr.heap.size wr W) => law_less V H (M : Int) W (hS.out.made.rd.below hb) (hS.out.rds.below hb) hS.out.keys)
          have X3 := Lib.hid (fun W (hb : Below wr.heap.size wr W) => law_open V H (M : Int) W (hS.out.made.rd.below hb) (hS.out.rds.below hb) hS.out.keys)
          have HB9 := Lib.hid hS.out.bel
          rw [hlr] at hvf
          subst hvf
          clear hS h3 hH hx hlr
          go_wp2_with (first | (go_at_call 6; (with_reducible refine X1.out.mono ?_); rintro e y1 ⟨rfl, j1⟩) | (go_at_call 3; (with_reducible refine (X2.out _ j1).mono ?_); rintro e y2 ⟨rfl, j2⟩; have j12 := j1.trans (j2.mono j1.size)) | (go_at_call 5; (with_reducible refine (X3.out _ j12).mono ?_); rintro e y3 ⟨rfl, j3⟩; have j123 := j12.trans (j3.mono j12.size)))
          go_roundg (864 - (M + 1))
          case measure => omega
          case rel => exact ⟨M + 1, by omega, rfl, by go_num, HB9.out.trans (j123.mono HB9.out.size)⟩
    · obtain rfl : M = 864 := by omega
      have HB := Lib.hid hB
      have hbs := hB.size
      clear hB hM hlt
      go_wp2
      obtain ⟨wo, hwo⟩ : ∃ wo : World, wo = wr := ⟨_, rfl⟩
      rw [← hwo] at HB hbs ⊢
      clear hwo
      obtain ⟨ob, hob⟩ : ∃ ob, ob = wo.heap.size := ⟨_, rfl⟩
      rw [← hob]
      have HOB := Lib.hid hob
      clear hob
      go_loopg [7] 9 (fun gk cv wr => Rel3 w ob gk cv wr)
      case atStart => exact ⟨0, by omega, rfl, rfl, by rw [HOB.out]; exact heap_newA wo _, HB.out.alloc hbs _⟩
      case round =>
        obtain ⟨C, hC, rfl, rfl, hone, hB3⟩ := hrel
        by_cases hlt : C < 9
        · have fm : decide ((C : Int) < 9) = true := decide_eq_true (by omega)
          have HONE := Lib.hid hone
          have HB3 := Lib.hid hB3
          have hbs3 := hB3.size
          obtain ⟨y0, y1, y2, y3, y4, y5, y6, y7⟩ := cells8 hone
          have hobl := lt_of_heap hone
          clear hone hB3
          go_upto_block 6 with fail
          go_cut [] (fun wx => XAny w wr.heap.size ob wx)
          case first =>
            obtain rfl | rfl | rfl | rfl | rfl | rfl | rfl | rfl | rfl : C = 0 ∨ C = 1 ∨ C = 2 ∨ C = 3 ∨ C = 4 ∨ C = 5 ∨ C = 6 ∨ C = 7 ∨ C = 8 := by omega
            all_goals
              go_wp2_with fail
              go_meet
              exact ⟨_, _, _, _, heap_newA _ _, keepA HONE.out _, HB3.out.alloc hbs3 _⟩
          case rest =>
            obtain ⟨xb, hxb⟩ : ∃ xb, xb = wr.heap.size := ⟨_, rfl⟩
            rw [← hxb] at hcut ⊢
            clear hxb y0 y1 y2 y3 y4 y5 y6 y7 HONE HB3 hbs3 hobl
            obtain ⟨wa, rfl⟩ : ∃ wa : World, wa = wc := ⟨_, rfl⟩
            have HC := Lib.hid hcut
            obtain ⟨cl, kd, fr, tt, hx, ho, hb⟩ := hcut
            have HX := Lib.hid hx
            have HO := Lib.hid ho
            have HB4 := Lib.hid hb
            have P1 := Lib.hid (fun W => permits_new W [cmX cl kd fr tt] ⟨#[97]⟩ (by simp) (allX1 _ _ _ _))
            have P2 := Lib.hid (fun W => permits_new W [cmX 1 1 1 2, cmX cl kd fr tt] ⟨#[98]⟩ (by simp) (allX2 _ _ _ _ _ _ _ _))
            have P3 := Lib.hid (fun W => permits_new W [cmX cl kd fr tt, cmX 1 1 1 2] ⟨#[97]⟩ (by simp) (allX2 _ _ _ _ _ _ _ _))
            obtain ⟨x0, x1, x2, x3, x4, x5, x6, x7⟩ := cells8 hx
            obtain ⟨y0, y1, y2, y3, y4, y5, y6, y7⟩ := cells8 ho
            have hxl := lt_of_heap hx
            have hol := lt_of_heap ho
            clear hx ho hb
            go_wp2_with fail
            refine (P1.out _).mono ?_
            rintro e z1 ⟨rfl, j1⟩
            clear x0 x1 x2 x3 x4 x5 x6 x7 y0 y1 y2 y3 y4 y5 y6 y7 hxl hol
            have hx := keepB j1 HX.out
            have ho := keepB j1 HO.out
            obtain ⟨x0, x1, x2, x3, x4, x5, x6, x7⟩ := cells8 hx
            obtain ⟨y0, y1, y2, y3, y4, y5, y6, y7⟩ := cells8 ho
            have hxl := lt_of_heap hx
            have hol := lt_of_heap ho
            have HX1 := Lib.hid hx
            have HO1 := Lib.hid ho
            have HJ1 := Lib.hid (HB4.out.trans (j1.mono HB4.out.size))
            clear hx ho j1
            go_wp2_with fail
            refine (P2.out _).mono ?_
            rintro e z2 ⟨rfl, j1⟩
            clear x0 x1 x2 x3 x4 x5 x6 x7 y0 y1 y2 y3 y4 y5 y6 y7 hxl hol
            have hx := keepB j1 HX1.out
            have ho := keepB j1 HO1.out
            obtain ⟨x0, x1, x2, x3, x4, x5, x6, x7⟩ := cells8 hx
            obtain ⟨y0, y1, y2, y3, y4, y5, y6, y7⟩ := cells8 ho
            have hxl := lt_of_heap hx
            have hol := lt_of_heap ho
            have HO2 := Lib.hid ho
            have HJ2 := Lib.hid (HJ1.out.trans (j1.mono HJ1.out.size))
            clear hx ho j1
            go_wp2_with fail
            refine (P3.out _).mono ?_
            rintro e z3 ⟨rfl, j1⟩
            clear x0 x1 x2 x3 x4 x5 x6 x7 y0 y1 y2 y3 y4 y5 y6 y7 hxl hol
            have HO3 := Lib.hid (show AtX z3 ob 1 1 1 2 from keepB j1 HO2.out)
            have HJ3 := Lib.hid (HJ2.out.trans (j1.mono HJ2.out.size))
            clear j1
            go_wp2_with fail
            go_roundg (9 - (C + 1))
            case measure => omega
            case rel => exact ⟨C + 1, by omega, rfl, by go_num, HO3.out, HJ3.out⟩
        · obtain rfl : C = 9 := by omega
          have HB3 := Lib.hid hB3
          have hbs3 := hB3.size
          clear hlt hC hB3 hone
          go_wp2
          obtain ⟨wp, hwp⟩ : ∃ wp : World, wp = wr := ⟨_, rfl⟩
          rw [← hwp] at HB3 hbs3 ⊢
          clear hwp
          go_loopg [9, 10] 11 (fun gk mv iv wr => Rel4 w gk mv iv wr)
          case atStart => exact ⟨_, 0, rfl, by omega, rfl, rfl, Lib.hid (World.ownsRow_nil _ _ _ _), HB3.out⟩
          case round =>
            obtain ⟨V, I, rfl, hI, rfl, rfl, hM, hB⟩ := hrel
            by_cases hlt : I < 11
            · have fm : decide ((I : Int) < 11) = true := decide_eq_true (by omega)
              have hml := manyL_length I
              have hbs4 := hB.size
              have HB5 := Lib.hid hB
              have HM := Lib.hid hM.out
              clear hB
              go_wp2_with (at_builtin; refine wpList_append_own_at _ rfl (.tmp 151) (.tmp 155) 22 rfl w.heap.size 30 i0 (.agg #[.int .i64 0, .int .u8 0, .string ⟨#[]⟩, .slice none 0 0, .int .i64 0, .int .i64 0, .int .i64 0, .slice none 0 0]) 8 104 Try.underlying22 hi hz0 hz1 hz2 rfl (by decide) _ _ _ rfl (HM.out.alloc _) ⟨wr.heap.size, 0, none⟩ 1 1 (manyC I).c.cells rfl (by rfl) (cells_news (heap_newS _ _ _ (by simp))) (by intro u hu; exact flat_one [(manyC I).c] u (by simpa [flat] using hu)) (by rw [manyL_length]; unfold maxLen; omega) (by rw [manyL_length]; omega) (by simp; omega) ?_; intro vz wz hownz hgrowz _ hatz)
              have hmz : MadeC wz w.heap.size vz (manyL (I + 1)) := by rw [manyL_succ]; exact MadeC.next hownz rfl
              have hbz : Below w.heap.size w wz := (HB5.out.alloc HB5.out.size _).grown hgrowz (by simp; omega) (fun k hk => (HM.out.lt k hk).1)
              have HMZ := Lib.hid hmz
              have HBZ := Lib.hid hbz
              clear hmz hbz hownz hgrowz hatz
              go_roundg (11 - (I + 1))
              case measure => omega
              case rel => exact ⟨vz, I + 1, rfl, by omega, rfl, by go_num, HMZ, HBZ.out⟩
            · obtain rfl : I = 11 := by omega
              obtain ⟨ga, ca, hvf⟩ := hM.out.rd.form
              rw [rcs_length, manyL_length] at hvf
              subst hvf
              obtain ⟨g, cap, e9, hg1, hg2, hg3, -, hg4⟩ := hM.out.block (by intro e; have := congrArg List.length e; rw [manyL_length] at this; simp at this)
              cases e9
              have hten : RowRd wr (.slice (some ⟨g, 0, none⟩) 10 ca) (rcs (manyL 10)) := by
                refine ⟨_, ca, by rw [rcs_length, manyL_length], by rw [rcs_length, manyL_length]; rw [manyL_length] at hg3; omega, fun _ => ⟨g, 0, rfl, hg2, fun i c hic j u hj => ?_⟩⟩
                have h11 : (rcs (manyL 11))[i]? = some c := by
                  have hi10 := (List.getElem?_eq_some_iff.1 hic).1
                  rw [rcs_length, manyL_length] at hi10
                  rw [rcs_at (manyL_at (n := 10) hi10)] at hic
                  rw [rcs_at (manyL_at (n := 11) (by omega)), hic]
                rw [Nat.zero_add]
                exact hg4 i c j u h11 hj
              have hrd11 : ∀ n, AllRd wr (manyL n) := fun n m hm => by
                obtain ⟨i, _, rfl⟩ := manyL_mem hm
                exact ⟨BytesRd.nil _, BytesRd.nil _⟩
              have hk11 : ∀ n, KeysOk (manyL n) := fun n m hm => by
                obtain ⟨i, _, rfl⟩ := manyL_mem hm
                exact (show (⟨#[97]⟩ : ByteArray).size ≤ maxLen by decide)
              have hr11 : RowRd wr (.slice (some ⟨g, 0, none⟩) 11 ca) (rcs (manyL 11)) := hM.out.rd
              have X1 := Lib.hid (permits_is _ (manyL 10) wr hten (by rw [manyL_length]; omega) (hrd11 10) (hk11 10) true ⟨fun _ => rfl, fun _ => (many_perm 10 (by omega)).2 (by omega)⟩)
              have X2 := Lib.hid (fun W (hb : Below wr.heap.size wr W) => permits_is _ (manyL 11) W (hr11.below hb) (by rw [manyL_length]; omega) ((hrd11 11).below hb) (hk11 11) false ⟨fun h => absurd ((many_perm 11 (by omega)).1 h) (by omega), fun h => (by cases h)⟩)
              have X3 := Lib.hid (fun W (hb : Below wr.heap.size wr W) => retB_is (right_any _ (rcs (manyL 11)) W (hr11.below hb) (by rw [rcs_length, manyL_length]; omega) (hk11 11).rcs) false ⟨fun h => (by cases h), fun h => absurd ((many_right 11 (by omega)).1 h) (by omega)⟩)
              have X4 := Lib.hid (fun W => law_permits (.slice none 0 0) ⟨#[]⟩ [] W ⟨none, 0, rfl, Nat.le_refl _, fun h => absurd rfl h⟩ (fun m hm => (by cases hm)) (fun m hm => (by cases hm)))
              have X5 := Lib.hid (fun W => row_new4 W)
              have HB6 := Lib.hid hB
              have hca : 11 ≤ ca := by rw [manyL_length] at hg3; exact hg3
              clear hM hten hrd11 hk11 hr11 hB hg1 hg2 hg3 hg4
              go_wp2_with (first | (go_at_call 8; (with_reducible refine X1.out.mono ?_); rintro e y1 ⟨rfl, j1⟩) | (go_at_call 8; (with_reducible refine (X2.out _ j1).mono ?_); rintro e y2 ⟨rfl, j2⟩; have j12 := j1.trans (j2.mono j1.size)) | (go_at_call 13; (with_reducible refine (X3.out _ j12).mono ?_); rintro e y3 ⟨rfl, j3⟩; have j13 := j12.trans (j3.mono j12.size)) | (go_at_call 6; refine (X4.out _).mono ?_; rintro e y4 ⟨rfl, j4⟩; have j14 := j13.trans (j4.mono j13.size)) | (go_at_call 4; refine (X5.out _).mono ?_; rintro e y5 ⟨rfl, j5⟩; have j15 := j14.trans (j5.mono j14.size)) | (go_at_call 9; refine (HW.out _).mono ?_; rintro e y6 ⟨rfl, j6⟩; have j16 := j15.trans (j6.mono j15.size)))
              go_ret
              exact ⟨rfl, HB6.out.trans (j16.mono HB6.out.size)⟩
end Go.Proofs.Ytggecoekoilahaa
