/-
  The reference's Tell; Total and New of both tallies.
-/
import Derived.Test.YtjlehnmcfimnfaaLiTell
namespace Go.Proofs.Ytjlehnmcfimnfaa
open Go.RowKit
set_option linter.unusedSimpArgs false
set_option linter.unusedVariables false

set_option maxHeartbeats 1000000 in
theorem ptell_nil (v : Value) (w : World) :
    Calls Try.prog 9 #[.pointer none, v] w fun e w' => e = .returned (.int .i64 1) ∧ Below w.heap.size w w' := by
  go_enter Try.func9, Try.ntmps9
  go_wp2
  go_ret
  exact ⟨rfl, (Below.refl _ _).alloc (Nat.le_refl _) _⟩

def RTell (tb g n : Nat) (C : Nat → Nat) (l : List Int) (w : World) (e : Ending) (w' : World) : Prop := e = .returned (.int .i64 (tlErr n l)) ∧ RT w' tb g n (tlC n C l) ∧ w.grownBy w' (some g)
theorem any_take_false {l : List Int} {p : Int → Bool} {I : Nat} {x : Int} (h : (l.take I).any p = false) (hx : l[I]? = some x) (hp : p x = false) : (l.take (I + 1)).any p = false := by
  rw [List.take_add_one, hx, List.any_append, h]
  simp [hp]
theorem RT.drew {w : World} {tb g n : Nat} {C : Nat → Nat} (h : RT w tb g n C) : RT w.drew tb g n C := ⟨h.n1, h.n2, h.C2, h.tl, h.row⟩
set_option maxRecDepth 100000 in
set_option maxHeartbeats 2000000 in
theorem rtell_any (tb g n : Nat) (C : Nat → Nat) (v : Value) (l : List Int) (w : World) (h : RT w tb g n C) (hr : IRd w v l) (hl : l.length ≤ 1000000000) (hne : l ≠ [] → ∀ b o m, v = .slice (some ⟨b, o, none⟩) l.length m → b ≠ g) :
    Calls Try.prog 22 #[.pointer (some ⟨tb, 0, none⟩), v] w (RTell tb g n C l w) := by
  obtain ⟨a, cap, rfl⟩ := hr.form
  have HH := Lib.hid h
  have HR := Lib.hid hr
  have HNE := Lib.hid hne
  have HIS := Lib.hid (fun x => ris_any tb g n C x w h)
  clear h hr hne
  go_enter Try.func22, Try.ntmps22
  go_wp2
  go_loopg [5] l.length (fun gk i wr => ∃ I : Nat, I ≤ l.length ∧ gk = l.length - I ∧ i = .int .i64 I ∧ w = wr ∧ Hid ((l.take I).any (fun x => !isN n x) = false))
  case atStart => exact ⟨0, by omega, rfl, rfl, rfl, Lib.hid rfl⟩
  case round =>
    obtain ⟨I, hI, rfl, rfl, rfl, hN⟩ := hrel
    by_cases hlt : I < l.length
    · obtain ⟨x, hx⟩ : ∃ x, l[I]? = some x := ⟨_, List.getElem?_eq_getElem hlt⟩
      obtain ⟨-, hcap, b, o, hab, hb, c0⟩ := IRd.cell HR.out hx
      subst hab
      have HX := Lib.hid hx
      have his := HIS.out x
      obtain ⟨ib, hib⟩ : ∃ y, y = isN n x := ⟨_, rfl⟩
      rw [← hib] at his
      have HIB := Lib.hid hib
      have HI1 := Lib.hid his
      clear hx his hib
      cases ib
      · go_wp2_with (go_at_call 30; (with_reducible refine HI1.out.mono ?_); rintro e w1 ⟨rfl, rfl⟩)
        go_ret
        have hany : l.any (fun x => !isN n x) = true := List.any_eq_true.2 ⟨x, List.mem_of_getElem? HX.out, by rw [← HIB.out]; rfl⟩
        refine ⟨?_, ?_, grown_refl _ _⟩
        · unfold tlErr; rw [if_pos hany] <;> rfl
        · unfold tlC; rw [if_pos hany]; exact HH.out
      · have HN2 : Hid ((l.take (I + 1)).any (fun x => !isN n x) = false) := Lib.hid (any_take_false hN.out HX.out (by rw [← HIB.out]; rfl))
        go_wp2_with (go_at_call 30; (with_reducible refine HI1.out.mono ?_); rintro e w1 ⟨rfl, rfl⟩)
        go_roundg (l.length - (I + 1))
        case measure => omega
        case rel => exact ⟨I + 1, by omega, rfl, by go_num, by trivial, HN2⟩
    · obtain rfl : I = l.length := by omega
      have HALL : Hid (l.any (fun x => !isN n x) = false) := Lib.hid (by have := hN.out; rwa [List.take_length] at this)
      clear hN
      go_wp2
      go_loopg [6] l.length (fun gk i wr => ∃ I : Nat, I ≤ l.length ∧ gk = l.length - I ∧ i = .int .i64 I ∧ Hid (RT wr tb g n (tellC C (l.take I))) ∧ Hid (w.grownBy wr (some g)))
      case atStart => exact ⟨0, by omega, rfl, rfl, HH, Lib.hid (grown_refl _ _)⟩
      case round =>
        obtain ⟨I, hI, rfl, rfl, hP, hG⟩ := hrel
        by_cases hlt : I < l.length
        · obtain ⟨x, hx⟩ : ∃ x, l[I]? = some x := ⟨_, List.getElem?_eq_getElem hlt⟩
          obtain ⟨-, hcap, b, o, hab, hb, c0⟩ := IRd.cell HR.out hx
          subst hab
          have hxn : isN n x = true := by
            have h3 := List.any_eq_false.1 HALL.out x (List.mem_of_getElem? hx)
            simpa using h3
          obtain ⟨hx0, hx1⟩ := (isN_iff n x).1 hxn
          obtain ⟨k, rfl⟩ : ∃ k : Nat, x = k := ⟨x.toNat, by omega⟩
          have hk : k < n := by omega
          have hbne : b ≠ g := HNE.out (fun e => by have h0 := hlt; rw [e] at h0; simp at h0) b o cap rfl
          have hPd := hP.out.drew
          have hGd := gb_drew hG.out
          obtain ⟨wd, hwd⟩ : ∃ wd, wd = wr.drew := ⟨_, rfl⟩
          rw [← hwd] at hPd hGd
          have d1 : wd.cell? ⟨b, o + I, none⟩ = some (.int .i64 k) := hGd.cell c0 (fun e => hbne (by cases e; rfl))
          obtain ⟨c2, hcs⟩ := hPd.cells
          obtain ⟨c3, f3⟩ := hcs k hk
          have hp9 := hPd.put hk (min 1000000 (tellC C (l.take I) k + 1)) (by omega)
          have hC2 := hPd.C2 k
          have HWD := Lib.hid hwd
          have htk := tellC_take C l I _ hx
          have hn2 := hPd.n2
          obtain ⟨c, hcc⟩ : ∃ c, c = tellC C (l.take I) k := ⟨_, rfl⟩
          rw [← hcc] at c3 hC2
          have hwr : IntKind.i64.wrap ((c : Int) + 1) = (c : Int) + 1 := IntWalk.i64_in _ (by omega)
          have HT : Hid (RT (wd.setCell ⟨g, k, none⟩ (.int .i64 (min 1000000 (c + 1) : Nat))) tb g n (tellC C (l.take (I + 1)))) := Lib.hid (by
            rw [htk]
            have := hp9.1
            rw [← hcc] at this
            unfold tell1C
            have e : (fun j => if j = k then min 1000000 (c + 1) else tellC C (l.take I) j) = (fun j => if j = (k : Int).toNat then min 1000000 (tellC C (l.take I) j + 1) else tellC C (l.take I) j) := by
              funext j
              by_cases e : j = k
              · subst e; simp [hcc]
              · simp [e]
            rw [← e]
            exact this)
          have HG8 : Hid (w.grownBy (wd.setCell ⟨g, k, none⟩ (.int .i64 (min 1000000 (c + 1) : Nat))) (some g)) := Lib.hid (by have := gb_trans hGd hp9.2; rwa [← hcc] at this)
          clear hcc hp9 hx c0 hbne hb hxn hx0 hx1 hPd hGd hwd htk hcs
          by_cases hlim : c + 1 < 1000000
          · have hmin : ((min 1000000 (c + 1) : Nat) : Int) = (c : Int) + 1 := by omega
            have hlim2 : (c : Int) + 1 < 1000000 := by omega
            rw [hmin] at HT HG8
            have HP9 := HT
            have HG9 := HG8
            clear hmin hlim HT HG8
            go_upto_region 9 with fail
            refine wp_region_still_tail 20 (by kernel_rfl) (by kernel_rfl) ?_
            change wpStill _ _ wr.drew (fun a' => wpList _ _ _ _ a' wr.drew) _ _
            rw [← HWD.out]
            simp only [List.take_succ_cons, List.take_zero, List.drop_succ_cons, List.drop_zero]
            repeat ((with_reducible refine wpStill_step (fun K hK => ?_)); go_simp; refine hK _ ?_; clear hK K)
            refine wpStill_nil ?_
            go_wp2
            go_roundg (l.length - (I + 1))
            case measure => omega
            case rel => exact ⟨I + 1, by omega, rfl, by go_num, HP9, HG9⟩
          · have hmin : ((min 1000000 (c + 1) : Nat) : Int) = 1000000 := by omega
            have hlim2 : ¬ (c : Int) + 1 < 1000000 := by omega
            rw [hmin] at HT HG8
            have HP9 := HT
            have HG9 := HG8
            clear hmin hlim HT HG8
            go_upto_region 9 with fail
            refine wp_region_still_tail 20 (by kernel_rfl) (by kernel_rfl) ?_
            change wpStill _ _ wr.drew (fun a' => wpList _ _ _ _ a' wr.drew) _ _
            rw [← HWD.out]
            simp only [List.take_succ_cons, List.take_zero, List.drop_succ_cons, List.drop_zero]
            repeat ((with_reducible refine wpStill_step (fun K hK => ?_)); go_simp; refine hK _ ?_; clear hK K)
            refine wpStill_nil ?_
            go_wp2
            go_roundg (l.length - (I + 1))
            case measure => omega
            case rel => exact ⟨I + 1, by omega, rfl, by go_num, HP9, HG9⟩
        · obtain rfl : I = l.length := by omega
          go_wp2
          go_ret
          refine ⟨?_, ?_, hG.out⟩
          · unfold tlErr; rw [if_neg (by rw [HALL.out]; simp)] <;> rfl
          · unfold tlC; rw [if_neg (by rw [HALL.out]; simp)]; have := hP.out; rw [List.take_length] at this; exact this
end Go.Proofs.Ytjlehnmcfimnfaa
