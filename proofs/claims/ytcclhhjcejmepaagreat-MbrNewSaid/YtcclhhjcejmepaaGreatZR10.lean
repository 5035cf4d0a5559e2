/-
  The reference's matrix of powers, of one point; a point; the row of a node.
  The reference's code: its sizes, its points, a node's row.
-/
import Derived.Test.YtcclhhjcejmepaaGreatZR05a
import Derived.Test.YtcclhhjcejmepaaGreatZRefsB
import Derived.Test.YtcclhhjcejmepaaGreatZKit
import Derived.Test.YtcclhhjcejmepaaGreatZPlainM
/- The reference's matrix of powers, of one point; a point; the row of a node. -/
namespace Go.Proofs.YtcclhhjcejmepaaGreat
open Go.RowKit Fld
set_option linter.unusedVariables false
set_option linter.unusedSimpArgs false

end Go.Proofs.YtcclhhjcejmepaaGreat
/- The reference's code: its sizes, its points, a node's row. -/
namespace Go.Proofs.YtcclhhjcejmepaaGreat
open Go.RowKit Fld
set_option linter.unusedVariables false
set_option linter.unusedSimpArgs false

abbrev rb (n k d:Int):Value:=.agg #[.int .i64 n,.int .i64 k,.int .i64 d]
theorem rbnew_any (n k d:Int) (w:World):Calls Tryz.prog 32 #[rb n k d] w fun e w'=>e=.returned (.int .i64 (if 1≤k∧k≤d∧d < n∧n≤255 then 0 else 2))∧Below w.heap.size w w':=by
 by_cases c1:k < 1
 ·rw [if_neg (by omega)]
  go_enter Tryz.func32,Tryz.ntmps32
  go_wp2
  go_ret
  exact ⟨rfl,by (repeat' (first | (with_reducible exact RowKit.Below.refl _ _) | (with_reducible assumption) | (with_reducible refine RowKit.Below.drew ?_) | (with_reducible refine RowKit.Below.alloc ?_ ?_ _) | omega | (simp;done) | (simp;omega)))⟩
 by_cases c2:d < k
 ·rw [if_neg (by omega)]
  go_enter Tryz.func32,Tryz.ntmps32
  go_wp2
  go_ret
  exact ⟨rfl,by (repeat' (first | (with_reducible exact RowKit.Below.refl _ _) | (with_reducible assumption) | (with_reducible refine RowKit.Below.drew ?_) | (with_reducible refine RowKit.Below.alloc ?_ ?_ _) | omega | (simp;done) | (simp;omega)))⟩
 by_cases c3:n≤d
 ·rw [if_neg (by omega)]
  go_enter Tryz.func32,Tryz.ntmps32
  go_wp2
  go_ret
  exact ⟨rfl,by (repeat' (first | (with_reducible exact RowKit.Below.refl _ _) | (with_reducible assumption) | (with_reducible refine RowKit.Below.drew ?_) | (with_reducible refine RowKit.Below.alloc ?_ ?_ _) | omega | (simp;done) | (simp;omega)))⟩
 by_cases c4:n > 255
 ·rw [if_neg (by omega)]
  go_enter Tryz.func32,Tryz.ntmps32
  go_wp2
  go_ret
  exact ⟨rfl,by (repeat' (first | (with_reducible exact RowKit.Below.refl _ _) | (with_reducible assumption) | (with_reducible refine RowKit.Below.drew ?_) | (with_reducible refine RowKit.Below.alloc ?_ ?_ _) | omega | (simp;done) | (simp;omega)))⟩
 ·rw [if_pos (by omega)]
  go_enter Tryz.func32,Tryz.ntmps32
  go_wp2
  go_ret
  exact ⟨rfl,by (repeat' (first | (with_reducible exact RowKit.Below.refl _ _) | (with_reducible assumption) | (with_reducible refine RowKit.Below.drew ?_) | (with_reducible refine RowKit.Below.alloc ?_ ?_ _) | omega | (simp;done) | (simp;omega)))⟩
theorem rbal_any (n k d:Int) (w:World):Calls Tryz.prog 34 #[rb n k d] w fun e w'=>e=.returned (.int .i64 d)∧Below w.heap.size w w':=by
 go_enter Tryz.func34,Tryz.ntmps34
 go_wp2
 go_ret
 exact ⟨rfl,by (repeat' (first | (with_reducible exact RowKit.Below.refl _ _) | (with_reducible assumption) | (with_reducible refine RowKit.Below.drew ?_) | (with_reducible refine RowKit.Below.alloc ?_ ?_ _) | omega | (simp;done) | (simp;omega)))⟩
theorem rbb_any (n k d:Nat) (w:World) (hk:1≤k∧k≤d∧d≤255):Calls Tryz.prog 35 #[rb n k d] w fun e w'=>e=.returned (.int .i64 (mbB k d:Nat))∧Below w.heap.size w w':=by
 obtain ⟨k1,hk1⟩:∃ k1,k - 1=k1:=⟨_,rfl⟩
 obtain ⟨p,hp⟩:∃ p,k * d=p:=⟨_,rfl⟩
 obtain ⟨q,hq⟩:∃ q,k * k1=q:=⟨_,rfl⟩
 obtain ⟨h,hh⟩:∃ h,q / 2=h:=⟨_,rfl⟩
 obtain ⟨B,hB⟩:∃ B,mbB k d=B:=⟨_,rfl⟩
 have hBe:p - h=B:=by rw [← hB,mbB_eq hk.2.1,hk1,hp,hq,hh]
 have hpl:p≤255 * 255:=by rw [← hp];exact Nat.mul_le_mul (by omega) (by omega)
 have hql:q≤p:=by rw [← hp,← hq];exact Nat.mul_le_mul_left _ (by omega)
 rw [hB]
 have x3:(k:Int) - 1=(k1:Int):=by omega
 have x4:IntKind.i64.wrap (k1:Int)=(k1:Int):=IntWalk.i64_in _ (by omega)
 have x5:(k:Int) * (d:Int)=(p:Int):=by rw [← hp];simp
 have x6:IntKind.i64.wrap (p:Int)=(p:Int):=IntWalk.i64_in _ (by omega)
 have x7:(k:Int) * (k1:Int)=(q:Int):=by rw [← hq];simp
 have x8:IntKind.i64.wrap (q:Int)=(q:Int):=IntWalk.i64_in _ (by omega)
 have x9:(q:Int).tdiv 2=(h:Int):=by rw [← hh];exact (Int.ofNat_tdiv q 2).symm
 have x10:IntKind.i64.wrap (h:Int)=(h:Int):=IntWalk.i64_in _ (by omega)
 have x11:(p:Int) - (h:Int)=(B:Int):=by omega
 have x12:IntKind.i64.wrap (B:Int)=(B:Int):=IntWalk.i64_in _ (by omega)
 clear hk1 hp hq hh hB hBe
 go_enter Tryz.func35,Tryz.ntmps35
 go_wp2
 go_ret
 exact ⟨rfl,by (repeat' (first | (with_reducible exact RowKit.Below.refl _ _) | (with_reducible assumption) | (with_reducible refine RowKit.Below.drew ?_) | (with_reducible refine RowKit.Below.alloc ?_ ?_ _) | omega | (simp;done) | (simp;omega)))⟩
end Go.Proofs.YtcclhhjcejmepaaGreat
