/-
  msr: how many bytes a node stores, how many a message has.
-/
import Derived.Test.YtnjbkfeihbcalaaGreatZMat
import Derived.Deep.Cut
/- msr: how many bytes a node stores, how many a message has. -/
namespace Go.Proofs.YtnjbkfeihbcalaaGreat
open Go.RowKit Fld
set_option linter.unusedVariables false
set_option linter.unusedSimpArgs false

theorem msa_any (w:World) (lb:Nat) (a:Int) (h5:w.cell? ⟨lb,5,none⟩=some (.int .i64 a)) :
  Calls Tryz.prog 10 #[.pointer (some ⟨lb,0,none⟩)] w fun e w'=>e=.returned (.int .i64 a)∧w=w':=by
 go_enter Tryz.func10,Tryz.ntmps10
 go_wp2
 go_ret
 exact ⟨rfl,rfl⟩
theorem msb_any (w:World) (lb k a:Nat) (h2:w.cell? ⟨lb,2,none⟩=some (.int .i64 k)) (h5:w.cell? ⟨lb,5,none⟩=some (.int .i64 a)) (hl:lb < w.heap.size) (hk:k≤1000∧a≤1000) :
  Calls Tryz.prog 11 #[.pointer (some ⟨lb,0,none⟩)] w fun e w'=>e=.returned (.int .i64 (k * a:Nat))∧Below w.heap.size w w':=by
 obtain ⟨M,hM⟩:∃ M,k * a=M:=⟨_,rfl⟩
 have hMb:M≤1000000:=by rw [← hM];exact Nat.mul_le_mul hk.1 hk.2
 have e1:(k:Int) * (a:Int)=(M:Int):=by rw [← hM];simp
 have e2:IntKind.i64.wrap (M:Int)=(M:Int):=IntWalk.i64_in _ (by omega)
 rw [hM]
 clear hM
 go_enter Tryz.func11,Tryz.ntmps11
 go_upto_region 3 with fail
 have hgr:=fun (w0 W:World) (p:Addr) (hp:(fun j=>j < w.heap.size) p.block)=>graft_cell (w0:=w0) (keep:=(fun j=>j < w.heap.size)) W hp
 refine wp_region_tree (fun j=>j < w.heap.size) [] (.sq [0,1,2,3,4,5,6,7,8,9] .done) (by kernel_rfl) (by kernel_rfl) ?_
 simp only [Tr.sq,List.foldr_cons,List.foldr_nil,slimTr,slimStep,Oper.slim,List.contains_cons,List.contains_nil,Option.map_none,Option.map_some,List.getElem?_toArray,List.getElem?_cons_zero,List.getElem?_cons_succ,Option.bind_some,beq_self_eq_true,Bool.or_false,Nat.reduceBEq,Nat.reduceAdd,Nat.zero_add]
 repeat' first | ((with_reducible refine wpSlimT_id ?_);first | (with_reducible refine wpSlimT_done ?_) | ((with_reducible refine wpSlimT_step (fun K hK=>?_));go_simp;(refine hK _ _ ?_;clear hK K))) | fail
 clear hgr
 go_wp2
 go_ret
 exact ⟨rfl,by (repeat' (first | (with_reducible exact RowKit.Below.refl _ _) | (with_reducible assumption) | (with_reducible refine RowKit.Below.drew ?_) | (with_reducible refine RowKit.Below.alloc ?_ ?_ _) | omega | (simp;done) | (simp;omega)))⟩
end Go.Proofs.YtnjbkfeihbcalaaGreat
