/-
  A row of bytes, told from its end.
  What a polynomial is at a place.
  A code: its dimension, its points, its field.
  A code: its dimension, its points, its field.
  A word encoded.
-/
import Derived.Test.YtnjbkfeihbcalaaGreatZMat
import Derived.Test.YtnjbkfeihbcalaaGreatZReduce
/- A row of bytes, told from its end. -/
namespace Go.Proofs.YtnjbkfeihbcalaaGreat
open Go.RowKit Fld Go.Shelf
set_option linter.unusedVariables false
set_option linter.unusedSimpArgs false
attribute [local go_sem] Oper.semAt_some

def byEnc (l:List GF) (i:Fin l.length):Array Value:=#[.int .i64 (i.val:Nat),.int .u8 ((l[i.val].n:Nat):Int)]
def SBox (w:World) (Bs:Nat) (v:Value):Prop:=w.heap[Bs]? = some (.cells #[v] 50 (0,0))
end Go.Proofs.YtnjbkfeihbcalaaGreat
/- What a polynomial is at a place. -/
namespace Go.Proofs.YtnjbkfeihbcalaaGreat
open Go.RowKit Fld Go.Shelf
set_option linter.unusedVariables false
set_option linter.unusedSimpArgs false
attribute [local go_sem] Oper.semAt_some

namespace Fld
variable {F:Type} [Fld F]
def hor (x:F) (l:List F):F:=l.foldl (fun y a=>y * x+a) 0
theorem hor_snoc (x:F) (l:List F) (a:F):hor x (l ++ [a])=hor x l * x+a:=by simp [hor]
theorem hor_rev (x:F) (l:List F):hor x l.reverse=ev l x:=by
 induction l with
 | nil=>rfl
 | cons c l ih=>rw [List.reverse_cons,hor_snoc,ih,ev_cons,mulC,addC]
end Fld
theorem fin_map (l:List GF):(List.finRange l.length).map (fun i=>l[i.val])=l:=by
 refine List.ext_getElem (by simp) fun i h1 h2=>by simp
theorem row_blocks {w:World} {v:Value} {l:List GF} {fb:Nat} (h:GRd w v l) (ha:Apart v [fb]):∃ T:List Nat,(l ≠ []→∀ k,v.ownBlock=some k→k ∈ T)∧∀ b ∈ T,b < w.heap.size∧b ≠ fb:=by
 by_cases hl:l=[]
 ·exact ⟨[],fun e=>absurd hl e,fun b hb=>by cases hb⟩
 ·obtain ⟨x,hx⟩:∃ x,l[0]? = some x:=⟨_,List.getElem?_eq_getElem (List.length_pos_iff.2 hl)⟩
  obtain ⟨a,cap,rfl,hcap⟩:=h.form
  obtain ⟨b,o,rfl,hb,-⟩:=h.at hx
  exact ⟨[b],fun _ k hk=>by simp [Value.ownBlock] at hk;simp [hk],fun c hc=>by
   rw [List.mem_singleton] at hc
   subst hc
   exact ⟨hb,by have:=ha c rfl;simpa using this⟩⟩
structure AtI (fb:Nat) (l:List GF) (x:GF) (w:World) (pre:List (Fin l.length)) (W:World):Prop where
 ok:FOk W fb
 b3:W.heap[w.heap.size]? = some (.cells #[.pointer (some ⟨fb,0,none⟩)] 30 (0,0))
 b5:W.heap[w.heap.size+1]? = some (.cells #[.int .u8 ((x.n:Nat):Int)] 5 (0,0))
 b7:W.heap[w.heap.size+1+1]? = some (.cells #[.int .u8 (((hor x (pre.map fun i=>l[i.val])).n:Nat):Int)] 5 (0,0))
 kp:Kp [fb] w W
end Go.Proofs.YtnjbkfeihbcalaaGreat
/- A code: its dimension, its points, its field. -/
namespace Go.Proofs.YtnjbkfeihbcalaaGreat
open Go.RowKit Fld Go.Shelf
set_option linter.unusedVariables false
set_option linter.unusedSimpArgs false

structure CodeAt (w:World) (cb fb k:Nat) (v:Value) (xs:List GF):Prop where
 box:w.heap[cb]? = some (.cells #[.pointer (some ⟨fb,0,none⟩),v,.int .i64 k] 113 (0,0))
 ok:FOk w fb
 rd:GRd w v xs
 apart:Apart v [fb]
 ne:cb ≠ fb
theorem CodeAt.step {w w':World} {cb fb k:Nat} {v:Value} {xs:List GF} (h:CodeAt w cb fb k v xs) (hk:Kp [fb] w w') (hf:FOk w' fb):CodeAt w' cb fb k v xs :=
 ⟨hk.heap h.box (by simpa using h.ne),hf,h.rd.kp hk h.apart,h.apart,h.ne⟩
theorem CodeAt.below {w w':World} {cb fb k:Nat} {v:Value} {xs:List GF} (h:CodeAt w cb fb k v xs) (hb:Below w.heap.size w w'):CodeAt w' cb fb k v xs :=
 ⟨keepB hb h.box,h.ok.below hb,h.rd.below hb,h.apart,h.ne⟩
end Go.Proofs.YtnjbkfeihbcalaaGreat
/- A code: its dimension, its points, its field. -/
namespace Go.Proofs.YtnjbkfeihbcalaaGreat
open Go.RowKit Fld Go.Shelf
set_option linter.unusedVariables false
set_option linter.unusedSimpArgs false

set_option maxHeartbeats 400000 in
theorem codeK_any (w:World) (cb fb k:Nat) (v:Value) (xs:List GF) (h:CodeAt w cb fb k v xs) :
  Calls Tryz.prog 34 #[.pointer (some ⟨cb,0,none⟩)] w fun e w'=>e=.returned (.int .i64 k)∧w=w':=by
 have c2:=cell_of_heap h.box (j:=2) rfl
 clear h
 go_enter Tryz.func34,Tryz.ntmps34
 go_wp2
 go_ret
 exact ⟨rfl,rfl⟩
end Go.Proofs.YtnjbkfeihbcalaaGreat
/- A word encoded. -/
namespace Go.Proofs.YtnjbkfeihbcalaaGreat
open Go.RowKit Fld Go.Shelf
set_option linter.unusedVariables false
set_option linter.unusedSimpArgs false

def EncPost (fb:Nat) (ms xs:List GF) (w:World) (e:Ending) (w':World):Prop :=
 ∃ g,e=.returned (.tuple #[.slice (some ⟨g,0,none⟩) xs.length xs.length,.int .i64 0])∧w.heap.size≤g∧View w' g xs.length (fun i=>ev ms (xs.getD i 0))∧Kp [fb] w w'∧FOk w' fb
end Go.Proofs.YtnjbkfeihbcalaaGreat
