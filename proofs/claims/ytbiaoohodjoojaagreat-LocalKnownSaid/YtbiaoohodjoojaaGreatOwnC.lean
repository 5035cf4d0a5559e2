/-
  What laws share: a row copied by a string, a field made, a message that is refused.
-/
import Derived.Test.YtbiaoohodjoojaaGreatNews
import Derived.Test.YtbiaoohodjoojaaGreatKit
import Derived.Test.YtbiaoohodjoojaaGreatPlains
import Derived.Laws.IdiomStrings
namespace Go.Proofs.YtbiaoohodjoojaaGreat
open Go.RowKit Fld
set_option linter.unusedVariables false
set_option linter.unusedSimpArgs false

theorem strOf_byte {l:List Nat} (hl:∀ x ∈ l,x < 256) {j:Nat} (hj:j < l.length) (cap:Nat):(bytesRow (strOf l) cap)[j]? = some (.int .u8 ((l.getD j 0:Nat):Int)):=by
 have hd:(strOf l).data=((l.map fun x:Nat=>(x:Int)).map fun n=>UInt8.ofNat n.toNat).toArray:=rfl
 unfold bytesRow
 rw [Array.getElem?_append_left (by rw [Array.size_map,hd];simpa using hj),Array.getElem?_map,hd]
 have hx:l[j] < 256:=hl _ (List.getElem_mem hj)
 simp [List.getElem?_eq_getElem hj]
 omega
theorem own_copy {v:Value} {l:List GF} (w:World) (h:GRd w v l):∃ (s:ByteArray) (cap:Nat) (w1:World),(convert 36 9 v).run Tryz.prog w=.ok (.string s) w ∧
  (convert 9 36 (.string s)).run Tryz.prog w=.ok (.slice (some ⟨w.heap.size,0,none⟩) l.length cap) w1∧l.length≤cap∧View w1 w.heap.size l.length (fun i=>l.getD i 0)∧Below w.heap.size w w1:=by
 have hlt:∀ x ∈ l.map GF.n,x < 256:=h.1
 have hsz:(strOf (l.map GF.n)).size=l.length:=by unfold strOf;rw [strOfNums_size];simp
 have hrun:=run_bytes_of_string (P:=Tryz.prog) w 9 36 5 (strOf (l.map GF.n)) Tryz.underlying9 Tryz.underlying36 Tryz.underlying5
 obtain ⟨cap,hcap⟩:∃ cap,cap=grownCap w (strOf (l.map GF.n)).size 0 5:=⟨_,rfl⟩
 rw [← hcap,hsz] at hrun
 have hc:l.length≤cap:=by
  rw [hcap,hsz]
  exact grownCap_ge _ _ _ _
 have hh:(w.drew.alloc (.cells (bytesRow (strOf (l.map GF.n)) cap) 5 ((bytesRow (strOf (l.map GF.n)) cap).size,(bytesRow (strOf (l.map GF.n)) cap).size+1))).heap[w.heap.size]? = some (.cells (bytesRow (strOf (l.map GF.n)) cap) 5 ((bytesRow (strOf (l.map GF.n)) cap).size,(bytesRow (strOf (l.map GF.n)) cap).size+1)):=by
  show (w.heap.push _)[w.heap.size]? = _
  simp
 refine ⟨_,cap,_,h.conv,hrun,hc,⟨lt_of_heap hh,fun j hj=>?_⟩,((Below.refl w.heap.size w).drew).alloc (by exact Nat.le_refl _) _⟩
 have hb:=strOf_byte hlt (j:=j) (by simpa using hj) cap
 have hjs:j < (bytesRow (strOf (l.map GF.n)) cap).size:=(Array.getElem?_eq_some_iff.1 hb).1
 refine ⟨?_,?_⟩
 ·rw [cell_of_row _ _ _ _ _ _ hh,hb]
  simp [List.getD_eq_getElem?_getD,List.getElem?_eq_getElem hj]
 ·simp only [World.frozen?,hh]
  simp
  omega
theorem fnew_g (w:World):Calls Tryz.prog 11 #[] w fun e w'=>∃ fb,e=.returned (.pointer (some ⟨fb,0,none⟩))∧w.heap.size≤fb∧FOk w' fb∧Below w.heap.size w w':=by
 refine (fnew_any w).mono ?_
 rintro e w' ⟨rfl,rfl⟩
 exact ⟨_,rfl,Nat.le_refl _,fok_new w,(Below.refl _ _).alloc (Nat.le_refl _) _⟩
theorem GRd.nil0 (w:World):GRd w (.slice none 0 0) []:=(OwnG.nil w w.heap.size).rd
theorem CodeAt.lt {w:World} {cb fb k:Nat} {v:Value} {xs:List GF} (h:CodeAt w cb fb k v xs):cb < w.heap.size:=lt_of_heap h.box
end Go.Proofs.YtbiaoohodjoojaaGreat
