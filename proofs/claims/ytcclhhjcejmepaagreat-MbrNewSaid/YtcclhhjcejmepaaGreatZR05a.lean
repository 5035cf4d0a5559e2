/-
  Matrices of the reference: right ones, noughts, products.
-/
import Derived.Test.YtcclhhjcejmepaaGreatZMat
import Derived.Test.YtcclhhjcejmepaaGreatZLins
import Derived.Test.YtcclhhjcejmepaaGreatZRefsA
import Derived.Deep.Cut
/- Matrices of the reference: right ones, noughts, products. -/
namespace Go.Proofs.YtcclhhjcejmepaaGreat
open Go.RowKit Fld
set_option linter.unusedVariables false
set_option linter.unusedSimpArgs false

noncomputable def mulF (N:Nat) (A B:Nat→Nat→GF):Nat→Nat→GF:=fun i k=>sm N fun j=>A i j * B j k
theorem off_eq {C r c i k:Nat} (hc:c < C) (hk:k < C) (e:r * C+c=i * C+k):r=i∧c=k:=by
 have h1:r=i:=(off_in (i:=r) (a:=i) hc).1 ⟨by omega,by omega⟩
 subst h1
 exact ⟨rfl,by omega⟩
end Go.Proofs.YtcclhhjcejmepaaGreat
