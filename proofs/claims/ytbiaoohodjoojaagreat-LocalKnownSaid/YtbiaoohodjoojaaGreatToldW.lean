/-
  Whose shares are others, of a word's symbols that are told.
-/
import Derived.Test.YtbiaoohodjoojaaGreatToldG
namespace Go.Proofs.YtbiaoohodjoojaaGreat
end Go.Proofs.YtbiaoohodjoojaaGreat
