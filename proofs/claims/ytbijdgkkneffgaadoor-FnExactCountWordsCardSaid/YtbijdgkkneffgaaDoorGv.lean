/-
  Draws of grammars and texts.
-/
import Derived.Test.YtbijdgkkneffgaaDoorGu
namespace Go.Proofs.YtbijdgkkneffgaaDoor.Ev
open Go
def both2 (g : Gram) (s : Str) : Bool := bif okG g then areSm s 8 else false
end Go.Proofs.YtbijdgkkneffgaaDoor.Ev
