/-
  Repairs, of both sides.
-/
import Derived.Test.YtmeiebnfmhddnaaGreatDoorHw
namespace Go.Proofs.YtmeiebnfmhddnaaGreatDoor.Ev
open Go
noncomputable section
theorem getD_some {α:Type} {o:Option α} {d:α} (h:o.isSome=true):o=some (o.getD d):=by
 cases o with
 |none=>cases h
 |some x=>rfl
end
end Go.Proofs.YtmeiebnfmhddnaaGreatDoor.Ev
