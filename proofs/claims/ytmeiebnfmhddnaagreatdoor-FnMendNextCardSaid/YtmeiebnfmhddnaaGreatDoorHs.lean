/-
  The least number of edits from a text to a text.
-/
import Derived.Test.YtmeiebnfmhddnaaGreatDoorHr
namespace Go.Proofs.YtmeiebnfmhddnaaGreatDoor.Ev
open Go
noncomputable section
end
end Go.Proofs.YtmeiebnfmhddnaaGreatDoor.Ev
