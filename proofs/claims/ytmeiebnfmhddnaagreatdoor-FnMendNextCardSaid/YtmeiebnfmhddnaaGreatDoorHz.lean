/-
  FnMendRun: the law.
-/
import Derived.Test.YtmeiebnfmhddnaaGreatDoorHy
namespace Go.Proofs.YtmeiebnfmhddnaaGreatDoor.Ev
open Go
noncomputable section
end
end Go.Proofs.YtmeiebnfmhddnaaGreatDoor.Ev
