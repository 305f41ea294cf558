/-
  What is derived, the program's side.
-/
import Derived.Test.YtmeiebnfmhddnaaGreatDoorHba
namespace Go.Proofs.YtmeiebnfmhddnaaGreatDoor.Ev
open Go
noncomputable section
noncomputable section
variable [Inhabited LevN]
abbrev ts2:List Nat:=[128,4]
end
end Go.Proofs.YtmeiebnfmhddnaaGreatDoor.Ev
