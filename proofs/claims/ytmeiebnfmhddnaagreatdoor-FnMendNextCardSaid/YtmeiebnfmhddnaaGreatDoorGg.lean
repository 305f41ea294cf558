/-
  FnGramBent: guards, sameness of grammars.
-/
import Derived.Test.YtmeiebnfmhddnaaGreatDoorGf
namespace Go.Proofs.YtmeiebnfmhddnaaGreatDoor.Ev
open Go
end Go.Proofs.YtmeiebnfmhddnaaGreatDoor.Ev
