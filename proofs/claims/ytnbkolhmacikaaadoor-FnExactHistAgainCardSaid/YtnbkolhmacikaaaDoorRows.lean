/-
  NARROWER THAN 'FOR EVERY INPUT', by the rows' own cells (each row's printed sentence says how): FnExactHistNew: laid · FnExactHistOk: laid · FnExactHistFirst: laid · FnExactHistLast: laid · FnHistNew: laid · FnExactHistDo: laid · FnHistOk: laid · FnHistCut: laid · FnHistTwo: laid · FnExactHistBack: laid · FnHistAll: laid · FnHistBack: laid · FnHistFirst: laid · FnExactHistAgain: laid · FnHistBent: laid.
  DERIVED. THE GIVEN ROWS OF THIS SEAT. 15 by the template 'for every input the law returns true; each argument reads behind the call as it read before'; 0 by the template 'total and deterministic' (their statements: YtnbkolhmacikaaaDoorTotals.lean).
  GIVEN WITH THE SEED: the statements are not yours to turn. If you find one false, say at which input.
  Laid BY PROGRAM, IN A SANDBOX (cutbox-rows.mjs): the forced cells as the released guide's own fill.sh prints them over the translation 5229fc36f179ed10… (all of the seat's roots in one cut). By AI agents, Wed Nov 11 2026. No macro, syntax, notation, axiom, sorry.
-/
import Derived.Test.YtnbkolhmacikaaaDoorChecked
import GoSem.PinnedTables
import GoSem.Claim
import GoSem.ClaimJoined
import GoSem.ClaimMapViews
import Derived.JoinedTies
import Derived.KernelRfl
namespace Go.Proofs.YtnbkolhmacikaaaDoor
/- THE CELL 'sum', in the pinned program and in every row, IS THE sha256 OF THE DUMP (.gsa) THAT YtnbkolhmacikaaaDoorProg.lean LOADS. Nothing in Lean hashes anything: it is a label: what it is worth is what the hold of that sum in a sandbox is worth. -/
noncomputable def Tryd.pinned : Pinned := { name := "ytnbkolhmacikaaadoor", sum := "5229fc36f179ed10c12d915d573b1af9043aa95e09d37ccee452961e35aacb11", checked := Tryd.checked }
namespace Rows
def none {H : Type} : Left H := { results := [], args := [] }

/- WHAT THE LISTED PACKAGE-LEVEL VARIABLES READ AS WHEN THE CALL BEGINS. Each datum BY PROGRAM (the guide's laid-datum.mjs) off the statement by which the dump's own 'gosem.cut.vars' lays the variable. In a bare row this is a premise. The card (YtnbkolhmacikaaaDoorCards.lean) ties it to the program's text. -/
def laid_unicode_utf8_acceptRanges {H : Type} : DataW H := .agg [.agg [.lit (.int .u8 128), .lit (.int .u8 191)], .agg [.lit (.int .u8 160), .lit (.int .u8 191)], .agg [.lit (.int .u8 128), .lit (.int .u8 159)], .agg [.lit (.int .u8 144), .lit (.int .u8 191)], .agg [.lit (.int .u8 128), .lit (.int .u8 143)], .agg [.lit (.int .u8 0), .lit (.int .u8 0)], .agg [.lit (.int .u8 0), .lit (.int .u8 0)], .agg [.lit (.int .u8 0), .lit (.int .u8 0)], .agg [.lit (.int .u8 0), .lit (.int .u8 0)], .agg [.lit (.int .u8 0), .lit (.int .u8 0)], .agg [.lit (.int .u8 0), .lit (.int .u8 0)], .agg [.lit (.int .u8 0), .lit (.int .u8 0)], .agg [.lit (.int .u8 0), .lit (.int .u8 0)], .agg [.lit (.int .u8 0), .lit (.int .u8 0)], .agg [.lit (.int .u8 0), .lit (.int .u8 0)], .agg [.lit (.int .u8 0), .lit (.int .u8 0)]]
/-- One of Go's own tables, pinned by name: the form's constant. -/
def laid_unicode_utf8_first : DataW Unit := Go.Pinned.utf8First

/-- 'laws.FnExactHistNew': WHATEVER THE INPUT: true; the input reads as it did. -/
def fnExactHistNewSpec : ChangeSpec := { name := "fnExactHistNew", fn := fun _ => fun
  | [d] => { results := [.lit (.bool true)], args := [d] }
  | _ => none }
def fnExactHistNewRow : OpenClaim := { program := "ytnbkolhmacikaaadoor", sum := "5229fc36f179ed10c12d915d573b1af9043aa95e09d37ccee452961e35aacb11", func := "loop.example/construer/laws.FnExactHistNew", spec := "fnExactHistNew", inPlace := ["internal/bytealg.IndexByteString", "internal/bytealg.IndexString"], named := ["unicode/utf8.first", "unicode/utf8.acceptRanges", "internal/bytealg.MaxLen"], apart := false, laid := [("unicode/utf8.acceptRanges", laid_unicode_utf8_acceptRanges), ("unicode/utf8.first", laid_unicode_utf8_first)] }
def FnExactHistNewSaid : Prop := fnExactHistNewRow.holds Tryd.pinned (OpenSpec.ofChange fnExactHistNewSpec)

/-- ITS FALSE NEIGHBOUR: 'it returns false'. Refute it at one input. -/
def fnExactHistNewWrong : ChangeSpec := { name := "fnExactHistNew", fn := fun _ => fun
  | [d] => { results := [.lit (.bool false)], args := [d] }
  | _ => none }
def FnExactHistNewWrongFalsely : Prop := fnExactHistNewRow.holds Tryd.pinned (OpenSpec.ofChange fnExactHistNewWrong)

/-- 'laws.FnExactHistOk': WHATEVER THE INPUT: true; the input reads as it did. -/
def fnExactHistOkSpec : ChangeSpec := { name := "fnExactHistOk", fn := fun _ => fun
  | [d] => { results := [.lit (.bool true)], args := [d] }
  | _ => none }
def fnExactHistOkRow : OpenClaim := { program := "ytnbkolhmacikaaadoor", sum := "5229fc36f179ed10c12d915d573b1af9043aa95e09d37ccee452961e35aacb11", func := "loop.example/construer/laws.FnExactHistOk", spec := "fnExactHistOk", inPlace := ["internal/bytealg.IndexByteString", "internal/bytealg.IndexString"], named := ["unicode/utf8.first", "unicode/utf8.acceptRanges", "internal/bytealg.MaxLen"], apart := false, laid := [("unicode/utf8.acceptRanges", laid_unicode_utf8_acceptRanges), ("unicode/utf8.first", laid_unicode_utf8_first)] }
def FnExactHistOkSaid : Prop := fnExactHistOkRow.holds Tryd.pinned (OpenSpec.ofChange fnExactHistOkSpec)

/-- ITS FALSE NEIGHBOUR: 'it returns false'. Refute it at one input. -/
def fnExactHistOkWrong : ChangeSpec := { name := "fnExactHistOk", fn := fun _ => fun
  | [d] => { results := [.lit (.bool false)], args := [d] }
  | _ => none }
def FnExactHistOkWrongFalsely : Prop := fnExactHistOkRow.holds Tryd.pinned (OpenSpec.ofChange fnExactHistOkWrong)

/-- 'laws.FnExactHistFirst': WHATEVER THE INPUT: true; the input reads as it did. -/
def fnExactHistFirstSpec : ChangeSpec := { name := "fnExactHistFirst", fn := fun _ => fun
  | [d] => { results := [.lit (.bool true)], args := [d] }
  | _ => none }
def fnExactHistFirstRow : OpenClaim := { program := "ytnbkolhmacikaaadoor", sum := "5229fc36f179ed10c12d915d573b1af9043aa95e09d37ccee452961e35aacb11", func := "loop.example/construer/laws.FnExactHistFirst", spec := "fnExactHistFirst", inPlace := ["internal/bytealg.IndexByteString", "internal/bytealg.IndexString"], named := ["unicode/utf8.first", "unicode/utf8.acceptRanges", "internal/bytealg.MaxLen"], apart := false, laid := [("unicode/utf8.acceptRanges", laid_unicode_utf8_acceptRanges), ("unicode/utf8.first", laid_unicode_utf8_first)] }
def FnExactHistFirstSaid : Prop := fnExactHistFirstRow.holds Tryd.pinned (OpenSpec.ofChange fnExactHistFirstSpec)

/-- ITS FALSE NEIGHBOUR: 'it returns false'. Refute it at one input. -/
def fnExactHistFirstWrong : ChangeSpec := { name := "fnExactHistFirst", fn := fun _ => fun
  | [d] => { results := [.lit (.bool false)], args := [d] }
  | _ => none }
def FnExactHistFirstWrongFalsely : Prop := fnExactHistFirstRow.holds Tryd.pinned (OpenSpec.ofChange fnExactHistFirstWrong)

/-- 'laws.FnExactHistLast': WHATEVER THE INPUT: true; the input reads as it did. -/
def fnExactHistLastSpec : ChangeSpec := { name := "fnExactHistLast", fn := fun _ => fun
  | [d] => { results := [.lit (.bool true)], args := [d] }
  | _ => none }
def fnExactHistLastRow : OpenClaim := { program := "ytnbkolhmacikaaadoor", sum := "5229fc36f179ed10c12d915d573b1af9043aa95e09d37ccee452961e35aacb11", func := "loop.example/construer/laws.FnExactHistLast", spec := "fnExactHistLast", inPlace := ["internal/bytealg.IndexByteString", "internal/bytealg.IndexString"], named := ["unicode/utf8.first", "unicode/utf8.acceptRanges", "internal/bytealg.MaxLen"], apart := false, laid := [("unicode/utf8.acceptRanges", laid_unicode_utf8_acceptRanges), ("unicode/utf8.first", laid_unicode_utf8_first)] }
def FnExactHistLastSaid : Prop := fnExactHistLastRow.holds Tryd.pinned (OpenSpec.ofChange fnExactHistLastSpec)

/-- ITS FALSE NEIGHBOUR: 'it returns false'. Refute it at one input. -/
def fnExactHistLastWrong : ChangeSpec := { name := "fnExactHistLast", fn := fun _ => fun
  | [d] => { results := [.lit (.bool false)], args := [d] }
  | _ => none }
def FnExactHistLastWrongFalsely : Prop := fnExactHistLastRow.holds Tryd.pinned (OpenSpec.ofChange fnExactHistLastWrong)

/-- 'laws.FnHistNew': WHATEVER THE INPUT: true; the input reads as it did. -/
def fnHistNewSpec : ChangeSpec := { name := "fnHistNew", fn := fun _ => fun
  | [d] => { results := [.lit (.bool true)], args := [d] }
  | _ => none }
def fnHistNewRow : OpenClaim := { program := "ytnbkolhmacikaaadoor", sum := "5229fc36f179ed10c12d915d573b1af9043aa95e09d37ccee452961e35aacb11", func := "loop.example/construer/laws.FnHistNew", spec := "fnHistNew", inPlace := ["internal/bytealg.IndexByteString", "internal/bytealg.IndexString"], named := ["unicode/utf8.first", "unicode/utf8.acceptRanges", "internal/bytealg.MaxLen"], apart := false, laid := [("unicode/utf8.acceptRanges", laid_unicode_utf8_acceptRanges), ("unicode/utf8.first", laid_unicode_utf8_first)] }
def FnHistNewSaid : Prop := fnHistNewRow.holds Tryd.pinned (OpenSpec.ofChange fnHistNewSpec)

/-- ITS FALSE NEIGHBOUR: 'it returns false'. Refute it at one input. -/
def fnHistNewWrong : ChangeSpec := { name := "fnHistNew", fn := fun _ => fun
  | [d] => { results := [.lit (.bool false)], args := [d] }
  | _ => none }
def FnHistNewWrongFalsely : Prop := fnHistNewRow.holds Tryd.pinned (OpenSpec.ofChange fnHistNewWrong)

/-- 'laws.FnExactHistDo': WHATEVER THE INPUT: true; the input reads as it did. -/
def fnExactHistDoSpec : ChangeSpec := { name := "fnExactHistDo", fn := fun _ => fun
  | [d1, d2] => { results := [.lit (.bool true)], args := [d1, d2] }
  | _ => none }
def fnExactHistDoRow : OpenClaim := { program := "ytnbkolhmacikaaadoor", sum := "5229fc36f179ed10c12d915d573b1af9043aa95e09d37ccee452961e35aacb11", func := "loop.example/construer/laws.FnExactHistDo", spec := "fnExactHistDo", inPlace := ["internal/bytealg.IndexByteString", "internal/bytealg.IndexString"], named := ["unicode/utf8.first", "unicode/utf8.acceptRanges", "internal/bytealg.MaxLen"], apart := false, laid := [("unicode/utf8.acceptRanges", laid_unicode_utf8_acceptRanges), ("unicode/utf8.first", laid_unicode_utf8_first)] }
def FnExactHistDoSaid : Prop := fnExactHistDoRow.holds Tryd.pinned (OpenSpec.ofChange fnExactHistDoSpec)

/-- ITS FALSE NEIGHBOUR: 'it returns false'. Refute it at one input. -/
def fnExactHistDoWrong : ChangeSpec := { name := "fnExactHistDo", fn := fun _ => fun
  | [d1, d2] => { results := [.lit (.bool false)], args := [d1, d2] }
  | _ => none }
def FnExactHistDoWrongFalsely : Prop := fnExactHistDoRow.holds Tryd.pinned (OpenSpec.ofChange fnExactHistDoWrong)

/-- 'laws.FnHistOk': WHATEVER THE INPUT: true; the input reads as it did. -/
def fnHistOkSpec : ChangeSpec := { name := "fnHistOk", fn := fun _ => fun
  | [d] => { results := [.lit (.bool true)], args := [d] }
  | _ => none }
def fnHistOkRow : OpenClaim := { program := "ytnbkolhmacikaaadoor", sum := "5229fc36f179ed10c12d915d573b1af9043aa95e09d37ccee452961e35aacb11", func := "loop.example/construer/laws.FnHistOk", spec := "fnHistOk", inPlace := ["internal/bytealg.IndexByteString", "internal/bytealg.IndexString"], named := ["unicode/utf8.first", "unicode/utf8.acceptRanges", "internal/bytealg.MaxLen"], apart := false, laid := [("unicode/utf8.acceptRanges", laid_unicode_utf8_acceptRanges), ("unicode/utf8.first", laid_unicode_utf8_first)] }
def FnHistOkSaid : Prop := fnHistOkRow.holds Tryd.pinned (OpenSpec.ofChange fnHistOkSpec)

/-- ITS FALSE NEIGHBOUR: 'it returns false'. Refute it at one input. -/
def fnHistOkWrong : ChangeSpec := { name := "fnHistOk", fn := fun _ => fun
  | [d] => { results := [.lit (.bool false)], args := [d] }
  | _ => none }
def FnHistOkWrongFalsely : Prop := fnHistOkRow.holds Tryd.pinned (OpenSpec.ofChange fnHistOkWrong)

/-- 'laws.FnHistCut': WHATEVER THE INPUT: true; the input reads as it did. -/
def fnHistCutSpec : ChangeSpec := { name := "fnHistCut", fn := fun _ => fun
  | [d] => { results := [.lit (.bool true)], args := [d] }
  | _ => none }
def fnHistCutRow : OpenClaim := { program := "ytnbkolhmacikaaadoor", sum := "5229fc36f179ed10c12d915d573b1af9043aa95e09d37ccee452961e35aacb11", func := "loop.example/construer/laws.FnHistCut", spec := "fnHistCut", inPlace := ["internal/bytealg.IndexByteString", "internal/bytealg.IndexString"], named := ["unicode/utf8.first", "unicode/utf8.acceptRanges", "internal/bytealg.MaxLen"], apart := false, laid := [("unicode/utf8.acceptRanges", laid_unicode_utf8_acceptRanges), ("unicode/utf8.first", laid_unicode_utf8_first)] }
def FnHistCutSaid : Prop := fnHistCutRow.holds Tryd.pinned (OpenSpec.ofChange fnHistCutSpec)

/-- ITS FALSE NEIGHBOUR: 'it returns false'. Refute it at one input. -/
def fnHistCutWrong : ChangeSpec := { name := "fnHistCut", fn := fun _ => fun
  | [d] => { results := [.lit (.bool false)], args := [d] }
  | _ => none }
def FnHistCutWrongFalsely : Prop := fnHistCutRow.holds Tryd.pinned (OpenSpec.ofChange fnHistCutWrong)

/-- 'laws.FnHistTwo': WHATEVER THE INPUT: true; the input reads as it did. -/
def fnHistTwoSpec : ChangeSpec := { name := "fnHistTwo", fn := fun _ => fun
  | [d1, d2] => { results := [.lit (.bool true)], args := [d1, d2] }
  | _ => none }
def fnHistTwoRow : OpenClaim := { program := "ytnbkolhmacikaaadoor", sum := "5229fc36f179ed10c12d915d573b1af9043aa95e09d37ccee452961e35aacb11", func := "loop.example/construer/laws.FnHistTwo", spec := "fnHistTwo", inPlace := ["internal/bytealg.IndexByteString", "internal/bytealg.IndexString"], named := ["unicode/utf8.first", "unicode/utf8.acceptRanges", "internal/bytealg.MaxLen"], apart := false, laid := [("unicode/utf8.acceptRanges", laid_unicode_utf8_acceptRanges), ("unicode/utf8.first", laid_unicode_utf8_first)] }
def FnHistTwoSaid : Prop := fnHistTwoRow.holds Tryd.pinned (OpenSpec.ofChange fnHistTwoSpec)

/-- ITS FALSE NEIGHBOUR: 'it returns false'. Refute it at one input. -/
def fnHistTwoWrong : ChangeSpec := { name := "fnHistTwo", fn := fun _ => fun
  | [d1, d2] => { results := [.lit (.bool false)], args := [d1, d2] }
  | _ => none }
def FnHistTwoWrongFalsely : Prop := fnHistTwoRow.holds Tryd.pinned (OpenSpec.ofChange fnHistTwoWrong)

/-- 'laws.FnExactHistBack': WHATEVER THE INPUT: true; the input reads as it did. -/
def fnExactHistBackSpec : ChangeSpec := { name := "fnExactHistBack", fn := fun _ => fun
  | [d] => { results := [.lit (.bool true)], args := [d] }
  | _ => none }
def fnExactHistBackRow : OpenClaim := { program := "ytnbkolhmacikaaadoor", sum := "5229fc36f179ed10c12d915d573b1af9043aa95e09d37ccee452961e35aacb11", func := "loop.example/construer/laws.FnExactHistBack", spec := "fnExactHistBack", inPlace := ["internal/bytealg.IndexByteString", "internal/bytealg.IndexString"], named := ["unicode/utf8.first", "unicode/utf8.acceptRanges", "internal/bytealg.MaxLen"], apart := false, laid := [("unicode/utf8.acceptRanges", laid_unicode_utf8_acceptRanges), ("unicode/utf8.first", laid_unicode_utf8_first)] }
def FnExactHistBackSaid : Prop := fnExactHistBackRow.holds Tryd.pinned (OpenSpec.ofChange fnExactHistBackSpec)

/-- ITS FALSE NEIGHBOUR: 'it returns false'. Refute it at one input. -/
def fnExactHistBackWrong : ChangeSpec := { name := "fnExactHistBack", fn := fun _ => fun
  | [d] => { results := [.lit (.bool false)], args := [d] }
  | _ => none }
def FnExactHistBackWrongFalsely : Prop := fnExactHistBackRow.holds Tryd.pinned (OpenSpec.ofChange fnExactHistBackWrong)

/-- 'laws.FnHistAll': WHATEVER THE INPUT: true; the input reads as it did. -/
def fnHistAllSpec : ChangeSpec := { name := "fnHistAll", fn := fun _ => fun
  | [d] => { results := [.lit (.bool true)], args := [d] }
  | _ => none }
def fnHistAllRow : OpenClaim := { program := "ytnbkolhmacikaaadoor", sum := "5229fc36f179ed10c12d915d573b1af9043aa95e09d37ccee452961e35aacb11", func := "loop.example/construer/laws.FnHistAll", spec := "fnHistAll", inPlace := ["internal/bytealg.IndexByteString", "internal/bytealg.IndexString"], named := ["unicode/utf8.first", "unicode/utf8.acceptRanges", "internal/bytealg.MaxLen"], apart := false, laid := [("unicode/utf8.acceptRanges", laid_unicode_utf8_acceptRanges), ("unicode/utf8.first", laid_unicode_utf8_first)] }
def FnHistAllSaid : Prop := fnHistAllRow.holds Tryd.pinned (OpenSpec.ofChange fnHistAllSpec)

/-- ITS FALSE NEIGHBOUR: 'it returns false'. Refute it at one input. -/
def fnHistAllWrong : ChangeSpec := { name := "fnHistAll", fn := fun _ => fun
  | [d] => { results := [.lit (.bool false)], args := [d] }
  | _ => none }
def FnHistAllWrongFalsely : Prop := fnHistAllRow.holds Tryd.pinned (OpenSpec.ofChange fnHistAllWrong)

/-- 'laws.FnHistBack': WHATEVER THE INPUT: true; the input reads as it did. -/
def fnHistBackSpec : ChangeSpec := { name := "fnHistBack", fn := fun _ => fun
  | [d] => { results := [.lit (.bool true)], args := [d] }
  | _ => none }
def fnHistBackRow : OpenClaim := { program := "ytnbkolhmacikaaadoor", sum := "5229fc36f179ed10c12d915d573b1af9043aa95e09d37ccee452961e35aacb11", func := "loop.example/construer/laws.FnHistBack", spec := "fnHistBack", inPlace := ["internal/bytealg.IndexByteString", "internal/bytealg.IndexString"], named := ["unicode/utf8.first", "unicode/utf8.acceptRanges", "internal/bytealg.MaxLen"], apart := false, laid := [("unicode/utf8.acceptRanges", laid_unicode_utf8_acceptRanges), ("unicode/utf8.first", laid_unicode_utf8_first)] }
def FnHistBackSaid : Prop := fnHistBackRow.holds Tryd.pinned (OpenSpec.ofChange fnHistBackSpec)

/-- ITS FALSE NEIGHBOUR: 'it returns false'. Refute it at one input. -/
def fnHistBackWrong : ChangeSpec := { name := "fnHistBack", fn := fun _ => fun
  | [d] => { results := [.lit (.bool false)], args := [d] }
  | _ => none }
def FnHistBackWrongFalsely : Prop := fnHistBackRow.holds Tryd.pinned (OpenSpec.ofChange fnHistBackWrong)

/-- 'laws.FnHistFirst': WHATEVER THE INPUT: true; the input reads as it did. -/
def fnHistFirstSpec : ChangeSpec := { name := "fnHistFirst", fn := fun _ => fun
  | [d] => { results := [.lit (.bool true)], args := [d] }
  | _ => none }
def fnHistFirstRow : OpenClaim := { program := "ytnbkolhmacikaaadoor", sum := "5229fc36f179ed10c12d915d573b1af9043aa95e09d37ccee452961e35aacb11", func := "loop.example/construer/laws.FnHistFirst", spec := "fnHistFirst", inPlace := ["internal/bytealg.IndexByteString", "internal/bytealg.IndexString"], named := ["unicode/utf8.first", "unicode/utf8.acceptRanges", "internal/bytealg.MaxLen"], apart := false, laid := [("unicode/utf8.acceptRanges", laid_unicode_utf8_acceptRanges), ("unicode/utf8.first", laid_unicode_utf8_first)] }
def FnHistFirstSaid : Prop := fnHistFirstRow.holds Tryd.pinned (OpenSpec.ofChange fnHistFirstSpec)

/-- ITS FALSE NEIGHBOUR: 'it returns false'. Refute it at one input. -/
def fnHistFirstWrong : ChangeSpec := { name := "fnHistFirst", fn := fun _ => fun
  | [d] => { results := [.lit (.bool false)], args := [d] }
  | _ => none }
def FnHistFirstWrongFalsely : Prop := fnHistFirstRow.holds Tryd.pinned (OpenSpec.ofChange fnHistFirstWrong)

/-- 'laws.FnExactHistAgain': WHATEVER THE INPUT: true; the input reads as it did. -/
def fnExactHistAgainSpec : ChangeSpec := { name := "fnExactHistAgain", fn := fun _ => fun
  | [d] => { results := [.lit (.bool true)], args := [d] }
  | _ => none }
def fnExactHistAgainRow : OpenClaim := { program := "ytnbkolhmacikaaadoor", sum := "5229fc36f179ed10c12d915d573b1af9043aa95e09d37ccee452961e35aacb11", func := "loop.example/construer/laws.FnExactHistAgain", spec := "fnExactHistAgain", inPlace := ["internal/bytealg.IndexByteString", "internal/bytealg.IndexString"], named := ["unicode/utf8.first", "unicode/utf8.acceptRanges", "internal/bytealg.MaxLen"], apart := false, laid := [("unicode/utf8.acceptRanges", laid_unicode_utf8_acceptRanges), ("unicode/utf8.first", laid_unicode_utf8_first)] }
def FnExactHistAgainSaid : Prop := fnExactHistAgainRow.holds Tryd.pinned (OpenSpec.ofChange fnExactHistAgainSpec)

/-- ITS FALSE NEIGHBOUR: 'it returns false'. Refute it at one input. -/
def fnExactHistAgainWrong : ChangeSpec := { name := "fnExactHistAgain", fn := fun _ => fun
  | [d] => { results := [.lit (.bool false)], args := [d] }
  | _ => none }
def FnExactHistAgainWrongFalsely : Prop := fnExactHistAgainRow.holds Tryd.pinned (OpenSpec.ofChange fnExactHistAgainWrong)

/-- 'laws.FnHistBent': WHATEVER THE INPUT: true; the input reads as it did. -/
def fnHistBentSpec : ChangeSpec := { name := "fnHistBent", fn := fun _ => fun
  | [d] => { results := [.lit (.bool true)], args := [d] }
  | _ => none }
def fnHistBentRow : OpenClaim := { program := "ytnbkolhmacikaaadoor", sum := "5229fc36f179ed10c12d915d573b1af9043aa95e09d37ccee452961e35aacb11", func := "loop.example/construer/laws.FnHistBent", spec := "fnHistBent", inPlace := ["internal/bytealg.IndexByteString", "internal/bytealg.IndexString"], named := ["unicode/utf8.first", "unicode/utf8.acceptRanges", "internal/bytealg.MaxLen"], apart := false, laid := [("unicode/utf8.acceptRanges", laid_unicode_utf8_acceptRanges), ("unicode/utf8.first", laid_unicode_utf8_first)] }
def FnHistBentSaid : Prop := fnHistBentRow.holds Tryd.pinned (OpenSpec.ofChange fnHistBentSpec)

/-- ITS FALSE NEIGHBOUR: 'it returns false'. Refute it at one input. -/
def fnHistBentWrong : ChangeSpec := { name := "fnHistBent", fn := fun _ => fun
  | [d] => { results := [.lit (.bool false)], args := [d] }
  | _ => none }
def FnHistBentWrongFalsely : Prop := fnHistBentRow.holds Tryd.pinned (OpenSpec.ofChange fnHistBentWrong)

/- THE SECOND FORM. 'bulk': how many values and letters a reading holds, each counted each time it is reached (what is shared counts as often as it is met; a slice's spare places count too). A statement '..UptoSaid' is the law's where the arguments, and the package variables that the reading takes, are together of bulk at most 1048576: NARROWER than '..Said'. Prove '..Said' where nothing that the law and all that it calls make is longer than what came in: it says more and counts as full. Else prove '..UptoSaid'. A law counts once. -/
mutual
def uptoBulk {H : Type} : DataW H → Nat
  | .lit (.string bytes) => bytes.length + 1
  | .lit _ => 1
  | .nil => 1
  | .ptr d => uptoBulk d + 1
  | .slice elems spare => uptoBulkAll elems + uptoBulkAll spare + 1
  | .agg parts => uptoBulkAll parts + 1
  | .iface _ d => uptoBulk d + 1
  | .map entries => uptoBulkEntries entries + 1
  | .held _ => 1
def uptoBulkAll {H : Type} : List (DataW H) → Nat
  | [] => 0
  | d :: r => uptoBulk d + uptoBulkAll r
def uptoBulkEntries {H : Type} : List (Lit × DataW H) → Nat
  | [] => 0
  | x :: r => uptoBulkEntry x + uptoBulkEntries r
def uptoBulkEntry {H : Type} : Lit × DataW H → Nat
  | (.string bytes, d) => bytes.length + uptoBulk d + 1
  | (_, d) => uptoBulk d + 1
 end
def uptoSmall : (H : Type) → List (DataW H) → Bool := fun _ ds => decide (uptoBulkAll ds ≤ 1048576)
def OpenSpec.upto (s : _root_.Go.ChangeSpec) : _root_.Go.OpenSpec := { _root_.Go.OpenSpec.ofChange s with cond := some uptoSmall }

/-- 'laws.FnExactHistNew', WHERE WHAT IT READS IS OF BULK AT MOST 1048576: true; the input reads as it did. -/
def fnExactHistNewUptoRow : OpenClaim := { program := "ytnbkolhmacikaaadoor", sum := "5229fc36f179ed10c12d915d573b1af9043aa95e09d37ccee452961e35aacb11", func := "loop.example/construer/laws.FnExactHistNew", spec := "fnExactHistNew", inPlace := ["internal/bytealg.IndexByteString", "internal/bytealg.IndexString"], named := ["unicode/utf8.first", "unicode/utf8.acceptRanges", "internal/bytealg.MaxLen"], apart := false, laid := [("unicode/utf8.acceptRanges", laid_unicode_utf8_acceptRanges), ("unicode/utf8.first", laid_unicode_utf8_first)], narrowed := true }
def FnExactHistNewUptoSaid : Prop := fnExactHistNewUptoRow.holds Tryd.pinned (OpenSpec.upto fnExactHistNewSpec)

/-- 'laws.FnExactHistOk', WHERE WHAT IT READS IS OF BULK AT MOST 1048576: true; the input reads as it did. -/
def fnExactHistOkUptoRow : OpenClaim := { program := "ytnbkolhmacikaaadoor", sum := "5229fc36f179ed10c12d915d573b1af9043aa95e09d37ccee452961e35aacb11", func := "loop.example/construer/laws.FnExactHistOk", spec := "fnExactHistOk", inPlace := ["internal/bytealg.IndexByteString", "internal/bytealg.IndexString"], named := ["unicode/utf8.first", "unicode/utf8.acceptRanges", "internal/bytealg.MaxLen"], apart := false, laid := [("unicode/utf8.acceptRanges", laid_unicode_utf8_acceptRanges), ("unicode/utf8.first", laid_unicode_utf8_first)], narrowed := true }
def FnExactHistOkUptoSaid : Prop := fnExactHistOkUptoRow.holds Tryd.pinned (OpenSpec.upto fnExactHistOkSpec)

/-- 'laws.FnExactHistFirst', WHERE WHAT IT READS IS OF BULK AT MOST 1048576: true; the input reads as it did. -/
def fnExactHistFirstUptoRow : OpenClaim := { program := "ytnbkolhmacikaaadoor", sum := "5229fc36f179ed10c12d915d573b1af9043aa95e09d37ccee452961e35aacb11", func := "loop.example/construer/laws.FnExactHistFirst", spec := "fnExactHistFirst", inPlace := ["internal/bytealg.IndexByteString", "internal/bytealg.IndexString"], named := ["unicode/utf8.first", "unicode/utf8.acceptRanges", "internal/bytealg.MaxLen"], apart := false, laid := [("unicode/utf8.acceptRanges", laid_unicode_utf8_acceptRanges), ("unicode/utf8.first", laid_unicode_utf8_first)], narrowed := true }
def FnExactHistFirstUptoSaid : Prop := fnExactHistFirstUptoRow.holds Tryd.pinned (OpenSpec.upto fnExactHistFirstSpec)

/-- 'laws.FnExactHistLast', WHERE WHAT IT READS IS OF BULK AT MOST 1048576: true; the input reads as it did. -/
def fnExactHistLastUptoRow : OpenClaim := { program := "ytnbkolhmacikaaadoor", sum := "5229fc36f179ed10c12d915d573b1af9043aa95e09d37ccee452961e35aacb11", func := "loop.example/construer/laws.FnExactHistLast", spec := "fnExactHistLast", inPlace := ["internal/bytealg.IndexByteString", "internal/bytealg.IndexString"], named := ["unicode/utf8.first", "unicode/utf8.acceptRanges", "internal/bytealg.MaxLen"], apart := false, laid := [("unicode/utf8.acceptRanges", laid_unicode_utf8_acceptRanges), ("unicode/utf8.first", laid_unicode_utf8_first)], narrowed := true }
def FnExactHistLastUptoSaid : Prop := fnExactHistLastUptoRow.holds Tryd.pinned (OpenSpec.upto fnExactHistLastSpec)

/-- 'laws.FnHistNew', WHERE WHAT IT READS IS OF BULK AT MOST 1048576: true; the input reads as it did. -/
def fnHistNewUptoRow : OpenClaim := { program := "ytnbkolhmacikaaadoor", sum := "5229fc36f179ed10c12d915d573b1af9043aa95e09d37ccee452961e35aacb11", func := "loop.example/construer/laws.FnHistNew", spec := "fnHistNew", inPlace := ["internal/bytealg.IndexByteString", "internal/bytealg.IndexString"], named := ["unicode/utf8.first", "unicode/utf8.acceptRanges", "internal/bytealg.MaxLen"], apart := false, laid := [("unicode/utf8.acceptRanges", laid_unicode_utf8_acceptRanges), ("unicode/utf8.first", laid_unicode_utf8_first)], narrowed := true }
def FnHistNewUptoSaid : Prop := fnHistNewUptoRow.holds Tryd.pinned (OpenSpec.upto fnHistNewSpec)

/-- 'laws.FnExactHistDo', WHERE WHAT IT READS IS OF BULK AT MOST 1048576: true; the input reads as it did. -/
def fnExactHistDoUptoRow : OpenClaim := { program := "ytnbkolhmacikaaadoor", sum := "5229fc36f179ed10c12d915d573b1af9043aa95e09d37ccee452961e35aacb11", func := "loop.example/construer/laws.FnExactHistDo", spec := "fnExactHistDo", inPlace := ["internal/bytealg.IndexByteString", "internal/bytealg.IndexString"], named := ["unicode/utf8.first", "unicode/utf8.acceptRanges", "internal/bytealg.MaxLen"], apart := false, laid := [("unicode/utf8.acceptRanges", laid_unicode_utf8_acceptRanges), ("unicode/utf8.first", laid_unicode_utf8_first)], narrowed := true }
def FnExactHistDoUptoSaid : Prop := fnExactHistDoUptoRow.holds Tryd.pinned (OpenSpec.upto fnExactHistDoSpec)

/-- 'laws.FnHistOk', WHERE WHAT IT READS IS OF BULK AT MOST 1048576: true; the input reads as it did. -/
def fnHistOkUptoRow : OpenClaim := { program := "ytnbkolhmacikaaadoor", sum := "5229fc36f179ed10c12d915d573b1af9043aa95e09d37ccee452961e35aacb11", func := "loop.example/construer/laws.FnHistOk", spec := "fnHistOk", inPlace := ["internal/bytealg.IndexByteString", "internal/bytealg.IndexString"], named := ["unicode/utf8.first", "unicode/utf8.acceptRanges", "internal/bytealg.MaxLen"], apart := false, laid := [("unicode/utf8.acceptRanges", laid_unicode_utf8_acceptRanges), ("unicode/utf8.first", laid_unicode_utf8_first)], narrowed := true }
def FnHistOkUptoSaid : Prop := fnHistOkUptoRow.holds Tryd.pinned (OpenSpec.upto fnHistOkSpec)

/-- 'laws.FnHistCut', WHERE WHAT IT READS IS OF BULK AT MOST 1048576: true; the input reads as it did. -/
def fnHistCutUptoRow : OpenClaim := { program := "ytnbkolhmacikaaadoor", sum := "5229fc36f179ed10c12d915d573b1af9043aa95e09d37ccee452961e35aacb11", func := "loop.example/construer/laws.FnHistCut", spec := "fnHistCut", inPlace := ["internal/bytealg.IndexByteString", "internal/bytealg.IndexString"], named := ["unicode/utf8.first", "unicode/utf8.acceptRanges", "internal/bytealg.MaxLen"], apart := false, laid := [("unicode/utf8.acceptRanges", laid_unicode_utf8_acceptRanges), ("unicode/utf8.first", laid_unicode_utf8_first)], narrowed := true }
def FnHistCutUptoSaid : Prop := fnHistCutUptoRow.holds Tryd.pinned (OpenSpec.upto fnHistCutSpec)

/-- 'laws.FnHistTwo', WHERE WHAT IT READS IS OF BULK AT MOST 1048576: true; the input reads as it did. -/
def fnHistTwoUptoRow : OpenClaim := { program := "ytnbkolhmacikaaadoor", sum := "5229fc36f179ed10c12d915d573b1af9043aa95e09d37ccee452961e35aacb11", func := "loop.example/construer/laws.FnHistTwo", spec := "fnHistTwo", inPlace := ["internal/bytealg.IndexByteString", "internal/bytealg.IndexString"], named := ["unicode/utf8.first", "unicode/utf8.acceptRanges", "internal/bytealg.MaxLen"], apart := false, laid := [("unicode/utf8.acceptRanges", laid_unicode_utf8_acceptRanges), ("unicode/utf8.first", laid_unicode_utf8_first)], narrowed := true }
def FnHistTwoUptoSaid : Prop := fnHistTwoUptoRow.holds Tryd.pinned (OpenSpec.upto fnHistTwoSpec)

/-- 'laws.FnExactHistBack', WHERE WHAT IT READS IS OF BULK AT MOST 1048576: true; the input reads as it did. -/
def fnExactHistBackUptoRow : OpenClaim := { program := "ytnbkolhmacikaaadoor", sum := "5229fc36f179ed10c12d915d573b1af9043aa95e09d37ccee452961e35aacb11", func := "loop.example/construer/laws.FnExactHistBack", spec := "fnExactHistBack", inPlace := ["internal/bytealg.IndexByteString", "internal/bytealg.IndexString"], named := ["unicode/utf8.first", "unicode/utf8.acceptRanges", "internal/bytealg.MaxLen"], apart := false, laid := [("unicode/utf8.acceptRanges", laid_unicode_utf8_acceptRanges), ("unicode/utf8.first", laid_unicode_utf8_first)], narrowed := true }
def FnExactHistBackUptoSaid : Prop := fnExactHistBackUptoRow.holds Tryd.pinned (OpenSpec.upto fnExactHistBackSpec)

/-- 'laws.FnHistAll', WHERE WHAT IT READS IS OF BULK AT MOST 1048576: true; the input reads as it did. -/
def fnHistAllUptoRow : OpenClaim := { program := "ytnbkolhmacikaaadoor", sum := "5229fc36f179ed10c12d915d573b1af9043aa95e09d37ccee452961e35aacb11", func := "loop.example/construer/laws.FnHistAll", spec := "fnHistAll", inPlace := ["internal/bytealg.IndexByteString", "internal/bytealg.IndexString"], named := ["unicode/utf8.first", "unicode/utf8.acceptRanges", "internal/bytealg.MaxLen"], apart := false, laid := [("unicode/utf8.acceptRanges", laid_unicode_utf8_acceptRanges), ("unicode/utf8.first", laid_unicode_utf8_first)], narrowed := true }
def FnHistAllUptoSaid : Prop := fnHistAllUptoRow.holds Tryd.pinned (OpenSpec.upto fnHistAllSpec)

/-- 'laws.FnHistBack', WHERE WHAT IT READS IS OF BULK AT MOST 1048576: true; the input reads as it did. -/
def fnHistBackUptoRow : OpenClaim := { program := "ytnbkolhmacikaaadoor", sum := "5229fc36f179ed10c12d915d573b1af9043aa95e09d37ccee452961e35aacb11", func := "loop.example/construer/laws.FnHistBack", spec := "fnHistBack", inPlace := ["internal/bytealg.IndexByteString", "internal/bytealg.IndexString"], named := ["unicode/utf8.first", "unicode/utf8.acceptRanges", "internal/bytealg.MaxLen"], apart := false, laid := [("unicode/utf8.acceptRanges", laid_unicode_utf8_acceptRanges), ("unicode/utf8.first", laid_unicode_utf8_first)], narrowed := true }
def FnHistBackUptoSaid : Prop := fnHistBackUptoRow.holds Tryd.pinned (OpenSpec.upto fnHistBackSpec)

/-- 'laws.FnHistFirst', WHERE WHAT IT READS IS OF BULK AT MOST 1048576: true; the input reads as it did. -/
def fnHistFirstUptoRow : OpenClaim := { program := "ytnbkolhmacikaaadoor", sum := "5229fc36f179ed10c12d915d573b1af9043aa95e09d37ccee452961e35aacb11", func := "loop.example/construer/laws.FnHistFirst", spec := "fnHistFirst", inPlace := ["internal/bytealg.IndexByteString", "internal/bytealg.IndexString"], named := ["unicode/utf8.first", "unicode/utf8.acceptRanges", "internal/bytealg.MaxLen"], apart := false, laid := [("unicode/utf8.acceptRanges", laid_unicode_utf8_acceptRanges), ("unicode/utf8.first", laid_unicode_utf8_first)], narrowed := true }
def FnHistFirstUptoSaid : Prop := fnHistFirstUptoRow.holds Tryd.pinned (OpenSpec.upto fnHistFirstSpec)

/-- 'laws.FnExactHistAgain', WHERE WHAT IT READS IS OF BULK AT MOST 1048576: true; the input reads as it did. -/
def fnExactHistAgainUptoRow : OpenClaim := { program := "ytnbkolhmacikaaadoor", sum := "5229fc36f179ed10c12d915d573b1af9043aa95e09d37ccee452961e35aacb11", func := "loop.example/construer/laws.FnExactHistAgain", spec := "fnExactHistAgain", inPlace := ["internal/bytealg.IndexByteString", "internal/bytealg.IndexString"], named := ["unicode/utf8.first", "unicode/utf8.acceptRanges", "internal/bytealg.MaxLen"], apart := false, laid := [("unicode/utf8.acceptRanges", laid_unicode_utf8_acceptRanges), ("unicode/utf8.first", laid_unicode_utf8_first)], narrowed := true }
def FnExactHistAgainUptoSaid : Prop := fnExactHistAgainUptoRow.holds Tryd.pinned (OpenSpec.upto fnExactHistAgainSpec)

/-- 'laws.FnHistBent', WHERE WHAT IT READS IS OF BULK AT MOST 1048576: true; the input reads as it did. -/
def fnHistBentUptoRow : OpenClaim := { program := "ytnbkolhmacikaaadoor", sum := "5229fc36f179ed10c12d915d573b1af9043aa95e09d37ccee452961e35aacb11", func := "loop.example/construer/laws.FnHistBent", spec := "fnHistBent", inPlace := ["internal/bytealg.IndexByteString", "internal/bytealg.IndexString"], named := ["unicode/utf8.first", "unicode/utf8.acceptRanges", "internal/bytealg.MaxLen"], apart := false, laid := [("unicode/utf8.acceptRanges", laid_unicode_utf8_acceptRanges), ("unicode/utf8.first", laid_unicode_utf8_first)], narrowed := true }
def FnHistBentUptoSaid : Prop := fnHistBentUptoRow.holds Tryd.pinned (OpenSpec.upto fnHistBentSpec)

end Rows
end Go.Proofs.YtnbkolhmacikaaaDoor
