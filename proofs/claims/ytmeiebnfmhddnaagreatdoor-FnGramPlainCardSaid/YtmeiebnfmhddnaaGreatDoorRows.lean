/-
  NARROWER THAN 'FOR EVERY INPUT', by the rows' own cells (each row's printed sentence says how): FnMendFar: laid · FnMendNext: laid · FnMendTwice: laid · FnMendOwn: laid · FnMendRun: laid · FnExactMendNext: laid · FnExactMendRun: laid · FnAllSame: laid · FnGramPlain: laid.
  DERIVED. THE GIVEN ROWS OF THIS SEAT. 9 by the template 'for every input the law returns true; each argument reads behind the call as it read before'; 0 by the template 'total and deterministic' (their statements: YtmeiebnfmhddnaaGreatDoorTotals.lean).
  GIVEN WITH THE SEED: the statements are not yours to turn. If you find one false, say at which input.
  Laid BY PROGRAM, IN A SANDBOX (cutbox-rows.mjs): the forced cells as the released guide's own fill.sh prints them over the translation f3557f878812036c… (all of the seat's roots in one cut). By AI agents, Wed Nov 11 2026. No macro, syntax, notation, axiom, sorry.
-/
import Derived.Test.YtmeiebnfmhddnaaGreatDoorChecked
import GoSem.PinnedTables
import GoSem.Claim
import GoSem.ClaimJoined
import GoSem.ClaimMapViews
import Derived.JoinedTies
import Derived.KernelRfl
namespace Go.Proofs.YtmeiebnfmhddnaaGreatDoor
/- THE CELL 'sum', in the pinned program and in every row, IS THE sha256 OF THE DUMP (.gsa) THAT YtmeiebnfmhddnaaGreatDoorProg.lean LOADS. Nothing in Lean hashes anything: it is a label: what it is worth is what the hold of that sum in a sandbox is worth. -/
noncomputable def Tryz.pinned : Pinned := { name := "ytmeiebnfmhddnaagreatdoor", sum := "f3557f878812036cd02901cc780b6e335e72a89f61169230dfdab05210e1d045", checked := Tryz.checked }
namespace Rows
def none {H : Type} : Left H := { results := [], args := [] }

/- WHAT THE LISTED PACKAGE-LEVEL VARIABLES READ AS WHEN THE CALL BEGINS. Each datum BY PROGRAM (the guide's laid-datum.mjs) off the statement by which the dump's own 'gosem.cut.vars' lays the variable. In a bare row this is a premise. The card (YtmeiebnfmhddnaaGreatDoorCards.lean) ties it to the program's text. -/
def laid_unicode_utf8_acceptRanges {H : Type} : DataW H := .agg [.agg [.lit (.int .u8 128), .lit (.int .u8 191)], .agg [.lit (.int .u8 160), .lit (.int .u8 191)], .agg [.lit (.int .u8 128), .lit (.int .u8 159)], .agg [.lit (.int .u8 144), .lit (.int .u8 191)], .agg [.lit (.int .u8 128), .lit (.int .u8 143)], .agg [.lit (.int .u8 0), .lit (.int .u8 0)], .agg [.lit (.int .u8 0), .lit (.int .u8 0)], .agg [.lit (.int .u8 0), .lit (.int .u8 0)], .agg [.lit (.int .u8 0), .lit (.int .u8 0)], .agg [.lit (.int .u8 0), .lit (.int .u8 0)], .agg [.lit (.int .u8 0), .lit (.int .u8 0)], .agg [.lit (.int .u8 0), .lit (.int .u8 0)], .agg [.lit (.int .u8 0), .lit (.int .u8 0)], .agg [.lit (.int .u8 0), .lit (.int .u8 0)], .agg [.lit (.int .u8 0), .lit (.int .u8 0)], .agg [.lit (.int .u8 0), .lit (.int .u8 0)]]
/-- One of Go's own tables, pinned by name: the form's constant. -/
def laid_unicode_utf8_first : DataW Unit := Go.Pinned.utf8First

/-- 'laws.FnMendFar': WHATEVER THE INPUT: true; the input reads as it did. -/
def fnMendFarSpec : ChangeSpec := { name := "fnMendFar", fn := fun _ => fun
  | [d] => { results := [.lit (.bool true)], args := [d] }
  | _ => none }
def fnMendFarRow : OpenClaim := { program := "ytmeiebnfmhddnaagreatdoor", sum := "f3557f878812036cd02901cc780b6e335e72a89f61169230dfdab05210e1d045", func := "loop.example/construer/laws.FnMendFar", spec := "fnMendFar", inPlace := ["internal/bytealg.IndexByteString", "internal/bytealg.IndexString"], unfollowed := true, recurses := true, named := ["unicode/utf8.first", "unicode/utf8.acceptRanges", "internal/bytealg.MaxLen"], plainKeys := false, apart := false, laid := [("unicode/utf8.acceptRanges", laid_unicode_utf8_acceptRanges), ("unicode/utf8.first", laid_unicode_utf8_first)] }
def FnMendFarSaid : Prop := fnMendFarRow.holds Tryz.pinned (OpenSpec.ofChange fnMendFarSpec)

/-- ITS FALSE NEIGHBOUR: 'it returns false'. Refute it at one input. -/
def fnMendFarWrong : ChangeSpec := { name := "fnMendFar", fn := fun _ => fun
  | [d] => { results := [.lit (.bool false)], args := [d] }
  | _ => none }
def FnMendFarWrongFalsely : Prop := fnMendFarRow.holds Tryz.pinned (OpenSpec.ofChange fnMendFarWrong)

/-- 'laws.FnMendNext': WHATEVER THE INPUT: true; the input reads as it did. -/
def fnMendNextSpec : ChangeSpec := { name := "fnMendNext", fn := fun _ => fun
  | [d] => { results := [.lit (.bool true)], args := [d] }
  | _ => none }
def fnMendNextRow : OpenClaim := { program := "ytmeiebnfmhddnaagreatdoor", sum := "f3557f878812036cd02901cc780b6e335e72a89f61169230dfdab05210e1d045", func := "loop.example/construer/laws.FnMendNext", spec := "fnMendNext", inPlace := ["internal/bytealg.IndexByteString", "internal/bytealg.IndexString"], unfollowed := true, recurses := true, named := ["unicode/utf8.first", "unicode/utf8.acceptRanges", "internal/bytealg.MaxLen"], plainKeys := false, apart := false, laid := [("unicode/utf8.acceptRanges", laid_unicode_utf8_acceptRanges), ("unicode/utf8.first", laid_unicode_utf8_first)] }
def FnMendNextSaid : Prop := fnMendNextRow.holds Tryz.pinned (OpenSpec.ofChange fnMendNextSpec)

/-- ITS FALSE NEIGHBOUR: 'it returns false'. Refute it at one input. -/
def fnMendNextWrong : ChangeSpec := { name := "fnMendNext", fn := fun _ => fun
  | [d] => { results := [.lit (.bool false)], args := [d] }
  | _ => none }
def FnMendNextWrongFalsely : Prop := fnMendNextRow.holds Tryz.pinned (OpenSpec.ofChange fnMendNextWrong)

/-- 'laws.FnMendTwice': WHATEVER THE INPUT: true; the input reads as it did. -/
def fnMendTwiceSpec : ChangeSpec := { name := "fnMendTwice", fn := fun _ => fun
  | [d] => { results := [.lit (.bool true)], args := [d] }
  | _ => none }
def fnMendTwiceRow : OpenClaim := { program := "ytmeiebnfmhddnaagreatdoor", sum := "f3557f878812036cd02901cc780b6e335e72a89f61169230dfdab05210e1d045", func := "loop.example/construer/laws.FnMendTwice", spec := "fnMendTwice", inPlace := ["internal/bytealg.IndexByteString", "internal/bytealg.IndexString"], unfollowed := true, recurses := true, named := ["unicode/utf8.first", "unicode/utf8.acceptRanges", "internal/bytealg.MaxLen"], plainKeys := false, apart := false, laid := [("unicode/utf8.acceptRanges", laid_unicode_utf8_acceptRanges), ("unicode/utf8.first", laid_unicode_utf8_first)] }
def FnMendTwiceSaid : Prop := fnMendTwiceRow.holds Tryz.pinned (OpenSpec.ofChange fnMendTwiceSpec)

/-- ITS FALSE NEIGHBOUR: 'it returns false'. Refute it at one input. -/
def fnMendTwiceWrong : ChangeSpec := { name := "fnMendTwice", fn := fun _ => fun
  | [d] => { results := [.lit (.bool false)], args := [d] }
  | _ => none }
def FnMendTwiceWrongFalsely : Prop := fnMendTwiceRow.holds Tryz.pinned (OpenSpec.ofChange fnMendTwiceWrong)

/-- 'laws.FnMendOwn': WHATEVER THE INPUT: true; the input reads as it did. -/
def fnMendOwnSpec : ChangeSpec := { name := "fnMendOwn", fn := fun _ => fun
  | [d] => { results := [.lit (.bool true)], args := [d] }
  | _ => none }
def fnMendOwnRow : OpenClaim := { program := "ytmeiebnfmhddnaagreatdoor", sum := "f3557f878812036cd02901cc780b6e335e72a89f61169230dfdab05210e1d045", func := "loop.example/construer/laws.FnMendOwn", spec := "fnMendOwn", inPlace := ["internal/bytealg.IndexByteString", "internal/bytealg.IndexString"], unfollowed := true, recurses := true, named := ["unicode/utf8.first", "unicode/utf8.acceptRanges", "internal/bytealg.MaxLen"], plainKeys := false, apart := false, laid := [("unicode/utf8.acceptRanges", laid_unicode_utf8_acceptRanges), ("unicode/utf8.first", laid_unicode_utf8_first)] }
def FnMendOwnSaid : Prop := fnMendOwnRow.holds Tryz.pinned (OpenSpec.ofChange fnMendOwnSpec)

/-- ITS FALSE NEIGHBOUR: 'it returns false'. Refute it at one input. -/
def fnMendOwnWrong : ChangeSpec := { name := "fnMendOwn", fn := fun _ => fun
  | [d] => { results := [.lit (.bool false)], args := [d] }
  | _ => none }
def FnMendOwnWrongFalsely : Prop := fnMendOwnRow.holds Tryz.pinned (OpenSpec.ofChange fnMendOwnWrong)

/-- 'laws.FnMendRun': WHATEVER THE INPUT: true; the input reads as it did. -/
def fnMendRunSpec : ChangeSpec := { name := "fnMendRun", fn := fun _ => fun
  | [d] => { results := [.lit (.bool true)], args := [d] }
  | _ => none }
def fnMendRunRow : OpenClaim := { program := "ytmeiebnfmhddnaagreatdoor", sum := "f3557f878812036cd02901cc780b6e335e72a89f61169230dfdab05210e1d045", func := "loop.example/construer/laws.FnMendRun", spec := "fnMendRun", inPlace := ["internal/bytealg.IndexByteString", "internal/bytealg.IndexString"], unfollowed := true, recurses := true, named := ["unicode/utf8.first", "unicode/utf8.acceptRanges", "internal/bytealg.MaxLen"], plainKeys := false, apart := false, laid := [("unicode/utf8.acceptRanges", laid_unicode_utf8_acceptRanges), ("unicode/utf8.first", laid_unicode_utf8_first)] }
def FnMendRunSaid : Prop := fnMendRunRow.holds Tryz.pinned (OpenSpec.ofChange fnMendRunSpec)

/-- ITS FALSE NEIGHBOUR: 'it returns false'. Refute it at one input. -/
def fnMendRunWrong : ChangeSpec := { name := "fnMendRun", fn := fun _ => fun
  | [d] => { results := [.lit (.bool false)], args := [d] }
  | _ => none }
def FnMendRunWrongFalsely : Prop := fnMendRunRow.holds Tryz.pinned (OpenSpec.ofChange fnMendRunWrong)

/-- 'laws.FnExactMendNext': WHATEVER THE INPUT: true; the input reads as it did. -/
def fnExactMendNextSpec : ChangeSpec := { name := "fnExactMendNext", fn := fun _ => fun
  | [d1, d2] => { results := [.lit (.bool true)], args := [d1, d2] }
  | _ => none }
def fnExactMendNextRow : OpenClaim := { program := "ytmeiebnfmhddnaagreatdoor", sum := "f3557f878812036cd02901cc780b6e335e72a89f61169230dfdab05210e1d045", func := "loop.example/construer/laws.FnExactMendNext", spec := "fnExactMendNext", inPlace := ["internal/bytealg.IndexByteString", "internal/bytealg.IndexString"], unfollowed := true, recurses := true, named := ["unicode/utf8.first", "unicode/utf8.acceptRanges", "internal/bytealg.MaxLen"], plainKeys := false, apart := false, laid := [("unicode/utf8.acceptRanges", laid_unicode_utf8_acceptRanges), ("unicode/utf8.first", laid_unicode_utf8_first)] }
def FnExactMendNextSaid : Prop := fnExactMendNextRow.holds Tryz.pinned (OpenSpec.ofChange fnExactMendNextSpec)

/-- ITS FALSE NEIGHBOUR: 'it returns false'. Refute it at one input. -/
def fnExactMendNextWrong : ChangeSpec := { name := "fnExactMendNext", fn := fun _ => fun
  | [d1, d2] => { results := [.lit (.bool false)], args := [d1, d2] }
  | _ => none }
def FnExactMendNextWrongFalsely : Prop := fnExactMendNextRow.holds Tryz.pinned (OpenSpec.ofChange fnExactMendNextWrong)

/-- 'laws.FnExactMendRun': WHATEVER THE INPUT: true; the input reads as it did. -/
def fnExactMendRunSpec : ChangeSpec := { name := "fnExactMendRun", fn := fun _ => fun
  | [d1, d2] => { results := [.lit (.bool true)], args := [d1, d2] }
  | _ => none }
def fnExactMendRunRow : OpenClaim := { program := "ytmeiebnfmhddnaagreatdoor", sum := "f3557f878812036cd02901cc780b6e335e72a89f61169230dfdab05210e1d045", func := "loop.example/construer/laws.FnExactMendRun", spec := "fnExactMendRun", inPlace := ["internal/bytealg.IndexByteString", "internal/bytealg.IndexString"], unfollowed := true, recurses := true, named := ["unicode/utf8.first", "unicode/utf8.acceptRanges", "internal/bytealg.MaxLen"], plainKeys := false, apart := false, laid := [("unicode/utf8.acceptRanges", laid_unicode_utf8_acceptRanges), ("unicode/utf8.first", laid_unicode_utf8_first)] }
def FnExactMendRunSaid : Prop := fnExactMendRunRow.holds Tryz.pinned (OpenSpec.ofChange fnExactMendRunSpec)

/-- ITS FALSE NEIGHBOUR: 'it returns false'. Refute it at one input. -/
def fnExactMendRunWrong : ChangeSpec := { name := "fnExactMendRun", fn := fun _ => fun
  | [d1, d2] => { results := [.lit (.bool false)], args := [d1, d2] }
  | _ => none }
def FnExactMendRunWrongFalsely : Prop := fnExactMendRunRow.holds Tryz.pinned (OpenSpec.ofChange fnExactMendRunWrong)

/-- 'laws.FnAllSame': WHATEVER THE INPUT: true; the input reads as it did. -/
def fnAllSameSpec : ChangeSpec := { name := "fnAllSame", fn := fun _ => fun
  | [d] => { results := [.lit (.bool true)], args := [d] }
  | _ => none }
def fnAllSameRow : OpenClaim := { program := "ytmeiebnfmhddnaagreatdoor", sum := "f3557f878812036cd02901cc780b6e335e72a89f61169230dfdab05210e1d045", func := "loop.example/construer/laws.FnAllSame", spec := "fnAllSame", inPlace := ["internal/bytealg.IndexByteString", "internal/bytealg.IndexString"], unfollowed := true, recurses := true, named := ["unicode/utf8.first", "unicode/utf8.acceptRanges", "internal/bytealg.MaxLen"], plainKeys := false, apart := false, laid := [("unicode/utf8.acceptRanges", laid_unicode_utf8_acceptRanges), ("unicode/utf8.first", laid_unicode_utf8_first)] }
def FnAllSameSaid : Prop := fnAllSameRow.holds Tryz.pinned (OpenSpec.ofChange fnAllSameSpec)

/-- ITS FALSE NEIGHBOUR: 'it returns false'. Refute it at one input. -/
def fnAllSameWrong : ChangeSpec := { name := "fnAllSame", fn := fun _ => fun
  | [d] => { results := [.lit (.bool false)], args := [d] }
  | _ => none }
def FnAllSameWrongFalsely : Prop := fnAllSameRow.holds Tryz.pinned (OpenSpec.ofChange fnAllSameWrong)

/-- 'laws.FnGramPlain': WHATEVER THE INPUT: true; the input reads as it did. -/
def fnGramPlainSpec : ChangeSpec := { name := "fnGramPlain", fn := fun _ => fun
  | [d] => { results := [.lit (.bool true)], args := [d] }
  | _ => none }
def fnGramPlainRow : OpenClaim := { program := "ytmeiebnfmhddnaagreatdoor", sum := "f3557f878812036cd02901cc780b6e335e72a89f61169230dfdab05210e1d045", func := "loop.example/construer/laws.FnGramPlain", spec := "fnGramPlain", inPlace := ["internal/bytealg.IndexByteString", "internal/bytealg.IndexString", "internal/bytealg.CountString"], unfollowed := true, recurses := true, named := ["unicode/utf8.first", "unicode/utf8.acceptRanges", "internal/bytealg.MaxLen"], plainKeys := false, apart := false, laid := [("unicode/utf8.acceptRanges", laid_unicode_utf8_acceptRanges), ("unicode/utf8.first", laid_unicode_utf8_first)] }
def FnGramPlainSaid : Prop := fnGramPlainRow.holds Tryz.pinned (OpenSpec.ofChange fnGramPlainSpec)

/-- ITS FALSE NEIGHBOUR: 'it returns false'. Refute it at one input. -/
def fnGramPlainWrong : ChangeSpec := { name := "fnGramPlain", fn := fun _ => fun
  | [d] => { results := [.lit (.bool false)], args := [d] }
  | _ => none }
def FnGramPlainWrongFalsely : Prop := fnGramPlainRow.holds Tryz.pinned (OpenSpec.ofChange fnGramPlainWrong)

/- THE SECOND FORM. 'bulk': how many values and letters a reading holds, each counted each time it is reached (what is shared counts as often as it is met; a slice's spare places count too). A statement '..UptoSaid' is the law's where the arguments, and the package variables that the reading takes, are together of bulk at most 1048576: NARROWER than '..Said'. Prove '..Said' where nothing that the law and all that it calls make is longer than what came in: it says more and counts as full. Else prove '..UptoSaid'. A law counts once. -/
mutual
def uptoBulk {H : Type} : DataW H → Nat
  | .lit (.string bytes) => bytes.length + 1
  | .lit _ => 1
  | .nil => 1
  | .ptr d => uptoBulk d + 1
  | .slice elems spare => uptoBulkAll elems + uptoBulkAll spare + 1
  | .agg parts => uptoBulkAll parts + 1
  | .iface _ d => uptoBulk d + 1
  | .map entries => uptoBulkEntries entries + 1
  | .held _ => 1
def uptoBulkAll {H : Type} : List (DataW H) → Nat
  | [] => 0
  | d :: r => uptoBulk d + uptoBulkAll r
def uptoBulkEntries {H : Type} : List (Lit × DataW H) → Nat
  | [] => 0
  | x :: r => uptoBulkEntry x + uptoBulkEntries r
def uptoBulkEntry {H : Type} : Lit × DataW H → Nat
  | (.string bytes, d) => bytes.length + uptoBulk d + 1
  | (_, d) => uptoBulk d + 1
 end
def uptoSmall : (H : Type) → List (DataW H) → Bool := fun _ ds => decide (uptoBulkAll ds ≤ 1048576)
def OpenSpec.upto (s : _root_.Go.ChangeSpec) : _root_.Go.OpenSpec := { _root_.Go.OpenSpec.ofChange s with cond := some uptoSmall }

/-- 'laws.FnMendFar', WHERE WHAT IT READS IS OF BULK AT MOST 1048576: true; the input reads as it did. -/
def fnMendFarUptoRow : OpenClaim := { program := "ytmeiebnfmhddnaagreatdoor", sum := "f3557f878812036cd02901cc780b6e335e72a89f61169230dfdab05210e1d045", func := "loop.example/construer/laws.FnMendFar", spec := "fnMendFar", inPlace := ["internal/bytealg.IndexByteString", "internal/bytealg.IndexString"], unfollowed := true, recurses := true, named := ["unicode/utf8.first", "unicode/utf8.acceptRanges", "internal/bytealg.MaxLen"], plainKeys := false, apart := false, laid := [("unicode/utf8.acceptRanges", laid_unicode_utf8_acceptRanges), ("unicode/utf8.first", laid_unicode_utf8_first)], narrowed := true }
def FnMendFarUptoSaid : Prop := fnMendFarUptoRow.holds Tryz.pinned (OpenSpec.upto fnMendFarSpec)

/-- 'laws.FnMendNext', WHERE WHAT IT READS IS OF BULK AT MOST 1048576: true; the input reads as it did. -/
def fnMendNextUptoRow : OpenClaim := { program := "ytmeiebnfmhddnaagreatdoor", sum := "f3557f878812036cd02901cc780b6e335e72a89f61169230dfdab05210e1d045", func := "loop.example/construer/laws.FnMendNext", spec := "fnMendNext", inPlace := ["internal/bytealg.IndexByteString", "internal/bytealg.IndexString"], unfollowed := true, recurses := true, named := ["unicode/utf8.first", "unicode/utf8.acceptRanges", "internal/bytealg.MaxLen"], plainKeys := false, apart := false, laid := [("unicode/utf8.acceptRanges", laid_unicode_utf8_acceptRanges), ("unicode/utf8.first", laid_unicode_utf8_first)], narrowed := true }
def FnMendNextUptoSaid : Prop := fnMendNextUptoRow.holds Tryz.pinned (OpenSpec.upto fnMendNextSpec)

/-- 'laws.FnMendTwice', WHERE WHAT IT READS IS OF BULK AT MOST 1048576: true; the input reads as it did. -/
def fnMendTwiceUptoRow : OpenClaim := { program := "ytmeiebnfmhddnaagreatdoor", sum := "f3557f878812036cd02901cc780b6e335e72a89f61169230dfdab05210e1d045", func := "loop.example/construer/laws.FnMendTwice", spec := "fnMendTwice", inPlace := ["internal/bytealg.IndexByteString", "internal/bytealg.IndexString"], unfollowed := true, recurses := true, named := ["unicode/utf8.first", "unicode/utf8.acceptRanges", "internal/bytealg.MaxLen"], plainKeys := false, apart := false, laid := [("unicode/utf8.acceptRanges", laid_unicode_utf8_acceptRanges), ("unicode/utf8.first", laid_unicode_utf8_first)], narrowed := true }
def FnMendTwiceUptoSaid : Prop := fnMendTwiceUptoRow.holds Tryz.pinned (OpenSpec.upto fnMendTwiceSpec)

/-- 'laws.FnMendOwn', WHERE WHAT IT READS IS OF BULK AT MOST 1048576: true; the input reads as it did. -/
def fnMendOwnUptoRow : OpenClaim := { program := "ytmeiebnfmhddnaagreatdoor", sum := "f3557f878812036cd02901cc780b6e335e72a89f61169230dfdab05210e1d045", func := "loop.example/construer/laws.FnMendOwn", spec := "fnMendOwn", inPlace := ["internal/bytealg.IndexByteString", "internal/bytealg.IndexString"], unfollowed := true, recurses := true, named := ["unicode/utf8.first", "unicode/utf8.acceptRanges", "internal/bytealg.MaxLen"], plainKeys := false, apart := false, laid := [("unicode/utf8.acceptRanges", laid_unicode_utf8_acceptRanges), ("unicode/utf8.first", laid_unicode_utf8_first)], narrowed := true }
def FnMendOwnUptoSaid : Prop := fnMendOwnUptoRow.holds Tryz.pinned (OpenSpec.upto fnMendOwnSpec)

/-- 'laws.FnMendRun', WHERE WHAT IT READS IS OF BULK AT MOST 1048576: true; the input reads as it did. -/
def fnMendRunUptoRow : OpenClaim := { program := "ytmeiebnfmhddnaagreatdoor", sum := "f3557f878812036cd02901cc780b6e335e72a89f61169230dfdab05210e1d045", func := "loop.example/construer/laws.FnMendRun", spec := "fnMendRun", inPlace := ["internal/bytealg.IndexByteString", "internal/bytealg.IndexString"], unfollowed := true, recurses := true, named := ["unicode/utf8.first", "unicode/utf8.acceptRanges", "internal/bytealg.MaxLen"], plainKeys := false, apart := false, laid := [("unicode/utf8.acceptRanges", laid_unicode_utf8_acceptRanges), ("unicode/utf8.first", laid_unicode_utf8_first)], narrowed := true }
def FnMendRunUptoSaid : Prop := fnMendRunUptoRow.holds Tryz.pinned (OpenSpec.upto fnMendRunSpec)

/-- 'laws.FnExactMendNext', WHERE WHAT IT READS IS OF BULK AT MOST 1048576: true; the input reads as it did. -/
def fnExactMendNextUptoRow : OpenClaim := { program := "ytmeiebnfmhddnaagreatdoor", sum := "f3557f878812036cd02901cc780b6e335e72a89f61169230dfdab05210e1d045", func := "loop.example/construer/laws.FnExactMendNext", spec := "fnExactMendNext", inPlace := ["internal/bytealg.IndexByteString", "internal/bytealg.IndexString"], unfollowed := true, recurses := true, named := ["unicode/utf8.first", "unicode/utf8.acceptRanges", "internal/bytealg.MaxLen"], plainKeys := false, apart := false, laid := [("unicode/utf8.acceptRanges", laid_unicode_utf8_acceptRanges), ("unicode/utf8.first", laid_unicode_utf8_first)], narrowed := true }
def FnExactMendNextUptoSaid : Prop := fnExactMendNextUptoRow.holds Tryz.pinned (OpenSpec.upto fnExactMendNextSpec)

/-- 'laws.FnExactMendRun', WHERE WHAT IT READS IS OF BULK AT MOST 1048576: true; the input reads as it did. -/
def fnExactMendRunUptoRow : OpenClaim := { program := "ytmeiebnfmhddnaagreatdoor", sum := "f3557f878812036cd02901cc780b6e335e72a89f61169230dfdab05210e1d045", func := "loop.example/construer/laws.FnExactMendRun", spec := "fnExactMendRun", inPlace := ["internal/bytealg.IndexByteString", "internal/bytealg.IndexString"], unfollowed := true, recurses := true, named := ["unicode/utf8.first", "unicode/utf8.acceptRanges", "internal/bytealg.MaxLen"], plainKeys := false, apart := false, laid := [("unicode/utf8.acceptRanges", laid_unicode_utf8_acceptRanges), ("unicode/utf8.first", laid_unicode_utf8_first)], narrowed := true }
def FnExactMendRunUptoSaid : Prop := fnExactMendRunUptoRow.holds Tryz.pinned (OpenSpec.upto fnExactMendRunSpec)

/-- 'laws.FnAllSame', WHERE WHAT IT READS IS OF BULK AT MOST 1048576: true; the input reads as it did. -/
def fnAllSameUptoRow : OpenClaim := { program := "ytmeiebnfmhddnaagreatdoor", sum := "f3557f878812036cd02901cc780b6e335e72a89f61169230dfdab05210e1d045", func := "loop.example/construer/laws.FnAllSame", spec := "fnAllSame", inPlace := ["internal/bytealg.IndexByteString", "internal/bytealg.IndexString"], unfollowed := true, recurses := true, named := ["unicode/utf8.first", "unicode/utf8.acceptRanges", "internal/bytealg.MaxLen"], plainKeys := false, apart := false, laid := [("unicode/utf8.acceptRanges", laid_unicode_utf8_acceptRanges), ("unicode/utf8.first", laid_unicode_utf8_first)], narrowed := true }
def FnAllSameUptoSaid : Prop := fnAllSameUptoRow.holds Tryz.pinned (OpenSpec.upto fnAllSameSpec)

/-- 'laws.FnGramPlain', WHERE WHAT IT READS IS OF BULK AT MOST 1048576: true; the input reads as it did. -/
def fnGramPlainUptoRow : OpenClaim := { program := "ytmeiebnfmhddnaagreatdoor", sum := "f3557f878812036cd02901cc780b6e335e72a89f61169230dfdab05210e1d045", func := "loop.example/construer/laws.FnGramPlain", spec := "fnGramPlain", inPlace := ["internal/bytealg.IndexByteString", "internal/bytealg.IndexString", "internal/bytealg.CountString"], unfollowed := true, recurses := true, named := ["unicode/utf8.first", "unicode/utf8.acceptRanges", "internal/bytealg.MaxLen"], plainKeys := false, apart := false, laid := [("unicode/utf8.acceptRanges", laid_unicode_utf8_acceptRanges), ("unicode/utf8.first", laid_unicode_utf8_first)], narrowed := true }
def FnGramPlainUptoSaid : Prop := fnGramPlainUptoRow.holds Tryz.pinned (OpenSpec.upto fnGramPlainSpec)

end Rows
end Go.Proofs.YtmeiebnfmhddnaaGreatDoor
