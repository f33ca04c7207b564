/-
  NARROWER THAN 'FOR EVERY INPUT', by the rows' own cells (each row's printed sentence says how): ShellTwo: laid · ShellParts: laid · ShellTurns: laid · ShellOwn: laid · ShellPrints: laid · ShellBack: laid.
  DERIVED. THE GIVEN ROWS OF THIS SEAT. 6 by the template 'for every input the law returns true; each argument reads behind the call as it read before'; 0 by the template 'total and deterministic' (their statements: YthmijenlndnmcaaGreatDoorTotals.lean).
  GIVEN WITH THE SEED: the statements are not yours to turn. If you find one false, say at which input.
  Laid BY PROGRAM, IN A SANDBOX (cutbox-rows.mjs): the forced cells as the released guide's own fill.sh prints them over the translation 4455f554f8416f43… (all of the seat's roots in one cut). By AI agents, Wed Nov 11 2026. No macro, syntax, notation, axiom, sorry.
-/
import Derived.Test.YthmijenlndnmcaaGreatDoorChecked
import GoSem.PinnedTables
import GoSem.Claim
import GoSem.ClaimJoined
import GoSem.ClaimMapViews
import Derived.JoinedTies
import Derived.KernelRfl
namespace Go.Proofs.YthmijenlndnmcaaGreatDoor
/- THE CELL 'sum', in the pinned program and in every row, IS THE sha256 OF THE DUMP (.gsa) THAT YthmijenlndnmcaaGreatDoorProg.lean LOADS. Nothing in Lean hashes anything: it is a label: what it is worth is what the hold of that sum in a sandbox is worth. -/
noncomputable def Tryz.pinned : Pinned := { name := "ythmijenlndnmcaagreatdoor", sum := "4455f554f8416f4353fb2bfe5ae6e11c4a543b14b659811c1c281c6aed91be54", checked := Tryz.checked }
namespace Rows
def none {H : Type} : Left H := { results := [], args := [] }

/- WHAT THE LISTED PACKAGE-LEVEL VARIABLES READ AS WHEN THE CALL BEGINS. Each datum BY PROGRAM (the guide's laid-datum.mjs) off the statement by which the dump's own 'gosem.cut.vars' lays the variable. In a bare row this is a premise. The card (YthmijenlndnmcaaGreatDoorCards.lean) ties it to the program's text. -/
def laid_unicode_utf8_acceptRanges {H : Type} : DataW H := .agg [.agg [.lit (.int .u8 128), .lit (.int .u8 191)], .agg [.lit (.int .u8 160), .lit (.int .u8 191)], .agg [.lit (.int .u8 128), .lit (.int .u8 159)], .agg [.lit (.int .u8 144), .lit (.int .u8 191)], .agg [.lit (.int .u8 128), .lit (.int .u8 143)], .agg [.lit (.int .u8 0), .lit (.int .u8 0)], .agg [.lit (.int .u8 0), .lit (.int .u8 0)], .agg [.lit (.int .u8 0), .lit (.int .u8 0)], .agg [.lit (.int .u8 0), .lit (.int .u8 0)], .agg [.lit (.int .u8 0), .lit (.int .u8 0)], .agg [.lit (.int .u8 0), .lit (.int .u8 0)], .agg [.lit (.int .u8 0), .lit (.int .u8 0)], .agg [.lit (.int .u8 0), .lit (.int .u8 0)], .agg [.lit (.int .u8 0), .lit (.int .u8 0)], .agg [.lit (.int .u8 0), .lit (.int .u8 0)], .agg [.lit (.int .u8 0), .lit (.int .u8 0)]]
/-- One of Go's own tables, pinned by name: the form's constant. -/
def laid_unicode_utf8_first : DataW Unit := Go.Pinned.utf8First

/-- 'millracelaw21.ShellTwo': WHATEVER THE INPUT: true; the input reads as it did. -/
def shellTwoSpec : ChangeSpec := { name := "shellTwo", fn := fun _ => fun
  | [d1, d2, d3] => { results := [.lit (.bool true)], args := [d1, d2, d3] }
  | _ => none }
def shellTwoRow : OpenClaim := { program := "ythmijenlndnmcaagreatdoor", sum := "4455f554f8416f4353fb2bfe5ae6e11c4a543b14b659811c1c281c6aed91be54", func := "millrace/millracelaw21.ShellTwo", spec := "shellTwo", inPlace := ["internal/bytealg.CountString", "internal/bytealg.IndexByteString", "internal/bytealg.IndexString", "internal/bytealg.IndexByte", "math/bits.Add64", "internal/bytealg.Index", "internal/bytealg.Compare"], unfollowed := true, recurses := true, named := ["unicode/utf8.first", "unicode/utf8.acceptRanges", "internal/bytealg.MaxLen"], apart := false, laid := [("unicode/utf8.acceptRanges", laid_unicode_utf8_acceptRanges), ("unicode/utf8.first", laid_unicode_utf8_first)] }
def ShellTwoSaid : Prop := shellTwoRow.holds Tryz.pinned (OpenSpec.ofChange shellTwoSpec)

/-- ITS FALSE NEIGHBOUR: 'it returns false'. Refute it at one input. -/
def shellTwoWrong : ChangeSpec := { name := "shellTwo", fn := fun _ => fun
  | [d1, d2, d3] => { results := [.lit (.bool false)], args := [d1, d2, d3] }
  | _ => none }
def ShellTwoWrongFalsely : Prop := shellTwoRow.holds Tryz.pinned (OpenSpec.ofChange shellTwoWrong)

/-- 'millracelaw21.ShellParts': WHATEVER THE INPUT: true; the input reads as it did. -/
def shellPartsSpec : ChangeSpec := { name := "shellParts", fn := fun _ => fun
  | [d1, d2, d3] => { results := [.lit (.bool true)], args := [d1, d2, d3] }
  | _ => none }
def shellPartsRow : OpenClaim := { program := "ythmijenlndnmcaagreatdoor", sum := "4455f554f8416f4353fb2bfe5ae6e11c4a543b14b659811c1c281c6aed91be54", func := "millrace/millracelaw21.ShellParts", spec := "shellParts", inPlace := ["internal/bytealg.CountString", "internal/bytealg.IndexByteString", "internal/bytealg.IndexString", "internal/bytealg.IndexByte", "math/bits.Add64", "internal/bytealg.Index", "internal/bytealg.Compare"], unfollowed := true, recurses := true, named := ["unicode/utf8.first", "unicode/utf8.acceptRanges", "internal/bytealg.MaxLen"], apart := false, laid := [("unicode/utf8.acceptRanges", laid_unicode_utf8_acceptRanges), ("unicode/utf8.first", laid_unicode_utf8_first)] }
def ShellPartsSaid : Prop := shellPartsRow.holds Tryz.pinned (OpenSpec.ofChange shellPartsSpec)

/-- ITS FALSE NEIGHBOUR: 'it returns false'. Refute it at one input. -/
def shellPartsWrong : ChangeSpec := { name := "shellParts", fn := fun _ => fun
  | [d1, d2, d3] => { results := [.lit (.bool false)], args := [d1, d2, d3] }
  | _ => none }
def ShellPartsWrongFalsely : Prop := shellPartsRow.holds Tryz.pinned (OpenSpec.ofChange shellPartsWrong)

/-- 'millracelaw21.ShellTurns': WHATEVER THE INPUT: true; the input reads as it did. -/
def shellTurnsSpec : ChangeSpec := { name := "shellTurns", fn := fun _ => fun
  | [d] => { results := [.lit (.bool true)], args := [d] }
  | _ => none }
def shellTurnsRow : OpenClaim := { program := "ythmijenlndnmcaagreatdoor", sum := "4455f554f8416f4353fb2bfe5ae6e11c4a543b14b659811c1c281c6aed91be54", func := "millrace/millracelaw21.ShellTurns", spec := "shellTurns", inPlace := ["internal/bytealg.CountString", "internal/bytealg.IndexByteString", "internal/bytealg.IndexString", "internal/bytealg.IndexByte", "math/bits.Add64", "internal/bytealg.Index", "internal/bytealg.Compare"], unfollowed := true, recurses := true, named := ["unicode/utf8.first", "unicode/utf8.acceptRanges", "internal/bytealg.MaxLen"], apart := false, laid := [("unicode/utf8.acceptRanges", laid_unicode_utf8_acceptRanges), ("unicode/utf8.first", laid_unicode_utf8_first)] }
def ShellTurnsSaid : Prop := shellTurnsRow.holds Tryz.pinned (OpenSpec.ofChange shellTurnsSpec)

/-- ITS FALSE NEIGHBOUR: 'it returns false'. Refute it at one input. -/
def shellTurnsWrong : ChangeSpec := { name := "shellTurns", fn := fun _ => fun
  | [d] => { results := [.lit (.bool false)], args := [d] }
  | _ => none }
def ShellTurnsWrongFalsely : Prop := shellTurnsRow.holds Tryz.pinned (OpenSpec.ofChange shellTurnsWrong)

/-- 'millracelaw21.ShellOwn': WHATEVER THE INPUT: true; the input reads as it did. -/
def shellOwnSpec : ChangeSpec := { name := "shellOwn", fn := fun _ => fun
  | [d1, d2] => { results := [.lit (.bool true)], args := [d1, d2] }
  | _ => none }
def shellOwnRow : OpenClaim := { program := "ythmijenlndnmcaagreatdoor", sum := "4455f554f8416f4353fb2bfe5ae6e11c4a543b14b659811c1c281c6aed91be54", func := "millrace/millracelaw21.ShellOwn", spec := "shellOwn", inPlace := ["internal/bytealg.CountString", "internal/bytealg.IndexByteString", "internal/bytealg.IndexString", "internal/bytealg.IndexByte", "math/bits.Add64", "internal/bytealg.Index", "internal/bytealg.Compare"], unfollowed := true, recurses := true, named := ["unicode/utf8.first", "unicode/utf8.acceptRanges", "internal/bytealg.MaxLen"], apart := false, laid := [("unicode/utf8.acceptRanges", laid_unicode_utf8_acceptRanges), ("unicode/utf8.first", laid_unicode_utf8_first)] }
def ShellOwnSaid : Prop := shellOwnRow.holds Tryz.pinned (OpenSpec.ofChange shellOwnSpec)

/-- ITS FALSE NEIGHBOUR: 'it returns false'. Refute it at one input. -/
def shellOwnWrong : ChangeSpec := { name := "shellOwn", fn := fun _ => fun
  | [d1, d2] => { results := [.lit (.bool false)], args := [d1, d2] }
  | _ => none }
def ShellOwnWrongFalsely : Prop := shellOwnRow.holds Tryz.pinned (OpenSpec.ofChange shellOwnWrong)

/-- 'millracelaw21.ShellPrints': WHATEVER THE INPUT: true; the input reads as it did. -/
def shellPrintsSpec : ChangeSpec := { name := "shellPrints", fn := fun _ => fun
  | [d] => { results := [.lit (.bool true)], args := [d] }
  | _ => none }
def shellPrintsRow : OpenClaim := { program := "ythmijenlndnmcaagreatdoor", sum := "4455f554f8416f4353fb2bfe5ae6e11c4a543b14b659811c1c281c6aed91be54", func := "millrace/millracelaw21.ShellPrints", spec := "shellPrints", inPlace := ["internal/abi.NoEscape", "internal/bytealg.MakeNoZero", "internal/bytealg.CountString", "internal/bytealg.IndexByteString", "internal/bytealg.IndexString", "internal/bytealg.IndexByte", "math/bits.Add64", "internal/bytealg.Index", "internal/bytealg.Compare"], unfollowed := true, recurses := true, named := ["unicode/utf8.first", "unicode/utf8.acceptRanges", "internal/bytealg.MaxLen"], apart := false, laid := [("unicode/utf8.acceptRanges", laid_unicode_utf8_acceptRanges), ("unicode/utf8.first", laid_unicode_utf8_first)] }
def ShellPrintsSaid : Prop := shellPrintsRow.holds Tryz.pinned (OpenSpec.ofChange shellPrintsSpec)

/-- ITS FALSE NEIGHBOUR: 'it returns false'. Refute it at one input. -/
def shellPrintsWrong : ChangeSpec := { name := "shellPrints", fn := fun _ => fun
  | [d] => { results := [.lit (.bool false)], args := [d] }
  | _ => none }
def ShellPrintsWrongFalsely : Prop := shellPrintsRow.holds Tryz.pinned (OpenSpec.ofChange shellPrintsWrong)

/-- 'millracelaw21.ShellBack': WHATEVER THE INPUT: true; the input reads as it did. -/
def shellBackSpec : ChangeSpec := { name := "shellBack", fn := fun _ => fun
  | [d] => { results := [.lit (.bool true)], args := [d] }
  | _ => none }
def shellBackRow : OpenClaim := { program := "ythmijenlndnmcaagreatdoor", sum := "4455f554f8416f4353fb2bfe5ae6e11c4a543b14b659811c1c281c6aed91be54", func := "millrace/millracelaw21.ShellBack", spec := "shellBack", inPlace := ["internal/bytealg.CountString", "internal/bytealg.IndexByteString", "internal/bytealg.IndexString", "internal/bytealg.IndexByte", "math/bits.Add64", "internal/bytealg.Index", "internal/bytealg.Compare", "internal/abi.NoEscape", "internal/bytealg.MakeNoZero"], unfollowed := true, recurses := true, named := ["unicode/utf8.first", "unicode/utf8.acceptRanges", "internal/bytealg.MaxLen"], apart := false, laid := [("unicode/utf8.acceptRanges", laid_unicode_utf8_acceptRanges), ("unicode/utf8.first", laid_unicode_utf8_first)] }
def ShellBackSaid : Prop := shellBackRow.holds Tryz.pinned (OpenSpec.ofChange shellBackSpec)

/-- ITS FALSE NEIGHBOUR: 'it returns false'. Refute it at one input. -/
def shellBackWrong : ChangeSpec := { name := "shellBack", fn := fun _ => fun
  | [d] => { results := [.lit (.bool false)], args := [d] }
  | _ => none }
def ShellBackWrongFalsely : Prop := shellBackRow.holds Tryz.pinned (OpenSpec.ofChange shellBackWrong)

/- THE SECOND FORM. 'bulk': how many values and letters a reading holds, each counted each time it is reached (what is shared counts as often as it is met; a slice's spare places count too). A statement '..UptoSaid' is the law's where the arguments, and the package variables that the reading takes, are together of bulk at most 1048576: NARROWER than '..Said'. Prove '..Said' where nothing that the law and all that it calls make is longer than what came in: it says more and counts as full. Else prove '..UptoSaid'. A law counts once. -/
mutual
def uptoBulk {H : Type} : DataW H → Nat
  | .lit (.string bytes) => bytes.length + 1
  | .lit _ => 1
  | .nil => 1
  | .ptr d => uptoBulk d + 1
  | .slice elems spare => uptoBulkAll elems + uptoBulkAll spare + 1
  | .agg parts => uptoBulkAll parts + 1
  | .iface _ d => uptoBulk d + 1
  | .map entries => uptoBulkEntries entries + 1
  | .held _ => 1
def uptoBulkAll {H : Type} : List (DataW H) → Nat
  | [] => 0
  | d :: r => uptoBulk d + uptoBulkAll r
def uptoBulkEntries {H : Type} : List (Lit × DataW H) → Nat
  | [] => 0
  | x :: r => uptoBulkEntry x + uptoBulkEntries r
def uptoBulkEntry {H : Type} : Lit × DataW H → Nat
  | (.string bytes, d) => bytes.length + uptoBulk d + 1
  | (_, d) => uptoBulk d + 1
 end
def uptoSmall : (H : Type) → List (DataW H) → Bool := fun _ ds => decide (uptoBulkAll ds ≤ 1048576)
def OpenSpec.upto (s : _root_.Go.ChangeSpec) : _root_.Go.OpenSpec := { _root_.Go.OpenSpec.ofChange s with cond := some uptoSmall }

/-- 'millracelaw21.ShellTwo', WHERE WHAT IT READS IS OF BULK AT MOST 1048576: true; the input reads as it did. -/
def shellTwoUptoRow : OpenClaim := { program := "ythmijenlndnmcaagreatdoor", sum := "4455f554f8416f4353fb2bfe5ae6e11c4a543b14b659811c1c281c6aed91be54", func := "millrace/millracelaw21.ShellTwo", spec := "shellTwo", inPlace := ["internal/bytealg.CountString", "internal/bytealg.IndexByteString", "internal/bytealg.IndexString", "internal/bytealg.IndexByte", "math/bits.Add64", "internal/bytealg.Index", "internal/bytealg.Compare"], unfollowed := true, recurses := true, named := ["unicode/utf8.first", "unicode/utf8.acceptRanges", "internal/bytealg.MaxLen"], apart := false, laid := [("unicode/utf8.acceptRanges", laid_unicode_utf8_acceptRanges), ("unicode/utf8.first", laid_unicode_utf8_first)], narrowed := true }
def ShellTwoUptoSaid : Prop := shellTwoUptoRow.holds Tryz.pinned (OpenSpec.upto shellTwoSpec)

/-- 'millracelaw21.ShellParts', WHERE WHAT IT READS IS OF BULK AT MOST 1048576: true; the input reads as it did. -/
def shellPartsUptoRow : OpenClaim := { program := "ythmijenlndnmcaagreatdoor", sum := "4455f554f8416f4353fb2bfe5ae6e11c4a543b14b659811c1c281c6aed91be54", func := "millrace/millracelaw21.ShellParts", spec := "shellParts", inPlace := ["internal/bytealg.CountString", "internal/bytealg.IndexByteString", "internal/bytealg.IndexString", "internal/bytealg.IndexByte", "math/bits.Add64", "internal/bytealg.Index", "internal/bytealg.Compare"], unfollowed := true, recurses := true, named := ["unicode/utf8.first", "unicode/utf8.acceptRanges", "internal/bytealg.MaxLen"], apart := false, laid := [("unicode/utf8.acceptRanges", laid_unicode_utf8_acceptRanges), ("unicode/utf8.first", laid_unicode_utf8_first)], narrowed := true }
def ShellPartsUptoSaid : Prop := shellPartsUptoRow.holds Tryz.pinned (OpenSpec.upto shellPartsSpec)

/-- 'millracelaw21.ShellTurns', WHERE WHAT IT READS IS OF BULK AT MOST 1048576: true; the input reads as it did. -/
def shellTurnsUptoRow : OpenClaim := { program := "ythmijenlndnmcaagreatdoor", sum := "4455f554f8416f4353fb2bfe5ae6e11c4a543b14b659811c1c281c6aed91be54", func := "millrace/millracelaw21.ShellTurns", spec := "shellTurns", inPlace := ["internal/bytealg.CountString", "internal/bytealg.IndexByteString", "internal/bytealg.IndexString", "internal/bytealg.IndexByte", "math/bits.Add64", "internal/bytealg.Index", "internal/bytealg.Compare"], unfollowed := true, recurses := true, named := ["unicode/utf8.first", "unicode/utf8.acceptRanges", "internal/bytealg.MaxLen"], apart := false, laid := [("unicode/utf8.acceptRanges", laid_unicode_utf8_acceptRanges), ("unicode/utf8.first", laid_unicode_utf8_first)], narrowed := true }
def ShellTurnsUptoSaid : Prop := shellTurnsUptoRow.holds Tryz.pinned (OpenSpec.upto shellTurnsSpec)

/-- 'millracelaw21.ShellOwn', WHERE WHAT IT READS IS OF BULK AT MOST 1048576: true; the input reads as it did. -/
def shellOwnUptoRow : OpenClaim := { program := "ythmijenlndnmcaagreatdoor", sum := "4455f554f8416f4353fb2bfe5ae6e11c4a543b14b659811c1c281c6aed91be54", func := "millrace/millracelaw21.ShellOwn", spec := "shellOwn", inPlace := ["internal/bytealg.CountString", "internal/bytealg.IndexByteString", "internal/bytealg.IndexString", "internal/bytealg.IndexByte", "math/bits.Add64", "internal/bytealg.Index", "internal/bytealg.Compare"], unfollowed := true, recurses := true, named := ["unicode/utf8.first", "unicode/utf8.acceptRanges", "internal/bytealg.MaxLen"], apart := false, laid := [("unicode/utf8.acceptRanges", laid_unicode_utf8_acceptRanges), ("unicode/utf8.first", laid_unicode_utf8_first)], narrowed := true }
def ShellOwnUptoSaid : Prop := shellOwnUptoRow.holds Tryz.pinned (OpenSpec.upto shellOwnSpec)

/-- 'millracelaw21.ShellPrints', WHERE WHAT IT READS IS OF BULK AT MOST 1048576: true; the input reads as it did. -/
def shellPrintsUptoRow : OpenClaim := { program := "ythmijenlndnmcaagreatdoor", sum := "4455f554f8416f4353fb2bfe5ae6e11c4a543b14b659811c1c281c6aed91be54", func := "millrace/millracelaw21.ShellPrints", spec := "shellPrints", inPlace := ["internal/abi.NoEscape", "internal/bytealg.MakeNoZero", "internal/bytealg.CountString", "internal/bytealg.IndexByteString", "internal/bytealg.IndexString", "internal/bytealg.IndexByte", "math/bits.Add64", "internal/bytealg.Index", "internal/bytealg.Compare"], unfollowed := true, recurses := true, named := ["unicode/utf8.first", "unicode/utf8.acceptRanges", "internal/bytealg.MaxLen"], apart := false, laid := [("unicode/utf8.acceptRanges", laid_unicode_utf8_acceptRanges), ("unicode/utf8.first", laid_unicode_utf8_first)], narrowed := true }
def ShellPrintsUptoSaid : Prop := shellPrintsUptoRow.holds Tryz.pinned (OpenSpec.upto shellPrintsSpec)

/-- 'millracelaw21.ShellBack', WHERE WHAT IT READS IS OF BULK AT MOST 1048576: true; the input reads as it did. -/
def shellBackUptoRow : OpenClaim := { program := "ythmijenlndnmcaagreatdoor", sum := "4455f554f8416f4353fb2bfe5ae6e11c4a543b14b659811c1c281c6aed91be54", func := "millrace/millracelaw21.ShellBack", spec := "shellBack", inPlace := ["internal/bytealg.CountString", "internal/bytealg.IndexByteString", "internal/bytealg.IndexString", "internal/bytealg.IndexByte", "math/bits.Add64", "internal/bytealg.Index", "internal/bytealg.Compare", "internal/abi.NoEscape", "internal/bytealg.MakeNoZero"], unfollowed := true, recurses := true, named := ["unicode/utf8.first", "unicode/utf8.acceptRanges", "internal/bytealg.MaxLen"], apart := false, laid := [("unicode/utf8.acceptRanges", laid_unicode_utf8_acceptRanges), ("unicode/utf8.first", laid_unicode_utf8_first)], narrowed := true }
def ShellBackUptoSaid : Prop := shellBackUptoRow.holds Tryz.pinned (OpenSpec.upto shellBackSpec)

end Rows
end Go.Proofs.YthmijenlndnmcaaGreatDoor
