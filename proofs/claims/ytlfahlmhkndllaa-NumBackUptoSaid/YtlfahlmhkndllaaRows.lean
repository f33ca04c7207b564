/-
  No cell of these rows narrows 'for every input' (looked for: loops, veiled, ifaces, maps, wideKeys, modest, calm, conditions, laid).
  DERIVED. THE GIVEN ROWS OF THIS SEAT. 5 by the template 'for every input the law returns true; each argument reads behind the call as it read before'; 0 by the template 'total and deterministic' (their statements: YtlfahlmhkndllaaTotals.lean).
  GIVEN WITH THE SEED: the statements are not yours to turn. If you find one false, say at which input.
  Laid BY PROGRAM, IN A SANDBOX (cutbox-rows.mjs): the forced cells as the released guide's own fill.sh prints them over the translation b72fba1c6793b894… (all of the seat's roots in one cut). By AI agents, Wed Nov 11 2026. No macro, syntax, notation, axiom, sorry.
-/
import Derived.Test.YtlfahlmhkndllaaChecked
import GoSem.Claim
import GoSem.ClaimJoined
import GoSem.ClaimMapViews
import Derived.JoinedTies
import Derived.KernelRfl
namespace Go.Proofs.Ytlfahlmhkndllaa
/- THE CELL 'sum', in the pinned program and in every row, IS THE sha256 OF THE DUMP (.gsa) THAT YtlfahlmhkndllaaProg.lean LOADS. Nothing in Lean hashes anything: it is a label: what it is worth is what the hold of that sum in a sandbox is worth. -/
noncomputable def Try.pinned : Pinned := { name := "ytlfahlmhkndllaa", sum := "b72fba1c6793b8940d9ce1f06bb209b3df8a322d99161f804a220e0572a8fe8e", checked := Try.checked }
namespace Rows
def none {H : Type} : Left H := { results := [], args := [] }

/-- 'millracelaw01.NumTells': WHATEVER THE INPUT: true; the input reads as it did. -/
def numTellsSpec : ChangeSpec := { name := "numTells", fn := fun _ => fun
  | [d1, d2, d3, d4, d5] => { results := [.lit (.bool true)], args := [d1, d2, d3, d4, d5] }
  | _ => none }
def numTellsRow : OpenClaim := { program := "ytlfahlmhkndllaa", sum := "b72fba1c6793b8940d9ce1f06bb209b3df8a322d99161f804a220e0572a8fe8e", func := "millrace/millracelaw01.NumTells", spec := "numTells", inPlace := ["internal/bytealg.IndexByte", "math/bits.Add64"], unfollowed := true, recurses := true, apart := false }
def NumTellsSaid : Prop := numTellsRow.holds Try.pinned (OpenSpec.ofChange numTellsSpec)

/-- ITS FALSE NEIGHBOUR: 'it returns false'. Refute it at one input. -/
def numTellsWrong : ChangeSpec := { name := "numTells", fn := fun _ => fun
  | [d1, d2, d3, d4, d5] => { results := [.lit (.bool false)], args := [d1, d2, d3, d4, d5] }
  | _ => none }
def NumTellsWrongFalsely : Prop := numTellsRow.holds Try.pinned (OpenSpec.ofChange numTellsWrong)

/-- 'millracelaw01.NumZeros': WHATEVER THE INPUT: true; the input reads as it did. -/
def numZerosSpec : ChangeSpec := { name := "numZeros", fn := fun _ => fun
  | [d1, d2, d3] => { results := [.lit (.bool true)], args := [d1, d2, d3] }
  | _ => none }
def numZerosRow : OpenClaim := { program := "ytlfahlmhkndllaa", sum := "b72fba1c6793b8940d9ce1f06bb209b3df8a322d99161f804a220e0572a8fe8e", func := "millrace/millracelaw01.NumZeros", spec := "numZeros", inPlace := ["internal/bytealg.IndexByte", "math/bits.Add64"], unfollowed := true, recurses := true, apart := false }
def NumZerosSaid : Prop := numZerosRow.holds Try.pinned (OpenSpec.ofChange numZerosSpec)

/-- ITS FALSE NEIGHBOUR: 'it returns false'. Refute it at one input. -/
def numZerosWrong : ChangeSpec := { name := "numZeros", fn := fun _ => fun
  | [d1, d2, d3] => { results := [.lit (.bool false)], args := [d1, d2, d3] }
  | _ => none }
def NumZerosWrongFalsely : Prop := numZerosRow.holds Try.pinned (OpenSpec.ofChange numZerosWrong)

/-- 'millracelaw01.NumOwn': WHATEVER THE INPUT: true; the input reads as it did. -/
def numOwnSpec : ChangeSpec := { name := "numOwn", fn := fun _ => fun
  | [d] => { results := [.lit (.bool true)], args := [d] }
  | _ => none }
def numOwnRow : OpenClaim := { program := "ytlfahlmhkndllaa", sum := "b72fba1c6793b8940d9ce1f06bb209b3df8a322d99161f804a220e0572a8fe8e", func := "millrace/millracelaw01.NumOwn", spec := "numOwn", inPlace := ["internal/bytealg.IndexByte", "math/bits.Add64"], unfollowed := true, recurses := true, apart := false }
def NumOwnSaid : Prop := numOwnRow.holds Try.pinned (OpenSpec.ofChange numOwnSpec)

/-- ITS FALSE NEIGHBOUR: 'it returns false'. Refute it at one input. -/
def numOwnWrong : ChangeSpec := { name := "numOwn", fn := fun _ => fun
  | [d] => { results := [.lit (.bool false)], args := [d] }
  | _ => none }
def NumOwnWrongFalsely : Prop := numOwnRow.holds Try.pinned (OpenSpec.ofChange numOwnWrong)

/-- 'millracelaw01.NumHex': WHATEVER THE INPUT: true; the input reads as it did. -/
def numHexSpec : ChangeSpec := { name := "numHex", fn := fun _ => fun
  | [d1, d2] => { results := [.lit (.bool true)], args := [d1, d2] }
  | _ => none }
def numHexRow : OpenClaim := { program := "ytlfahlmhkndllaa", sum := "b72fba1c6793b8940d9ce1f06bb209b3df8a322d99161f804a220e0572a8fe8e", func := "millrace/millracelaw01.NumHex", spec := "numHex", inPlace := ["internal/bytealg.IndexByte", "math/bits.Add64"], unfollowed := true, recurses := true, apart := false }
def NumHexSaid : Prop := numHexRow.holds Try.pinned (OpenSpec.ofChange numHexSpec)

/-- ITS FALSE NEIGHBOUR: 'it returns false'. Refute it at one input. -/
def numHexWrong : ChangeSpec := { name := "numHex", fn := fun _ => fun
  | [d1, d2] => { results := [.lit (.bool false)], args := [d1, d2] }
  | _ => none }
def NumHexWrongFalsely : Prop := numHexRow.holds Try.pinned (OpenSpec.ofChange numHexWrong)

/-- 'millracelaw01.NumBack': WHATEVER THE INPUT: true; the input reads as it did. -/
def numBackSpec : ChangeSpec := { name := "numBack", fn := fun _ => fun
  | [d1, d2, d3, d4] => { results := [.lit (.bool true)], args := [d1, d2, d3, d4] }
  | _ => none }
def numBackRow : OpenClaim := { program := "ytlfahlmhkndllaa", sum := "b72fba1c6793b8940d9ce1f06bb209b3df8a322d99161f804a220e0572a8fe8e", func := "millrace/millracelaw01.NumBack", spec := "numBack", inPlace := ["internal/bytealg.IndexByte", "math/bits.Add64"], unfollowed := true, recurses := true, apart := false }
def NumBackSaid : Prop := numBackRow.holds Try.pinned (OpenSpec.ofChange numBackSpec)

/-- ITS FALSE NEIGHBOUR: 'it returns false'. Refute it at one input. -/
def numBackWrong : ChangeSpec := { name := "numBack", fn := fun _ => fun
  | [d1, d2, d3, d4] => { results := [.lit (.bool false)], args := [d1, d2, d3, d4] }
  | _ => none }
def NumBackWrongFalsely : Prop := numBackRow.holds Try.pinned (OpenSpec.ofChange numBackWrong)

/- THE SECOND FORM. 'bulk': how many values and letters a reading holds, each counted each time it is reached (what is shared counts as often as it is met; a slice's spare places count too). A statement '..UptoSaid' is the law's where the arguments, and the package variables that the reading takes, are together of bulk at most 1048576: NARROWER than '..Said'. Prove '..Said' where nothing that the law and all that it calls make is longer than what came in: it says more and counts as full. Else prove '..UptoSaid'. A law counts once. -/
mutual
def uptoBulk {H : Type} : DataW H → Nat
  | .lit (.string bytes) => bytes.length + 1
  | .lit _ => 1
  | .nil => 1
  | .ptr d => uptoBulk d + 1
  | .slice elems spare => uptoBulkAll elems + uptoBulkAll spare + 1
  | .agg parts => uptoBulkAll parts + 1
  | .iface _ d => uptoBulk d + 1
  | .map entries => uptoBulkEntries entries + 1
  | .held _ => 1
def uptoBulkAll {H : Type} : List (DataW H) → Nat
  | [] => 0
  | d :: r => uptoBulk d + uptoBulkAll r
def uptoBulkEntries {H : Type} : List (Lit × DataW H) → Nat
  | [] => 0
  | x :: r => uptoBulkEntry x + uptoBulkEntries r
def uptoBulkEntry {H : Type} : Lit × DataW H → Nat
  | (.string bytes, d) => bytes.length + uptoBulk d + 1
  | (_, d) => uptoBulk d + 1
 end
def uptoSmall : (H : Type) → List (DataW H) → Bool := fun _ ds => decide (uptoBulkAll ds ≤ 1048576)
def OpenSpec.upto (s : _root_.Go.ChangeSpec) : _root_.Go.OpenSpec := { _root_.Go.OpenSpec.ofChange s with cond := some uptoSmall }

/-- 'millracelaw01.NumTells', WHERE WHAT IT READS IS OF BULK AT MOST 1048576: true; the input reads as it did. -/
def numTellsUptoRow : OpenClaim := { program := "ytlfahlmhkndllaa", sum := "b72fba1c6793b8940d9ce1f06bb209b3df8a322d99161f804a220e0572a8fe8e", func := "millrace/millracelaw01.NumTells", spec := "numTells", inPlace := ["internal/bytealg.IndexByte", "math/bits.Add64"], unfollowed := true, recurses := true, apart := false, narrowed := true }
def NumTellsUptoSaid : Prop := numTellsUptoRow.holds Try.pinned (OpenSpec.upto numTellsSpec)

/-- 'millracelaw01.NumZeros', WHERE WHAT IT READS IS OF BULK AT MOST 1048576: true; the input reads as it did. -/
def numZerosUptoRow : OpenClaim := { program := "ytlfahlmhkndllaa", sum := "b72fba1c6793b8940d9ce1f06bb209b3df8a322d99161f804a220e0572a8fe8e", func := "millrace/millracelaw01.NumZeros", spec := "numZeros", inPlace := ["internal/bytealg.IndexByte", "math/bits.Add64"], unfollowed := true, recurses := true, apart := false, narrowed := true }
def NumZerosUptoSaid : Prop := numZerosUptoRow.holds Try.pinned (OpenSpec.upto numZerosSpec)

/-- 'millracelaw01.NumOwn', WHERE WHAT IT READS IS OF BULK AT MOST 1048576: true; the input reads as it did. -/
def numOwnUptoRow : OpenClaim := { program := "ytlfahlmhkndllaa", sum := "b72fba1c6793b8940d9ce1f06bb209b3df8a322d99161f804a220e0572a8fe8e", func := "millrace/millracelaw01.NumOwn", spec := "numOwn", inPlace := ["internal/bytealg.IndexByte", "math/bits.Add64"], unfollowed := true, recurses := true, apart := false, narrowed := true }
def NumOwnUptoSaid : Prop := numOwnUptoRow.holds Try.pinned (OpenSpec.upto numOwnSpec)

/-- 'millracelaw01.NumHex', WHERE WHAT IT READS IS OF BULK AT MOST 1048576: true; the input reads as it did. -/
def numHexUptoRow : OpenClaim := { program := "ytlfahlmhkndllaa", sum := "b72fba1c6793b8940d9ce1f06bb209b3df8a322d99161f804a220e0572a8fe8e", func := "millrace/millracelaw01.NumHex", spec := "numHex", inPlace := ["internal/bytealg.IndexByte", "math/bits.Add64"], unfollowed := true, recurses := true, apart := false, narrowed := true }
def NumHexUptoSaid : Prop := numHexUptoRow.holds Try.pinned (OpenSpec.upto numHexSpec)

/-- 'millracelaw01.NumBack', WHERE WHAT IT READS IS OF BULK AT MOST 1048576: true; the input reads as it did. -/
def numBackUptoRow : OpenClaim := { program := "ytlfahlmhkndllaa", sum := "b72fba1c6793b8940d9ce1f06bb209b3df8a322d99161f804a220e0572a8fe8e", func := "millrace/millracelaw01.NumBack", spec := "numBack", inPlace := ["internal/bytealg.IndexByte", "math/bits.Add64"], unfollowed := true, recurses := true, apart := false, narrowed := true }
def NumBackUptoSaid : Prop := numBackUptoRow.holds Try.pinned (OpenSpec.upto numBackSpec)

end Rows
end Go.Proofs.Ytlfahlmhkndllaa
