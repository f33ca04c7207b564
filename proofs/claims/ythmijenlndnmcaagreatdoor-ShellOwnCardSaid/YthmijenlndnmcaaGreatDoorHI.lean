/-
  Hand-made contracts of functions of the program: Split, BackA.
-/
import Derived.Test.YthmijenlndnmcaaGreatDoorHY
import Derived.Test.YthmijenlndnmcaaGreatDoorHT
import Derived.Laws.RangeString
import Derived.Laws.RangeAny
import Derived.Test.YthmijenlndnmcaaGreatDoorShx5
import Derived.Test.YthmijenlndnmcaaGreatDoorShx0
namespace Go.Proofs.YthmijenlndnmcaaGreatDoor.Sh
open Go.RowKit Go.Proofs.YthmijenlndnmcaaGreatDoorW.PrintWords Go.Proofs.YthmijenlndnmcaaGreatDoorW.PrintLast Go.Proofs.YthmijenlndnmcaaGreatDoorW.PrintMore
attribute [local go_sem] max2_int min2_int max_two min_two max_three min_three max_four min_four
set_option linter.unusedVariables false
set_option linter.unusedSimpArgs false
theorem check_names {fr : ByteArray} {xs : List S74} {tp : ByteArray} (h : checkOf fr xs tp = 0) : nameB tp = true ∧ (fr.toList ≠ ([] : List UInt8) → nameB fr = true) := by
  unfold checkOf at h
  split at h
  · omega
  rename_i hn
  simp only [not_or, not_and] at hn
  refine ⟨by simpa using hn.2, fun h0 => ?_⟩
  have := hn.1 (by simpa using h0)
  simpa using this
end Go.Proofs.YthmijenlndnmcaaGreatDoor.Sh
