/-
  Hand-made contracts of functions of the program: LawTurns, LawTurnsWalk.
-/
import Derived.Test.YthmijenlndnmcaaGreatDoorHG
import Derived.Test.YthmijenlndnmcaaGreatDoorShx6
import Derived.Test.YthmijenlndnmcaaGreatDoorShx0
namespace Go.Proofs.YthmijenlndnmcaaGreatDoor.Sh
open Go.RowKit Go.Proofs.YthmijenlndnmcaaGreatDoorW.PrintWords Go.Proofs.YthmijenlndnmcaaGreatDoorW.PrintLast Go.Proofs.YthmijenlndnmcaaGreatDoorW.PrintMore
attribute [local go_sem] max2_int min2_int max_two min_two max_three min_three max_four min_four
set_option linter.unusedVariables false
set_option linter.unusedSimpArgs false
theorem byteL_wf {l : List Int} (h : ∀ n ∈ l, (Lit.int .u8 n).wf = true) : byteL l := fun x hx => byte_of_wf (h x hx)
theorem maxCell {W : World} (h : W.ShapedOpen Tryz.prog) : MaxCell W := Tryz.laysM186.s1_3 W h
end Go.Proofs.YthmijenlndnmcaaGreatDoor.Sh
