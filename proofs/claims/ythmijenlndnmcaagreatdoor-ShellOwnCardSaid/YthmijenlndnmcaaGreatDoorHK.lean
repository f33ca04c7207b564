/-
  Hand-made contracts of functions of the program: Known.
-/
import Derived.Lib.SlicesMore
import Derived.Test.YthmijenlndnmcaaGreatDoorShx0
namespace Go.Proofs.YthmijenlndnmcaaGreatDoor.Sh
open Go.RowKit Go.Proofs.YthmijenlndnmcaaGreatDoorW.PrintWords Go.Proofs.YthmijenlndnmcaaGreatDoorW.PrintLast Go.Proofs.YthmijenlndnmcaaGreatDoorW.PrintMore
attribute [local go_sem] max2_int min2_int max_two min_two max_three min_three max_four min_four
set_option linter.unusedVariables false
set_option linter.unusedSimpArgs false
def knownB (s : ByteArray) : Bool := (([99, 97, 116] : List UInt8) == s.toList) || (([117, 112, 112, 101, 114] : List UInt8) == s.toList) || (([114, 101, 118] : List UInt8) == s.toList) || (([104, 101, 97, 100] : List UInt8) == s.toList) || (([115, 107, 105, 112] : List UInt8) == s.toList) || (([103, 114, 101, 112] : List UInt8) == s.toList) || (([110, 117, 109] : List UInt8) == s.toList) || (([117, 110, 105, 113] : List UInt8) == s.toList) || (([119, 99] : List UInt8) == s.toList)
end Go.Proofs.YthmijenlndnmcaaGreatDoor.Sh
