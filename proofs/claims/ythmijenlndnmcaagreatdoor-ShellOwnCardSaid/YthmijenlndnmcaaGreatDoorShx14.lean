import Derived.Test.YthmijenlndnmcaaGreatDoorShx0
import Derived.Test.YthmijenlndnmcaaGreatDoorShx1
namespace Go.Proofs.YthmijenlndnmcaaGreatDoor.Sh
open Go.RowKit Go.Proofs.YthmijenlndnmcaaGreatDoorW.PrintWords Go.Proofs.YthmijenlndnmcaaGreatDoorW.PrintLast Go.Proofs.YthmijenlndnmcaaGreatDoorW.PrintMore
attribute [local go_sem] max2_int min2_int max_two min_two max_three min_three max_four min_four
set_option linter.unusedVariables false
set_option linter.unusedSimpArgs false
attribute [local go_sem high] eqA74
end Go.Proofs.YthmijenlndnmcaaGreatDoor.Sh
