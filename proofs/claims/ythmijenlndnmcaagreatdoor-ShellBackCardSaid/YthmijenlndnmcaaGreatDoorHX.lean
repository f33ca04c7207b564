/-
  Hand-made contracts of functions of the program: CheckStub.
-/
import Derived.Test.YthmijenlndnmcaaGreatDoorHD
import Derived.Test.YthmijenlndnmcaaGreatDoorShx0
namespace Go.Proofs.YthmijenlndnmcaaGreatDoor.Sh
open Go.RowKit Go.Proofs.YthmijenlndnmcaaGreatDoorW.PrintWords Go.Proofs.YthmijenlndnmcaaGreatDoorW.PrintLast Go.Proofs.YthmijenlndnmcaaGreatDoorW.PrintMore
attribute [local go_sem] max2_int min2_int max_two min_two max_three min_three max_four min_four
set_option linter.unusedVariables false
set_option linter.unusedSimpArgs false
def shell_Check.f (a0_0 : ByteArray) (l0_1 : List S74) (a0_2 : ByteArray) (_a0_3 : Bool) : Option Int := some (checkOf a0_0 l0_1 a0_2)
theorem shell_Check.calls (a0_0 : ByteArray) (A0_1 : Option Addr) (c0_1 : Nat) (l0_1 : List S74) (a0_2 : ByteArray) (a0_3 : Bool) (r : Int) (w : World) (hr0_1 : Kd.C k74 w A0_1 l0_1.length l0_1) (hc0_1 : l0_1.length ≤ c0_1) (h : shell_Check.f a0_0 l0_1 a0_2 a0_3 = some r) :
    Calls Tryz.prog 23 #[.agg #[.string a0_0, .slice A0_1 l0_1.length c0_1, .string a0_2, .bool a0_3]] w fun e w' => e = .returned (.int .i64 r) ∧ Below w.heap.size w w' := by
  cases h
  exact shell_CheckH.calls a0_0 a0_2 a0_3 A0_1 c0_1 l0_1 w hr0_1 hc0_1
end Go.Proofs.YthmijenlndnmcaaGreatDoor.Sh
