/-
  Hand-made contracts of functions of the program: RefBefore, RefFeed, RefEnd, RefThrough.
-/
import Derived.Test.YthmijenlndnmcaaGreatDoorHF
import Derived.Test.YthmijenlndnmcaaGreatDoorShx0
namespace Go.Proofs.YthmijenlndnmcaaGreatDoor.Sh
open Go.RowKit Go.Proofs.YthmijenlndnmcaaGreatDoorW.PrintWords Go.Proofs.YthmijenlndnmcaaGreatDoorW.PrintLast Go.Proofs.YthmijenlndnmcaaGreatDoorW.PrintMore
attribute [local go_sem] max2_int min2_int max_two min_two max_three min_three max_four min_four
set_option linter.unusedVariables false
set_option linter.unusedSimpArgs false
def Cut (a : List Int) : Prop := ∀ x, ln (a ++ x) = ln a ++ ln x
theorem Cut.nil : Cut [] := fun _ => rfl
theorem Cut.ln_full {a b : List Int} (h : Cut a) (hb : (10 : Int) ∉ b) : ln (a ++ (b ++ [10])) = ln a ++ [b ++ [10]] := by
  rw [h, Sh.ln_full b [] hb]; rfl
theorem Cut.next {a b : List Int} (h : Cut a) (hb : (10 : Int) ∉ b) : Cut (a ++ (b ++ [10])) := by
  intro x
  rw [h.ln_full hb, List.append_assoc, h, List.append_assoc b, List.singleton_append, Sh.ln_full b x hb]
  simp
end Go.Proofs.YthmijenlndnmcaaGreatDoor.Sh
