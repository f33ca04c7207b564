/-
  Hand-made contracts of functions of the program: LawTwo, LawTwoWalk.
-/
import Derived.Test.YthmijenlndnmcaaGreatDoorHS
import Derived.Test.YthmijenlndnmcaaGreatDoorShx6
import Derived.Test.YthmijenlndnmcaaGreatDoorShx0
namespace Go.Proofs.YthmijenlndnmcaaGreatDoor.Sh
open Go.RowKit Go.Proofs.YthmijenlndnmcaaGreatDoorW.PrintWords Go.Proofs.YthmijenlndnmcaaGreatDoorW.PrintLast Go.Proofs.YthmijenlndnmcaaGreatDoorW.PrintMore
attribute [local go_sem] max2_int min2_int max_two min_two max_three min_three max_four min_four
set_option linter.unusedVariables false
set_option linter.unusedSimpArgs false

/-! ### ShellTwo: the line cut in two -/
theorem names_ab : nameB (⟨#[97]⟩ : ByteArray) = true ∧ nameB (⟨#[98]⟩ : ByteArray) = true ∧ ((⟨#[97]⟩ : ByteArray).toList == ([] : List UInt8)) = false := by
  refine ⟨by decide +kernel, by decide +kernel, by simp⟩
theorem check_ab (xs : List S74) : checkOf (⟨#[97]⟩ : ByteArray) xs (⟨#[98]⟩ : ByteArray) = if xs.length < 1 ∨ 16 < xs.length then 3 else if xs.any (fun x => !mayB x) = true then 211 else 0 := by
  obtain ⟨h1, h2, h3⟩ := names_ab
  unfold checkOf
  rw [if_neg (by simp [h1, h2]), h3]
  simp
theorem tmod_lt (x : Int) (k : Nat) (hk : 1 ≤ k) : -(k : Int) < x.tmod k ∧ x.tmod k < k := ⟨Int.lt_tmod_of_pos _ (by omega), Int.tmod_lt_of_pos _ (by omega)⟩
abbrev rCat : S28 := ⟨(⟨#[99, 97, 116]⟩ : ByteArray), 0, (⟨#[]⟩ : ByteArray)⟩
end Go.Proofs.YthmijenlndnmcaaGreatDoor.Sh
