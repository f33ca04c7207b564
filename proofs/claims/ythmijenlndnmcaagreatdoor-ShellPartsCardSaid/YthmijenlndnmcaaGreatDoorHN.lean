/-
  Hand-made contracts of functions of the program: Named.
-/
import Derived.Test.YthmijenlndnmcaaGreatDoorHD
import Derived.Test.YthmijenlndnmcaaGreatDoorHP
import Derived.Laws.RangeString
import Derived.Test.YthmijenlndnmcaaGreatDoorShx6
import Derived.Test.YthmijenlndnmcaaGreatDoorShx7
import Derived.Test.YthmijenlndnmcaaGreatDoorShx0
namespace Go.Proofs.YthmijenlndnmcaaGreatDoor.Sh
open Go.RowKit Go.Proofs.YthmijenlndnmcaaGreatDoorW.PrintWords Go.Proofs.YthmijenlndnmcaaGreatDoorW.PrintLast Go.Proofs.YthmijenlndnmcaaGreatDoorW.PrintMore
attribute [local go_sem] max2_int min2_int max_two min_two max_three min_three max_four min_four
set_option linter.unusedVariables false
set_option linter.unusedSimpArgs false
/-! ### The page's Named, plainly -/
theorem named_loop (s : ByteArray) (hs : s.size ≤ 64) : ∀ (m i : Nat), i + m = s.size → ∃ b, millraceref06_Named.l0 (m + 1) s (i : Int) = some b ∧ (b = true → ∀ f, Lib.idxFuncFrom kernBad true s f i = -1)
  | 0, i, h => ⟨true, by rw [millraceref06_Named.l0, if_neg (by omega)], fun _ f => Lib.idxFuncFrom_end _ _ _ _ _ (by omega)⟩
  | m + 1, i, h => by
    have hi : i < s.size := by omega
    rw [millraceref06_Named.l0, if_pos (by omega), if_pos (by omega)]
    have hb : bt s (i : Int) = ((s[i]'hi).toNat : Int) := by simp [bt, hi]
    rw [hb]
    by_cases h1 : ((s[i]'hi).toNat : Int) < 33
    · exact ⟨false, by rw [if_pos h1], by simp⟩
    · rw [if_neg h1]
      by_cases h2 : ((s[i]'hi).toNat : Int) > 126
      · exact ⟨false, by rw [if_pos h2], by simp⟩
      · rw [if_neg h2]
        obtain ⟨b, hb, hx⟩ := named_loop s hs m (i + 1) (by omega)
        have hw : wrap64 ((i : Int) + 1) = ((i + 1 : Nat) : Int) := by unfold wrap64; omega
        rw [hw]
        refine ⟨b, hb, fun ht f => ?_⟩
        cases f with
        | zero => rfl
        | succ f =>
          rw [Lib.idxFuncFrom, if_pos hi, decode_ascii s i hi (by omega)]
          have hk : kernBad (s[i]'hi).toNat = false := by simp [kernBad]; omega
          simp only [hk]
          simpa using hx ht f
theorem named_is6 (s : ByteArray) : ∃ k b, millraceref06_Named.f k s = some b ∧ (b = true → kernNamed s = true) := by
  by_cases h0 : s.toList = ([] : List UInt8)
  · exact ⟨1, false, by rw [millraceref06_Named.f, if_pos h0]; rfl, by simp⟩
  by_cases h1 : (s.size : Int) > 64
  · exact ⟨1, false, by rw [millraceref06_Named.f, if_neg h0]; simp [millraceref06_Named.j0]; omega, by simp⟩
  obtain ⟨b, hb, hx⟩ := named_loop s (by omega) s.size 0 (by omega)
  refine ⟨s.size + 2, b, ?_, fun ht => ?_⟩
  · rw [millraceref06_Named.f, if_neg h0, millraceref06_Named.j0, if_neg (by simpa using h1)]
    exact hb
  · have hn : s.size ≠ 0 := fun h => h0 (by rw [ByteArray.toList_eq]; exact List.eq_nil_of_length_eq_zero (by simpa using h))
    unfold kernNamed Lib.idxFunc
    rw [hx ht]
    simp [hn]
    omega
theorem named_is21 (s : ByteArray) : ∃ k b, millraceref21_named.f k s = some b ∧ (b = true → nameB s = true) := by
  obtain ⟨k, b, h, hx⟩ := named_is6 s
  cases b with
  | false => exact ⟨k, false, by rw [millraceref21_named.f, h]; rfl, by simp⟩
  | true =>
    have hg : millraceref21_sign.f s = some (signB s) := shell_sign_is s
    refine ⟨k, !signB s, by rw [millraceref21_named.f, h]; simp [hg], fun ht => ?_⟩
    unfold nameB
    rw [hx rfl]
    simpa using ht
theorem check_grep (X : ByteArray) : ∃ k r, millraceref21_CheckTool.f k (⟨#[103, 114, 101, 112]⟩ : ByteArray) 0 X = some r ∧ (r = 0 → nameB X = true) := by
  obtain ⟨k, b, h, hx⟩ := named_is21 X
  cases b with
  | false => exact ⟨k + 1, 211, by simp [millraceref21_CheckTool.f, millraceref21_CheckTool.j0, millraceref21_known.f, knownB, h], by simp⟩
  | true => exact ⟨k + 1, 0, by simp [millraceref21_CheckTool.f, millraceref21_CheckTool.j0, millraceref21_known.f, knownB, h], fun _ => hx rfl⟩

end Go.Proofs.YthmijenlndnmcaaGreatDoor.Sh
