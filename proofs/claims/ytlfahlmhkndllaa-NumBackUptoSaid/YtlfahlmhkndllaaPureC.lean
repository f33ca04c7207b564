/- Laws of Unhex: the bytes of a text of digits by pairs; two slices that hold the same. -/
import Derived.Test.YtlfahlmhkndllaaPNumx5
import Derived.Test.YtlfahlmhkndllaaPureB
namespace Go.Proofs.Ytlfahlmhkndllaa.Pure
open Go.RowKit Go.Proofs.Ytlfahlmhkndllaa.PNum Go.Proofs.YtlfahlmhkndllaaW.PrintWords Go.Proofs.YtlfahlmhkndllaaW.PrintLast
set_option linter.unusedVariables false
set_option linter.unusedSimpArgs false

theorem copy_is (l : List Int) (h : l.length < 140737488355328) : millraceplain_CopyBytes.f l = some l := by
  simp [millraceplain_CopyBytes.f]; omega
theorem spoil_some : ∀ (d : Nat) (l : List Int) (i : Int) (k : Nat), 0 ≤ i → l.length ≤ 9223372036854775806 → (l.length - i).toNat = d → d + 1 ≤ k → ∃ r, millraceplain_Spoil.l0 k l i = some r := by
  intro d
  induction d with
  | zero =>
    intro l i k h0 hl hd hk
    obtain ⟨k, rfl⟩ : ∃ i, k = i + 1 := ⟨k - 1, by omega⟩
    simp only [millraceplain_Spoil.l0]
    rw [if_neg (by omega)]; exact ⟨_, rfl⟩
  | succ d ih =>
    intro l i k h0 hl hd hk
    obtain ⟨k, rfl⟩ : ∃ i, k = i + 1 := ⟨k - 1, by omega⟩
    simp only [millraceplain_Spoil.l0]
    have e : wrap64 (i + 1) = i + 1 := by unfold wrap64; omega
    rw [if_pos (by omega), if_pos h0, e]
    exact ih _ (i + 1) k (by omega) (by simpa using hl) (by simp; omega) (by omega)
theorem same_loop (l : List Int) (hl : l.length ≤ 9223372036854775806) : ∀ (d : Nat) (i : Int) (k : Nat), 0 ≤ i → (l.length - i).toNat = d → d + 1 ≤ k → millraceplain_SameBytes.l0 k l l i = some true := by
  intro d
  induction d with
  | zero =>
    intro i k h0 hd hk
    obtain ⟨k, rfl⟩ : ∃ i, k = i + 1 := ⟨k - 1, by omega⟩
    simp only [millraceplain_SameBytes.l0]
    rw [if_neg (by omega)]
  | succ d ih =>
    intro i k h0 hd hk
    obtain ⟨k, rfl⟩ : ∃ i, k = i + 1 := ⟨k - 1, by omega⟩
    simp only [millraceplain_SameBytes.l0]
    have e : wrap64 (i + 1) = i + 1 := by unfold wrap64; omega
    rw [if_pos (by omega), if_pos h0, if_pos (by omega), if_pos trivial, e]
    exact ih (i + 1) k (by omega) (by omega) (by omega)
theorem same_is (l : List Int) (hl : l.length ≤ 9223372036854775806) (k : Nat) (hk : l.length + 1 ≤ k) : millraceplain_SameBytes.f k l l = some true := by
  rw [millraceplain_SameBytes.f, if_pos rfl]; exact same_loop l hl l.length 0 k (by omega) (by omega) hk

/-- What Unhex tells. -/
def unhexOf (s : ByteArray) : List Int × Int × Int := match numBad 0 s.data.toList with
  | some i => ([], 11, (i : Int))
  | none => if s.size % 2 = 1 then ([], 3, (s.size : Int)) else (numPairs (numWorths s.data.toList), 0, (s.size : Int))
theorem num_Unhex_is (s : ByteArray) (h : s.size ≤ 140737488351232) : num_Unhex.f s = some (unhexOf s) := by
  rw [num_Unhex.f, if_pos h]; rfl
theorem pairs_le : ∀ (n : Nat) (l : List Int), l.length ≤ n → (numPairs l).length ≤ n := by
  intro n
  induction n using Nat.strongRecOn with
  | _ n ih =>
    intro l h
    match l, h with
    | [], _ => simp [numPairs]
    | [a], _ => simp [numPairs]
    | a :: b :: r, h =>
      simp only [List.length_cons] at h
      simp only [numPairs, List.length_cons]
      have := ih (n - 2) (by omega) r (by omega)
      omega
theorem unhexOf_len (s : ByteArray) : (unhexOf s).1.length ≤ s.size := by
  unfold unhexOf
  split
  · simp
  · split
    · simp
    · exact pairs_le _ _ (by rw [numWorths, List.length_map, size_list]; exact Nat.le_refl _)

end Go.Proofs.Ytlfahlmhkndllaa.Pure
