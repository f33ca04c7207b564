/- NumTells: num's writing and reading of numbers tells what the law's own tells. -/
import Derived.Test.YtlfahlmhkndllaaPureA
namespace Go.Proofs.Ytlfahlmhkndllaa.Pure
open Go.RowKit Go.Proofs.Ytlfahlmhkndllaa.PNum Go.Proofs.YtlfahlmhkndllaaW.PrintWords Go.Proofs.YtlfahlmhkndllaaW.PrintLast

theorem NumTells : millracelaw01_NumTells.Pure := by
  intro a0 a1 a2 a3 a4 w0 h1 w2 w3 h4
  have w0' : -9223372036854775808 ≤ a0 ∧ a0 ≤ 9223372036854775807 := by simpa [Lit.wf, IntKind.min, IntKind.max, IntKind.signed, IntKind.bits] using w0
  have w2' : 0 ≤ a2 ∧ a2 ≤ 18446744073709551615 := by simpa [Lit.wf, IntKind.min, IntKind.max, IntKind.signed, IntKind.bits] using w2
  refine ⟨a1.size + a4.size + 100, ?_⟩
  obtain ⟨k, hk⟩ : ∃ k, k = a1.size + a4.size + 100 := ⟨_, rfl⟩
  rw [← hk]
  obtain ⟨p, hp⟩ : ∃ p, num_Base.f a2 a3 = some p := by
    simp only [num_Base.f]
    split
    · exact ⟨_, rfl⟩
    split
    · exact ⟨_, rfl⟩
    · rw [num_written.f, if_pos ⟨by omega, by omega, by omega, by omega⟩]; exact ⟨_, rfl⟩
  obtain ⟨q, hq⟩ : ∃ q, num_ParseBase.f a4 a3 = some q := by
    rw [num_ParseBase.f, if_pos (by omega)]; exact ⟨_, rfl⟩
  simp only [millracelaw01_NumTells.f, num_ParseInt_is k (by omega) a1 (by omega), ref_ParseInt_is k a1 (by omega) (by omega), ref_Base k a2 a3 (by omega) (by omega) (by omega), hp,
    ref_ParseBase k a4 a3 (by omega) (by omega), hq, num_Decimal_is a0 w0'.1 w0'.2, ref_Decimal_is k (by omega) a0 w0'.1 w0'.2, alive_is k (by omega), Option.bind_some, if_true]

end Go.Proofs.Ytlfahlmhkndllaa.Pure
