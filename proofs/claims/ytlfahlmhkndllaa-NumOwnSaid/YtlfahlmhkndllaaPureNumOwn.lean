/- NumOwn: what Unhex gives back is its caller's own. -/
import Derived.Test.YtlfahlmhkndllaaPureC
namespace Go.Proofs.Ytlfahlmhkndllaa.Pure
open Go.RowKit Go.Proofs.Ytlfahlmhkndllaa.PNum Go.Proofs.YtlfahlmhkndllaaW.PrintWords Go.Proofs.YtlfahlmhkndllaaW.PrintLast

theorem NumOwn : millracelaw01_NumOwn.Pure := by
  intro s hs
  have hl := unhexOf_len s
  obtain ⟨r, hr⟩ := spoil_some (unhexOf s).1.length (unhexOf s).1 0 (s.size + 10) (by omega) (by omega) (by omega) (by omega)
  refine ⟨s.size + 10, ?_⟩
  have hsp : millraceplain_Spoil.f (s.size + 10) (unhexOf s).1 = some r := hr
  simp only [millracelaw01_NumOwn.f, alive_is (s.size + 10) (by omega), Option.bind_some, if_true, num_Unhex_is s hs, copy_is (unhexOf s).1 (by omega), hsp, same_is (unhexOf s).1 (by omega) (s.size + 10) (by omega)]

end Go.Proofs.Ytlfahlmhkndllaa.Pure
