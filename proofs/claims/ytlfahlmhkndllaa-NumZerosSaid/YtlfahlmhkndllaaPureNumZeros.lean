/- NumZeros: what num writes to a base, in capitals and with zeros ahead, it reads back; to no base of its own it writes nothing. -/
import Derived.Test.YtlfahlmhkndllaaPureB
namespace Go.Proofs.Ytlfahlmhkndllaa.Pure
open Go.RowKit Go.Proofs.Ytlfahlmhkndllaa.PNum Go.Proofs.YtlfahlmhkndllaaW.PrintWords Go.Proofs.YtlfahlmhkndllaaW.PrintLast

theorem NumZeros : millracelaw01_NumZeros.Pure := by
  intro n b z w0 w1 w2
  have w0' : 0 ≤ n ∧ n ≤ 18446744073709551615 := by simpa [Lit.wf, IntKind.min, IntKind.max, IntKind.signed, IntKind.bits] using w0
  have w2' : -9223372036854775808 ≤ z ∧ z ≤ 9223372036854775807 := by simpa [Lit.wf, IntKind.min, IntKind.max, IntKind.signed, IntKind.bits] using w2
  refine ⟨300, ?_⟩
  simp only [millracelaw01_NumZeros.f, alive_is 300 (by omega), Option.bind_some, if_true]
  by_cases h1 : b < 2
  · simp only [num_Base.f, if_pos h1, Option.bind_some]; rw [if_neg (by decide), ByteArray.toList_eq]; rfl
  by_cases h2 : b > 16
  · simp only [num_Base.f, if_neg h1, if_pos h2, Option.bind_some]; rw [if_neg (by decide), ByteArray.toList_eq]; rfl
  rw [num_Base_is n b (by omega) (by omega) (by omega) (by omega)]
  simp only [Option.bind_some, if_true]
  have hp := txt_pos b.toNat n.toNat; have hl := txt_le b.toNat n.toNat
  have hlen : (txt b.toNat n.toNat).data.toList.length = (txt b.toNat n.toNat).size := size_list _
  have hcap : (txt b.toNat n.toNat).data.toList.map capOf = (digNums b.toNat 64 n.toNat).reverse.map capByte := by
    rw [txt_list, List.map_map]
    apply List.map_congr_left
    intro d hd
    have := digNums_lt b.toNat (by omega) 64 n.toNat d (by simpa using hd)
    exact cap_chr d (by omega)
  have h0 := zeros_loop0 n b z (txt b.toNat n.toNat) (by omega) none (txt b.toNat n.toNat).data.toList [] ⟨#[]⟩ 300 (300 - 1 - (txt b.toNat n.toNat).size) (by simp) (by rfl) (by rw [hlen]; omega)
  simp only [List.length_nil] at h0
  have h0 : millracelaw01_NumZeros.l0 300 n b z (txt b.toNat n.toNat) ⟨#[]⟩ 0 = _ := h0
  rw [h0]
  have hdl : ((⟨#[]⟩ : ByteArray) ++ ⟨((txt b.toNat n.toNat).data.toList.map capOf).toArray⟩).data.toList = (digNums b.toNat 64 n.toNat).reverse.map capByte := by
    rw [← hcap]; simp
  have hds : ((⟨#[]⟩ : ByteArray) ++ ⟨((txt b.toNat n.toNat).data.toList.map capOf).toArray⟩).size = (txt b.toNat n.toNat).size := by
    rw [← size_list, hdl, txt_size]; simp
  refine zeros_loop1 n b z (by omega) (by omega) (by omega) (by omega) (by omega) 100 _ 0 _ (by omega) (by omega) (by omega) (by omega) (by omega) ?_ ?_ (by omega)
  · rw [hdl]; exact digs_ok b.toNat (by omega) (by omega) capByte (fun d h => (chr_worth d h).2) 64 n.toNat
  · rw [hdl]; exact valOf_digs b.toNat (by omega) (by omega) capByte (fun d h => (chr_worth d h).2) 64 n.toNat (by omega)

end Go.Proofs.Ytlfahlmhkndllaa.Pure
