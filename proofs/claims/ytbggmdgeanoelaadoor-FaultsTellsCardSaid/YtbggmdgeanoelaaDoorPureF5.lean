/- FaultsTells and FaultsBack: what the laws compute is true. -/
import Derived.Test.YtbggmdgeanoelaaDoorPureF4
namespace Go.Proofs.YtbggmdgeanoelaaDoor.Pure
open Go.RowKit Go.Proofs.YtbggmdgeanoelaaDoor.Ft Go.Proofs.YtbggmdgeanoelaaDoorW.PrintWords Go.Proofs.YtbggmdgeanoelaaDoorW.PrintLast Go.Proofs.YtbggmdgeanoelaaDoorW.PrintMore
set_option linter.unusedVariables false
set_option linter.unusedSimpArgs false

theorem same_loop (l : List S44) (hl : l.length ≤ 8796093022208) : ∀ (d i k : Nat), i + d = l.length → d + 1 ≤ k → millraceplain_SameFaults.l0 k l l (i : Int) = some true := by
  intro d
  induction d with
  | zero =>
    intro i k hi hk
    obtain ⟨k, rfl⟩ : ∃ i, k = i + 1 := ⟨k - 1, by omega⟩
    simp only [millraceplain_SameFaults.l0]
    rw [if_neg (by omega)]
  | succ d ih =>
    intro i k hi hk
    obtain ⟨k, rfl⟩ : ∃ i, k = i + 1 := ⟨k - 1, by omega⟩
    have e : wrap64 ((i : Int) + 1) = ((i + 1 : Nat) : Int) := by unfold wrap64; omega
    simp only [millraceplain_SameFaults.l0, e]
    clear e
    rw [if_pos (by omega), if_pos (by omega), if_pos (by omega), if_neg (by simp)]
    exact ih (i + 1) k (by omega) (by omega)
theorem same_self (l : List S44) (hl : l.length ≤ 8796093022208) (k : Nat) (hk : l.length + 1 ≤ k) : millraceplain_SameFaults.f k l l = some true := by
  rw [millraceplain_SameFaults.f, if_pos rfl]
  exact same_loop l hl l.length 0 k (by omega) (by omega)
theorem ref_Check_is (l : List S44) (k : Nat) (hk : l.length + 1 ≤ k) : millraceref02_Check.f k l = faults_Check.f l := by
  rw [millraceref02_Check.f, faults_Check.f]
  by_cases h : 4096 < l.length
  · rw [if_pos (by omega), if_pos h]
  · rw [if_neg (by omega), if_neg h]
    have := ref_check_loopF l (by omega) l.length 0 k (by omega) (by omega)
    have this : millraceref02_Check.l0 k l 0 = _ := this
    rw [this, List.drop_zero]
    cases fFirst 0 l with
    | some j => rfl
    | none => rfl
theorem parsedF_len (s : ByteArray) : (parsedF s).1.length ≤ 4096 := by
  rw [parsedF]
  split
  · simp
  · split
    · simp
    · split
      · simp
      · simp; omega

theorem tells_some (l : List S44) (s : ByteArray) (hl : l.length < 8796093022208) : ∃ k, millracelaw02_FaultsTells.f k l s = some true := by
  refine ⟨3 * s.size + 2 * l.length + 90000, ?_⟩
  generalize hk : 3 * s.size + 2 * l.length + 90000 = k
  have hc : millraceplain_CopyFaults.f l = some l := by
    rw [millraceplain_CopyFaults.f, if_pos (by simpa using hl)]; simp
  obtain ⟨v, hv⟩ : ∃ v, faults_Check.f l = some v := ⟨_, rfl⟩
  rw [millracelaw02_FaultsTells.f, hc]
  simp only [Option.bind_some]
  rw [ref_Check_is l k (by omega), num_Print_is l k (by omega), ref_Print_is l k (by omega), num_Parse_is s k (by omega), ref_Parse_is s k (by omega), hv]
  have h1 := parsedF_len s
  simp only [Option.bind_some, millracelaw02_num.f, if_true, same_self _ (show (parsedF s).1.length ≤ 8796093022208 by omega) k (by omega), same_self l (by omega) k (by omega), millracelaw02_alive.f]
theorem text_bound (l : List S44) : (textOf l).size ≤ 67 * l.length := by
  have := text_le l
  rw [textOf, ofL_size]; exact this
theorem back_some (l : List S44) (hl : l.length < 8796093022208) : ∃ k, millracelaw02_FaultsBack.f k l = some true := by
  refine ⟨70 * l.length + 200000, ?_⟩
  generalize hk : 70 * l.length + 200000 = k
  have ht := text_bound l
  rw [millracelaw02_FaultsBack.f, millracelaw02_alive.f]
  simp only [Option.bind_some, if_true]
  rw [num_Print_is l k (by omega)]
  simp only [Option.bind_some, millracelaw02_num.f, printed]
  by_cases h : faultsOk l = 0
  · obtain ⟨h1, h2⟩ := okOf h
    rw [if_pos h]
    simp only [if_true]
    by_cases hs : 65536 < (textOf l).size
    · rw [if_pos (by omega)]
    · rw [if_neg (by omega), num_Parse_is _ k (by omega), parsed_text h1 h2 (by omega)]
      simp only [Option.bind_some, if_true]
      rw [same_self l (by omega) k (by omega)]; rfl
  · rw [if_neg h]
    simp only [if_neg h]
    rw [ByteArray.toList_eq]; rfl
end Go.Proofs.YtbggmdgeanoelaaDoor.Pure
