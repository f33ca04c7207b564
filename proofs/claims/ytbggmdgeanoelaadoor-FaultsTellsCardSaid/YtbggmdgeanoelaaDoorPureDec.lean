/- Laws of the decimal read back. -/
import Derived.Test.YtbggmdgeanoelaaDoorPureB
namespace Go.Proofs.YtbggmdgeanoelaaDoor.Pure
open Go.RowKit Go.Proofs.YtbggmdgeanoelaaDoor.Ft Go.Proofs.YtbggmdgeanoelaaDoorW.PrintWords Go.Proofs.YtbggmdgeanoelaaDoorW.PrintLast
set_option linter.unusedVariables false
set_option linter.unusedSimpArgs false

/-- A decimal of at most 19 digits. -/
theorem digNums_len (L n : Nat) (h : n < 10 ^ (L + 1)) : ∀ f, (digNums 10 f n).length ≤ L + 1 := by
  induction L generalizing n with
  | zero =>
    intro f
    cases f with
    | zero => simp [digNums]
    | succ f => simp only [digNums]; rw [if_pos (by omega)]; simp
  | succ L ih =>
    intro f
    cases f with
    | zero => simp [digNums]
    | succ f =>
      simp only [digNums, List.length_cons]
      split
      · simp
      · have := ih (n / 10) (by rw [Nat.pow_succ] at h; omega) f
        omega
theorem txt_19 (n : Nat) (h : n < 10000000000000000000) : (txt 10 n).size ≤ 19 := by
  rw [txt_size]; exact digNums_len 18 n (by simpa using h) 64
theorem pbOf_txt (n : Nat) (h : n < 2 ^ 64) : pbOf (txt 10 n) = ((n : Int), 0, ((txt 10 n).size : Int)) := by
  have h1 := read_back 10 n (by omega) (by omega) h
  have h2 := num_pb (txt 10 n) (by have := txt_le 10 n; omega)
  have h3 : num_ParseBase.f (txt 10 n) ((10 : Nat) : Int) = some (pbOf (txt 10 n)) := h2
  rw [h1] at h3
  exact (Option.some.inj h3).symm

/-- A whole number written in decimal is read back. -/
theorem parsed_dec (a : Int) (h0 : -9223372036854775808 ≤ a) (h : a ≤ 9223372036854775807) : parsed (decOf a) = (a, 0) := by
  rw [parsed]
  by_cases hn : a < 0
  · rw [if_pos (decOf_neg a hn)]
    have hd : decOf a = ⟨#[45]⟩ ++ txt 10 (-a).toNat := by rw [decOf, if_pos hn]; rfl
    have hx : (decOf a).extract 1 (decOf a).size = txt 10 (-a).toNat := by
      have hl : (decOf a).data.toList = 45 :: (txt 10 (-a).toNat).data.toList := by rw [hd]; simp
      apply str_eq_of
      rw [ByteArray.data_extract, Array.toList_extract, hl, ← size_list, hl]
      simp only [List.extract, List.drop_one, List.tail_cons, List.length_cons, Nat.add_sub_cancel]
      exact List.take_length
    have hs := txt_19 (-a).toNat (by omega)
    rw [hx, intOf, pbOf_txt _ (by omega), if_neg (by simp; omega)]
    have e : wrap64 (IntKind.u64.wrap (-(((-a).toNat : Nat) : Int))) = a := by simp only [IntKind.wrap_u64, wrap64]; omega
    simp only [if_true, e]
  · rw [if_neg (decOf_pos a (by omega))]
    have hd : decOf a = txt 10 a.toNat := by rw [decOf, if_neg hn]; rfl
    have hs := txt_19 a.toNat (by omega)
    have hp := pbOf_txt a.toNat (by omega)
    rw [← hd] at hs hp
    rw [intOf, hp, if_neg (by simp; omega)]
    have e : wrap64 ((a.toNat : Nat) : Int) = a := by unfold wrap64; omega
    simp only [Bool.false_eq_true, if_false, e, if_true]

end Go.Proofs.YtbggmdgeanoelaaDoor.Pure
