/- Laws of numbers written and read to a base: the two sides of millracelaw01's first laws compute the same. -/
import Derived.Test.YthmijenlndnmcaaGreatDoorShx3
import Derived.Test.YthmijenlndnmcaaGreatDoorShx4
import Derived.Test.YthmijenlndnmcaaGreatDoorShx5
import Derived.Test.YthmijenlndnmcaaGreatDoorShx6
import Derived.Test.YthmijenlndnmcaaGreatDoorHK
import Derived.Test.YthmijenlndnmcaaGreatDoorShx0
namespace Go.Proofs.YthmijenlndnmcaaGreatDoor.Pure
open Go.RowKit Go.Proofs.YthmijenlndnmcaaGreatDoor.Sh Go.Proofs.YthmijenlndnmcaaGreatDoorW.PrintWords Go.Proofs.YthmijenlndnmcaaGreatDoorW.PrintLast
set_option linter.unusedVariables false
set_option linter.unusedSimpArgs false
theorem up {α : Type} (f : Nat → Option α) (m : ∀ k, LeO (f k) (f (k + 1))) {k j : Nat} {r : α} (h : f k = some r) (hkj : k ≤ j) : f j = some r := by
  obtain ⟨d, rfl⟩ := Nat.le.dest hkj
  induction d with
  | zero => exact h
  | succ d ih => exact m _ _ (ih (by omega))
theorem str_list (l : List Int) : (strOfNums l).data.toList = l.map fun n => UInt8.ofNat n.toNat := rfl
theorem str_eq_of {a b : ByteArray} (h : a.data.toList = b.data.toList) : a = b := by
  apply ByteArray.ext; exact Array.ext' h
theorem u64_in (n : Int) (h0 : 0 ≤ n) (h : n < 18446744073709551616) : IntKind.u64.wrap n = n := by rw [IntKind.wrap_u64]; omega
theorem size_list (s : ByteArray) : s.data.toList.length = s.size := rfl
theorem bt_cons {s : ByteArray} {pre r : List UInt8} {c : UInt8} (h : s.data.toList = pre ++ c :: r) : bt s (pre.length : Int) = (c.toNat : Int) := by
  have hl : pre.length < s.size := by rw [← size_list, h]; simp
  have he : s[pre.length]'hl = c := by
    have : s.data.toList[pre.length]'(by rw [size_list]; exact hl) = c := by simp [h]
    rw [← this]; simp; rfl
  simp only [bt, Int.toNat_natCast]
  rw [dif_pos hl, he]
def decOf (a : Int) : ByteArray := if a < 0 then ⟨#[45]⟩ ++ strOfNums (numDigs 10 64 (-a).toNat).reverse else strOfNums (numDigs 10 64 a.toNat).reverse
theorem written_10 (n : Int) (h0 : 0 ≤ n) (h : n < 18446744073709551616) : num_written.f n 10 = some (strOfNums (numDigs 10 64 n.toNat).reverse) := by
  rw [num_written.f, if_pos ⟨by omega, by omega, h0, by omega⟩]; rfl
theorem digs_size (b n : Nat) : (strOfNums (numDigs b 64 n).reverse).size ≤ 64 := by
  rw [strOfNums_size, List.length_reverse]; exact numDigs_len b 64 n
theorem num_Decimal_is (a : Int) (h0 : -9223372036854775808 ≤ a) (h : a ≤ 9223372036854775807) : num_Decimal.f a = some (decOf a) := by
  simp only [num_Decimal.f, decOf]
  by_cases hn : a < 0
  · have e : IntKind.u64.wrap (-(IntKind.u64.wrap a)) = -a := by simp only [IntKind.wrap_u64]; omega
    rw [if_pos hn, if_pos hn, e, written_10 _ (by omega) (by omega)]
    simp only [Option.bind_some]
    have := digs_size 10 (-a).toNat
    rw [if_pos (by omega)]
  · rw [if_neg hn, if_neg hn, u64_in a (by omega) (by omega), written_10 _ (by omega) (by omega)]; rfl
theorem numDigs_chr (b : Nat) (hb : 2 ≤ b) (hb16 : b ≤ 16) : ∀ f n, ∀ c ∈ numDigs b f n, 48 ≤ c ∧ c ≤ 102 := by
  intro f
  induction f with
  | zero => intro n c hc; simp [numDigs] at hc
  | succ f ih =>
    intro n c hc
    simp only [numDigs, List.mem_cons] at hc
    rcases hc with h | h
    · have := Nat.mod_lt n (by omega : b > 0)
      subst h; unfold numChr; split <;> omega
    · split at h
      · simp at h
      · exact ih _ _ h
theorem decOf_neg (a : Int) (h : a < 0) : (decOf a).data.toList.head? = some 45 := by
  rw [decOf, if_pos h]; simp
theorem decOf_pos (a : Int) (h : 0 ≤ a) : (decOf a).data.toList.head? ≠ some 45 := by
  rw [decOf, if_neg (by omega), str_list]
  intro hh
  have hm := List.mem_of_head? hh
  simp only [List.mem_map, List.mem_reverse] at hm
  obtain ⟨c, hc, he⟩ := hm
  have := numDigs_chr 10 (by omega) (by omega) _ _ _ hc
  have h2 := congrArg UInt8.toNat he
  simp at h2
  omega
def pbOf (t : ByteArray) : Int × Int × Int := if t.size = 0 then (0, 8, 0) else numParse 10 0 0 t.data.toList
theorem num_pb (t : ByteArray) (h : t.size ≤ 140737488355327) : num_ParseBase.f t 10 = some (pbOf t) := by
  simp [num_ParseBase.f, pbOf]; omega
def intOf (s t : ByteArray) (m : Bool) : Int × Int :=
  if (pbOf t).2.1 ≠ 0 ∨ 19 < t.size then (0, 11) else
  let x := if m then wrap64 (IntKind.u64.wrap (-(pbOf t).1)) else wrap64 (pbOf t).1
  if decOf x = s then (x, 0) else (0, 11)
theorem toList_iff (a b : ByteArray) : a.toList = b.toList ↔ a = b := by
  rw [ByteArray.toList_eq, ByteArray.toList_eq]; exact ⟨str_eq_of, fun h => by rw [h]⟩
theorem wrap_lo (n : Int) : -9223372036854775808 ≤ wrap64 n := by unfold wrap64; omega
theorem wrap_hi (n : Int) : wrap64 n ≤ 9223372036854775807 := by unfold wrap64; omega
theorem num_int_j1 (k : Nat) (s t : ByteArray) (m : Bool) (ht : t.size ≤ 140737488355327) : num_ParseInt.j1 (k + 2) s t m = some (intOf s t m) := by
  simp only [num_ParseInt.j1, num_ParseInt.j2, num_pb t ht, Option.bind_some, intOf]
  by_cases h1 : (pbOf t).2.1 = 0
  · rw [if_pos h1]
    by_cases h2 : 19 < t.size
    · rw [if_pos (by simp; omega), if_pos (.inr h2)]
    · rw [if_neg (by simp; omega), if_neg (show ¬ ((pbOf t).2.1 ≠ 0 ∨ 19 < t.size) by simp [h1]; omega)]
      cases m
      · simp only [Bool.false_eq_true, if_false, num_Decimal_is _ (wrap_lo _) (wrap_hi _), Option.bind_some, toList_iff]
        split <;> rfl
      · simp only [if_true, num_Decimal_is _ (wrap_lo _) (wrap_hi _), Option.bind_some, toList_iff]
        split <;> rfl
  · rw [if_neg h1, if_pos trivial, if_pos (.inl h1)]
theorem head_bt (s : ByteArray) (h : 0 < s.size) : (bt s 0 == 45) = true ↔ s.data.toList.head? = some 45 := by
  cases hh : s.data.toList with
  | nil => rw [← size_list, hh] at h; simp at h
  | cons a l =>
    have := bt_cons (s := s) (pre := []) (c := a) (r := l) (by simp [hh])
    have this : bt s 0 = (a.toNat : Int) := this
    rw [this]
    simp
    constructor
    · intro h1; apply UInt8.toNat_inj.1; simp; omega
    · intro h1; subst h1; rfl
def parsed (s : ByteArray) : Int × Int := if s.data.toList.head? = some 45 then intOf s (s.extract 1 s.size) true else intOf s s false
theorem num_ParseInt_is (k : Nat) (hk : 3 ≤ k) (s : ByteArray) (hs : s.size ≤ 140737488355327) : num_ParseInt.f k s = some (parsed s) := by
  obtain ⟨k, rfl⟩ : ∃ i, k = i + 3 := ⟨k - 3, by omega⟩
  simp only [num_ParseInt.f, num_ParseInt.j0, parsed]
  by_cases h : 0 < s.size
  · rw [if_pos (by omega), if_pos (by omega)]
    by_cases h1 : s.data.toList.head? = some 45
    · rw [if_pos ((head_bt s h).2 h1), if_pos (by omega), if_pos h1, num_int_j1 k s _ true (by simp; omega)]
    · rw [if_neg (fun hh => h1 ((head_bt s h).1 hh)), if_neg h1, num_int_j1 k s s false hs]
  · rw [if_neg (by omega), if_neg (by simp), num_int_j1 k s s false hs, if_neg]
    have : s.data.toList = [] := List.eq_nil_of_length_eq_zero (by rw [size_list]; omega)
    simp [this]
end Go.Proofs.YthmijenlndnmcaaGreatDoor.Pure
