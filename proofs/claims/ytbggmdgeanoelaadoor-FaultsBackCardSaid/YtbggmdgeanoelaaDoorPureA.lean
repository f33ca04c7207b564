/- Laws of numbers written and read to a base: the two sides of millracelaw01's first laws compute the same. -/
import Derived.Test.YtbggmdgeanoelaaDoorFtx
namespace Go.Proofs.YtbggmdgeanoelaaDoor.Pure
open Go.RowKit Go.Proofs.YtbggmdgeanoelaaDoor.Ft Go.Proofs.YtbggmdgeanoelaaDoorW.PrintWords Go.Proofs.YtbggmdgeanoelaaDoorW.PrintLast
set_option linter.unusedVariables false
set_option linter.unusedSimpArgs false

/-- More rounds tell the same. -/
theorem up {α : Type} (f : Nat → Option α) (m : ∀ k, LeO (f k) (f (k + 1))) {k j : Nat} {r : α} (h : f k = some r) (hkj : k ≤ j) : f j = some r := by
  obtain ⟨d, rfl⟩ := Nat.le.dest hkj
  induction d with
  | zero => exact h
  | succ d ih => exact m _ _ (ih (by omega))

theorem str_list (l : List Int) : (strOfNums l).data.toList = l.map fun n => UInt8.ofNat n.toNat := rfl
theorem str_append (a b : List Int) : strOfNums (a ++ b) = strOfNums a ++ strOfNums b := by
  apply ByteArray.ext; simp [strOfNums]
theorem str_eq_of {a b : ByteArray} (h : a.data.toList = b.data.toList) : a = b := by
  apply ByteArray.ext; exact Array.ext' h
theorem u64_in (n : Int) (h0 : 0 ≤ n) (h : n < 18446744073709551616) : IntKind.u64.wrap n = n := by rw [IntKind.wrap_u64]; omega
theorem size_list (s : ByteArray) : s.data.toList.length = s.size := rfl
theorem bt_cons {s : ByteArray} {pre r : List UInt8} {c : UInt8} (h : s.data.toList = pre ++ c :: r) : bt s (pre.length : Int) = (c.toNat : Int) := by
  have hl : pre.length < s.size := by rw [← size_list, h]; simp
  have he : s[pre.length]'hl = c := by
    have : s.data.toList[pre.length]'(by rw [size_list]; exact hl) = c := by simp [h]
    rw [← this]; simp; rfl
  simp only [bt, Int.toNat_natCast]
  rw [dif_pos hl, he]

/-- The ref's value of a digit. -/
theorem ref_value (k : Nat) (hk : 2 ≤ k) (c : Int) (h0 : 0 ≤ c) (h : c ≤ 255) : millraceref01_value.f k c = some (if numWorth c < 0 then 16 else numWorth c) := by
  have hall : ∀ c : Fin 256, millraceref01_value.f 2 (c.1 : Int) = some (if numWorth (c.1 : Int) < 0 then 16 else numWorth (c.1 : Int)) := by decide +kernel
  have h1 := hall ⟨c.toNat, by omega⟩
  have hc : ((c.toNat : Nat) : Int) = c := by omega
  simp only [hc] at h1
  exact up (fun k => millraceref01_value.f k c) (millraceref01_value.mono c) h1 hk

theorem ref_parse_loop (s : ByteArray) (b : Nat) (hb2 : 2 ≤ b) (hb : b ≤ 16) (hs : s.size ≤ 140737488355327) : ∀ (rest pre : List UInt8) (n k : Nat), s.data.toList = pre ++ rest → n < numTop → rest.length + 3 ≤ k →
    millraceref01_ParseBase.l0 k s (b : Int) (n : Int) (pre.length : Int) = some (numParse b n pre.length rest) := by
  intro rest
  induction rest with
  | nil =>
    intro pre n k hl hn hk
    obtain ⟨k, rfl⟩ : ∃ j, k = j + 1 := ⟨k - 1, by omega⟩
    have hsz : s.size = pre.length := by rw [← size_list, hl]; simp
    simp only [millraceref01_ParseBase.l0, hsz, numParse]
    rw [if_neg (by omega)]
  | cons c r ih =>
    intro pre n k hl hn hk
    obtain ⟨k, rfl⟩ : ∃ j, k = j + 1 := ⟨k - 1, by omega⟩
    have hsz : s.size = pre.length + 1 + r.length := by rw [← size_list, hl]; simp; omega
    simp only [List.length_cons] at hk
    have hc := UInt8.toNat_lt c
    have hv := ref_value k (by omega) (c.toNat : Int) (by omega) (by omega)
    have hw := numWorth_range (c.toNat : Int)
    simp only [millraceref01_ParseBase.l0, bt_cons hl, hv, Option.bind_some]
    rw [if_pos (by omega), if_pos (by omega)]
    simp only [numParse]
    by_cases h1 : numWorth (c.toNat : Int) < 0
    · rw [if_pos h1, if_pos (by omega), if_pos (.inl h1)]
    rw [if_neg h1]
    by_cases h2 : (b : Int) ≤ numWorth (c.toNat : Int)
    · rw [if_pos (by omega), if_pos (.inr h2)]
    rw [if_neg (by omega), if_neg (show ¬ (numWorth (c.toNat : Int) < 0 ∨ (b : Int) ≤ numWorth (c.toNat : Int)) by omega)]
    obtain ⟨d, hd⟩ : ∃ d : Nat, numWorth (c.toNat : Int) = (d : Int) := ⟨(numWorth (c.toNat : Int)).toNat, by omega⟩
    simp only [hd, Int.toNat_natCast]
    have hdb : d < b := by omega
    rw [u64_in (b : Int) (by omega) (by omega), u64_in (d : Int) (by omega) (by omega), u64_in (18446744073709551615 - (d : Int)) (by omega) (by omega), if_neg (by omega)]
    have hq : Int.tdiv (18446744073709551615 - (d : Int)) (b : Int) = (((18446744073709551615 - d) / b : Nat) : Int) := by
      rw [Int.tdiv_eq_ediv_of_nonneg (by omega)]
      have : (18446744073709551615 - (d : Int)) = ((18446744073709551615 - d : Nat) : Int) := by omega
      rw [this]; norm_cast
    have hqle : (18446744073709551615 - d) / b ≤ 18446744073709551615 - d := Nat.div_le_self _ _
    have hiff : ((18446744073709551615 - d) / b < n) ↔ numTop ≤ n * b + d := by
      rw [Nat.div_lt_iff_lt_mul (by omega)]; unfold numTop; omega
    rw [hq]
    generalize (18446744073709551615 - d) / b = q at hqle hiff
    rw [u64_in (q : Int) (by omega) (by omega)]
    by_cases h3 : numTop ≤ n * b + d
    · rw [if_pos (by have := hiff.2 h3; omega), if_pos h3]
    · rw [if_neg (by intro h; exact h3 (hiff.1 (by omega))), if_neg h3]
      have hm : ((n : Int) * (b : Int)) = ((n * b : Nat) : Int) := by norm_cast
      unfold numTop at h3
      rw [hm, u64_in ((n * b : Nat) : Int) (by omega) (by omega), u64_in _ (by omega) (by omega)]
      have := ih (pre ++ [c]) (n * b + d) k (by simp [hl]) (by unfold numTop; omega) (by omega)
      simp only [List.length_append, List.length_singleton] at this
      rw [← this]
      have e1 : wrap64 ((pre.length : Int) + 1) = ((pre.length + 1 : Nat) : Int) := by unfold wrap64; omega
      rw [e1]; norm_cast

/-- ParseBase: the two sides. -/
theorem ref_ParseBase (k : Nat) (s : ByteArray) (b : Int) (hs : s.size ≤ 140737488355327) (hk : s.size + 5 ≤ k) : millraceref01_ParseBase.f k s b = num_ParseBase.f s b := by
  obtain ⟨k, rfl⟩ : ∃ j, k = j + 1 := ⟨k - 1, by omega⟩
  simp only [millraceref01_ParseBase.f, num_ParseBase.f, millraceref01_ParseBase.j0]
  rw [if_pos (by omega : s.size ≤ 9223372036854775807)]
  by_cases h1 : b < 2
  · rw [if_pos h1, if_pos trivial, if_pos (.inl h1)]
  by_cases h2 : 16 < b
  · rw [if_neg h1, if_pos (show decide (b > 16) = true by simpa using h2), if_pos (.inr h2)]
  rw [if_neg h1, if_neg (show ¬ decide (b > 16) = true by simpa using h2), if_neg (show ¬ (b < 2 ∨ 16 < b) by omega)]
  by_cases h3 : s.size = 0
  · rw [if_pos h3, if_pos]
    rw [ByteArray.toList_eq]; rw [← size_list] at h3; exact List.eq_nil_of_length_eq_zero h3
  rw [if_neg h3, if_neg]
  · have := ref_parse_loop s b.toNat (by omega) (by omega) hs s.data.toList [] 0 k (by simp) (by decide) (by rw [size_list]; omega)
    have hb : ((b.toNat : Nat) : Int) = b := by omega
    rw [hb] at this; simpa using this
  · intro h; rw [ByteArray.toList_eq] at h; rw [← size_list, h] at h3; simp at h3

theorem bt_digit (d : Nat) (h : d < 16) : bt (⟨#[48, 49, 50, 51, 52, 53, 54, 55, 56, 57, 97, 98, 99, 100, 101, 102]⟩ : ByteArray) (d : Int) = numChr d := by
  simp only [bt, Int.toNat_natCast]
  have h' : d < (⟨#[48, 49, 50, 51, 52, 53, 54, 55, 56, 57, 97, 98, 99, 100, 101, 102]⟩ : ByteArray).size := h
  rw [dif_pos h']; exact numChr_at d h

theorem ref_places_loop (b : Nat) (hb2 : 2 ≤ b) (hb : b ≤ 16) : ∀ (f n : Nat) (acc : ByteArray) (k : Nat), n < 2 ^ (f + 1) → f ≤ 63 → acc.size + f ≤ 1000 → f + 1 ≤ k →
    millraceref01_Places.l0 k (n : Int) (b : Int) acc = some (strOfNums (numDigs b (f + 1) n).reverse ++ acc) := by
  intro f
  induction f with
  | zero =>
    intro n acc k hn hf ha hk
    obtain ⟨k, rfl⟩ : ∃ j, k = j + 1 := ⟨k - 1, by omega⟩
    have hmod : n % b < b := Nat.mod_lt _ (by omega)
    have hq : n / b = 0 := Nat.div_eq_of_lt (by omega)
    have e1 : Int.tmod (n : Int) (b : Int) = ((n % b : Nat) : Int) := by rw [Int.tmod_eq_emod_of_nonneg (by omega)]; norm_cast
    have e2 : Int.tdiv (n : Int) (b : Int) = ((n / b : Nat) : Int) := by rw [Int.tdiv_eq_ediv_of_nonneg (by omega)]; norm_cast
    simp only [millraceref01_Places.l0]
    have hbt := bt_digit (n % b) (by omega)
    rw [u64_in (b : Int) (by omega) (by omega), e1, e2, hq, u64_in _ (by omega) (by omega), if_neg (by omega), if_pos (by omega), if_pos (by omega), hbt]
    simp only [Option.bind_some, strOfNums_size, List.length_singleton]
    rw [if_pos (by omega), if_pos (by simp), numDigs_zero hq]
    simp
  | succ f ih =>
    intro n acc k hn hf ha hk
    obtain ⟨k, rfl⟩ : ∃ j, k = j + 1 := ⟨k - 1, by omega⟩
    have hmod : n % b < b := Nat.mod_lt _ (by omega)
    have hdiv : n / b < 2 ^ (f + 1) := by
      apply Nat.div_lt_of_lt_mul
      calc n < 2 ^ (f + 1 + 1) := hn
        _ = 2 * 2 ^ (f + 1) := by rw [Nat.pow_succ]; omega
        _ ≤ b * 2 ^ (f + 1) := Nat.mul_le_mul_right _ hb2
    have hn64 : n / b < 18446744073709551616 := Nat.lt_of_lt_of_le hdiv (Nat.le_trans (Nat.pow_le_pow_right (by omega) (by omega : f + 1 ≤ 64)) (by decide))
    have e1 : Int.tmod (n : Int) (b : Int) = ((n % b : Nat) : Int) := by rw [Int.tmod_eq_emod_of_nonneg (by omega)]; norm_cast
    have e2 : Int.tdiv (n : Int) (b : Int) = ((n / b : Nat) : Int) := by rw [Int.tdiv_eq_ediv_of_nonneg (by omega)]; norm_cast
    have hbt := bt_digit (n % b) (by omega)
    have hz : n / b = 0 → numDigs b (f + 1 + 1) n = [numChr (n % b)] := numDigs_zero
    have hmo : ¬ n / b = 0 → numDigs b (f + 1 + 1) n = numChr (n % b) :: numDigs b (f + 1) (n / b) := numDigs_more
    have ih' := ih (n / b)
    simp only [millraceref01_Places.l0]
    rw [u64_in (b : Int) (by omega) (by omega), e1, e2]
    generalize n / b = q at *
    generalize n % b = r at *
    rw [u64_in (q : Int) (by omega) (by omega), if_neg (by omega), if_pos (by omega), if_pos (by omega), hbt]
    simp only [Option.bind_some, strOfNums_size, List.length_singleton]
    rw [if_pos (by omega)]
    by_cases hq : q = 0
    · rw [if_pos (by omega), hz hq]; simp
    · rw [if_neg (by omega), hmo hq, ih' _ k hdiv (by omega) (by simp [ByteArray.size_append, strOfNums_size]; omega) (by omega)]
      rw [List.reverse_cons, str_append, ByteArray.append_assoc]

theorem ref_Places (k : Nat) (n b : Int) (hk : 64 ≤ k) (hn : 0 ≤ n) (hn2 : n.toNat < 2 ^ 64) (hb2 : 2 ≤ b) (hb : b ≤ 16) : millraceref01_Places.f k n b = num_written.f n b := by
  have := ref_places_loop b.toNat (by omega) (by omega) 63 n.toNat ⟨#[]⟩ k hn2 (by omega) (by simp [ByteArray.size]) hk
  have e1 : ((n.toNat : Nat) : Int) = n := by omega
  have e2 : ((b.toNat : Nat) : Int) = b := by omega
  rw [e1, e2] at this
  rw [millraceref01_Places.f, this, num_written.f, if_pos ⟨hb2, hb, hn, hn2⟩]
  congr 1
  apply str_eq_of; simp

/-- A whole number in decimal. -/
def decOf (a : Int) : ByteArray := if a < 0 then ⟨#[45]⟩ ++ strOfNums (numDigs 10 64 (-a).toNat).reverse else strOfNums (numDigs 10 64 a.toNat).reverse
theorem written_10 (n : Int) (h0 : 0 ≤ n) (h : n < 18446744073709551616) : num_written.f n 10 = some (strOfNums (numDigs 10 64 n.toNat).reverse) := by
  rw [num_written.f, if_pos ⟨by omega, by omega, h0, by omega⟩]; rfl
theorem digs_size (b n : Nat) : (strOfNums (numDigs b 64 n).reverse).size ≤ 64 := by
  rw [strOfNums_size, List.length_reverse]; exact numDigs_len b 64 n
theorem num_Decimal_is (a : Int) (h0 : -9223372036854775808 ≤ a) (h : a ≤ 9223372036854775807) : num_Decimal.f a = some (decOf a) := by
  simp only [num_Decimal.f, decOf]
  by_cases hn : a < 0
  · have e : IntKind.u64.wrap (-(IntKind.u64.wrap a)) = -a := by simp only [IntKind.wrap_u64]; omega
    rw [if_pos hn, if_pos hn, e, written_10 _ (by omega) (by omega)]
    simp only [Option.bind_some]
    have := digs_size 10 (-a).toNat
    rw [if_pos (by omega)]
  · rw [if_neg hn, if_neg hn, u64_in a (by omega) (by omega), written_10 _ (by omega) (by omega)]; rfl
theorem ref_Decimal_is (k : Nat) (hk : 64 ≤ k) (a : Int) (h0 : -9223372036854775808 ≤ a) (h : a ≤ 9223372036854775807) : millraceref01_Decimal.f k a = some (decOf a) := by
  simp only [millraceref01_Decimal.f, decOf]
  by_cases hn : a < 0
  · have e : IntKind.u64.wrap ((IntKind.u64.wrap (wrap64 (-(wrap64 (a + 1))))) + 1) = -a := by simp only [IntKind.wrap_u64, wrap64]; omega
    rw [if_pos hn, if_pos hn, e, ref_Places k _ 10 hk (by omega) (by omega) (by omega) (by omega), written_10 _ (by omega) (by omega)]
    simp only [Option.bind_some]
    have := digs_size 10 (-a).toNat
    rw [if_pos (by omega)]
  · rw [if_neg hn, if_neg hn, u64_in a (by omega) (by omega), ref_Places k _ 10 hk (by omega) (by omega) (by omega) (by omega), written_10 _ (by omega) (by omega)]; rfl

theorem numDigs_chr (b : Nat) (hb : 2 ≤ b) (hb16 : b ≤ 16) : ∀ f n, ∀ c ∈ numDigs b f n, 48 ≤ c ∧ c ≤ 102 := by
  intro f
  induction f with
  | zero => intro n c hc; simp [numDigs] at hc
  | succ f ih =>
    intro n c hc
    simp only [numDigs, List.mem_cons] at hc
    rcases hc with h | h
    · have := Nat.mod_lt n (by omega : b > 0)
      subst h; unfold numChr; split <;> omega
    · split at h
      · simp at h
      · exact ih _ _ h
theorem numDigs_ne (b f n : Nat) : numDigs b (f + 1) n ≠ [] := by simp [numDigs]

/-- The first byte of a decimal. -/
theorem decOf_neg (a : Int) (h : a < 0) : (decOf a).data.toList.head? = some 45 := by
  rw [decOf, if_pos h]; simp
theorem decOf_pos (a : Int) (h : 0 ≤ a) : (decOf a).data.toList.head? ≠ some 45 := by
  rw [decOf, if_neg (by omega), str_list]
  intro hh
  have hm := List.mem_of_head? hh
  simp only [List.mem_map, List.mem_reverse] at hm
  obtain ⟨c, hc, he⟩ := hm
  have := numDigs_chr 10 (by omega) (by omega) _ _ _ hc
  have h2 := congrArg UInt8.toNat he
  simp at h2
  omega

/-- ParseBase of a decimal text. -/
def pbOf (t : ByteArray) : Int × Int × Int := if t.size = 0 then (0, 8, 0) else numParse 10 0 0 t.data.toList
theorem num_pb (t : ByteArray) (h : t.size ≤ 140737488355327) : num_ParseBase.f t 10 = some (pbOf t) := by
  simp [num_ParseBase.f, pbOf]; omega
theorem numParse_range (b : Nat) : ∀ (l : List UInt8) (n i : Nat), n < numTop → 0 ≤ (numParse b n i l).1 ∧ (numParse b n i l).1 < 18446744073709551616 := by
  intro l
  induction l with
  | nil => intro n i h; unfold numTop at h; simp only [numParse]; omega
  | cons c r ih =>
    intro n i h
    simp only [numParse]
    split
    · simp
    · split
      · simp
      · rename_i h2; exact ih _ _ (by omega)
theorem pbOf_range (t : ByteArray) : 0 ≤ (pbOf t).1 ∧ (pbOf t).1 < 18446744073709551616 := by
  unfold pbOf; split
  · simp
  · exact numParse_range _ _ _ _ (by decide)

/-- What ParseInt tells, of a text s that begins with a sign or not, and whose rest is t. -/
def intOf (s t : ByteArray) (m : Bool) : Int × Int :=
  if (pbOf t).2.1 ≠ 0 ∨ 19 < t.size then (0, 11) else
  let x := if m then wrap64 (IntKind.u64.wrap (-(pbOf t).1)) else wrap64 (pbOf t).1
  if decOf x = s then (x, 0) else (0, 11)

theorem toList_iff (a b : ByteArray) : a.toList = b.toList ↔ a = b := by
  rw [ByteArray.toList_eq, ByteArray.toList_eq]; exact ⟨str_eq_of, fun h => by rw [h]⟩
theorem wrap_lo (n : Int) : -9223372036854775808 ≤ wrap64 n := by unfold wrap64; omega
theorem wrap_hi (n : Int) : wrap64 n ≤ 9223372036854775807 := by unfold wrap64; omega

theorem num_int_j1 (k : Nat) (s t : ByteArray) (m : Bool) (ht : t.size ≤ 140737488355327) : num_ParseInt.j1 (k + 2) s t m = some (intOf s t m) := by
  simp only [num_ParseInt.j1, num_ParseInt.j2, num_pb t ht, Option.bind_some, intOf]
  by_cases h1 : (pbOf t).2.1 = 0
  · rw [if_pos h1]
    by_cases h2 : 19 < t.size
    · rw [if_pos (by simp; omega), if_pos (.inr h2)]
    · rw [if_neg (by simp; omega), if_neg (show ¬ ((pbOf t).2.1 ≠ 0 ∨ 19 < t.size) by simp [h1]; omega)]
      cases m
      · simp only [Bool.false_eq_true, if_false, num_Decimal_is _ (wrap_lo _) (wrap_hi _), Option.bind_some, toList_iff]
        split <;> rfl
      · simp only [if_true, num_Decimal_is _ (wrap_lo _) (wrap_hi _), Option.bind_some, toList_iff]
        split <;> rfl
  · rw [if_neg h1, if_pos trivial, if_pos (.inl h1)]

theorem ref_int_j1 (k : Nat) (s : ByteArray) (m : Bool) (hs : s.size ≤ 140737488355327) (hk : s.size + 70 ≤ k) (hm : m = true ↔ s.data.toList.head? = some 45) (j : Int) (hj : j = if m then 1 else 0) :
    millraceref01_ParseInt.j1 k s j = some (intOf s (if m then s.extract 1 s.size else s) m) := by
  obtain ⟨k, rfl⟩ : ∃ i, k = i + 3 := ⟨k - 3, by omega⟩
  obtain ⟨t, ht⟩ : ∃ t, t = (if m then s.extract 1 s.size else s) := ⟨_, rfl⟩
  have hj0 : 0 ≤ j ∧ j ≤ 1 := by subst hj; split <;> omega
  have hjs : j ≤ s.size := by
    subst hj; split
    · rename_i h
      have := hm.1 h
      rw [← size_list]
      cases hh : s.data.toList with
      | nil => rw [hh] at this; simp at this
      | cons a l => simp; omega
    · omega
  have htx : s.extract j.toNat s.size = t := by
    subst hj; subst ht; cases m <;> simp
  have htsz : t.size = s.size - j.toNat := by rw [← htx]; simp
  have hw : wrap64 ((s.size : Int) - j) = (t.size : Int) := by unfold wrap64; omega
  rw [← ht]
  simp only [millraceref01_ParseInt.j1, millraceref01_ParseInt.j2, hw, htx]
  have hp := ref_ParseBase (k + 1) t 10 (by omega) (by omega)
  rw [num_pb t (by omega)] at hp
  by_cases h1 : t.size = 0
  · rw [if_pos (by omega), if_pos trivial, intOf, if_pos]
    left; simp [pbOf, h1]
  rw [if_neg (by omega)]
  by_cases h2 : 19 < t.size
  · rw [if_pos (by simp; omega), intOf, if_pos (.inr h2)]
  rw [if_neg (by simp; omega), if_pos hj0.1, if_pos hjs, hp]
  simp only [Option.bind_some]
  have hr := pbOf_range t
  obtain ⟨p, hpp⟩ : ∃ p, p = pbOf t := ⟨_, rfl⟩
  rw [← hpp] at hr ⊢
  by_cases h3' : ¬ p.2.1 = 0
  · rw [if_neg h3', millraceref01_ParseInt.j3, if_pos rfl, intOf, ← hpp, if_pos (.inl h3')]
  have h3 : p.2.1 = 0 := by omega
  rw [if_pos h3]
  have hint : intOf s t m = if decOf (if m then wrap64 (IntKind.u64.wrap (-p.1)) else wrap64 p.1) = s then (if m then wrap64 (IntKind.u64.wrap (-p.1)) else wrap64 p.1, 0) else (0, 11) := by
    rw [intOf, ← hpp, if_neg (by simp [h3]; omega)]
  rw [hint]
  cases m with
  | false =>
    simp only [Bool.false_eq_true, if_false] at hj hm ⊢
    subst hj
    have hne : p.1 ≥ 9223372036854775808 → ¬ decOf (wrap64 p.1) = s := by
      intro hge he
      have := decOf_neg (wrap64 p.1) (by unfold wrap64; omega)
      rw [he] at this
      exact absurd (hm.2 this) (by simp)
    by_cases h4 : p.1 > 9223372036854775808
    · rw [if_pos h4, millraceref01_ParseInt.j3, if_pos rfl, if_neg (hne (by omega))]
    rw [if_neg h4, if_pos rfl, millraceref01_ParseInt.j3]
    by_cases h5 : p.1 = 9223372036854775808
    · rw [if_pos (by simp [h5]), if_neg (hne (by omega))]
    · rw [if_neg (by simp [h5]), if_pos rfl, ref_Decimal_is _ (by omega) _ (wrap_lo _) (wrap_hi _)]
      simp only [Option.bind_some, toList_iff]
      split <;> rfl
  | true =>
    simp only [if_true] at hj ⊢
    subst hj
    have hh := hm.1 rfl
    have hne : p.1 > 9223372036854775808 → ¬ decOf (wrap64 (IntKind.u64.wrap (-p.1))) = s := by
      intro hge he
      have := decOf_pos (wrap64 (IntKind.u64.wrap (-p.1))) (by simp only [IntKind.wrap_u64, wrap64]; omega)
      rw [he] at this
      exact this hh
    by_cases h4 : p.1 > 9223372036854775808
    · rw [if_pos h4, millraceref01_ParseInt.j3, if_pos rfl, if_neg (hne h4)]
    rw [if_neg h4, if_neg (by omega), millraceref01_ParseInt.j3, if_neg (by simp), if_neg (by omega)]
    by_cases h5 : p.1 > 0
    · have e1 : wrap64 ((wrap64 (-(wrap64 (IntKind.u64.wrap (p.1 - 1))))) - 1) = wrap64 (IntKind.u64.wrap (-p.1)) := by simp only [IntKind.wrap_u64, wrap64]; omega
      rw [if_pos h5, e1, ref_Decimal_is _ (by omega) _ (wrap_lo _) (wrap_hi _)]
      simp only [Option.bind_some, toList_iff]
      split <;> rfl
    · have e1 : wrap64 (IntKind.u64.wrap (-p.1)) = 0 := by simp only [IntKind.wrap_u64, wrap64]; omega
      rw [if_neg h5, e1, ref_Decimal_is _ (by omega) _ (by omega) (by omega)]
      simp only [Option.bind_some, toList_iff]
      split <;> rfl

theorem head_bt (s : ByteArray) (h : 0 < s.size) : (bt s 0 == 45) = true ↔ s.data.toList.head? = some 45 := by
  cases hh : s.data.toList with
  | nil => rw [← size_list, hh] at h; simp at h
  | cons a l =>
    have := bt_cons (s := s) (pre := []) (c := a) (r := l) (by simp [hh])
    have this : bt s 0 = (a.toNat : Int) := this
    rw [this]
    simp
    constructor
    · intro h1; apply UInt8.toNat_inj.1; simp; omega
    · intro h1; subst h1; rfl

/-- ParseInt: what both tell. -/
def parsed (s : ByteArray) : Int × Int := if s.data.toList.head? = some 45 then intOf s (s.extract 1 s.size) true else intOf s s false
theorem num_ParseInt_is (k : Nat) (hk : 3 ≤ k) (s : ByteArray) (hs : s.size ≤ 140737488355327) : num_ParseInt.f k s = some (parsed s) := by
  obtain ⟨k, rfl⟩ : ∃ i, k = i + 3 := ⟨k - 3, by omega⟩
  simp only [num_ParseInt.f, num_ParseInt.j0, parsed]
  by_cases h : 0 < s.size
  · rw [if_pos (by omega), if_pos (by omega)]
    by_cases h1 : s.data.toList.head? = some 45
    · rw [if_pos ((head_bt s h).2 h1), if_pos (by omega), if_pos h1, num_int_j1 k s _ true (by simp; omega)]
    · rw [if_neg (fun hh => h1 ((head_bt s h).1 hh)), if_neg h1, num_int_j1 k s s false hs]
  · rw [if_neg (by omega), if_neg (by simp), num_int_j1 k s s false hs, if_neg]
    have : s.data.toList = [] := List.eq_nil_of_length_eq_zero (by rw [size_list]; omega)
    simp [this]
theorem ref_ParseInt_is (k : Nat) (s : ByteArray) (hs : s.size ≤ 140737488355327) (hk : s.size + 80 ≤ k) : millraceref01_ParseInt.f k s = some (parsed s) := by
  obtain ⟨k, rfl⟩ : ∃ i, k = i + 1 := ⟨k - 1, by omega⟩
  simp only [millraceref01_ParseInt.f, millraceref01_ParseInt.j0, parsed]
  by_cases h : 0 < s.size
  · rw [if_pos (by omega), if_pos (by omega)]
    by_cases h1 : s.data.toList.head? = some 45
    · rw [if_pos ((head_bt s h).2 h1), if_pos h1, ref_int_j1 k s true hs (by omega) (by simp [h1]) 1 rfl]; rfl
    · rw [if_neg (fun hh => h1 ((head_bt s h).1 hh)), if_neg h1, ref_int_j1 k s false hs (by omega) (by simp [h1]) 0 rfl]; rfl
  · have hn : s.data.toList = [] := List.eq_nil_of_length_eq_zero (by rw [size_list]; omega)
    rw [if_neg (by omega), if_neg (by simp), ref_int_j1 k s false hs (by omega) (by simp [hn]) 0 rfl, if_neg (show ¬ s.data.toList.head? = some 45 by simp [hn])]; rfl

end Go.Proofs.YtbggmdgeanoelaaDoor.Pure
