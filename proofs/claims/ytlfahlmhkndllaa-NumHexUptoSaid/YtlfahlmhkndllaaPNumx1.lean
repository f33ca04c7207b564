-- Written by wip/tools/xprint.py of this work (the kit's print with contracts of its own).
import Derived.Test.YtlfahlmhkndllaaPNumx0
namespace Go.Proofs.Ytlfahlmhkndllaa.PNum
open Go.RowKit Go.Proofs.YtlfahlmhkndllaaW.PrintWords Go.Proofs.YtlfahlmhkndllaaW.PrintLast Go.Proofs.YtlfahlmhkndllaaW.PrintMore
attribute [local go_sem] max2_int min2_int max_two min_two max_three min_three max_four min_four   -- for this text's walks alone
set_option linter.unusedVariables false
set_option linter.unusedSimpArgs false

-- NOT PRINTED: function 36 (bytealg_IndexByte)

-- NOT PRINTED: function 33 (bytes_IndexByte)

/-! ### num_worth: function 26 -/
-- STUB millrace/num.worth | u8 | i64 | 0 | 1 | num_worth
/-- What a digit is worth; -1: it is none. -/
def numWorth (c : Int) : Int := if 48 ≤ c ∧ c ≤ 57 then c - 48 else if 97 ≤ c ∧ c ≤ 102 then c - 87 else if 65 ≤ c ∧ c ≤ 70 then c - 55 else -1
theorem numWorth_range (c : Int) : -1 ≤ numWorth c ∧ numWorth c ≤ 15 := by unfold numWorth; repeat' split <;> omega
def numSigns : List Int := [48, 49, 50, 51, 52, 53, 54, 55, 56, 57, 97, 98, 99, 100, 101, 102]
theorem numWorth_small (c : Fin 256) (h : ¬ (65 ≤ c.1 ∧ c.1 ≤ 70)) : Lib.indexByte (Lib.bytesOf numSigns) ((c.1 : Int)).toNat.toUInt8 = numWorth c.1 := by
  revert c; decide +kernel
theorem numWorth_big (c : Fin 256) (h : 65 ≤ c.1 ∧ c.1 ≤ 70) : Lib.indexByte (Lib.bytesOf numSigns) (bits .or .u8 (c.1 : Int) 32).toNat.toUInt8 = numWorth c.1 := by
  revert c; decide +kernel
def num_worth.f (a0 : Int) : Option Int := if 0 ≤ a0 ∧ a0 ≤ 255 then some (numWorth a0) else none

set_option maxHeartbeats 1000000 in
set_option maxRecDepth 100000 in
/-- bytes.IndexByte, of the sixteen signs. -/
theorem num_signs_index (b c : Nat) (cv : Int) (w : World) (hc : ∀ i, i < 16 → w.cell? ⟨b, 0 + i, none⟩ = some (.int .u8 (numSigns.getD i 0))) :
    Calls Try.prog 33 #[.slice (some ⟨b, 0, none⟩) 16 c, .int .u8 cv] w fun e w' => e = .returned (.int .i64 (Lib.indexByte (Lib.bytesOf numSigns) cv.toNat.toUInt8)) ∧ w' = w := by
  go_enter Try.func33, Try.ntmps33
  go_wp2
  rw [run_callFunc_extern Try.func36 (by kernel_rfl) (by kernel_rfl) (by kernel_rfl) (e := Extern.BytealgIndexByte.indexByte) (by kernel_rfl), Lib.run_indexByteSlice w b 0 16 c numSigns rfl hc cv]
  simp only [Result.andThen]
  rw [Oper.upon_value]
  go_wp2
  go_ret
  exact ⟨rfl, rfl⟩

theorem num_signs_cells (w : World) (t : TypeId) : ∀ i, i < 16 → (w.alloc (.cells #[.int .u8 48, .int .u8 49, .int .u8 50, .int .u8 51, .int .u8 52, .int .u8 53, .int .u8 54, .int .u8 55, .int .u8 56, .int .u8 57, .int .u8 97, .int .u8 98, .int .u8 99, .int .u8 100, .int .u8 101, .int .u8 102] t (16, 17))).cell? ⟨w.heap.size, 0 + i, none⟩ = some (.int .u8 (numSigns.getD i 0)) := by
  intro i hi
  rw [World.cell?_alloc_mark w _ t (16, 17) (0 + i)]
  match i, hi with
  | 0, _ | 1, _ | 2, _ | 3, _ | 4, _ | 5, _ | 6, _ | 7, _ | 8, _ | 9, _ | 10, _ | 11, _ | 12, _ | 13, _ | 14, _ | 15, _ => rfl
  | k + 16, h => exact absurd h (by omega)

set_option maxHeartbeats 1000000 in
set_option maxRecDepth 100000 in
theorem num_worth.calls (a0 : Int) (r : Int) (w : World) (h : num_worth.f a0 = some r) :
    Calls Try.prog 26 #[.int .u8 a0] w fun e w' => e = .returned (.int .i64 r) ∧ Below w.heap.size w w' := by
  unfold num_worth.f at h
  split at h
  · rename_i hr
    obtain rfl := Option.some.inj h
    obtain ⟨n, rfl⟩ := Int.eq_ofNat_of_zero_le hr.1
    have hlt : n < 256 := by omega
    have hcells := num_signs_cells w 5
    have kc := fun (w : World) (C : Array Value) (n c : Nat) => Lib.run_convert_bytes_const (P := Try.prog) w 39 5 C n c Try.underlying39 Try.underlying5
    clear h hr
    by_cases hbig : 65 ≤ n ∧ n ≤ 70
    · have H := Lib.hid (numWorth_big ⟨n, hlt⟩ hbig)
      have h1 : decide ((65 : Int) ≤ (n : Int)) = true := by simp; omega
      have h2 : decide ((n : Int) ≤ 70) = true := by simp; omega
      have hi := fun cv => num_signs_index _ 16 cv _ hcells
      clear hcells
      go_enter Try.func26, Try.ntmps26
      go_wp2_with (go_at_call 33; refine (hi _).mono ?_; rintro e w' ⟨rfl, rfl⟩)
      go_ret
      exact ⟨(by rw [H.out]; rfl), (Below.refl _ _).alloc (Nat.le_refl _) _⟩
    · have H := Lib.hid (numWorth_small ⟨n, hlt⟩ hbig)
      change Hid (Lib.indexByte (Lib.bytesOf numSigns) (UInt8.ofNat n) = numWorth (n : Int)) at H
      have hi := fun cv => num_signs_index _ 16 cv _ hcells
      clear hcells
      by_cases h65 : 65 ≤ n
      · have h1 : decide ((65 : Int) ≤ (n : Int)) = true := by simp; omega
        have h2 : decide ((n : Int) ≤ 70) = false := by simp; omega
        go_enter Try.func26, Try.ntmps26
        go_wp2_with (go_at_call 33; refine (hi _).mono ?_; rintro e w' ⟨rfl, rfl⟩)
        go_ret
        exact ⟨(by rw [H.out]; rfl), (Below.refl _ _).alloc (Nat.le_refl _) _⟩
      · have h1 : decide ((65 : Int) ≤ (n : Int)) = false := by simp; omega
        go_enter Try.func26, Try.ntmps26
        go_wp2_with (go_at_call 33; refine (hi _).mono ?_; rintro e w' ⟨rfl, rfl⟩)
        go_ret
        exact ⟨(by rw [H.out]; rfl), (Below.refl _ _).alloc (Nat.le_refl _) _⟩
  · cases h

/-! ### bits_Mul64: function 27 -/
def bits_Mul64.f (a0 : Int) (a1 : Int) : Option (Int × Int) := some (IntKind.u64.wrap ((IntKind.u64.wrap ((IntKind.u64.wrap ((a0 / 4294967296) * (a1 / 4294967296))) + ((IntKind.u64.wrap ((IntKind.u64.wrap ((a0 / 4294967296) * (Go.bits .and .u64 a1 4294967295))) + ((IntKind.u64.wrap ((Go.bits .and .u64 a0 4294967295) * (Go.bits .and .u64 a1 4294967295))) / 4294967296))) / 4294967296))) + ((IntKind.u64.wrap ((Go.bits .and .u64 (IntKind.u64.wrap ((IntKind.u64.wrap ((a0 / 4294967296) * (Go.bits .and .u64 a1 4294967295))) + ((IntKind.u64.wrap ((Go.bits .and .u64 a0 4294967295) * (Go.bits .and .u64 a1 4294967295))) / 4294967296))) 4294967295) + (IntKind.u64.wrap ((Go.bits .and .u64 a0 4294967295) * (a1 / 4294967296))))) / 4294967296)), IntKind.u64.wrap (a0 * a1))
set_option maxHeartbeats 8000000 in
set_option maxRecDepth 100000 in
theorem bits_Mul64.calls (a0 : Int) (a1 : Int) (r1 : Int) (r2 : Int) (w : World) (h : bits_Mul64.f a0 a1 = some (r1, r2)) :
    Calls Try.prog 27 #[.int .u64 a0, .int .u64 a1] w fun e w' => e = .returned (.tuple #[.int .u64 r1, .int .u64 r2]) ∧ Drawn0 w w' := by
  have H : (some (IntKind.u64.wrap ((IntKind.u64.wrap ((IntKind.u64.wrap ((a0 / 4294967296) * (a1 / 4294967296))) + ((IntKind.u64.wrap ((IntKind.u64.wrap ((a0 / 4294967296) * (Go.bits .and .u64 a1 4294967295))) + ((IntKind.u64.wrap ((Go.bits .and .u64 a0 4294967295) * (Go.bits .and .u64 a1 4294967295))) / 4294967296))) / 4294967296))) + ((IntKind.u64.wrap ((Go.bits .and .u64 (IntKind.u64.wrap ((IntKind.u64.wrap ((a0 / 4294967296) * (Go.bits .and .u64 a1 4294967295))) + ((IntKind.u64.wrap ((Go.bits .and .u64 a0 4294967295) * (Go.bits .and .u64 a1 4294967295))) / 4294967296))) 4294967295) + (IntKind.u64.wrap ((Go.bits .and .u64 a0 4294967295) * (a1 / 4294967296))))) / 4294967296)), IntKind.u64.wrap (a0 * a1))) = some (r1, r2) := h
  clear h
  simp only [Option.some.injEq, Prod.mk.injEq] at H
  obtain ⟨rfl, rfl⟩ := H
  go_enter Try.func27, Try.ntmps27
  go_wp2
  go_ret2
  exact ⟨by first | rfl | (simp; done) | (simp [*]; done), by repeat (first | exact Drawn0.refl _ | apply Drawn0.step)⟩

-- NOT PRINTED: function 28 (bits_Add64)

/-! ### num_ParseBase: function 12 -/
-- STUB millrace/num.ParseBase | str i64 | u64 i64 i64 | 0 | 1 | num_ParseBase
def numTop : Nat := 18446744073709551616
/-- A text read as digits to the base b, from the number n and the place i on. -/
def numParse (b : Nat) : Nat → Nat → List UInt8 → Int × Int × Int
  | n, i, [] => ((n : Int), 0, (i : Int))
  | n, i, c :: r =>
    if numWorth c.toNat < 0 ∨ (b : Int) ≤ numWorth c.toNat then (0, 11, (i : Int))
    else if numTop ≤ n * b + (numWorth c.toNat).toNat then (0, 4, (i : Int))
    else numParse b (n * b + (numWorth c.toNat).toNat) (i + 1) r
def num_ParseBase.f (a0 : ByteArray) (a1 : Int) : Option (Int × Int × Int) :=
  if a0.size ≤ 9223372036854775807 then
    some (if a1 < 2 ∨ 16 < a1 then (0, 4, 0) else if a0.size = 0 then (0, 8, 0) else numParse a1.toNat 0 0 a0.data.toList)
  else none

namespace NumMul
theorem maskN (a : Nat) (ha : a < 18446744073709551616) : bits .and .u64 (a : Int) 4294967295 = ((a % 4294967296 : Nat) : Int) := by
  have h := bits_and_u64_nat a 4294967295 ha (by omega)
  have e : a &&& 4294967295 = a % 4294967296 := Nat.and_two_pow_sub_one_eq_mod a 32
  rw [e] at h
  exact h
theorem divN (a : Nat) : (a : Int) / 4294967296 = ((a / 4294967296 : Nat) : Int) := by omega
theorem mulN (a b : Nat) : (a : Int) * (b : Int) = ((a * b : Nat) : Int) := (Int.natCast_mul a b).symm
theorem addN (a b : Nat) : (a : Int) + (b : Int) = ((a + b : Nat) : Int) := (Int.natCast_add a b).symm
theorem wrapN (a : Nat) (ha : a < 18446744073709551616) : IntKind.u64.wrap (a : Int) = (a : Int) := by rw [IntKind.wrap_u64]; omega
theorem wrapM (a : Nat) : IntKind.u64.wrap (a : Int) = ((a % 18446744073709551616 : Nat) : Int) := by rw [IntKind.wrap_u64]; omega
end NumMul

set_option maxHeartbeats 1000000 in
theorem num_mul64 (x y : Nat) (hx0 : x < numTop) (hy0 : y < numTop) (w : World) :
    Calls Try.prog 27 #[.int .u64 x, .int .u64 y] w fun e w' => e = .returned (.tuple #[.int .u64 ((x * y / numTop : Nat) : Int), .int .u64 ((x * y % numTop : Nat) : Int)]) ∧ w = w' := by
  have hx : x < 18446744073709551616 := hx0
  have hy : y < 18446744073709551616 := hy0
  clear hx0 hy0
  show Calls Try.prog 27 #[.int .u64 x, .int .u64 y] w fun e w' => e = .returned (.tuple #[.int .u64 ((x * y / 18446744073709551616 : Nat) : Int), .int .u64 ((x * y % 18446744073709551616 : Nat) : Int)]) ∧ w = w'
  obtain ⟨bd, bt, bw, hhi⟩ := Lib.mul64_hi x y hx hy
  have ba := Lib.half_mul_le (a := x / 4294967296) (b := y / 4294967296) (by omega) (by omega)
  have bb := Lib.half_mul_le (a := x / 4294967296) (b := y % 4294967296) (by omega) (by omega)
  have bc := Lib.half_mul_le (a := x % 4294967296) (b := y / 4294967296) (by omega) (by omega)
  have ba' : x / 4294967296 * (y / 4294967296) < 18446744073709551616 := by omega
  have bb' : x / 4294967296 * (y % 4294967296) < 18446744073709551616 := by omega
  have bc' : x % 4294967296 * (y / 4294967296) < 18446744073709551616 := by omega
  have bh1 : x / 4294967296 * (y / 4294967296) + (x / 4294967296 * (y % 4294967296) + x % 4294967296 * (y % 4294967296) / 4294967296) / 4294967296 < 18446744073709551616 := by omega
  have bh : x / 4294967296 * (y / 4294967296) + (x / 4294967296 * (y % 4294967296) + x % 4294967296 * (y % 4294967296) / 4294967296) / 4294967296 + ((x / 4294967296 * (y % 4294967296) + x % 4294967296 * (y % 4294967296) / 4294967296) % 4294967296 + x % 4294967296 * (y / 4294967296)) / 4294967296 < 18446744073709551616 := by omega
  go_enter Try.func27, Try.ntmps27
  go_wp2
  simp only [NumMul.maskN x hx, NumMul.maskN y hy, NumMul.divN, NumMul.mulN, NumMul.addN, NumMul.wrapN _ bd, NumMul.wrapN _ bb', NumMul.wrapN _ bt, NumMul.maskN _ bt, NumMul.wrapN _ bc', NumMul.wrapN _ bw, NumMul.wrapN _ ba', NumMul.wrapN _ bh1, NumMul.wrapN _ bh, NumMul.wrapM (x * y)]
  rw [hhi]
  go_ret2
  exact ⟨rfl, rfl⟩

theorem num_add64 (x y : Nat) (w : World) :
    (callFunc 28 #[.int .u64 x, .int .u64 y, .int .u64 0]).run Try.prog w = .ok (.value (.tuple #[.int .u64 (((x + y) % numTop : Nat) : Int), .int .u64 (((x + y) / numTop : Nat) : Int)])) w := by
  rw [run_callFunc_extern Try.func28 (by kernel_rfl) (by kernel_rfl) (by kernel_rfl) (e := add64Entry) (by kernel_rfl), run_add64 x y 0 (by omega) (by omega) (by omega) (by omega)]
  simp only [Result.andThen, numTop]
  congr 5 <;> omega

theorem num_carry {n b d : Nat} (hd : d < 16) : 0 < n * b / numTop + (n * b % numTop + d) / numTop ↔ numTop ≤ n * b + d := by
  unfold numTop; omega
theorem num_sum {n b d : Nat} (h : ¬ numTop ≤ n * b + d) : (n * b % numTop + d) % numTop = n * b + d := by
  unfold numTop at *; omega
theorem num_carry_le {n b d : Nat} (hn : n < numTop) (hb : b ≤ 16) (hd : d < 16) : n * b / numTop + (n * b % numTop + d) / numTop ≤ 17 := by
  have h1 : n * b ≤ n * 16 := Nat.mul_le_mul_left n hb
  have : n * b / numTop ≤ 16 := by unfold numTop at *; omega
  have : (n * b % numTop + d) / numTop ≤ 1 := by unfold numTop at *; omega
  omega

set_option maxHeartbeats 1000000 in
set_option maxRecDepth 100000 in
theorem num_ParseBase.loop (s : ByteArray) (b : Nat) (hb2 : 2 ≤ b) (hb : b ≤ 16) (hs : s.size ≤ maxLen) (h0 : 0 < s.size) (w : World) :
    Calls Try.prog 12 #[.string s, .int .i64 b] w fun e w' => e = .returned (.tuple #[.int .u64 (numParse b 0 0 s.data.toList).1, .int .i64 (numParse b 0 0 s.data.toList).2.1, .int .i64 (numParse b 0 0 s.data.toList).2.2]) ∧ Below w.heap.size w w' := by
  unfold maxLen at hs
  have g1 : decide ((b : Int) < 2) = false := by simp; omega
  have g2 : decide ((16 : Int) < (b : Int)) = false := by simp; omega
  have hem : s.toList.isEmpty = false := by
    have : s.toList.length = s.size := by rw [ByteArray.toList_eq, Array.length_toList]; rfl
    cases h : s.toList with
    | nil => rw [h] at this; simp at this; omega
    | cons a l => rfl
  go_enter Try.func12, Try.ntmps12
  go_wp2
  go_loopg [7, 24] s.size (fun k v7 v24 wr => ∃ n i : Nat, v7 = .int .u64 n ∧ v24 = .int .i64 i ∧ n < numTop ∧ i ≤ s.size ∧ k = s.size - i ∧ numParse b 0 0 s.data.toList = numParse b n i (s.data.toList.drop i) ∧ Below w.heap.size w wr)
  case atStart => exact ⟨0, 0, rfl, rfl, by unfold numTop; omega, by omega, by omega, by simp, Below.refl _ _⟩
  case round =>
    obtain ⟨n, i, rfl, rfl, hn, hi, hk, hx, hB⟩ := hrel
    by_cases hlt : i < s.size
    · have hdrop : s.data.toList.drop i = s[i] :: s.data.toList.drop (i + 1) := by
        rw [List.drop_eq_getElem_cons (by simpa using hlt)]; rfl
      rw [hdrop] at hx
      obtain ⟨c, hc⟩ : ∃ c, c = (s[i].toNat : Int) := ⟨_, rfl⟩
      have hw1 := numWorth_range c
      have hcr : 0 ≤ c ∧ c ≤ 255 := by have := s[i].toNat_lt; omega
      have hcall := fun W => num_worth.calls c (numWorth c) W (by simp [num_worth.f, hcr])
      have HC := Lib.hid hcall
      clear hcall hdrop
      simp only [numParse] at hx
      rw [← hc] at hx
      obtain ⟨d, hd⟩ : ∃ d, d = numWorth c := ⟨_, rfl⟩
      rw [← hd] at hx hw1 HC
      clear hd hcr
      have hc' : (s[i].toNat : Int) = c := hc.symm
      clear hc
      have h3 : decide ((i : Int) < (s.size : Int)) = true := by simp; omega
      by_cases hd0 : d < 0
      · rw [if_pos (.inl hd0)] at hx
        have HX := Lib.hid hx
        have h4 : decide (d < 0) = true := by simp; omega
        clear hx hw1 hd0
        go_wp2_with (go_at_call 26; go_must (refine (HC.out _).mono ?_); go_must (rintro e w' ⟨rfl, hB2⟩))
        go_ret3
        exact ⟨by rw [HX.out]; rfl, hB.trans (hB2.mono hB.size)⟩
      · have h4 : decide (d < 0) = false := by simp; omega
        by_cases hdb : (b : Int) ≤ d
        · rw [if_pos (.inr hdb)] at hx
          have HX := Lib.hid hx
          have h5 : decide ((b : Int) ≤ d) = true := by simp; omega
          clear hx hw1 hd0 hdb
          go_wp2_with (go_at_call 26; go_must (refine (HC.out _).mono ?_); go_must (rintro e w' ⟨rfl, hB2⟩))
          go_ret3
          exact ⟨by rw [HX.out]; rfl, hB.trans (hB2.mono hB.size)⟩
        · have h5 : decide ((b : Int) ≤ d) = false := by simp; omega
          obtain ⟨dn, rfl⟩ := Int.eq_ofNat_of_zero_le (show 0 ≤ d by omega)
          rw [if_neg (by omega), Int.toNat_natCast] at hx
          have h5n : decide (b ≤ dn) = false := by simp; omega
          have hdn : dn < 16 := by omega
          have hwb : IntKind.u64.wrap (b : Int) = (b : Int) := NumMul.wrapN b (by omega)
          have hwd : IntKind.u64.wrap (dn : Int) = (dn : Int) := NumMul.wrapN dn (by omega)
          obtain ⟨hi64, hhi⟩ : ∃ x, x = n * b / numTop := ⟨_, rfl⟩
          obtain ⟨lo64, hlo⟩ : ∃ x, x = n * b % numTop := ⟨_, rfl⟩
          obtain ⟨sm, hsm⟩ : ∃ x, x = (lo64 + dn) % numTop := ⟨_, rfl⟩
          obtain ⟨cy, hcy⟩ : ∃ x, x = (lo64 + dn) / numTop := ⟨_, rfl⟩
          have hmul := fun W => num_mul64 n b hn (by unfold numTop; omega) W
          have hadd := fun W => num_add64 lo64 dn W
          have hcar := num_carry (n := n) (b := b) hdn
          have hsum := num_sum (n := n) (b := b) (d := dn)
          have hle := num_carry_le hn hb hdn
          rw [← hhi, ← hlo, ← hcy] at hcar hle
          rw [← hlo, ← hsm] at hsum
          rw [← hsm, ← hcy] at hadd
          rw [← hhi, ← hlo] at hmul
          have HM := Lib.hid hmul
          clear hmul hsm hcy hhi hlo
          by_cases ho : numTop ≤ n * b + dn
          · rw [if_pos ho] at hx
            have HX := Lib.hid hx
            have h6 : decide ((0 : Int) < (hi64 : Int) + (cy : Int)) = true := by have := hcar.2 ho; simp; omega
            clear hx hw1 hd0 hdb ho hcar hsum hn hk
            go_wp2_with (first | (go_at_call 26; go_must (refine (HC.out _).mono ?_); go_must (rintro e w' ⟨rfl, hB2⟩)) | (go_at_call 27; go_must (refine (HM.out _).mono ?_); go_must (rintro e w' ⟨rfl, rfl⟩)))
            go_ret3
            exact ⟨by rw [HX.out]; rfl, hB.trans (hB2.mono hB.size)⟩
          · rw [if_neg ho] at hx
            obtain rfl : sm = n * b + dn := hsum ho
            have h6 : decide ((0 : Int) < (hi64 : Int) + (cy : Int)) = false := by have := (not_congr hcar).2 ho; simp; omega
            obtain ⟨n2, hn2⟩ : ∃ x, x = n * b + dn := ⟨_, rfl⟩
            rw [← hn2] at hx hadd
            have hn2' : n2 < numTop := by omega
            have HX := Lib.hid hx
            clear hx hw1 hd0 hdb ho hcar hsum hn hn2
            go_wp2_with (first | (go_at_call 26; go_must (refine (HC.out _).mono ?_); go_must (rintro e w' ⟨rfl, hB2⟩)) | (go_at_call 27; go_must (refine (HM.out _).mono ?_); go_must (rintro e w' ⟨rfl, rfl⟩)))
            go_roundg (s.size - (i + 1))
            case measure => omega
            case rel => exact ⟨n2, i + 1, rfl, by go_num, hn2', by omega, rfl, HX.out, hB.trans (hB2.mono hB.size)⟩
    · obtain rfl : i = s.size := by omega
      rw [List.drop_eq_nil_of_le (by simp)] at hx
      have HX := Lib.hid hx
      clear hx hk hn
      go_wp2
      go_ret3
      exact ⟨by rw [HX.out]; rfl, hB⟩

set_option maxHeartbeats 1000000 in
set_option maxRecDepth 100000 in
theorem num_ParseBase.calls (a0 : ByteArray) (a1 : Int) (r1 r2 r3 : Int) (w : World) (h : num_ParseBase.f a0 a1 = some (r1, r2, r3)) :
    Calls Try.prog 12 #[.string a0, .int .i64 a1] w fun e w' => e = .returned (.tuple #[.int .u64 r1, .int .i64 r2, .int .i64 r3]) ∧ Below w.heap.size w w' := by
  unfold num_ParseBase.f at h
  split at h
  case isFalse => cases h
  case isTrue hs =>
    have h := Option.some.inj h
    by_cases hr : a1 < 2 ∨ 16 < a1
    · rw [if_pos hr] at h
      simp only [Prod.mk.injEq] at h
      obtain ⟨rfl, rfl, rfl⟩ := h
      clear hs
      by_cases h1 : a1 < 2
      · have g1 : decide (a1 < 2) = true := by simpa using h1
        clear hr h1
        go_enter Try.func12, Try.ntmps12
        go_wp2
        go_ret3
        exact ⟨rfl, Below.refl _ _⟩
      · have g1 : decide (a1 < 2) = false := by simpa using h1
        have g2 : decide (16 < a1) = true := by simp; omega
        clear hr h1
        go_enter Try.func12, Try.ntmps12
        go_wp2
        go_ret3
        exact ⟨rfl, Below.refl _ _⟩
    · rw [if_neg hr] at h
      by_cases h0 : a0.size = 0
      · rw [if_pos h0] at h
        simp only [Prod.mk.injEq] at h
        obtain ⟨rfl, rfl, rfl⟩ := h
        have g1 : decide (a1 < 2) = false := by simp; omega
        have g2 : decide (16 < a1) = false := by simp; omega
        have hem : a0.toList.isEmpty = true := by
          have : a0.toList.length = 0 := by rw [ByteArray.toList_eq, Array.length_toList]; exact h0
          cases h : a0.toList with
          | nil => rfl
          | cons a l => rw [h] at this; simp at this
        clear hr h0 hs
        go_enter Try.func12, Try.ntmps12
        go_wp2
        go_ret3
        exact ⟨rfl, Below.refl _ _⟩
      · rw [if_neg h0] at h
        obtain ⟨b, rfl⟩ := Int.eq_ofNat_of_zero_le (show 0 ≤ a1 by omega)
        rw [Int.toNat_natCast] at h
        have := num_ParseBase.loop a0 b (by omega) (by omega) hs (by omega) w
        rw [h] at this
        exact this

-- NOT PRINTED: function 31 (num_places)

/-! ### slices_Reverse_byte_byte: function 32 -/
def slices_Reverse_byte_byte.l0 : Nat → List Int → Int → Int → Option (List Int)
  | 0, _, _, _ => none
  | k + 1, x0, x2, x3 => if x2 < x3 then (if 0 ≤ x3 then (if x3 < (x0.length : Int) then (if 0 ≤ x2 then (if x2 < (x0.length : Int) then (slices_Reverse_byte_byte.l0 k ((x0.set (x2 : Int).toNat (rd x0 x3)).set (x3 : Int).toNat (rd x0 x2)) (wrap64 (x2 + 1)) (wrap64 (x3 - 1))) else (none)) else (none)) else (none)) else (none)) else (some x0)
def slices_Reverse_byte_byte.f (k : Nat) (l0 : List Int) : Option (List Int) := slices_Reverse_byte_byte.l0 k l0 0 (wrap64 ((l0.length : Int) - 1))
theorem slices_Reverse_byte_byte.mono_l : ∀ k, (∀ y0 y1 y2, LeO (slices_Reverse_byte_byte.l0 k y0 y1 y2) (slices_Reverse_byte_byte.l0 (k + 1) y0 y1 y2))
  | 0 => fun _ _ _ r h => by simp [slices_Reverse_byte_byte.l0] at h
  | k + 1 => by
    have ih0 := slices_Reverse_byte_byte.mono_l k
    · intro y0 y1 y2
      unfold slices_Reverse_byte_byte.l0
      repeat' first
      | (with_reducible exact ih0 _ _ _)
      | (with_reducible exact LeO.refl _)
      | (with_reducible exact LeO.none _)
      | (with_reducible refine LeO.ite ?_ ?_)
      | (with_reducible refine LeO.bind ?_ (fun _ => ?_))
      | exact ih0 _ _ _
      | exact LeO.none _
      | refine LeO.ite ?_ ?_
      | refine LeO.bind ?_ (fun _ => ?_)
theorem slices_Reverse_byte_byte.mono : ∀ a0 k, LeO (slices_Reverse_byte_byte.f k a0) (slices_Reverse_byte_byte.f (k + 1) a0) := by
  intro a0 k
  have ih0 := slices_Reverse_byte_byte.mono_l k
  unfold slices_Reverse_byte_byte.f
  repeat' first
      | (with_reducible exact ih0 _ _ _)
      | (with_reducible exact LeO.refl _)
      | (with_reducible exact LeO.none _)
      | (with_reducible refine LeO.ite ?_ ?_)
      | (with_reducible refine LeO.bind ?_ (fun _ => ?_))
      | exact ih0 _ _ _
      | exact LeO.none _
      | refine LeO.ite ?_ ?_
      | refine LeO.bind ?_ (fun _ => ?_)
def slices_Reverse_byte_byte.T3 : Bool × List (List Nat × List Nat) := (true, [([], []), ([], []), ([], []), ([], []), ([], []), ([], []), ([4, 5], [4, 5]), ([6], [6]), ([], []), ([], []), ([8, 9], [8, 9]), ([10], [10]), ([0, 1, 0, 1, 4, 5, 6, 7, 11], [0, 1]), ([12, 7, 0, 1, 4, 5, 6, 7, 11], [7, 12]), ([2, 3, 0, 1, 2, 3, 4, 5, 6, 7, 8, 9, 10, 11, 12, 13], [2, 3]), ([14, 11, 13, 0, 1, 2, 3, 4, 5, 6, 7, 8, 9, 10, 11, 12, 13], [11, 14])])
def slices_Reverse_byte_byte.B3 : List Nat := [0, 0, 0, 0, 0, 0, 48, 112, 0, 0, 768, 1792, 4083, 8179, 16383, 32767]
theorem slices_Reverse_byte_byte.tab3 : rtab .any (opsOf Try.f32 3) = slices_Reverse_byte_byte.T3 := by kernel_rfl
theorem slices_Reverse_byte_byte.bits3 : waitsOk slices_Reverse_byte_byte.T3.2 slices_Reverse_byte_byte.B3 = true := by kernel_rfl
set_option maxHeartbeats 8000000 in
set_option maxRecDepth 100000 in
theorem slices_Reverse_byte_byte.calls (k : Nat) (P0_ : Nat → Prop) (u9000_ : Value) (l0 : List Int) (r : List Int) (w0 w : World) (hB : Below w0.heap.size w0 w) (ho0 : Kd.R (Kd.int .u8) 5 w w0.heap.size P0_ u9000_ l0) (h : slices_Reverse_byte_byte.f k l0 = some r) :
    Calls Try.prog 32 #[u9000_] w fun e w' => e = .returned (.tuple #[]) ∧ Kd.R (Kd.int .u8) 5 w' w0.heap.size (fun k_ => (P0_ k_ ∨ w.heap.size ≤ k_)) u9000_ r ∧ Below w0.heap.size w0 w' ∧ Kept w w' (fun k_ => P0_ k_) := by
  have HO0 := Aside0.mk (show Kd.R (Kd.int .u8) 5 w w0.heap.size (fun k_ => (P0_ k_ ∨ w.heap.size ≤ k_)) u9000_ l0 from Kd.R_mono ho0 (fun k_ hk => (.inl hk)))
  have HK := Aside0.mk (Kept.refl w (fun k_ => P0_ k_))
  have HW0 := Aside0.mk hB.size
  have HB := Aside0.mk hB
  clear hB
  have H : (slices_Reverse_byte_byte.l0 k l0 0 (wrap64 ((l0.length : Int) - 1))) = some r := h
  clear h
  have H' := Aside0.mk H
  clear H
  obtain ⟨Ao2, co2, eo2⟩ := Kd.R_slice HO0.out
  subst eo2
  go_enter Try.func32, Try.ntmps32
  go_wp2
  go_loopg [2, 3] k (fun kq v2 v3 w' => ∃ (x0_1 : List Int) (x2_1 : Int) (x3_1 : Int), v2 = .int .i64 x2_1 ∧ v3 = .int .i64 x3_1 ∧ Aside0 (slices_Reverse_byte_byte.l0 kq x0_1 x2_1 x3_1 = some r) ∧ Aside0 (kq ≤ k) ∧ Aside0 (Kd.R (Kd.int .u8) 5 w' w0.heap.size (fun k_ => (P0_ k_ ∨ w.heap.size ≤ k_)) (.slice Ao2 l0.length co2) x0_1) ∧ Aside0 (Kept w w' (fun k_ => P0_ k_)) ∧ Aside0 (Below w0.heap.size w0 w'))
  case atStart => exact ⟨(l0), (0), (wrap64 ((l0.length : Int) - 1)), (by first | rfl | (simp; done) | (simp [*]; done)), (by first | rfl | (simp; done) | (simp [*]; done)), H', ⟨Nat.le_refl _⟩, ⟨by (with_reducible repeat (first | apply Kd.R_alloc | apply Kd.R_drewN | apply Kd.R_drew)); exact HO0.out⟩, ⟨by repeat (first | (with_reducible first | exact HK.out | apply Kept.alloc | apply Kept.drewN | apply Kept.drew) | exact HK.out)⟩, ⟨by repeat (first | (with_reducible first | exact HB.out | apply below_alloc | apply pw_below_drewN | apply below_drew1) | exact HB.out)⟩⟩
  case round =>
    clear H'
    try clear p2
    obtain ⟨x0_1, x2_1, x3_1, rfl, rfl, HA, HK1, HO_0, HK, HB⟩ := hrel
    have hl0_1 := (Kd.R_reads' HO_0.out).1
    rw [hl0_1] at HO_0
    (try simp only [hl0_1])
    cases gk with
    | zero => exact absurd HA.out (by simp [slices_Reverse_byte_byte.l0])
    | succ k1 =>
      have H := HA.out
      clear HA
      simp only [slices_Reverse_byte_byte.l0] at H
      by_cases c3 : x2_1 < x3_1
      · rw [if_pos c3] at H
        have c3b0 : decide (x2_1 < x3_1) = true := decide_eq_true c3
        clear c3
        by_cases c4 : 0 ≤ x3_1
        · rw [if_pos c4] at H
          have c4b0 : decide (0 ≤ x3_1) = true := decide_eq_true c4
          clear c4
          by_cases c5 : x3_1 < (x0_1.length : Int)
          · rw [if_pos c5] at H
            have c5b0 : decide (x3_1 < (x0_1.length : Int)) = true := decide_eq_true c5
            clear c5
            by_cases c6 : 0 ≤ x2_1
            · rw [if_pos c6] at H
              have c6b0 : decide (0 ≤ x2_1) = true := decide_eq_true c6
              clear c6
              by_cases c7 : x2_1 < (x0_1.length : Int)
              · rw [if_pos c7] at H
                have c7b0 : decide (x2_1 < (x0_1.length : Int)) = true := decide_eq_true c7
                clear c7
                obtain ⟨y103, hy103⟩ : ∃ y_ : List Int, y_ = (x0_1.set (x2_1 : Int).toNat (rd x0_1 x3_1)) := ⟨_, rfl⟩
                replace H : (slices_Reverse_byte_byte.l0 k1 (y103.set (x3_1 : Int).toNat (rd x0_1 x2_1)) (wrap64 (x2_1 + 1)) (wrap64 (x3_1 - 1))) = some r := by first | (rw [hy103]; with_reducible exact H) | (have H2_ := (Option.bind_some _ _).symm.trans H; rw [hy103]; with_reducible exact H2_) | (have H2_ := (Option.bind_some _ _).symm.trans H; with_reducible exact H2_) | with_reducible exact H | (rw [hy103]; exact H) | exact H
                have Ny103 := Aside0.mk hy103
                clear hy103
                obtain ⟨y104, hy104⟩ : ∃ y_ : List Int, y_ = (y103.set (x3_1 : Int).toNat (rd x0_1 x2_1)) := ⟨_, rfl⟩
                replace H : (slices_Reverse_byte_byte.l0 k1 y104 (wrap64 (x2_1 + 1)) (wrap64 (x3_1 - 1))) = some r := by first | (rw [hy104]; with_reducible exact H) | (have H2_ := (Option.bind_some _ _).symm.trans H; rw [hy104]; with_reducible exact H2_) | (have H2_ := (Option.bind_some _ _).symm.trans H; with_reducible exact H2_) | with_reducible exact H | (rw [hy104]; exact H) | exact H
                have Ny104 := Aside0.mk hy104
                clear hy104
                have H' := Aside0.mk H
                clear H
                try go_wp2
                have n0_ := Aside0.mk (Kd.R_drew HO_0.out)
                have n1_ := Aside0.mk (Kept.drew HK.out)
                have n2_ := Aside0.mk (below_drew1 HB.out)
                clear HO_0
                clear HK
                clear HB
                have HO_0 := n0_
                have HK := n1_
                have HB := n2_
                clear n0_ n1_ n2_
                have p101 : 0 ≤ (x3_1 : Int) := of_decide_eq_true (by first | (with_reducible assumption) | assumption)
                have q101 : x3_1 < (x0_1.length : Int) := of_decide_eq_true (by first | (with_reducible assumption) | assumption)
                obtain ⟨ad101, e101, hx101_0⟩ := Kd.at_int (Kd.R_reads' HO_0.out).2.2 x3_1 p101 q101
                cases e101
                replace p101 := eq_true p101
                replace q101 := eq_true q101
                have p102 : 0 ≤ (x2_1 : Int) := of_decide_eq_true (by first | (with_reducible assumption) | assumption)
                have q102 : x2_1 < (x0_1.length : Int) := of_decide_eq_true (by first | (with_reducible assumption) | assumption)
                obtain ⟨ad102, e102, hx102_0⟩ := Kd.at_int (Kd.R_reads' HO_0.out).2.2 x2_1 p102 q102
                obtain rfl : ad101 = ad102 := (by injection e102)
                replace p102 := eq_true p102
                replace q102 := eq_true q102
                have p8 : 0 ≤ (x2_1 : Int) := of_decide_eq_true (by first | (with_reducible assumption) | assumption)
                have q8 : (x2_1 : Int) < ((x0_1.length : Int) : Int) := of_decide_eq_true (by first | (with_reducible assumption) | assumption)
                obtain ⟨go8, co8, eo8, gb8, gl8, cl8, HG8⟩ := Kd.R_form HO_0.out (by omega)
                (first | cases eo8 | (injection eo8 with ea_ en_ ec_; (first | subst ea_ | (injection ea_ with ea_; subst ea_)); subst ec_; clear en_))
                have GB8 := Aside0.mk gb8
                have GG8 := Aside0.mk HG8
                clear gb8 gl8 HG8
                have HMgo8 := Aside0.mk (show (P0_ go8 ∨ w.heap.size ≤ go8) from (HO_0.out.1 _ rfl))
                (first | simp only [add_plain] at hx101_0 | skip)
                (first | simp only [add_plain] at hx102_0 | skip)
                obtain ⟨hx8_0, hf8_0⟩ := Kd.R_celln 0 HO_0.out (x2_1 : Int) p8 q8
                replace p8 := eq_true p8
                replace q8 := eq_true q8
                have HP11 := Kd.R_putn HO_0.out (x2_1 : Int) (rd x0_1 x3_1)
                rw [← Ny103.out] at HP11
                have HQ11 := Aside0.mk HP11
                clear HP11
                have p9 : 0 ≤ (x3_1 : Int) := of_decide_eq_true (by first | (with_reducible assumption) | assumption)
                have q9 : (x3_1 : Int) < ((x0_1.length : Int) : Int) := of_decide_eq_true (by first | (with_reducible assumption) | assumption)
                obtain ⟨hx9_0, hf9_0⟩ := Kd.R_celln 0 HQ11.out (x3_1 : Int) p9 q9
                replace p9 := eq_true p9
                replace q9 := eq_true q9
                have HP12 := Kd.R_putn HQ11.out (x3_1 : Int) (rd x0_1 x2_1)
                rw [← Ny104.out] at HP12
                have HQ12 := Aside0.mk HP12
                clear HP12
                refine start_ (n := 16) (S := fun w' => w'.cell? ⟨go8, (x3_1).toNat, none⟩ = some (.int .u8 (rd x0_1 x3_1)) ∧ w'.cell? ⟨go8, (x2_1).toNat, none⟩ = some (.int .u8 (rd x0_1 x2_1))) (ds := [13, 15]) #[false, false, false, false, false, false, false, false, false, false, false, false, false, false, false, false] (by kernel_rfl) rfl rfl ⟨hx101_0, hx102_0⟩ (fun hHeld => ?_); refine with_tabW slices_Reverse_byte_byte.tab3 slices_Reverse_byte_byte.bits3 (fun HT_ HW_ => ?_)
                generalize wr.drew = w10 at HO_0 HK HB GG8 HQ11 HQ12 hf8_0 hf9_0 hx101_0 hx102_0 hx8_0 hx9_0 hHeld ⊢
                refine pure_ (i := 0) (N := some 14) (v := ?_) (a' := ?_) #[true, false, false, false, false, false, false, false, false, false, false, false, false, false, false, false] rfl rfl (any_of HT_.out (by kernel_rfl)) (fun _ _ _ h => h) (Or.inl ⟨by rfl, ?_⟩) ?_ ?_
                rotate_left
                · intro w'
                  go_simp
                  with_reducible rfl
                rotate_left
                · simp only [Act.put, List.setIfInBounds_toArray, List.set_cons_zero, List.set_cons_succ, i64_w, i32_w]
                  rfl
                refine pure_ (i := 1) (N := some 15) (v := ?_) (a' := ?_) #[true, true, false, false, false, false, false, false, false, false, false, false, false, false, false, false] rfl rfl (any_of HT_.out (by kernel_rfl)) (fun _ _ _ h => h) (Or.inl ⟨by rfl, ?_⟩) ?_ ?_
                rotate_left
                · intro w'
                  go_simp
                  with_reducible rfl
                rotate_left
                · simp only [Act.put, List.setIfInBounds_toArray, List.set_cons_zero, List.set_cons_succ, i64_w, i32_w]
                  rfl
                refine pure_ (i := 2) (N := some 16) (v := ?_) (a' := ?_) #[true, true, true, false, false, false, false, false, false, false, false, false, false, false, false, false] rfl rfl (any_of HT_.out (by kernel_rfl)) (fun _ _ _ h => h) (Or.inl ⟨by rfl, ?_⟩) ?_ ?_
                rotate_left
                · intro w'
                  go_simp
                  with_reducible rfl
                rotate_left
                · simp only [Act.put, List.setIfInBounds_toArray, List.set_cons_zero, List.set_cons_succ, i64_w, i32_w]
                  rfl
                refine pure_ (i := 3) (N := some 17) (v := ?_) (a' := ?_) #[true, true, true, true, false, false, false, false, false, false, false, false, false, false, false, false] rfl rfl (any_of HT_.out (by kernel_rfl)) (fun _ _ _ h => h) (Or.inl ⟨by rfl, ?_⟩) ?_ ?_
                rotate_left
                · intro w'
                  go_simp
                  with_reducible rfl
                rotate_left
                · simp only [Act.put, List.setIfInBounds_toArray, List.set_cons_zero, List.set_cons_succ, i64_w, i32_w]
                  rfl
                refine pure_ (i := 4) (N := some 18) (v := ?_) (a' := ?_) #[true, true, true, true, true, false, false, false, false, false, false, false, false, false, false, false] rfl rfl (any_of HT_.out (by kernel_rfl)) (fun _ _ _ h => h) (Or.inl ⟨by rfl, ?_⟩) ?_ ?_
                rotate_left
                · intro w'
                  go_simp
                  with_reducible rfl
                rotate_left
                · simp only [Act.put, List.setIfInBounds_toArray, List.set_cons_zero, List.set_cons_succ, i64_w, i32_w]
                  rfl
                refine pure_ (i := 5) (N := some 19) (v := ?_) (a' := ?_) #[true, true, true, true, true, true, false, false, false, false, false, false, false, false, false, false] rfl rfl (any_of HT_.out (by kernel_rfl)) (fun _ _ _ h => h) (Or.inl ⟨by rfl, ?_⟩) ?_ ?_
                rotate_left
                · intro w'
                  go_simp
                  with_reducible rfl
                rotate_left
                · simp only [Act.put, List.setIfInBounds_toArray, List.set_cons_zero, List.set_cons_succ, i64_w, i32_w]
                  rfl
                refine pure_ (i := 6) (N := some 20) (v := ?_) (a' := ?_) #[true, true, true, true, true, true, true, false, false, false, false, false, false, false, false, false] rfl rfl (any_of HT_.out (by kernel_rfl)) (fun _ _ _ h => h) (Or.inl ⟨by rfl, ?_⟩) ?_ ?_
                rotate_left
                · intro w'
                  go_simp
                  with_reducible rfl
                rotate_left
                · simp only [Act.put, List.setIfInBounds_toArray, List.set_cons_zero, List.set_cons_succ, i64_w, i32_w]
                  rfl
                refine pure_ (i := 8) (N := some 22) (v := ?_) (a' := ?_) #[true, true, true, true, true, true, true, false, true, false, false, false, false, false, false, false] rfl rfl (any_of HT_.out (by kernel_rfl)) (fun _ _ _ h => h) (Or.inl ⟨by rfl, ?_⟩) ?_ ?_
                rotate_left
                · intro w'
                  go_simp
                  with_reducible rfl
                rotate_left
                · simp only [Act.put, List.setIfInBounds_toArray, List.set_cons_zero, List.set_cons_succ, i64_w, i32_w]
                  rfl
                refine pure_ (i := 9) (N := some 23) (v := ?_) (a' := ?_) #[true, true, true, true, true, true, true, false, true, true, false, false, false, false, false, false] rfl rfl (any_of HT_.out (by kernel_rfl)) (fun _ _ _ h => h) (Or.inl ⟨by rfl, ?_⟩) ?_ ?_
                rotate_left
                · intro w'
                  go_simp
                  with_reducible rfl
                rotate_left
                · simp only [Act.put, List.setIfInBounds_toArray, List.set_cons_zero, List.set_cons_succ, i64_w, i32_w]
                  rfl
                refine pure_ (i := 10) (N := some 24) (v := ?_) (a' := ?_) #[true, true, true, true, true, true, true, false, true, true, true, false, false, false, false, false] rfl rfl (any_of HT_.out (by kernel_rfl)) (fun _ _ _ h => h) (Or.inl ⟨by rfl, ?_⟩) ?_ ?_
                rotate_left
                · intro w'
                  go_simp
                  with_reducible rfl
                rotate_left
                · simp only [Act.put, List.setIfInBounds_toArray, List.set_cons_zero, List.set_cons_succ, i64_w, i32_w]
                  rfl
                refine take_ (i := 7) (N := some 21) (v := ?_) (a' := ?_) #[true, true, true, true, true, true, true, true, true, true, true, false, false, false, false, false] rfl rfl (take_ofW HT_.out HW_.out (by kernel_rfl)) (fun _ _ _ h => h) (Or.inl ⟨by rfl, ?_⟩) hHeld ?_ ?_
                rotate_left
                · rintro w' ⟨s0, s1⟩
                  go_simp
                  with_reducible rfl
                rotate_left
                · simp only [Act.put, List.setIfInBounds_toArray, List.set_cons_zero, List.set_cons_succ, i64_w, i32_w]
                  rfl
                refine take_ (i := 11) (N := some 25) (v := ?_) (a' := ?_) #[true, true, true, true, true, true, true, true, true, true, true, true, false, false, false, false] rfl rfl (take_ofW HT_.out HW_.out (by kernel_rfl)) (fun _ _ _ h => h) (Or.inl ⟨by rfl, ?_⟩) hHeld ?_ ?_
                rotate_left
                · rintro w' ⟨s0, s1⟩
                  go_simp
                  with_reducible rfl
                rotate_left
                · simp only [Act.put, List.setIfInBounds_toArray, List.set_cons_zero, List.set_cons_succ, i64_w, i32_w]
                  rfl
                refine pure_ (i := 12) (N := some 26) (v := ?_) (a' := ?_) #[true, true, true, true, true, true, true, true, true, true, true, true, true, false, false, false] rfl rfl (any_of HT_.out (by kernel_rfl)) (fun _ _ _ h => h) (Or.inl ⟨by rfl, ?_⟩) ?_ ?_
                rotate_left
                · intro w'
                  go_simp
                  with_reducible rfl
                rotate_left
                · simp only [Act.put, List.setIfInBounds_toArray, List.set_cons_zero, List.set_cons_succ, i64_w, i32_w]
                  rfl
                refine last_ (i := 13) (N := none) #[true, true, true, true, true, true, true, true, true, true, true, true, true, true, false, false] rfl rfl (one_of HT_.out (by kernel_rfl)) (by decide) (fun K hK => ?_)
                refine skip_ (w1 := ?_) (by rfl) rfl ?_ ?_
                rotate_left
                · go_simp
                  rfl
                refine hK.out _ _ ?_
                clear hK K
                refine pure_ (i := 14) (N := some 27) (v := ?_) (a' := ?_) #[true, true, true, true, true, true, true, true, true, true, true, true, true, true, true, false] rfl rfl (any_of HT_.out (by kernel_rfl)) (fun _ _ _ h => h) (Or.inl ⟨by rfl, ?_⟩) ?_ ?_
                rotate_left
                · intro w'
                  go_simp
                  with_reducible rfl
                rotate_left
                · simp only [Act.put, List.setIfInBounds_toArray, List.set_cons_zero, List.set_cons_succ, i64_w, i32_w]
                  rfl
                refine last_ (i := 15) (N := none) #[true, true, true, true, true, true, true, true, true, true, true, true, true, true, true, true] rfl rfl (one_of HT_.out (by kernel_rfl)) (by decide) (fun K hK => ?_)
                refine skip_ (w1 := ?_) (by rfl) rfl ?_ ?_
                rotate_left
                · go_simp
                  rfl
                refine hK.out _ _ ?_
                clear hK K
                refine done_ (done_of HT_.out (by kernel_rfl)) ?_
                try go_wp2
                (try simp only [← hl0_1])
                go_roundg k1
                case measure => have := HK1.out; omega
                case rel => exact ⟨(y104), (wrap64 (x2_1 + 1)), (wrap64 (x3_1 - 1)), (by first | rfl | (simp; done) | (simp [*]; done)), (by first | rfl | (simp; done) | (simp [*]; done)), H', ⟨by have := HK1.out; omega⟩, ⟨by (try simp only [hl0_1]); (with_reducible repeat (first | apply Kd.R_alloc | apply Kd.R_drewN | apply Kd.R_drew)); exact HQ12.out⟩, ⟨by repeat (first | (with_reducible first | exact HK.out | apply Kept.alloc | apply Kept.drewN | apply Kept.drew | refine Kept.setCell ?_ HMgo8.out _ | refine Kept.setCell ?_ HMgo8.out _) | exact HK.out)⟩, ⟨by repeat (first | (with_reducible first | exact HB.out | apply below_alloc | apply pw_below_drewN | apply below_drew1 | refine below_set ?_ GB8.out | refine below_set ?_ GB8.out) | exact HB.out)⟩⟩
              · rw [if_neg c7] at H
                exact absurd H (by simp)
            · rw [if_neg c6] at H
              exact absurd H (by simp)
          · rw [if_neg c5] at H
            exact absurd H (by simp)
        · rw [if_neg c4] at H
          exact absurd H (by simp)
      · rw [if_neg c3] at H
        have c3b0 : decide (x2_1 < x3_1) = false := decide_eq_false c3
        clear c3
        obtain rfl := Option.some.inj H
        go_wp2
        first | go_end0 | ((try simp only [Exit.inBlock, Exit.then]); refine bodyPost_ret (results_none rfl _ _ _) rfl ?_)
        exact ⟨by first | rfl | (simp [errW_none, errW_some] <;> rfl) | (simp [*, errW_none, errW_some] <;> rfl), (by first | exact (by (with_reducible repeat (first | apply Kd.R_alloc | apply Kd.R_drewN | apply Kd.R_drew)); exact HO_0.out) | (simp only [hl0_1]; exact (by (with_reducible repeat (first | apply Kd.R_alloc | apply Kd.R_drewN | apply Kd.R_drew)); exact HO_0.out))), by repeat (first | (with_reducible first | exact HB.out | apply below_alloc | apply pw_below_drewN | apply below_drew1) | exact HB.out), by repeat (first | (with_reducible first | exact HK.out | apply Kept.alloc | apply Kept.drewN | apply Kept.drew) | exact HK.out)⟩

/-! ### num_written: function 24 -/
-- STUB millrace/num.written | u64 i64 | str | 0 | 1 | num_written
/-- A digit's sign. -/
def numChr (d : Nat) : Int := if d < 10 then 48 + (d : Int) else 87 + (d : Int)
/-- The digits of n to base b, the lowest first, in at most f digits. -/
def numDigs (b : Nat) : Nat → Nat → List Int
  | 0, _ => []
  | f + 1, n => numChr (n % b) :: (if n / b = 0 then [] else numDigs b f (n / b))
theorem numDigs_len (b : Nat) : ∀ f n, (numDigs b f n).length ≤ f
  | 0, _ => by simp [numDigs]
  | f + 1, n => by
    have := numDigs_len b f (n / b)
    simp only [numDigs, List.length_cons]
    split
    · simp
    · omega
theorem numDigs_zero {b f n : Nat} (h : n / b = 0) : numDigs b (f + 1) n = [numChr (n % b)] := by simp [numDigs, h]
theorem numDigs_more {b f n : Nat} (h : ¬ n / b = 0) : numDigs b (f + 1) n = numChr (n % b) :: numDigs b f (n / b) := by simp [numDigs, h]
def numBound (n : Nat) : Prop := n < 2 ^ 64
theorem numChr_at (d : Nat) (h : d < 16) : ((⟨#[48, 49, 50, 51, 52, 53, 54, 55, 56, 57, 97, 98, 99, 100, 101, 102]⟩ : ByteArray)[d]'h).toNat = numChr d := by
  have : ∀ e : Fin 16, (((⟨#[48, 49, 50, 51, 52, 53, 54, 55, 56, 57, 97, 98, 99, 100, 101, 102]⟩ : ByteArray)[e.1]'e.2).toNat : Int) = numChr e.1 := by decide +kernel
  exact this ⟨d, h⟩

theorem num_wrap (n b q : Nat) (h : n < 2 ^ 64) (hq : q = n / b) : IntKind.u64.wrap ((n : Int) / (b : Int)) = (q : Int) := by
  have h1 : n / b ≤ n := Nat.div_le_self n b
  have h2 : ((n / b : Nat) : Int) = (n : Int) / (b : Int) := Int.natCast_ediv n b
  subst hq
  rw [← h2]
  have h3 : n / b < 2 ^ 64 := Nat.lt_of_le_of_lt h1 h
  generalize n / b = x at h3 ⊢
  simp only [IntKind.wrap, IntKind.signed, IntKind.bits, Bool.false_and, Bool.false_eq_true, if_false]
  omega
set_option maxHeartbeats 1000000 in
set_option maxRecDepth 100000 in
/-- places' closure: the digits, lowest first, handed out one by one; its own box B1 is turned, B2 read. -/
theorem num_places1 (l B1 B2 : Nat) (hne : B1 ≠ B2) (b : Nat) (hb : 2 ≤ b) (hb16 : b ≤ 16) (f0 n0 : Nat) (hf0 : f0 ≤ 63) (hn0 : n0 < 2 ^ (f0 + 1)) (J : List Int → World → Prop) (Jx : List Int → World → Prop)
    (hJ : ∀ pre W v, J pre W → J pre (W.setCell ⟨B1, 0, none⟩ v))
    (hY : ∀ pre x W, J pre W → (pre ++ [x]).length ≤ f0 + 1 → Rng.YieldW Try.prog l #[.int .u8 x] W fun e W' =>
      (e = .returned (.bool true) ∧ J (pre ++ [x]) W' ∧ W'.heap[B1]? = W.heap[B1]? ∧ W'.heap[B2]? = W.heap[B2]?) ∨ (e = .returned (.bool false) ∧ Jx (pre ++ [x]) W'))
    (W : World) (h1 : Boxed W B1 22 (.int .u64 n0)) (h2 : Boxed W B2 22 (.int .u64 b)) (h0 : J [] W) :
    Calls Try.prog 35 #[.func (.yield l) #[] #[], .pointer (some ⟨B1, 0, none⟩), .pointer (some ⟨B2, 0, none⟩)] W fun e W' => (∃ v, e = .returned v) ∧
      (J (numDigs b (f0 + 1) n0) W' ∨ ∃ pre, pre.length ≤ f0 + 1 ∧ Jx pre W') := by
  refine (callsIn_wide (n := 1)).1 ?_
  refine callsIn_of_wp Try.func35 rfl trivial ?_ rfl
  simp only [Try.ntmps35, List.size_toArray, List.length_cons, List.length_nil, Nat.reduceAdd, Nat.reduceSub, Array.replicate_succ, Array.replicate_zero, List.push_toArray, List.append_toArray, List.nil_append, List.cons_append]
  gi_wp2
  gi_loopg [4] (f0 + 1) (fun k v wr => (∃ (f n : Nat) (pre : List Int), k = f + 1 ∧ v = .bool true ∧ n < 2 ^ (f + 1) ∧ f ≤ f0 ∧ pre.length + (f + 1) ≤ f0 + 1 ∧ numDigs b (f0 + 1) n0 = pre ++ numDigs b (f + 1) n ∧ Boxed wr B1 22 (.int .u64 n) ∧ Boxed wr B2 22 (.int .u64 b) ∧ J pre wr) ∨ (k = 0 ∧ v = .bool false ∧ J (numDigs b (f0 + 1) n0) wr))
  case atStart => exact .inl ⟨f0, n0, [], rfl, rfl, hn0, Nat.le_refl _, by simp, by simp, h1, h2, h0⟩
  case round =>
    rcases hrel with ⟨f, n, pre, rfl, rfl, hn, hf, hpl, hx, hb1, hb2, hj⟩ | ⟨rfl, rfl, hj⟩
    · have c1 := hb1.cell
      have f1 := hb1.frozen
      have c2 := hb2.cell
      have d0 : (0 : Int) ≤ (n : Int) := by omega
      have d1 : (1 : Int) ≤ (b : Int) := by omega
      have hlt : n < 2 ^ 64 := Nat.lt_of_lt_of_le hn (Nat.pow_le_pow_right (by omega) (by omega))
      have hqb : n / b < 2 ^ (f + 1) := Nat.lt_of_le_of_lt (Nat.div_le_self _ _) hn
      have hqf : n / b < 2 ^ f := by
        have : n / b ≤ n / 2 := Nat.div_le_div_left hb (by omega)
        rw [Nat.pow_succ] at hn
        omega
      obtain ⟨q, hq⟩ : ∃ q, q = n / b := ⟨_, rfl⟩
      obtain ⟨m, hm⟩ : ∃ m, m = n % b := ⟨_, rfl⟩
      have eq1 : IntKind.u64.wrap ((n : Int) / (b : Int)) = (q : Int) := num_wrap n b q hlt hq
      have em1 : (n : Int) % (b : Int) = (m : Int) := by rw [hm]; omega
      have hm16 : m < 16 := by have := Nat.mod_lt n (show b > 0 by omega); omega
      have hch := numChr_at m hm16
      rw [← hq] at hqf
      have hx' : Hid (numDigs b (f0 + 1) n0 = pre ++ (numChr m :: (if q = 0 then [] else numDigs b f q))) := by
        show _ = _
        rw [hx, hm, hq]
        rfl
      clear hx hn hlt hqb hq hm
      have hj1 := hJ pre wr (.int .u64 q) hj
      have B1' : Boxed (wr.setCell ⟨B1, 0, none⟩ (.int .u64 q)) B1 22 (.int .u64 q) := hb1.set _
      have B2' : Boxed (wr.setCell ⟨B1, 0, none⟩ (.int .u64 q)) B2 22 (.int .u64 b) := (Below.heap_setCell wr ⟨B1, 0, none⟩ _ B2 (Ne.symm hne)).trans hb2
      obtain ⟨fn, tmps, assign, body, hy, hR⟩ := hY pre (numChr m) _ hj1 (by simp; omega) 0
      have HR := Lib.hid hR
      clear hR
      gi_wp2
      refine HR.out.mono ?_
      rintro e W3 (⟨rfl, hJ3, hk1, hk2⟩ | ⟨rfl, hJx3⟩)
      · have B1x : Boxed W3 B1 22 (.int .u64 q) := hk1.trans B1'
        have B2x : Boxed W3 B2 22 (.int .u64 b) := hk2.trans B2'
        have c3 := B1x.cell
        by_cases hz : q = 0
        · subst hz
          gi_wp2
          go_roundg 0
          case measure => omega
          case rel => exact .inr ⟨rfl, rfl, by rw [hx'.out]; simpa using hJ3⟩
        · have hz' : decide ((0 : Int) < (q : Int)) = true := by simp; omega
          cases f with
          | zero => simp at hqf; exact absurd hqf hz
          | succ f =>
            gi_wp2
            go_roundg (f + 1)
            case measure => omega
            case rel => exact .inl ⟨f, q, pre ++ [numChr m], rfl, (by simp; omega), hqf, by omega, by simp; omega, by rw [hx'.out, if_neg hz]; simp, B1x, B2x, hJ3⟩
      · gi_wp2
        refine bodyPost_ret (results_none rfl _ _ _) rfl ?_
        exact ⟨⟨_, rfl⟩, .inr ⟨pre ++ [numChr m], by simp; omega, hJx3⟩⟩
    · gi_wp2
      go_end0
      exact ⟨⟨_, rfl⟩, .inl hj⟩

/-- written, of numbers that a uint64 holds, to bases from 2 to 16. -/
def num_written.f (a0 : Int) (a1 : Int) : Option ByteArray :=
  if 2 ≤ a1 ∧ a1 ≤ 16 ∧ 0 ≤ a0 ∧ a0.toNat < 2 ^ 64 then some (strOfNums (numDigs a1.toNat 64 a0.toNat).reverse) else none

theorem num_set_at (x y : Int) (post : List Int) : ∀ pre : List Int, (pre ++ x :: post).set pre.length y = pre ++ y :: post
  | [] => rfl
  | a :: pre => by simp [num_set_at x y post pre]
theorem num_rd_at (x : Int) (pre post : List Int) : rd (pre ++ x :: post) ((pre.length : Nat) : Int) = x := by simp [rd]
/-- slices.Reverse, as the print tells it. -/
theorem num_rev : ∀ (k : Nat) (pre mid post : List Int), mid.length ≤ 2 * k + 1 → (pre ++ mid ++ post).length ≤ 9223372036854775807 → ∀ (i j : Int), i = (pre.length : Int) → j = (pre.length : Int) + (mid.length : Int) - 1 →
    slices_Reverse_byte_byte.l0 (k + 1) (pre ++ mid ++ post) i j = some (pre ++ mid.reverse ++ post) := by
  intro k
  induction k with
  | zero =>
    intro pre mid post hm hl i j hi hj
    simp only [slices_Reverse_byte_byte.l0]
    rw [if_neg (by omega)]
    match mid, hm with
    | [], _ => rfl
    | [x], _ => rfl
  | succ k ih =>
    intro pre mid post hm hl i j hi hj
    by_cases h1 : mid.length ≤ 1
    · simp only [slices_Reverse_byte_byte.l0]
      rw [if_neg (by omega)]
      match mid, h1 with
      | [], _ => rfl
      | [x], _ => rfl
    · obtain ⟨a, m, z, rfl⟩ : ∃ a m z, mid = a :: (m ++ [z]) := by
        match mid, h1 with
        | [], h => exact absurd (by simp) h
        | a :: r, h =>
          have hr : r ≠ [] := by rintro rfl; simp at h
          exact ⟨a, r.dropLast, r.getLast hr, by rw [List.dropLast_concat_getLast]⟩
      have hlen : (a :: (m ++ [z])).length = m.length + 2 := by simp
      have hll : (pre ++ a :: (m ++ [z]) ++ post).length = pre.length + (m.length + 2) + post.length := by simp; omega
      rw [hlen] at hm hj
      rw [hll] at hl
      have e1 : pre ++ a :: (m ++ [z]) ++ post = (pre ++ a :: m) ++ z :: post := by simp
      have e2 : pre ++ a :: (m ++ [z]) ++ post = pre ++ a :: (m ++ z :: post) := by simp
      have hj' : j = ((pre ++ a :: m).length : Nat) := by simp; omega
      have hjr : rd (pre ++ a :: (m ++ [z]) ++ post) j = z := by rw [e1, hj']; exact num_rd_at _ _ _
      have hir : rd (pre ++ a :: (m ++ [z]) ++ post) i = a := by rw [e2, hi]; exact num_rd_at _ _ _
      have hs1 : (pre ++ a :: (m ++ [z]) ++ post).set i.toNat z = (pre ++ z :: m) ++ z :: post := by
        rw [e2, hi, Int.toNat_natCast, num_set_at]; simp
      have hs2 : ((pre ++ z :: m) ++ z :: post).set j.toNat a = (pre ++ [z]) ++ m ++ (a :: post) := by
        rw [show j.toNat = (pre ++ z :: m).length by simp; omega, num_set_at]; simp
      have hlt : ((pre ++ a :: (m ++ [z]) ++ post).length : Int) = (pre.length : Int) + (m.length : Int) + 2 + (post.length : Int) := by rw [hll]; omega
      rw [slices_Reverse_byte_byte.l0, if_pos (by omega), if_pos (by omega), if_pos (by omega), if_pos (by omega), if_pos (by omega), hjr, hir, hs1, hs2]
      have w1 : wrap64 (i + 1) = ((pre ++ [z]).length : Int) := by unfold wrap64; simp; omega
      have w2 : wrap64 (j - 1) = ((pre ++ [z]).length : Int) + (m.length : Int) - 1 := by unfold wrap64; simp; omega
      rw [ih (pre ++ [z]) m (a :: post) (by omega) (by simp; omega) _ _ w1 w2]
      simp
theorem num_reverse (l : List Int) (hl : l.length ≤ 9223372036854775807) : slices_Reverse_byte_byte.f (l.length + 1) l = some l.reverse := by
  have := num_rev l.length [] l [] (by omega) (by simpa using hl) 0 (wrap64 ((l.length : Int) - 1)) rfl (by unfold wrap64; simp; omega)
  simpa [slices_Reverse_byte_byte.f] using this

set_option maxHeartbeats 1000000 in
theorem num_places (n b : Int) (w : World) :
    Calls Try.prog 31 #[.int .u64 n, .int .u64 b] w fun e w' => e = .returned (.func (.func 35) #[] #[.pointer (some ⟨w.heap.size, 0, none⟩), .pointer (some ⟨w.heap.size + 1, 0, none⟩)]) ∧
      w' = (w.alloc (.cells #[.int .u64 n] 22)).alloc (.cells #[.int .u64 b] 22) := by
  go_enter Try.func31, Try.ntmps31
  go_wp2
  go_ret
  exact ⟨rfl, rfl⟩

theorem num_places_seq (B1 B2 : Nat) (hne : B1 ≠ B2) (b : Nat) (hb : 2 ≤ b) (hb16 : b ≤ 16) (n : Nat) (hn : n < 2 ^ 64) (w : World) (h1 : Boxed w B1 22 (.int .u64 n)) (h2 : Boxed w B2 22 (.int .u64 b)) :
    Rng.SeqW Try.prog 35 #[.pointer (some ⟨B1, 0, none⟩), .pointer (some ⟨B2, 0, none⟩)] (fun x : Int => #[Value.int .u8 x]) (fun r => r = B1) (fun k => k = B1 ∨ k = B2) (fun xs => xs = numDigs b 64 n) (fun pre => pre.length ≤ 64) w := by
  intro l J Jx W hW hJ hJx hY h0
  have g1 : Boxed W B1 22 (.int .u64 n) := (hW.block B1 h1.lt).trans h1
  have g2 : Boxed W B2 22 (.int .u64 b) := (hW.block B2 h2.lt).trans h2
  refine (num_places1 l B1 B2 hne b hb hb16 63 n (by omega) hn (fun pre W => J pre W ∧ B1 < W.heap.size ∧ B2 < W.heap.size) Jx ?_ ?_ W g1 g2 ⟨h0, g1.lt, g2.lt⟩).mono ?_
  · rintro pre W v ⟨hj, hl1, hl2⟩
    exact ⟨hJ pre W _ (some B1) hj (grownBy_setCell' W B1 v) (fun r e => .inl (by cases e; rfl)), by simpa [World.setCell] using hl1, by simpa [World.setCell] using hl2⟩
  · rintro pre x W ⟨hj, hl1, hl2⟩ hlen m
    obtain ⟨fn, tmps, assign, body, hy, hR⟩ := hY pre x W hj hlen m
    refine ⟨fn, tmps, assign, body, hy, hR.mono ?_⟩
    rintro e W' (⟨rfl, hj', hk, hs⟩ | ⟨rfl, hx⟩)
    · exact .inl ⟨rfl, ⟨hj', Nat.lt_of_lt_of_le hl1 hs.size, Nat.lt_of_lt_of_le hl2 hs.size⟩, hs.same _ (.inl rfl) hl1, hs.same _ (.inr rfl) hl2⟩
    · exact .inr ⟨rfl, hx⟩
  · rintro e W' ⟨hv, ⟨hj, _⟩ | ⟨pre, hp, hx⟩⟩
    · exact ⟨hv, .inl ⟨_, rfl, hj⟩⟩
    · exact ⟨hv, .inr ⟨pre, hp, hx⟩⟩

theorem num_appended {w W w1 : World} {v v' : Value} {k m : Nat} {xs ys : List Value} {tmp : Obj} (hv : Boxed W w.heap.size 39 v) (hrow : W.ownsRow (w.heap.size + 3) 5 1 v k xs) (hn : w.heap.size ≤ W.heap.size)
    (hown' : w1.ownsRow (w.heap.size + 3) 5 1 v' m ys) (hgrow : (W.alloc tmp).grownBy w1 v.ownBlock) :
    Boxed w1 w.heap.size 39 v ∧ Boxed (w1.setCell ⟨w.heap.size, 0, none⟩ v') w.heap.size 39 v' ∧ (w1.setCell ⟨w.heap.size, 0, none⟩ v').ownsRow (w.heap.size + 3) 5 1 v' m ys ∧ KeepsOthers W (w1.setCell ⟨w.heap.size, 0, none⟩ v') ∧ Below w.heap.size W (w1.setCell ⟨w.heap.size, 0, none⟩ v') ∧ Rng.Same (fun k => k = w.heap.size + 1 ∨ k = w.heap.size + 1 + 1) W (w1.setCell ⟨w.heap.size, 0, none⟩ v') := by
  obtain ⟨h1, h2, h3, h4, h5⟩ := hv.appended (show (39 : TypeId) ≠ 5 by decide) (Joins.ownsRow_le hrow (show w.heap.size ≤ w.heap.size + 3 by omega)) hn (Nat.le_refl _) (Joins.ownsRow_le hown' (show w.heap.size ≤ w.heap.size + 3 by omega)) hgrow
  exact ⟨h1, h2, hown'.kept (grownBy_setCell' w1 w.heap.size v') (.inr (h1.not_row (by decide) hown').symm), h4, h5, ((Rng.Same.alloc _ W tmp).trans (Rng.Same.grown hgrow (fun r e h => by have := (hrow.lt r e).1; rcases h with h | h <;> omega))).trans (Rng.Same.setCell w1 (by simp; omega) v')⟩

attribute [local go_sem] Oper.semAt_some Rng.wide_fn Rng.wide_depth Rng.wide_alive

set_option maxHeartbeats 2000000 in
set_option maxRecDepth 100000 in
theorem num_written.calls (a0 a1 : Int) (r : ByteArray) (w : World) (h : num_written.f a0 a1 = some r) :
    Calls Try.prog 24 #[.int .u64 a0, .int .i64 a1] w fun e w' => e = .returned (.string r) ∧ Below w.heap.size w w' := by
  unfold num_written.f at h
  split at h
  case isFalse => cases h
  case isTrue hr =>
    obtain ⟨hr1, hr2, hr3, hr4⟩ := hr
    obtain rfl := Option.some.inj h
    clear h
    obtain ⟨n, rfl⟩ := Int.eq_ofNat_of_zero_le hr3
    obtain ⟨b, rfl⟩ := Int.eq_ofNat_of_zero_le (show 0 ≤ a1 by omega)
    rw [Int.toNat_natCast, Int.toNat_natCast] at *
    have hb2 : 2 ≤ b := by omega
    have hb16 : b ≤ 16 := by omega
    have hwb : IntKind.u64.wrap (b : Int) = (b : Int) := by
      simp only [IntKind.wrap, IntKind.signed, IntKind.bits, Bool.false_and, Bool.false_eq_true, if_false]
      omega
    have hwb' := Lib.hid hr4
    obtain ⟨xs, hxs⟩ : ∃ xs, xs = numDigs b 64 n := ⟨_, rfl⟩
    have hxl : xs.length ≤ 64 := by rw [hxs]; exact numDigs_len b 64 n
    rw [← hxs]
    have HX := Lib.hid hxs
    clear hxs
    clear hr1 hr2 hr3 hr4
    obtain ⟨i0, hi, hz0, hz1, hz2⟩ := info_parts info5
    refine (callsIn_wide (n := 5)).1 ?_
    refine callsIn_of_wp_marks Try.func24 rfl trivial ?_ rfl
    simp only [Try.ntmps24, List.size_toArray, List.length_cons, List.length_nil, Nat.reduceAdd, Nat.reduceSub, Array.replicate_succ, Array.replicate_zero, List.push_toArray, List.append_toArray, List.nil_append, List.cons_append]
    gi_wp2_with (gi_at_call 31; refine (callsIn_wide.2 (num_places _ _ _)).mono ?_; rintro e w' ⟨rfl, rfl⟩)
    have b0 := Boxed.new w 39 (.slice none 0 0)
    have b1 := Boxed.new (w.alloc (.cells #[.slice none 0 0] 39)) 22 (.int .u64 (n : Int))
    have b2 := Boxed.new ((w.alloc (.cells #[.slice none 0 0] 39)).alloc (.cells #[.int .u64 (n : Int)] 22)) 22 (.int .u64 (b : Int))
    rw [World.size_alloc] at b1
    rw [World.size_alloc, World.size_alloc] at b2
    have hB0 : Below w.heap.size w (((w.alloc (.cells #[.slice none 0 0] 39)).alloc (.cells #[.int .u64 (n : Int)] 22)).alloc (.cells #[.int .u64 (b : Int)] 22)) := (((Below.refl _ w).alloc (Nat.le_refl _) _).alloc (by simp) _).alloc (by simp; omega) _
    refine Rng.rangeW (gf := 35) (lb := #[.pointer (some ⟨w.heap.size + 1, 0, none⟩), .pointer (some ⟨w.heap.size + 1 + 1, 0, none⟩)]) rfl (enters_of Try.func35 (by kernel_rfl) rfl)
      (num_places_seq (w.heap.size + 1) (w.heap.size + 1 + 1) (by omega) b hb2 hb16 n hwb'.out _ (b1.alloc _) b2) (Below.refl _ _) (fun r h => by subst h; simp) (fun r h => by rcases h with rfl | rfl <;> simp) (fun _ => rfl)
      (fun pre W => (∃ v, Boxed W w.heap.size 39 v ∧ W.ownsRow (w.heap.size + 3) 5 1 v pre.length (pre.map (Value.int .u8)) ∧ True) ∧ Below w.heap.size w W)
      (fun _ _ _ => False)
      (Rng.Owns.and (Rng.Owns.holds (w.heap.size + 3) w.heap.size 39 5 1 (fun pre : List Int => pre.length) (fun pre => pre.map (Value.int .u8)) (fun _ _ => True) (by omega) (fun r h => by omega)) (Rng.Owns.below (Nat.le_refl _) (by simp; omega) (fun r h => by omega)))
      (fun _ => Rng.Owns.never)
      ⟨⟨_, (b0.alloc _).alloc _, World.ownsRow_nil _ _ _ _, trivial⟩, hB0⟩
      (fun x => { tmps := #[.int .u64 n, .int .i64 b, undef, undef, .string ⟨#[]⟩, .pointer (some ⟨w.heap.size, 0, none⟩), .int .u8 x, .int .u64 n, .int .i64 b, .int .u64 b, .func (.func 35) #[] #[.pointer (some ⟨w.heap.size + 1, 0, none⟩), .pointer (some ⟨w.heap.size + 1 + 1, 0, none⟩)], .int .u8 x, undef, undef, undef, undef, undef, undef, undef, undef], defers := [] }) ?assign ?body ?done ?stop
    case assign =>
      intro l x W K hK
      gi_wp2
      exact hK
    case body =>
      rintro l pre x W ⟨⟨v, hv, hrow, _⟩, hB⟩ hlen hsz
      have hc := hv.cell
      simp only [World.size_alloc] at hsz
      have hlen' : pre.length + 1 ≤ 64 := by simpa using hlen
      have hrow2 : (W.alloc (.cells #[.int .u8 x] 5)).ownsRow (w.heap.size + 3) 5 1 v pre.length (pre.map (Value.int .u8)) := hrow.alloc _
      have q1 : pre.length + 1 ≤ maxLen := by unfold maxLen; omega
      have q2 : (pre.length + 1) * 1 ≤ 140737488355328 := by omega
      have q3 : w.heap.size + 3 ≤ (W.alloc (.cells #[.int .u8 x] 5)).heap.size := by simp; omega
      have q4 : ∀ u ∈ [Value.int .u8 x], u.oneCell' = true := by simp [Value.oneCell']
      have hn2 : w.heap.size ≤ W.heap.size := hB.size
      have Q := Lib.hid (And.intro q1 (And.intro q2 q3))
      clear q1 q2 q3 hlen hlen' hsz
      gi_wp2_with (gi_at_builtin; go_must (refine wpListIn_append_own _ rfl _ _ 39 rfl (w.heap.size + 3) 5 i0 (.int .u8 0) 1 1 Try.underlying39 hi hz0 hz1 hz2 rfl (by decide) _ _ _ rfl hrow2 ⟨W.heap.size, 0, none⟩ 1 1 [.int .u8 x] rfl rfl (cell_one_new _ _ _) q4 Q.out.1 Q.out.2.1 Q.out.2.2 ?_); go_must (intro v' w1 hown' hgrow _; obtain ⟨g', cap', rfl⟩ := ownsRow_succ hown'; obtain ⟨hv1, hv2, hr2, hk2, hb2, hs2⟩ := num_appended hv hrow hn2 hown' hgrow; have hc1 := hv1.cell; have hf1 := hv1.frozen))
      exact ⟨hk2, hs2, ⟨_, hv2, by simpa using hr2, trivial⟩, hB.trans hb2⟩
    case done =>
      rintro D ys W hD hys ⟨⟨v, hv, hrow, _⟩, hB⟩ hK
      have hc := hv.cell
      obtain rfl : ys = xs := hys.trans HX.out.symm
      clear hys
      have hR : Kd.R (Kd.int .u8) 5 W w.heap.size (fun k => some k = v.ownBlock) v ys := Kd.R_of_own (enc := Value.int .u8) (h1 := fun _ => rfl) (Joins.ownsRow_le hrow (show w.heap.size ≤ w.heap.size + 3 by omega)) (fun k hk => hk.symm)
      have hne : ¬ some w.heap.size = v.ownBlock := fun e => by have := (hrow.lt _ e.symm).1; omega
      have hcall := slices_Reverse_byte_byte.calls (ys.length + 1) (fun k => some k = v.ownBlock) v ys ys.reverse w W hB hR (num_reverse ys (by omega))
      have HC := Lib.hid hcall
      have hnD : ¬ some D = v.ownBlock := fun e => by obtain ⟨cs, hcs⟩ := own_typed hrow D e.symm; rw [hK] at hcs; cases hcs
      clear hcall hR hrow hxl
      simp only [World.size_alloc] at hD
      gi_wp2_with (gi_at_call 32; go_must (refine (callsIn_wide.2 HC.out).mono ?_); go_must (rintro e W4 ⟨rfl, hR4, hB4, hk4⟩; have hv4 : Boxed W4 w.heap.size 39 v := blk_kept hv hk4 hne; have hc4 := hv4.cell))
      have hK4 : W4.heap[D]? = some (.deferred (some [])) := blk_kept hK hk4 hnD
      obtain ⟨A, c, hv0, _, hC⟩ := Kd.R_reads hR4
      have hcv : (convert 39 9 v).run Try.prog W4 = .ok (.string (strOfNums ys.reverse)) W4 := by
        rw [hv0]; exact Kd.C_string Try.underlying39 Try.underlying5 Try.underlying9 hC
      clear hv0 hC hR4
      rw [hcv]
      simp only [Result.andThen]
      rw [Oper.uponIn_value]
      gi_wp2
      refine ⟨by simp, .inl ⟨_, _, rfl, run_takeDeferred hK4, ?_⟩⟩
      exact ⟨_, results_tmp rfl _ _ _, rfl, hB4.trans (belowK_b (w := w) (Nat.le_refl _) W4 D _ _ (by omega) hK4 rfl rfl)⟩
    case stop =>
      rintro D c pre W _ _ h _
      exact h.elim

end Go.Proofs.Ytlfahlmhkndllaa.PNum
