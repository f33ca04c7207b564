import Derived.Test.YthmijenlndnmcaaGreatDoorShx0
import Derived.Test.YthmijenlndnmcaaGreatDoorShx3
namespace Go.Proofs.YthmijenlndnmcaaGreatDoor.Sh
open Go.RowKit Go.Proofs.YthmijenlndnmcaaGreatDoorW.PrintWords Go.Proofs.YthmijenlndnmcaaGreatDoorW.PrintLast Go.Proofs.YthmijenlndnmcaaGreatDoorW.PrintMore
attribute [local go_sem] max2_int min2_int max_two min_two max_three min_three max_four min_four
set_option linter.unusedVariables false
set_option linter.unusedSimpArgs false
def numTop : Nat := 18446744073709551616
def numParse (b : Nat) : Nat → Nat → List UInt8 → Int × Int × Int
  | n, i, [] => ((n : Int), 0, (i : Int))
  | n, i, c :: r =>
    if numWorth c.toNat < 0 ∨ (b : Int) ≤ numWorth c.toNat then (0, 11, (i : Int))
    else if numTop ≤ n * b + (numWorth c.toNat).toNat then (0, 4, (i : Int))
    else numParse b (n * b + (numWorth c.toNat).toNat) (i + 1) r
def num_ParseBase.f (a0 : ByteArray) (a1 : Int) : Option (Int × Int × Int) :=
  if a0.size ≤ 9223372036854775807 then
    some (if a1 < 2 ∨ 16 < a1 then (0, 4, 0) else if a0.size = 0 then (0, 8, 0) else numParse a1.toNat 0 0 a0.data.toList)
  else none
namespace NumMul
theorem maskN (a : Nat) (ha : a < 18446744073709551616) : bits .and .u64 (a : Int) 4294967295 = ((a % 4294967296 : Nat) : Int) := by
  have h := bits_and_u64_nat a 4294967295 ha (by omega)
  have e : a &&& 4294967295 = a % 4294967296 := Nat.and_two_pow_sub_one_eq_mod a 32
  rw [e] at h
  exact h
theorem divN (a : Nat) : (a : Int) / 4294967296 = ((a / 4294967296 : Nat) : Int) := by omega
theorem mulN (a b : Nat) : (a : Int) * (b : Int) = ((a * b : Nat) : Int) := (Int.natCast_mul a b).symm
theorem addN (a b : Nat) : (a : Int) + (b : Int) = ((a + b : Nat) : Int) := (Int.natCast_add a b).symm
theorem wrapN (a : Nat) (ha : a < 18446744073709551616) : IntKind.u64.wrap (a : Int) = (a : Int) := by rw [IntKind.wrap_u64]; omega
theorem wrapM (a : Nat) : IntKind.u64.wrap (a : Int) = ((a % 18446744073709551616 : Nat) : Int) := by rw [IntKind.wrap_u64]; omega
end NumMul
set_option maxHeartbeats 1000000 in
theorem num_mul64 (x y : Nat) (hx0 : x < numTop) (hy0 : y < numTop) (w : World) :
    Calls Tryz.prog 153 #[.int .u64 x, .int .u64 y] w fun e w' => e = .returned (.tuple #[.int .u64 ((x * y / numTop : Nat) : Int), .int .u64 ((x * y % numTop : Nat) : Int)]) ∧ w = w' := by
  have hx : x < 18446744073709551616 := hx0
  have hy : y < 18446744073709551616 := hy0
  clear hx0 hy0
  show Calls Tryz.prog 153 #[.int .u64 x, .int .u64 y] w fun e w' => e = .returned (.tuple #[.int .u64 ((x * y / 18446744073709551616 : Nat) : Int), .int .u64 ((x * y % 18446744073709551616 : Nat) : Int)]) ∧ w = w'
  obtain ⟨bd, bt, bw, hhi⟩ := Lib.mul64_hi x y hx hy
  have ba := Lib.half_mul_le (a := x / 4294967296) (b := y / 4294967296) (by omega) (by omega)
  have bb := Lib.half_mul_le (a := x / 4294967296) (b := y % 4294967296) (by omega) (by omega)
  have bc := Lib.half_mul_le (a := x % 4294967296) (b := y / 4294967296) (by omega) (by omega)
  have ba' : x / 4294967296 * (y / 4294967296) < 18446744073709551616 := by omega
  have bb' : x / 4294967296 * (y % 4294967296) < 18446744073709551616 := by omega
  have bc' : x % 4294967296 * (y / 4294967296) < 18446744073709551616 := by omega
  have bh1 : x / 4294967296 * (y / 4294967296) + (x / 4294967296 * (y % 4294967296) + x % 4294967296 * (y % 4294967296) / 4294967296) / 4294967296 < 18446744073709551616 := by omega
  have bh : x / 4294967296 * (y / 4294967296) + (x / 4294967296 * (y % 4294967296) + x % 4294967296 * (y % 4294967296) / 4294967296) / 4294967296 + ((x / 4294967296 * (y % 4294967296) + x % 4294967296 * (y % 4294967296) / 4294967296) % 4294967296 + x % 4294967296 * (y / 4294967296)) / 4294967296 < 18446744073709551616 := by omega
  go_enter Tryz.func153, Tryz.ntmps153
  go_wp2
  simp only [NumMul.maskN x hx, NumMul.maskN y hy, NumMul.divN, NumMul.mulN, NumMul.addN, NumMul.wrapN _ bd, NumMul.wrapN _ bb', NumMul.wrapN _ bt, NumMul.maskN _ bt, NumMul.wrapN _ bc', NumMul.wrapN _ bw, NumMul.wrapN _ ba', NumMul.wrapN _ bh1, NumMul.wrapN _ bh, NumMul.wrapM (x * y)]
  rw [hhi]
  go_ret2
  exact ⟨rfl, rfl⟩
theorem num_add64 (x y : Nat) (w : World) :
    (callFunc 154 #[.int .u64 x, .int .u64 y, .int .u64 0]).run Tryz.prog w = .ok (.value (.tuple #[.int .u64 (((x + y) % numTop : Nat) : Int), .int .u64 (((x + y) / numTop : Nat) : Int)])) w := by
  rw [run_callFunc_extern Tryz.func154 (by kernel_rfl) (by kernel_rfl) (by kernel_rfl) (e := add64Entry) (by kernel_rfl), run_add64 x y 0 (by omega) (by omega) (by omega) (by omega)]
  simp only [Result.andThen, numTop]
  congr 5 <;> omega
theorem num_carry {n b d : Nat} (hd : d < 16) : 0 < n * b / numTop + (n * b % numTop + d) / numTop ↔ numTop ≤ n * b + d := by
  unfold numTop; omega
theorem num_sum {n b d : Nat} (h : ¬ numTop ≤ n * b + d) : (n * b % numTop + d) % numTop = n * b + d := by
  unfold numTop at *; omega
theorem num_carry_le {n b d : Nat} (hn : n < numTop) (hb : b ≤ 16) (hd : d < 16) : n * b / numTop + (n * b % numTop + d) / numTop ≤ 17 := by
  have h1 : n * b ≤ n * 16 := Nat.mul_le_mul_left n hb
  have : n * b / numTop ≤ 16 := by unfold numTop at *; omega
  have : (n * b % numTop + d) / numTop ≤ 1 := by unfold numTop at *; omega
  omega
set_option maxHeartbeats 1000000 in
set_option maxRecDepth 100000 in
theorem num_ParseBase.loop (s : ByteArray) (b : Nat) (hb2 : 2 ≤ b) (hb : b ≤ 16) (hs : s.size ≤ maxLen) (h0 : 0 < s.size) (w : World) :
    Calls Tryz.prog 139 #[.string s, .int .i64 b] w fun e w' => e = .returned (.tuple #[.int .u64 (numParse b 0 0 s.data.toList).1, .int .i64 (numParse b 0 0 s.data.toList).2.1, .int .i64 (numParse b 0 0 s.data.toList).2.2]) ∧ Below w.heap.size w w' := by
  unfold maxLen at hs
  have g1 : decide ((b : Int) < 2) = false := by simp; omega
  have g2 : decide ((16 : Int) < (b : Int)) = false := by simp; omega
  have hem : s.toList.isEmpty = false := by
    have : s.toList.length = s.size := by rw [ByteArray.toList_eq, Array.length_toList]; rfl
    cases h : s.toList with
    | nil => rw [h] at this; simp at this; omega
    | cons a l => rfl
  go_enter Tryz.func139, Tryz.ntmps139
  go_wp2
  go_loopg [7, 24] s.size (fun k v7 v24 wr => ∃ n i : Nat, v7 = .int .u64 n ∧ v24 = .int .i64 i ∧ n < numTop ∧ i ≤ s.size ∧ k = s.size - i ∧ numParse b 0 0 s.data.toList = numParse b n i (s.data.toList.drop i) ∧ Below w.heap.size w wr)
  case atStart => exact ⟨0, 0, rfl, rfl, by unfold numTop; omega, by omega, by omega, by simp, Below.refl _ _⟩
  case round =>
    obtain ⟨n, i, rfl, rfl, hn, hi, hk, hx, hB⟩ := hrel
    by_cases hlt : i < s.size
    · have hdrop : s.data.toList.drop i = s[i] :: s.data.toList.drop (i + 1) := by
        rw [List.drop_eq_getElem_cons (by simpa using hlt)]; rfl
      rw [hdrop] at hx
      obtain ⟨c, hc⟩ : ∃ c, c = (s[i].toNat : Int) := ⟨_, rfl⟩
      have hw1 := numWorth_range c
      have hcr : 0 ≤ c ∧ c ≤ 255 := by have := s[i].toNat_lt; omega
      have hcall := fun W => num_worth.calls c (numWorth c) W (by simp [num_worth.f, hcr])
      have HC := Lib.hid hcall
      clear hcall hdrop
      simp only [numParse] at hx
      rw [← hc] at hx
      obtain ⟨d, hd⟩ : ∃ d, d = numWorth c := ⟨_, rfl⟩
      rw [← hd] at hx hw1 HC
      clear hd hcr
      have hc' : (s[i].toNat : Int) = c := hc.symm
      clear hc
      have h3 : decide ((i : Int) < (s.size : Int)) = true := by simp; omega
      by_cases hd0 : d < 0
      · rw [if_pos (.inl hd0)] at hx
        have HX := Lib.hid hx
        have h4 : decide (d < 0) = true := by simp; omega
        clear hx hw1 hd0
        go_wp2_with (go_at_call 152; go_must (refine (HC.out _).mono ?_); go_must (rintro e w' ⟨rfl, hB2⟩))
        go_ret3
        exact ⟨by rw [HX.out]; rfl, hB.trans (hB2.mono hB.size)⟩
      · have h4 : decide (d < 0) = false := by simp; omega
        by_cases hdb : (b : Int) ≤ d
        · rw [if_pos (.inr hdb)] at hx
          have HX := Lib.hid hx
          have h5 : decide ((b : Int) ≤ d) = true := by simp; omega
          clear hx hw1 hd0 hdb
          go_wp2_with (go_at_call 152; go_must (refine (HC.out _).mono ?_); go_must (rintro e w' ⟨rfl, hB2⟩))
          go_ret3
          exact ⟨by rw [HX.out]; rfl, hB.trans (hB2.mono hB.size)⟩
        · have h5 : decide ((b : Int) ≤ d) = false := by simp; omega
          obtain ⟨dn, rfl⟩ := Int.eq_ofNat_of_zero_le (show 0 ≤ d by omega)
          rw [if_neg (by omega), Int.toNat_natCast] at hx
          have h5n : decide (b ≤ dn) = false := by simp; omega
          have hdn : dn < 16 := by omega
          have hwb : IntKind.u64.wrap (b : Int) = (b : Int) := NumMul.wrapN b (by omega)
          have hwd : IntKind.u64.wrap (dn : Int) = (dn : Int) := NumMul.wrapN dn (by omega)
          obtain ⟨hi64, hhi⟩ : ∃ x, x = n * b / numTop := ⟨_, rfl⟩
          obtain ⟨lo64, hlo⟩ : ∃ x, x = n * b % numTop := ⟨_, rfl⟩
          obtain ⟨sm, hsm⟩ : ∃ x, x = (lo64 + dn) % numTop := ⟨_, rfl⟩
          obtain ⟨cy, hcy⟩ : ∃ x, x = (lo64 + dn) / numTop := ⟨_, rfl⟩
          have hmul := fun W => num_mul64 n b hn (by unfold numTop; omega) W
          have hadd := fun W => num_add64 lo64 dn W
          have hcar := num_carry (n := n) (b := b) hdn
          have hsum := num_sum (n := n) (b := b) (d := dn)
          have hle := num_carry_le hn hb hdn
          rw [← hhi, ← hlo, ← hcy] at hcar hle
          rw [← hlo, ← hsm] at hsum
          rw [← hsm, ← hcy] at hadd
          rw [← hhi, ← hlo] at hmul
          have HM := Lib.hid hmul
          clear hmul hsm hcy hhi hlo
          by_cases ho : numTop ≤ n * b + dn
          · rw [if_pos ho] at hx
            have HX := Lib.hid hx
            have h6 : decide ((0 : Int) < (hi64 : Int) + (cy : Int)) = true := by have := hcar.2 ho; simp; omega
            clear hx hw1 hd0 hdb ho hcar hsum hn hk
            go_wp2_with (first | (go_at_call 152; go_must (refine (HC.out _).mono ?_); go_must (rintro e w' ⟨rfl, hB2⟩)) | (go_at_call 153; go_must (refine (HM.out _).mono ?_); go_must (rintro e w' ⟨rfl, rfl⟩)))
            go_ret3
            exact ⟨by rw [HX.out]; rfl, hB.trans (hB2.mono hB.size)⟩
          · rw [if_neg ho] at hx
            obtain rfl : sm = n * b + dn := hsum ho
            have h6 : decide ((0 : Int) < (hi64 : Int) + (cy : Int)) = false := by have := (not_congr hcar).2 ho; simp; omega
            obtain ⟨n2, hn2⟩ : ∃ x, x = n * b + dn := ⟨_, rfl⟩
            rw [← hn2] at hx hadd
            have hn2' : n2 < numTop := by omega
            have HX := Lib.hid hx
            clear hx hw1 hd0 hdb ho hcar hsum hn hn2
            go_wp2_with (first | (go_at_call 152; go_must (refine (HC.out _).mono ?_); go_must (rintro e w' ⟨rfl, hB2⟩)) | (go_at_call 153; go_must (refine (HM.out _).mono ?_); go_must (rintro e w' ⟨rfl, rfl⟩)))
            go_roundg (s.size - (i + 1))
            case measure => omega
            case rel => exact ⟨n2, i + 1, rfl, by go_num, hn2', by omega, rfl, HX.out, hB.trans (hB2.mono hB.size)⟩
    · obtain rfl : i = s.size := by omega
      rw [List.drop_eq_nil_of_le (by simp)] at hx
      have HX := Lib.hid hx
      clear hx hk hn
      go_wp2
      go_ret3
      exact ⟨by rw [HX.out]; rfl, hB⟩
set_option maxHeartbeats 1000000 in
set_option maxRecDepth 100000 in
theorem num_ParseBase.calls (a0 : ByteArray) (a1 : Int) (r1 r2 r3 : Int) (w : World) (h : num_ParseBase.f a0 a1 = some (r1, r2, r3)) :
    Calls Tryz.prog 139 #[.string a0, .int .i64 a1] w fun e w' => e = .returned (.tuple #[.int .u64 r1, .int .i64 r2, .int .i64 r3]) ∧ Below w.heap.size w w' := by
  unfold num_ParseBase.f at h
  split at h
  case isFalse => cases h
  case isTrue hs =>
    have h := Option.some.inj h
    by_cases hr : a1 < 2 ∨ 16 < a1
    · rw [if_pos hr] at h
      simp only [Prod.mk.injEq] at h
      obtain ⟨rfl, rfl, rfl⟩ := h
      clear hs
      by_cases h1 : a1 < 2
      · have g1 : decide (a1 < 2) = true := by simpa using h1
        clear hr h1
        go_enter Tryz.func139, Tryz.ntmps139
        go_wp2
        go_ret3
        exact ⟨rfl, Below.refl _ _⟩
      · have g1 : decide (a1 < 2) = false := by simpa using h1
        have g2 : decide (16 < a1) = true := by simp; omega
        clear hr h1
        go_enter Tryz.func139, Tryz.ntmps139
        go_wp2
        go_ret3
        exact ⟨rfl, Below.refl _ _⟩
    · rw [if_neg hr] at h
      by_cases h0 : a0.size = 0
      · rw [if_pos h0] at h
        simp only [Prod.mk.injEq] at h
        obtain ⟨rfl, rfl, rfl⟩ := h
        have g1 : decide (a1 < 2) = false := by simp; omega
        have g2 : decide (16 < a1) = false := by simp; omega
        have hem : a0.toList.isEmpty = true := by
          have : a0.toList.length = 0 := by rw [ByteArray.toList_eq, Array.length_toList]; exact h0
          cases h : a0.toList with
          | nil => rfl
          | cons a l => rw [h] at this; simp at this
        clear hr h0 hs
        go_enter Tryz.func139, Tryz.ntmps139
        go_wp2
        go_ret3
        exact ⟨rfl, Below.refl _ _⟩
      · rw [if_neg h0] at h
        obtain ⟨b, rfl⟩ := Int.eq_ofNat_of_zero_le (show 0 ≤ a1 by omega)
        rw [Int.toNat_natCast] at h
        have := num_ParseBase.loop a0 b (by omega) (by omega) hs (by omega) w
        rw [h] at this
        exact this
mutual
def num_ParseInt.j0 : Nat → ByteArray → ByteArray → Bool → Bool → Option (Int × Int)
  | 0, _, _, _, _ => none
  | k + 1, x0, x4, x5, x17 => if x17 = true then (if 1 ≤ (x4.size : Int) then (num_ParseInt.j1 k x0 (x4.extract 1 x4.size) true) else (none)) else (num_ParseInt.j1 k x0 x4 x5)
def num_ParseInt.j1 : Nat → ByteArray → ByteArray → Bool → Option (Int × Int)
  | 0, _, _, _ => none
  | k + 1, x0, x4, x5 => (num_ParseBase.f x4 10).bind fun bt110 => (if bt110.2.1 = 0 then (num_ParseInt.j2 k x0 x5 bt110.1 (decide ((x4.size : Int) > 19))) else (num_ParseInt.j2 k x0 x5 bt110.1 true))
def num_ParseInt.j2 : Nat → ByteArray → Bool → Int → Bool → Option (Int × Int)
  | 0, _, _, _, _ => none
  | k + 1, x0, x5, x6, x32 => if x32 = true then (some (0, 11)) else (if x5 = true then ((num_Decimal.f (wrap64 (IntKind.u64.wrap (-x6)))).bind fun t113 => (if t113.toList = x0.toList then (some (wrap64 (IntKind.u64.wrap (-x6)), 0)) else (some (0, 11)))) else ((num_Decimal.f (wrap64 (x6))).bind fun t114 => (if t114.toList = x0.toList then (some (wrap64 (x6), 0)) else (some (0, 11)))))
end
def num_ParseInt.f (k : Nat) (a0 : ByteArray) : Option (Int × Int) := if (a0.size : Int) > 0 then (if 0 < (a0.size : Int) then (num_ParseInt.j0 k a0 a0 false ((bt a0 0) == 45)) else (none)) else (num_ParseInt.j0 k a0 a0 false false)
theorem num_ParseInt.mono_l : ∀ k, (∀ y0 y1 y2 y3, LeO (num_ParseInt.j0 k y0 y1 y2 y3) (num_ParseInt.j0 (k + 1) y0 y1 y2 y3)) ∧ (∀ y0 y1 y2, LeO (num_ParseInt.j1 k y0 y1 y2) (num_ParseInt.j1 (k + 1) y0 y1 y2)) ∧ (∀ y0 y1 y2 y3, LeO (num_ParseInt.j2 k y0 y1 y2 y3) (num_ParseInt.j2 (k + 1) y0 y1 y2 y3))
  | 0 => ⟨fun _ _ _ _ r h => by simp [num_ParseInt.j0] at h, fun _ _ _ r h => by simp [num_ParseInt.j1] at h, fun _ _ _ _ r h => by simp [num_ParseInt.j2] at h⟩
  | k + 1 => by
    obtain ⟨ih0, ih1, ih2⟩ := num_ParseInt.mono_l k
    refine ⟨?_, ?_, ?_⟩
    · intro y0 y1 y2 y3
      unfold num_ParseInt.j0
      repeat' first
      | (with_reducible exact ih0 _ _ _ _)
      | (with_reducible exact ih1 _ _ _)
      | (with_reducible exact ih2 _ _ _ _)
      | (with_reducible exact LeO.refl _)
      | (with_reducible exact LeO.none _)
      | (with_reducible refine LeO.ite ?_ ?_)
      | (with_reducible refine LeO.bind ?_ (fun _ => ?_))
      | exact ih0 _ _ _ _
      | exact ih1 _ _ _
      | exact ih2 _ _ _ _
      | exact LeO.none _
      | refine LeO.ite ?_ ?_
      | refine LeO.bind ?_ (fun _ => ?_)
    · intro y0 y1 y2
      unfold num_ParseInt.j1
      repeat' first
      | (with_reducible exact ih0 _ _ _ _)
      | (with_reducible exact ih1 _ _ _)
      | (with_reducible exact ih2 _ _ _ _)
      | (with_reducible exact LeO.refl _)
      | (with_reducible exact LeO.none _)
      | (with_reducible refine LeO.ite ?_ ?_)
      | (with_reducible refine LeO.bind ?_ (fun _ => ?_))
      | exact ih0 _ _ _ _
      | exact ih1 _ _ _
      | exact ih2 _ _ _ _
      | exact LeO.none _
      | refine LeO.ite ?_ ?_
      | refine LeO.bind ?_ (fun _ => ?_)
    · intro y0 y1 y2 y3
      unfold num_ParseInt.j2
      repeat' first
      | (with_reducible exact ih0 _ _ _ _)
      | (with_reducible exact ih1 _ _ _)
      | (with_reducible exact ih2 _ _ _ _)
      | (with_reducible exact LeO.refl _)
      | (with_reducible exact LeO.none _)
      | (with_reducible refine LeO.ite ?_ ?_)
      | (with_reducible refine LeO.bind ?_ (fun _ => ?_))
      | exact ih0 _ _ _ _
      | exact ih1 _ _ _
      | exact ih2 _ _ _ _
      | exact LeO.none _
      | refine LeO.ite ?_ ?_
      | refine LeO.bind ?_ (fun _ => ?_)
theorem num_ParseInt.mono : ∀ a0 k, LeO (num_ParseInt.f k a0) (num_ParseInt.f (k + 1) a0) := by
  intro a0 k
  obtain ⟨ih0, ih1, ih2⟩ := num_ParseInt.mono_l k
  unfold num_ParseInt.f
  repeat' first
      | (with_reducible exact ih0 _ _ _ _)
      | (with_reducible exact ih1 _ _ _)
      | (with_reducible exact ih2 _ _ _ _)
      | (with_reducible exact LeO.refl _)
      | (with_reducible exact LeO.none _)
      | (with_reducible refine LeO.ite ?_ ?_)
      | (with_reducible refine LeO.bind ?_ (fun _ => ?_))
      | exact ih0 _ _ _ _
      | exact ih1 _ _ _
      | exact ih2 _ _ _ _
      | exact LeO.none _
      | refine LeO.ite ?_ ?_
      | refine LeO.bind ?_ (fun _ => ?_)
set_option maxHeartbeats 8000000 in
set_option maxRecDepth 100000 in
theorem num_ParseInt.calls (k : Nat) (a0 : ByteArray) (r1 : Int) (r2 : Int) (w : World) (h : num_ParseInt.f k a0 = some (r1, r2)) :
    Calls Tryz.prog 120 #[.string a0] w fun e w' => e = .returned (.tuple #[.int .i64 r1, .int .i64 r2]) ∧ Below w.heap.size w w' := by
  have HB := Aside0.mk (Below.refl w.heap.size w)
  have H : (if (a0.size : Int) > 0 then (if 0 < (a0.size : Int) then (num_ParseInt.j0 k a0 a0 false ((bt a0 0) == 45)) else (none)) else (num_ParseInt.j0 k a0 a0 false false)) = some (r1, r2) := h
  clear h
  have HC2 := Aside0.mk H
  clear H
  go_enter Tryz.func120, Tryz.ntmps120
  go_upto_region 2 with (fail)
  go_cut [17] (fun v17 wc => ∃ (kq : Nat) (x17_1 : Bool), v17 = .bool x17_1 ∧ Aside0 (num_ParseInt.j0 kq a0 a0 false x17_1 = some (r1, r2)) ∧ Aside0 (kq ≤ k) ∧ Aside0 (Below w.heap.size w wc))
  case first =>
    have H := HC2.out
    clear HC2
    by_cases c3 : (a0.size : Int) > 0
    · rw [if_pos c3] at H
      have c3b0 : decide (0 < (a0.size : Int)) = true := decide_eq_true c3
      have c3b1 : decide (0 < a0.size) = true := decide_eq_true (by omega)
      clear c3
      (first | rw [c3b0] | (simp only [i64_w, i32_w]; rw [c3b0]) | skip)
      by_cases c4 : 0 < (a0.size : Int)
      · rw [if_pos c4] at H
        have c4b0 : decide (0 < (a0.size : Int)) = true := decide_eq_true c4
        have c4b1 : decide (0 < a0.size) = true := decide_eq_true (by omega)
        clear c4
        have H' := Aside0.mk H
        clear H
        have p5 : 0 ≤ (0 : Int) := (by omega)
        have q5 : 0 < a0.size := (by have : (0 : Int) < (a0.size : Int) := of_decide_eq_true (by first | (with_reducible assumption) | assumption); omega)
        have hx5 : ∀ h : 0 < a0.size, ((a0[0]'h).toNat : Int) = bt a0 0 := bt_at a0 0
        clear p5
        have qi5 : (0 < (a0.size : Int)) = True := eq_true (of_decide_eq_true (by first | (with_reducible assumption) | assumption))
        replace q5 := eq_true q5
        go_wp2
        go_meet
        case rel => exact ⟨_, (((bt a0 0) == 45)), (by first | rfl | (simp; done) | (simp [*]; done)), H', ⟨by first | omega | exact Nat.le_refl _⟩, ⟨by repeat (first | (with_reducible first | exact HB.out | apply below_alloc | apply pw_below_drewN | apply below_drew1) | exact HB.out)⟩⟩
      · rw [if_neg c4] at H
        exact absurd H (by simp)
    · rw [if_neg c3] at H
      have c3b0 : decide (0 < (a0.size : Int)) = false := decide_eq_false c3
      have c3b1 : decide (0 < a0.size) = false := decide_eq_false (by omega)
      clear c3
      (first | rw [c3b0] | (simp only [i64_w, i32_w]; rw [c3b0]) | skip)
      have H' := Aside0.mk H
      clear H
      go_wp2
      go_meet
      case rel => exact ⟨_, (false), (by first | rfl | (simp; done) | (simp [*]; done)), H', ⟨by first | omega | exact Nat.le_refl _⟩, ⟨by repeat (first | (with_reducible first | exact HB.out | apply below_alloc | apply pw_below_drewN | apply below_drew1) | exact HB.out)⟩⟩
  case rest =>
    clear HC2
    try clear c1
    try clear p2
    try clear c3
    try clear c3b0
    try clear c3b1
    try clear c4
    try clear c4b0
    try clear c4b1
    try clear p5
    try clear q5
    try clear hx5
    try clear qi5
    try clear p5
    try clear q5
    obtain ⟨kq, x17_1, rfl, HA, HJ1, HB⟩ := hcut
    cases kq with
    | zero => exact absurd HA.out (by simp [num_ParseInt.j0])
    | succ kj1 =>
      have H := HA.out
      clear HA
      simp only [num_ParseInt.j0] at H
      have HC6 := Aside0.mk H
      clear H
      go_upto_if 17 with (fail)
      go_cut [4, 5] (fun v4 v5 wc => ∃ (kq : Nat) (x4_5 : ByteArray) (x5_5 : Bool), v4 = .string x4_5 ∧ v5 = .bool x5_5 ∧ Aside0 (num_ParseInt.j1 kq a0 x4_5 x5_5 = some (r1, r2)) ∧ Aside0 (kq ≤ kj1) ∧ Aside0 (Below w.heap.size w wc))
      case first =>
        have H := HC6.out
        clear HC6
        by_cases c7 : x17_1 = true
        · subst c7
          have H1 : (if 1 ≤ (a0.size : Int) then (num_ParseInt.j1 kj1 a0 (a0.extract 1 a0.size) true) else (none)) = some (r1, r2) := by rw [if_pos rfl] at H; exact H
          clear H
          have H := H1
          clear H1
          by_cases c8 : 1 ≤ (a0.size : Int)
          · rw [if_pos c8] at H
            have c8b0 := eq_true c8
            have c8b1 : decide (1 ≤ (a0.size : Int)) = true := decide_eq_true c8
            clear c8
            have H' := Aside0.mk H
            clear H
            go_wp2
            go_meet
            case rel => exact ⟨_, (a0.extract 1 a0.size), (true), (by first | rfl | (simp; done) | (simp [*]; done)), (by first | rfl | (simp; done) | (simp [*]; done)), H', ⟨by have := HJ1.out; first | omega | exact Nat.le_refl _⟩, ⟨by repeat (first | (with_reducible first | exact HB.out | apply below_alloc | apply pw_below_drewN | apply below_drew1) | exact HB.out)⟩⟩
          · rw [if_neg c8] at H
            exact absurd H (by simp)
        · replace c7 := Bool.eq_false_iff.mpr c7
          subst c7
          have H1 : (num_ParseInt.j1 kj1 a0 a0 false) = some (r1, r2) := by rw [if_neg (show ¬ (false = true) by decide)] at H; exact H
          clear H
          have H := H1
          clear H1
          have H' := Aside0.mk H
          clear H
          go_wp2
          go_meet
          case rel => exact ⟨_, (a0), (false), (by first | rfl | (simp; done) | (simp [*]; done)), (by first | rfl | (simp; done) | (simp [*]; done)), H', ⟨by have := HJ1.out; first | omega | exact Nat.le_refl _⟩, ⟨by repeat (first | (with_reducible first | exact HB.out | apply below_alloc | apply pw_below_drewN | apply below_drew1) | exact HB.out)⟩⟩
      case rest =>
        clear HC6
        try clear c1
        try clear p2
        try clear c3
        try clear c3b0
        try clear c3b1
        try clear c4
        try clear c4b0
        try clear c4b1
        try clear p5
        try clear q5
        try clear hx5
        try clear qi5
        try clear c7
        try clear c8
        try clear c8b0
        try clear c8b1
        try clear p2
        try clear p5
        try clear q5
        obtain ⟨kq, x4_5, x5_5, rfl, rfl, HA, HJ5, HB⟩ := hcut
        cases kq with
        | zero => exact absurd HA.out (by simp [num_ParseInt.j1])
        | succ kj5 =>
          have H := HA.out
          clear HA
          simp only [num_ParseInt.j1] at H
          replace H := Option.bind_eq_some_iff.mp H
          obtain ⟨⟨t110, t111, t112⟩, A90, H⟩ := H
          replace H : (if t111 = 0 then (num_ParseInt.j2 kj5 a0 x5_5 t110 (decide ((x4_5.size : Int) > 19))) else (num_ParseInt.j2 kj5 a0 x5_5 t110 true)) = some (r1, r2) := H
          have A9 := Aside0.mk A90
          clear A90
          have HC10 := Aside0.mk H
          clear H
          go_upto_region 5 with (first | ((with_reducible refine gate_callee (f := 139) rfl ?_); refine goesL_ (some 22) rfl rfl Tryz.func139 (by kernel_rfl) rfl #[.string x4_5, .int .i64 10] rfl (by (try simp only [List.map_toArray, List.map_cons, List.map_nil]); first | done | rfl | (simp only [List.length_drop, List.length_take]; rfl)) ?_; (with_reducible refine (num_ParseBase.calls x4_5 10 t110 t111 t112 _ A9.out).mono ?_); rintro e w11 ⟨rfl, hb⟩; refine ⟨_, rfl, ?_⟩; have n0_ := Aside0.mk (below_step (by repeat (first | (with_reducible first | exact HB.out | apply below_alloc | apply pw_below_drewN | apply below_drew1) | exact HB.out)) hb); clear HB; have HB := n0_; clear n0_; (try clear hb); (try clear hb2); (try clear hk); (try clear hi)))
          (try simp only [Act.put, List.setIfInBounds_toArray, List.set_cons_zero, List.set_cons_succ])
          go_cut [32] (fun v32 wc => ∃ (kq : Nat) (x32_9 : Bool), v32 = .bool x32_9 ∧ Aside0 (num_ParseInt.j2 kq a0 x5_5 t110 x32_9 = some (r1, r2)) ∧ Aside0 (kq ≤ kj5) ∧ Aside0 (Below w.heap.size w wc))
          case first =>
            have H := HC10.out
            clear HC10
            by_cases c12 : t111 = 0
            · rw [if_pos c12] at H
              have c12b0 : (t111 == 0) = true := beq_iff_eq.mpr c12
              have c12b1 : (t111 != 0) = false := bne_eq_false_iff_eq.mpr c12
              clear c12
              (first | rw [c12b0] | (simp only [i64_w, i32_w]; rw [c12b0]) | skip)
              have H' := Aside0.mk H
              clear H
              go_wp2
              go_meet
              case rel => exact ⟨_, (decide ((x4_5.size : Int) > 19)), (by first | rfl | (simp; done) | (simp [*]; done)), H', ⟨by have := HJ1.out; have := HJ5.out; first | omega | exact Nat.le_refl _⟩, ⟨by repeat (first | (with_reducible first | exact HB.out | apply below_alloc | apply pw_below_drewN | apply below_drew1) | exact HB.out)⟩⟩
            · rw [if_neg c12] at H
              have c12b0 : (t111 == 0) = false := beq_eq_false_iff_ne.mpr c12
              have c12b1 : (t111 != 0) = true := bne_iff_ne.mpr c12
              (first | rw [c12b0] | (simp only [i64_w, i32_w]; rw [c12b0]) | skip)
              have H' := Aside0.mk H
              clear H
              go_wp2
              go_meet
              case rel => exact ⟨_, (true), (by first | rfl | (simp; done) | (simp [*]; done)), H', ⟨by have := HJ1.out; have := HJ5.out; first | omega | exact Nat.le_refl _⟩, ⟨by repeat (first | (with_reducible first | exact HB.out | apply below_alloc | apply pw_below_drewN | apply below_drew1) | exact HB.out)⟩⟩
          case rest =>
            clear HC10
            try clear c1
            try clear p2
            try clear c3
            try clear c3b0
            try clear c3b1
            try clear c4
            try clear c4b0
            try clear c4b1
            try clear p5
            try clear q5
            try clear hx5
            try clear qi5
            try clear c7
            try clear c8
            try clear c8b0
            try clear c8b1
            try clear c12
            try clear c12b0
            try clear c12b1
            try clear p2
            try clear p5
            try clear q5
            obtain ⟨kq, x32_9, rfl, HA, HJ9, HB⟩ := hcut
            cases kq with
            | zero => exact absurd HA.out (by simp [num_ParseInt.j2])
            | succ kj9 =>
              have H := HA.out
              clear HA
              simp only [num_ParseInt.j2] at H
              by_cases c13 : x32_9 = true
              · subst c13
                have H1 : (some (0, 11)) = some (r1, r2) := by rw [if_pos rfl] at H; exact H
                clear H
                have H := H1
                clear H1
                simp only [Option.some.injEq, Prod.mk.injEq] at H
                obtain ⟨rfl, rfl⟩ := H
                go_wp2
                go_ret2
                exact ⟨by first | rfl | (simp [errW_none, errW_some] <;> rfl) | (simp [*, errW_none, errW_some] <;> rfl), by repeat (first | (with_reducible first | exact HB.out | apply below_alloc | apply pw_below_drewN | apply below_drew1) | exact HB.out)⟩
              · replace c13 := Bool.eq_false_iff.mpr c13
                subst c13
                have H1 : (if x5_5 = true then ((num_Decimal.f (wrap64 (IntKind.u64.wrap (-t110)))).bind fun t113 => (if t113.toList = a0.toList then (some (wrap64 (IntKind.u64.wrap (-t110)), 0)) else (some (0, 11)))) else ((num_Decimal.f (wrap64 (t110))).bind fun t114 => (if t114.toList = a0.toList then (some (wrap64 (t110), 0)) else (some (0, 11))))) = some (r1, r2) := by rw [if_neg (show ¬ (false = true) by decide)] at H; exact H
                clear H
                have H := H1
                clear H1
                by_cases c14 : x5_5 = true
                · subst c14
                  have H1 : ((num_Decimal.f (wrap64 (IntKind.u64.wrap (-t110)))).bind fun t113 => (if t113.toList = a0.toList then (some (wrap64 (IntKind.u64.wrap (-t110)), 0)) else (some (0, 11)))) = some (r1, r2) := by rw [if_pos rfl] at H; exact H
                  clear H
                  have H := H1
                  clear H1
                  replace H := Option.bind_eq_some_iff.mp H
                  obtain ⟨t113, A150, H⟩ := H
                  replace H : (if t113.toList = a0.toList then (some (wrap64 (IntKind.u64.wrap (-t110)), 0)) else (some (0, 11))) = some (r1, r2) := H
                  have A15 := Aside0.mk A150
                  clear A150
                  by_cases c16 : t113.toList = a0.toList
                  · rw [if_pos c16] at H
                    have c16b0 : (t113.toList == a0.toList) = true := beq_iff_eq.mpr c16
                    have c16b1 : (t113.toList != a0.toList) = false := bne_eq_false_iff_eq.mpr c16
                    clear c16
                    simp only [Option.some.injEq, Prod.mk.injEq] at H
                    obtain ⟨rfl, rfl⟩ := H
                    go_wp2_with (first | ((with_reducible refine gate_callee (f := 70) rfl ?_); refine goesL_ (some 38) rfl rfl Tryz.func70 (by kernel_rfl) rfl #[.int .i64 (wrap64 (IntKind.u64.wrap (-t110)))] rfl (by (try simp only [List.map_toArray, List.map_cons, List.map_nil]); first | done | rfl | (simp only [List.length_drop, List.length_take]; rfl)) ?_; (with_reducible refine (num_Decimal.calls (wrap64 (IntKind.u64.wrap (-t110))) t113 _ A15.out).mono ?_); rintro e w17 ⟨rfl, hb⟩; refine ⟨_, rfl, ?_⟩; have n0_ := Aside0.mk (below_step (by repeat (first | (with_reducible first | exact HB.out | apply below_alloc | apply pw_below_drewN | apply below_drew1) | exact HB.out)) hb); clear HB; have HB := n0_; clear n0_; (try clear hb); (try clear hb2); (try clear hk); (try clear hi)))
                    go_ret2
                    exact ⟨by first | rfl | (simp [errW_none, errW_some] <;> rfl) | (simp [*, errW_none, errW_some] <;> rfl), by repeat (first | (with_reducible first | exact HB.out | apply below_alloc | apply pw_below_drewN | apply below_drew1) | exact HB.out)⟩
                  · rw [if_neg c16] at H
                    have c16b0 : (t113.toList == a0.toList) = false := beq_eq_false_iff_ne.mpr c16
                    have c16b1 : (t113.toList != a0.toList) = true := bne_iff_ne.mpr c16
                    simp only [Option.some.injEq, Prod.mk.injEq] at H
                    obtain ⟨rfl, rfl⟩ := H
                    go_wp2_with (first | ((with_reducible refine gate_callee (f := 70) rfl ?_); refine goesL_ (some 38) rfl rfl Tryz.func70 (by kernel_rfl) rfl #[.int .i64 (wrap64 (IntKind.u64.wrap (-t110)))] rfl (by (try simp only [List.map_toArray, List.map_cons, List.map_nil]); first | done | rfl | (simp only [List.length_drop, List.length_take]; rfl)) ?_; (with_reducible refine (num_Decimal.calls (wrap64 (IntKind.u64.wrap (-t110))) t113 _ A15.out).mono ?_); rintro e w18 ⟨rfl, hb⟩; refine ⟨_, rfl, ?_⟩; have n0_ := Aside0.mk (below_step (by repeat (first | (with_reducible first | exact HB.out | apply below_alloc | apply pw_below_drewN | apply below_drew1) | exact HB.out)) hb); clear HB; have HB := n0_; clear n0_; (try clear hb); (try clear hb2); (try clear hk); (try clear hi)))
                    go_ret2
                    exact ⟨by first | rfl | (simp [errW_none, errW_some] <;> rfl) | (simp [*, errW_none, errW_some] <;> rfl), by repeat (first | (with_reducible first | exact HB.out | apply below_alloc | apply pw_below_drewN | apply below_drew1) | exact HB.out)⟩
                · replace c14 := Bool.eq_false_iff.mpr c14
                  subst c14
                  have H1 : ((num_Decimal.f (wrap64 (t110))).bind fun t114 => (if t114.toList = a0.toList then (some (wrap64 (t110), 0)) else (some (0, 11)))) = some (r1, r2) := by rw [if_neg (show ¬ (false = true) by decide)] at H; exact H
                  clear H
                  have H := H1
                  clear H1
                  replace H := Option.bind_eq_some_iff.mp H
                  obtain ⟨t114, A190, H⟩ := H
                  replace H : (if t114.toList = a0.toList then (some (wrap64 (t110), 0)) else (some (0, 11))) = some (r1, r2) := H
                  have A19 := Aside0.mk A190
                  clear A190
                  by_cases c20 : t114.toList = a0.toList
                  · rw [if_pos c20] at H
                    have c20b0 : (t114.toList == a0.toList) = true := beq_iff_eq.mpr c20
                    have c20b1 : (t114.toList != a0.toList) = false := bne_eq_false_iff_eq.mpr c20
                    clear c20
                    simp only [Option.some.injEq, Prod.mk.injEq] at H
                    obtain ⟨rfl, rfl⟩ := H
                    go_wp2_with (first | ((with_reducible refine gate_callee (f := 70) rfl ?_); refine goesL_ (some 38) rfl rfl Tryz.func70 (by kernel_rfl) rfl #[.int .i64 (wrap64 (t110))] rfl (by (try simp only [List.map_toArray, List.map_cons, List.map_nil]); first | done | rfl | (simp only [List.length_drop, List.length_take]; rfl)) ?_; (with_reducible refine (num_Decimal.calls (wrap64 (t110)) t114 _ A19.out).mono ?_); rintro e w21 ⟨rfl, hb⟩; refine ⟨_, rfl, ?_⟩; have n0_ := Aside0.mk (below_step (by repeat (first | (with_reducible first | exact HB.out | apply below_alloc | apply pw_below_drewN | apply below_drew1) | exact HB.out)) hb); clear HB; have HB := n0_; clear n0_; (try clear hb); (try clear hb2); (try clear hk); (try clear hi)))
                    go_ret2
                    exact ⟨by first | rfl | (simp [errW_none, errW_some] <;> rfl) | (simp [*, errW_none, errW_some] <;> rfl), by repeat (first | (with_reducible first | exact HB.out | apply below_alloc | apply pw_below_drewN | apply below_drew1) | exact HB.out)⟩
                  · rw [if_neg c20] at H
                    have c20b0 : (t114.toList == a0.toList) = false := beq_eq_false_iff_ne.mpr c20
                    have c20b1 : (t114.toList != a0.toList) = true := bne_iff_ne.mpr c20
                    simp only [Option.some.injEq, Prod.mk.injEq] at H
                    obtain ⟨rfl, rfl⟩ := H
                    go_wp2_with (first | ((with_reducible refine gate_callee (f := 70) rfl ?_); refine goesL_ (some 38) rfl rfl Tryz.func70 (by kernel_rfl) rfl #[.int .i64 (wrap64 (t110))] rfl (by (try simp only [List.map_toArray, List.map_cons, List.map_nil]); first | done | rfl | (simp only [List.length_drop, List.length_take]; rfl)) ?_; (with_reducible refine (num_Decimal.calls (wrap64 (t110)) t114 _ A19.out).mono ?_); rintro e w22 ⟨rfl, hb⟩; refine ⟨_, rfl, ?_⟩; have n0_ := Aside0.mk (below_step (by repeat (first | (with_reducible first | exact HB.out | apply below_alloc | apply pw_below_drewN | apply below_drew1) | exact HB.out)) hb); clear HB; have HB := n0_; clear n0_; (try clear hb); (try clear hb2); (try clear hk); (try clear hi)))
                    go_ret2
                    exact ⟨by first | rfl | (simp [errW_none, errW_some] <;> rfl) | (simp [*, errW_none, errW_some] <;> rfl), by repeat (first | (with_reducible first | exact HB.out | apply below_alloc | apply pw_below_drewN | apply below_drew1) | exact HB.out)⟩
def shell_sized.f (k : Nat) (l0 : List Int) : Option (Int × Bool) := if (l0.length : Int) = 0 then (some (0, true)) else ((num_ParseInt.f k (strOfNums l0)).bind fun bt115 => (if bt115.2 = 0 then (if bt115.1 ≥ 0 then (some (bt115.1, decide (bt115.1 ≤ 1099511627776))) else (some (bt115.1, false))) else (some (bt115.1, false))))
theorem shell_sized.mono : ∀ a0 k, LeO (shell_sized.f k a0) (shell_sized.f (k + 1) a0) := by
  intro a0 k
  unfold shell_sized.f
  repeat' first
      | (with_reducible exact num_ParseInt.mono _ _)
      | (with_reducible exact LeO.refl _)
      | (with_reducible exact LeO.none _)
      | (with_reducible refine LeO.ite ?_ ?_)
      | (with_reducible refine LeO.bind ?_ (fun _ => ?_))
      | exact num_ParseInt.mono _ _
      | exact LeO.none _
      | refine LeO.ite ?_ ?_
      | refine LeO.bind ?_ (fun _ => ?_)
set_option maxHeartbeats 8000000 in
set_option maxRecDepth 100000 in
theorem shell_sized.calls (k : Nat) (A0 : Option Addr) (c0 : Nat) (l0 : List Int) (r1 : Int) (r2 : Bool) (w : World) (hr0 : Kd.C (Kd.int .u8) w A0 l0.length l0) (hc0 : l0.length ≤ c0) (h : shell_sized.f k l0 = some (r1, r2)) :
    Calls Tryz.prog 99 #[.slice A0 l0.length c0] w fun e w' => e = .returned (.tuple #[.int .i64 r1, .bool r2]) ∧ Below w.heap.size w w' := by
  have HR0 := Aside0.mk hr0
  have HC0 := Aside0.mk hc0
  clear hr0 hc0
  have HB := Aside0.mk (Below.refl w.heap.size w)
  have H : (if (l0.length : Int) = 0 then (some (0, true)) else ((num_ParseInt.f k (strOfNums l0)).bind fun bt115 => (if bt115.2 = 0 then (if bt115.1 ≥ 0 then (some (bt115.1, decide (bt115.1 ≤ 1099511627776))) else (some (bt115.1, false))) else (some (bt115.1, false))))) = some (r1, r2) := h
  clear h
  by_cases c2 : (l0.length : Int) = 0
  · rw [if_pos c2] at H
    have c2b0 : ((l0.length : Int) == 0) = true := beq_iff_eq.mpr c2
    have c2b1 : ((l0.length : Int) != 0) = false := bne_eq_false_iff_eq.mpr c2
    clear c2
    simp only [Option.some.injEq, Prod.mk.injEq] at H
    obtain ⟨rfl, rfl⟩ := H
    go_enter Tryz.func99, Tryz.ntmps99
    go_wp2
    go_ret2
    exact ⟨by first | rfl | (simp [errW_none, errW_some] <;> rfl) | (simp [*, errW_none, errW_some] <;> rfl), by repeat (first | (with_reducible first | exact HB.out | apply below_alloc | apply pw_below_drewN | apply below_drew1) | exact HB.out)⟩
  · rw [if_neg c2] at H
    have c2b0 : ((l0.length : Int) == 0) = false := beq_eq_false_iff_ne.mpr c2
    have c2b1 : ((l0.length : Int) != 0) = true := bne_iff_ne.mpr c2
    have c2b2 : ¬ (l0 = []) := fun h_ => c2 (by rw [h_]; rfl)
    replace H := Option.bind_eq_some_iff.mp H
    obtain ⟨⟨t115, t116⟩, A30, H⟩ := H
    replace H : (if t116 = 0 then (if t115 ≥ 0 then (some (t115, decide (t115 ≤ 1099511627776))) else (some (t115, false))) else (some (t115, false))) = some (r1, r2) := H
    have A3 := Aside0.mk A30
    clear A30
    by_cases c4 : t116 = 0
    · rw [if_pos c4] at H
      have c4b0 : (t116 == 0) = true := beq_iff_eq.mpr c4
      have c4b1 : (t116 != 0) = false := bne_eq_false_iff_eq.mpr c4
      clear c4
      by_cases c5 : t115 ≥ 0
      · rw [if_pos c5] at H
        have c5b0 : decide (0 ≤ t115) = true := decide_eq_true c5
        clear c5
        simp only [Option.some.injEq, Prod.mk.injEq] at H
        obtain ⟨rfl, rfl⟩ := H
        have hcv6 := Kd.C_string (P := Tryz.prog) (A := A0) (c := c0) Tryz.underlying23 Tryz.underlying5 Tryz.underlying9 HR0.out
        go_enter Tryz.func99, Tryz.ntmps99
        go_wp2_with (first | ((with_reducible refine gate_callee (f := 120) rfl ?_); refine goesL_ (some 12) rfl rfl Tryz.func120 (by kernel_rfl) rfl #[.string (strOfNums l0)] rfl (by (try simp only [List.map_toArray, List.map_cons, List.map_nil]); first | done | rfl | (simp only [List.length_drop, List.length_take]; rfl)) ?_; (with_reducible refine (num_ParseInt.calls k (strOfNums l0) t115 t116 _ A3.out).mono ?_); rintro e w7 ⟨rfl, hb⟩; refine ⟨_, rfl, ?_⟩; have n0_ := Aside0.mk (below_step (by repeat (first | (with_reducible first | exact HB.out | apply below_alloc | apply pw_below_drewN | apply below_drew1) | exact HB.out)) hb); clear HB; have HB := n0_; clear n0_; (try clear hb); (try clear hb2); (try clear hk); (try clear hi)))
        go_ret2
        exact ⟨by first | rfl | (simp [errW_none, errW_some] <;> rfl) | (simp [*, errW_none, errW_some] <;> rfl), by repeat (first | (with_reducible first | exact HB.out | apply below_alloc | apply pw_below_drewN | apply below_drew1) | exact HB.out)⟩
      · rw [if_neg c5] at H
        have c5b0 : decide (0 ≤ t115) = false := decide_eq_false c5
        clear c5
        simp only [Option.some.injEq, Prod.mk.injEq] at H
        obtain ⟨rfl, rfl⟩ := H
        have hcv8 := Kd.C_string (P := Tryz.prog) (A := A0) (c := c0) Tryz.underlying23 Tryz.underlying5 Tryz.underlying9 HR0.out
        go_enter Tryz.func99, Tryz.ntmps99
        go_wp2_with (first | ((with_reducible refine gate_callee (f := 120) rfl ?_); refine goesL_ (some 12) rfl rfl Tryz.func120 (by kernel_rfl) rfl #[.string (strOfNums l0)] rfl (by (try simp only [List.map_toArray, List.map_cons, List.map_nil]); first | done | rfl | (simp only [List.length_drop, List.length_take]; rfl)) ?_; (with_reducible refine (num_ParseInt.calls k (strOfNums l0) t115 t116 _ A3.out).mono ?_); rintro e w9 ⟨rfl, hb⟩; refine ⟨_, rfl, ?_⟩; have n0_ := Aside0.mk (below_step (by repeat (first | (with_reducible first | exact HB.out | apply below_alloc | apply pw_below_drewN | apply below_drew1) | exact HB.out)) hb); clear HB; have HB := n0_; clear n0_; (try clear hb); (try clear hb2); (try clear hk); (try clear hi)))
        go_ret2
        exact ⟨by first | rfl | (simp [errW_none, errW_some] <;> rfl) | (simp [*, errW_none, errW_some] <;> rfl), by repeat (first | (with_reducible first | exact HB.out | apply below_alloc | apply pw_below_drewN | apply below_drew1) | exact HB.out)⟩
    · rw [if_neg c4] at H
      have c4b0 : (t116 == 0) = false := beq_eq_false_iff_ne.mpr c4
      have c4b1 : (t116 != 0) = true := bne_iff_ne.mpr c4
      simp only [Option.some.injEq, Prod.mk.injEq] at H
      obtain ⟨rfl, rfl⟩ := H
      have hcv10 := Kd.C_string (P := Tryz.prog) (A := A0) (c := c0) Tryz.underlying23 Tryz.underlying5 Tryz.underlying9 HR0.out
      go_enter Tryz.func99, Tryz.ntmps99
      go_wp2_with (first | ((with_reducible refine gate_callee (f := 120) rfl ?_); refine goesL_ (some 12) rfl rfl Tryz.func120 (by kernel_rfl) rfl #[.string (strOfNums l0)] rfl (by (try simp only [List.map_toArray, List.map_cons, List.map_nil]); first | done | rfl | (simp only [List.length_drop, List.length_take]; rfl)) ?_; (with_reducible refine (num_ParseInt.calls k (strOfNums l0) t115 t116 _ A3.out).mono ?_); rintro e w11 ⟨rfl, hb⟩; refine ⟨_, rfl, ?_⟩; have n0_ := Aside0.mk (below_step (by repeat (first | (with_reducible first | exact HB.out | apply below_alloc | apply pw_below_drewN | apply below_drew1) | exact HB.out)) hb); clear HB; have HB := n0_; clear n0_; (try clear hb); (try clear hb2); (try clear hk); (try clear hi)))
      go_ret2
      exact ⟨by first | rfl | (simp [errW_none, errW_some] <;> rfl) | (simp [*, errW_none, errW_some] <;> rfl), by repeat (first | (with_reducible first | exact HB.out | apply below_alloc | apply pw_below_drewN | apply below_drew1) | exact HB.out)⟩
end Go.Proofs.YthmijenlndnmcaaGreatDoor.Sh
