/-
  Hand-made contracts of functions of the program: cat_is, LawTwo, LawTwoWalk.
-/
import Derived.Test.YthmijenlndnmcaaGreatDoorHS
import Derived.Test.YthmijenlndnmcaaGreatDoorShx5
import Derived.Test.YthmijenlndnmcaaGreatDoorShx0
namespace Go.Proofs.YthmijenlndnmcaaGreatDoor.Sh
open Go.RowKit Go.Proofs.YthmijenlndnmcaaGreatDoorW.PrintWords Go.Proofs.YthmijenlndnmcaaGreatDoorW.PrintLast Go.Proofs.YthmijenlndnmcaaGreatDoorW.PrintMore
attribute [local go_sem] max2_int min2_int max_two min_two max_three min_three max_four min_four
set_option linter.unusedVariables false
set_option linter.unusedSimpArgs false
theorem cat_is {N : Int} {g : List Int → Bool} {t : List Int} (hb : byteL t) (ht : t.length ≤ 1048576) (hs : shortL t) : thrOf 0 N g t = (0, t) := by
  rw [thr_map id (fun _ _ _ => rfl) (by omega) (by omega) (fun _ => rfl) hb ht hs, List.map_id, ln_flat]


/-! ### ShellTwo: the line cut in two -/
theorem chain_app : ∀ (a b : List (List Int → Int × List Int)) (t : List Int), chainOf (a ++ b) t = if (chainOf a t).1 ≠ 0 then ((chainOf a t).1, []) else chainOf b (chainOf a t).2 := by
  intro a
  induction a with
  | nil => intro b t; simp [chainOf]
  | cons G r ih =>
    intro b t
    rw [List.cons_append, chainOf, chainOf]
    by_cases h : (G t).1 ≠ 0
    · rw [if_pos h, if_pos h, if_pos h]
    · rw [if_neg h, if_neg h, ih]
theorem chain_bytes : ∀ (xs : List S74) (t : List Int), byteL t → t.length ≤ 1048576 → (chainOf (xs.map gOf) t).1 = 0 → (chainOf (xs.map gOf) t).2.length ≤ 1048576 ∧ byteL (chainOf (xs.map gOf) t).2 := by
  intro xs
  induction xs with
  | nil => intro t hb ht _; exact ⟨ht, hb⟩
  | cons x r ih =>
    intro t hb ht h
    rw [List.map_cons, chainOf] at h ⊢
    by_cases h0 : (gOf x t).1 ≠ 0
    · rw [if_pos h0] at h; exact absurd h h0
    · rw [if_neg h0] at h ⊢
      obtain ⟨h1, h2⟩ := gOf_bytes x t hb (by simpa using h0)
      exact ih _ h2 h1 h
theorem names_ab : nameB (⟨#[97]⟩ : ByteArray) = true ∧ nameB (⟨#[98]⟩ : ByteArray) = true ∧ ((⟨#[97]⟩ : ByteArray).toList == ([] : List UInt8)) = false := by
  refine ⟨by decide +kernel, by decide +kernel, by simp⟩
theorem check_ab (xs : List S74) : checkOf (⟨#[97]⟩ : ByteArray) xs (⟨#[98]⟩ : ByteArray) = if xs.length < 1 ∨ 16 < xs.length then 3 else if xs.any (fun x => !mayB x) = true then 211 else 0 := by
  obtain ⟨h1, h2, h3⟩ := names_ab
  unfold checkOf
  rw [if_neg (by simp [h1, h2]), h3]
  simp
theorem check_part {xs ys : List S74} (h : checkOf (⟨#[97]⟩ : ByteArray) xs (⟨#[98]⟩ : ByteArray) = 0) (hs : ∀ x ∈ ys, x ∈ xs) (h1 : 1 ≤ ys.length) (h2 : ys.length ≤ xs.length) : checkOf (⟨#[97]⟩ : ByteArray) ys (⟨#[98]⟩ : ByteArray) = 0 := by
  have hm := mayB_all h
  rw [check_ab] at h ⊢
  split at h
  · omega
  rename_i hl
  rw [if_neg (by omega), if_neg]
  simp only [List.any_eq_true, Bool.not_eq_true', not_exists, not_and, Bool.not_eq_false]
  exact fun x hx => hm x (hs x hx)
/-- What the law's line of tools says of its parts. -/
theorem two_parts {l : List S28} {t : List Int} (hb : byteL t) (h : (lawOf l t).1 = 0) (m : Nat) (h1 : 1 ≤ m) (h2 : m < l.length) :
    (lawOf (l.take m) t).1 = 0 ∧ byteL (lawOf (l.take m) t).2 ∧ lawOf (l.drop m) (lawOf (l.take m) t).2 = lawOf l t := by
  have hck : checkOf (⟨#[97]⟩ : ByteArray) (l.map tOf) (⟨#[98]⟩ : ByteArray) = 0 := by
    cases hc : decide (checkOf (⟨#[97]⟩ : ByteArray) (l.map tOf) (⟨#[98]⟩ : ByteArray) = 0) with
    | true => simpa using hc
    | false =>
      have hc2 : checkOf (⟨#[97]⟩ : ByteArray) (l.map tOf) (⟨#[98]⟩ : ByteArray) ≠ 0 := by simpa using hc
      unfold lawOf evalAB at h
      rw [if_pos hc2] at h
      exact h
  have hk1 := check_part hck (ys := (l.take m).map tOf) (by intro x hx; obtain ⟨y, hy, rfl⟩ := List.mem_map.1 hx; exact List.mem_map_of_mem (List.mem_of_mem_take hy)) (by simp; omega) (by simp; omega)
  have hk2 := check_part hck (ys := (l.drop m).map tOf) (by intro x hx; obtain ⟨y, hy, rfl⟩ := List.mem_map.1 hx; exact List.mem_map_of_mem (List.mem_of_mem_drop hy)) (by simp; omega) (by simp)
  have hl : (l.map tOf).map gOf = ((l.take m).map tOf).map gOf ++ ((l.drop m).map tOf).map gOf := by
    rw [← List.map_append, ← List.map_append, List.take_append_drop]
  rw [law_eq hck] at h ⊢
  split at h
  · simp at h
  rename_i ht
  rw [if_neg ht]
  rw [hl, chain_app] at h ⊢
  rw [law_eq hk1, if_neg ht]
  split at h
  · rename_i h3; exact absurd h h3
  rename_i h3
  have h30 : (chainOf (((l.take m).map tOf).map gOf) t).1 = 0 := by simpa using h3
  obtain ⟨h4, h5⟩ := chain_bytes ((l.take m).map tOf) t hb (by omega) h30
  refine ⟨h30, h5, ?_⟩
  rw [law_eq hk2, if_neg (by omega), if_neg h3]
theorem tmod_lt (x : Int) (k : Nat) (hk : 1 ≤ k) : -(k : Int) < x.tmod k ∧ x.tmod k < k := ⟨Int.lt_tmod_of_pos _ (by omega), Int.tmod_lt_of_pos _ (by omega)⟩
theorem cut_is (x : Int) (n : Nat) (h1 : 2 ≤ n) (h2 : n < 3518437208883) : ∃ m : Nat, 1 ≤ m ∧ m < n ∧ (-9223372036854775808 ≤ x.tmod ((n : Int) - 1) ∧ x.tmod ((n : Int) - 1) ≤ 9223372036854775807) ∧
    (-3518437208883 ≤ x.tmod ((n : Int) - 1) + (n : Int) - 1 ∧ x.tmod ((n : Int) - 1) + (n : Int) - 1 ≤ 9223372036854775000) ∧ 1 + (x.tmod ((n : Int) - 1) + (n : Int) - 1).tmod ((n : Int) - 1) = (m : Int) := by
  obtain ⟨k, rfl⟩ : ∃ k, n = k + 1 := ⟨n - 1, by omega⟩
  have e : ((k + 1 : Nat) : Int) - 1 = (k : Int) := by omega
  obtain ⟨a1, a2⟩ := tmod_lt x k (by omega)
  rw [e, show x.tmod (k : Int) + ((k + 1 : Nat) : Int) - 1 = x.tmod k + k by omega]
  have h3 : 0 ≤ (x.tmod (k : Int) + k).tmod k := Int.tmod_nonneg _ (by omega)
  obtain ⟨b1, b2⟩ := tmod_lt (x.tmod (k : Int) + k) k (by omega)
  refine ⟨(1 + (x.tmod (k : Int) + k).tmod k).toNat, by omega, by omega, by omega, by omega, by omega⟩
abbrev rCat : S28 := ⟨(⟨#[99, 97, 116]⟩ : ByteArray), 0, (⟨#[]⟩ : ByteArray)⟩
theorem gCat : gOf (tOf rCat) = thrOf 0 0 (fun _ => false) := by kernel_rfl
theorem cCat : checkOf (⟨#[97]⟩ : ByteArray) ([rCat].map tOf) (⟨#[98]⟩ : ByteArray) = 0 := by decide +kernel
theorem law_check {l : List S28} {t : List Int} (h : (lawOf l t).1 = 0) : checkOf (⟨#[97]⟩ : ByteArray) (l.map tOf) (⟨#[98]⟩ : ByteArray) = 0 := by
  cases hc : decide (checkOf (⟨#[97]⟩ : ByteArray) (l.map tOf) (⟨#[98]⟩ : ByteArray) = 0) with
  | true => simpa using hc
  | false =>
    have hc2 : checkOf (⟨#[97]⟩ : ByteArray) (l.map tOf) (⟨#[98]⟩ : ByteArray) ≠ 0 := by simpa using hc
    unfold lawOf evalAB at h
    rw [if_pos hc2] at h
    exact h
theorem law_len {l : List S28} {t : List Int} (hb : byteL t) (h : (lawOf l t).1 = 0) : (lawOf l t).2.length ≤ 1048576 := by
  have hck := law_check h
  rw [law_eq hck] at h ⊢
  split at h
  · simp at h
  rename_i ht
  rw [if_neg ht]
  exact (chain_bytes (l.map tOf) t hb (by omega) h).1

theorem list_thr (A0 : Option Addr) (c0 : Nat) (l0 : List S28) (n : Nat) (hn : n = l0.length) (A : Option Addr) (c : Nat) (t : List Int) (k : Nat) (hk : k = t.length) (w : World) (hr0 : Kd.C k28 w A0 l0.length l0) (hc0 : l0.length ≤ c0) (hl0 : l0.length < 3518437208883)
    (hr : Kd.C (Kd.int .u8) w A t.length t) (hc : t.length ≤ c) (hbt : byteL t) (hml : MaxCell w) (R : Int × List Int) (hR : lawOf l0 t = R) :
    Calls Tryz.prog 10 #[.slice A0 n c0, .slice A k c] w fun e w' =>
      ∃ v, e = .returned (.tuple #[v, .bool (R.1 == 0)]) ∧ Fresh w' w.heap.size v (if R.1 = 0 then R.2 else []) ∧ Below w.heap.size w w' := by
  subst hn hk hR
  exact law_through.calls A0 c0 l0 A c t w hr0 hc0 hl0 hr hc hbt (fun x _ _ _ => con_ok hml _)
set_option maxHeartbeats 8000000 in
set_option maxRecDepth 100000 in
theorem millracelaw21_ShellTwo.calls (A0 : Option Addr) (c0 : Nat) (l0 : List S28) (cut : Int) (A : Option Addr) (c : Nat) (t : List Int) (r : Bool) (w : World) (hr0 : Kd.C k28 w A0 l0.length l0) (hc0 : l0.length ≤ c0)
    (hr : Kd.C (Kd.int .u8) w A t.length t) (hc : t.length ≤ c) (h : r = true ∧ byteL t ∧ MaxCell w ∧ l0.length < 3518437208883) :
    Calls Tryz.prog 3 #[.slice A0 l0.length c0, .int .i64 cut, .slice A t.length c] w fun e w' => e = .returned (.bool r) ∧ Below w.heap.size w w' := by
  obtain ⟨rfl, hb, hml, hl0⟩ := h
  have hmx := hr.2.1
  have HA := Lib.hid (law_alive.calls w hml)
  have HR := Lib.hid (fun W (hB : Below w.heap.size w W) => Kd.C_below hr hB)
  have HR0 := Lib.hid (fun W (hB : Below w.heap.size w W) => Kd.C_below hr0 hB)
  have HCL := Lib.hid hc
  by_cases hgood : t.length ≤ 1048576 ∧ shortL t
  · obtain ⟨ht, hs⟩ := hgood
    have e1 : lawOf [rCat] t = (0, t) := by
      rw [law_eq cCat, if_neg (by omega)]
      show chainOf [gOf (tOf rCat)] t = _
      rw [gCat]
      exact chain_one _ _ _ (cat_is hb ht hs)
    have T1 := Lib.hid (fun W hB => thr1 rCat A c t w hr hc hb hml _ e1 W hB)
    simp only [if_true] at T1
    have T2 := Lib.hid (fun W (hB : Below w.heap.size w W) => list_thr A0 c0 l0 _ rfl A c t _ rfl W (HR0.out W hB) hc0 hl0 (HR.out W hB) hc hb (hml.below hB) _ rfl)
    obtain ⟨k1, hk1⟩ := same_is t (by omega)
    have S1 := Lib.hid (fun A1 c1 W h1 g1 h2 g2 => millraceplain_SameBytes.calls k1 A1 c1 t A c t true W h1 g1 h2 g2 hk1)
    by_cases hR : (lawOf l0 t).1 = 0
    · by_cases hl2 : l0.length < 2
      · have g2 : decide ((l0.length : Int) < 2) = true := by simp; omega
        have g3 : l0.length < 2 := hl2
        simp only [hR, if_true] at T2
        obtain ⟨out, ho⟩ : ∃ out, out = (lawOf l0 t).2 := ⟨_, rfl⟩
        rw [← ho] at T2
        clear hr0 hr hc hc0 hb hml hmx ht hs e1 hk1 hl0 hR hl2 ho
        go_enter Tryz.func3, Tryz.ntmps3
        go_wp2_with fail
        refine HA.out.mono ?_
        rintro e w1 ⟨rfl, q1⟩
        simp only []
        go_at_K
        go_wp2_with fail
        refine (T1.out w1 q1).mono ?_
        rintro e w2 ⟨v1, rfl, ⟨A1, c1, rfl, hc1, hC1, _⟩, q2⟩
        have b2 := Lib.hid (below_step q1 q2)
        have F1 := Lib.hid (And.intro hC1 hc1)
        clear hC1 hc1 q2
        simp only []
        go_at_K
        go_wp2_with fail
        refine (S1.out A1 c1 w2 F1.out.1 F1.out.2 (HR.out w2 b2.out) HCL.out).mono ?_
        rintro e w3 ⟨rfl, hd⟩
        have q3 : Below w2.heap.size w2 w3 := by obtain ⟨nd, rfl⟩ := hd; exact pw_below_drewN (Below.refl _ _) _
        have b3 := Lib.hid (below_step b2.out q3)
        clear q3 hd
        simp only []
        go_at_K
        go_wp2_with fail
        refine (T2.out w3 b3.out).mono ?_
        rintro e w4 ⟨v4, rfl, ⟨A4, c4, rfl, hc4, hC4, _⟩, q4⟩
        have b4 := Lib.hid (below_step b3.out q4)
        have F4 := Lib.hid (And.intro hC4 hc4)
        clear hC4 hc4 q4
        simp only []
        go_at_K
        go_wp2_with fail
        go_ret
        exact ⟨rfl, b4.out⟩
      · obtain ⟨m, m1, m2, m3, m4, m5⟩ := cut_is cut l0.length (by omega) hl0
        obtain ⟨p1, p2, p3⟩ := two_parts hb hR m m1 m2
        have hout := law_len hb hR
        have htake : m = (l0.take m).length := by simp; omega
        have hdrop : l0.length - m = (l0.drop m).length := by simp
        have T3 := Lib.hid (fun W (hB : Below w.heap.size w W) => list_thr A0 c0 (l0.take m) m htake A c t _ rfl W (Kd.C_take (HR0.out W hB) (Nat.le_of_lt m2)) (by omega) (by omega) (HR.out W hB) hc hb (hml.below hB) _ rfl)
        have T4 := Lib.hid (fun W (hB : Below w.heap.size w W) A1 c1 h1 h2 => list_thr _ (c0 - m) (l0.drop m) _ hdrop A1 c1 (lawOf (l0.take m) t).2 _ rfl W (Kd.C_drop (HR0.out W hB) (Nat.le_of_lt m2) hc0) (by omega) (by omega) h1 h2 p2 (hml.below hB) _ p3)
        simp only [hR, p1, if_true] at T2 T3 T4
        obtain ⟨out, ho⟩ : ∃ out, out = (lawOf l0 t).2 := ⟨_, rfl⟩
        obtain ⟨mid, hm⟩ : ∃ mid, mid = (lawOf (l0.take m) t).2 := ⟨_, rfl⟩
        rw [← ho] at T2 T4 hout
        rw [← hm] at T3 T4
        have g2 : decide ((l0.length : Int) < 2) = false := by simp; omega
        obtain ⟨k, hk⟩ : ∃ k : Nat, l0.length = k + 1 := ⟨l0.length - 1, by omega⟩
        have ek : (l0.length : Int) - 1 = (k : Int) := by omega
        rw [ek] at m3 m4 m5
        have w64 : ∀ x : Int, -9223372036854775808 ≤ x ∧ x ≤ 9223372036854775807 → wrap64 x = x := fun x h => by unfold wrap64; omega
        have E0 : wrap64 ((l0.length : Int) - 1) = (k : Int) := by rw [ek]; exact w64 _ (by omega)
        have E2 : wrap64 (1 + (wrap64 (wrap64 (cut.tmod (k : Int) + (l0.length : Int)) - 1)).tmod (k : Int)) = (m : Int) := by
          generalize cut.tmod (k : Int) = q at m3 m4 m5 ⊢
          obtain ⟨d1, d2⟩ := m4
          have z1 : wrap64 (q + (l0.length : Int)) = q + (l0.length : Int) := w64 _ ⟨by omega, by omega⟩
          have z2 : wrap64 (q + (l0.length : Int) - 1) = q + (l0.length : Int) - 1 := w64 _ ⟨by omega, by omega⟩
          rw [z1, z2, m5]
          exact w64 _ ⟨by omega, by omega⟩
        have kn : ¬ k = 0 := by omega
        have km : m ≤ c0 := by omega
        have cm : ¬ c0 = m := by omega
        rw [if_neg cm] at T4
        replace T4 : Hid (∀ W : World, Below w.heap.size w W → ∀ (A1 : Option Addr) (c1 : Nat), (Kd.int .u8).C W A1 mid.length mid → mid.length ≤ c1 → Calls Tryz.prog 10 #[.slice (A0.map fun x => x.add (m * 3)) (l0.length - m) (c0 - m), .slice A1 mid.length c1] W fun e w' => ∃ v, e = .returned (.tuple #[v, .bool (0 == 0)]) ∧ Fresh w' W.heap.size v out ∧ Below W.heap.size W w') := T4
        have ho2 : out.length ≤ 1048576 := hout
        obtain ⟨k2, hk2⟩ := same_is out (by omega)
        have S2 := Lib.hid (fun A1 c1 A2 c2 W h1 g1 h2 g2 => millraceplain_SameBytes.calls k2 A1 c1 out A2 c2 out true W h1 g1 h2 g2 hk2)
        clear hout ho2 hk2
        clear w64
        clear m3 m4 m5 hk ek
        clear hr0 hr hc hc0 hb hml hmx ht hs e1 hk1 hl0 hR hl2 m1 p1 p2 p3 htake hdrop ho hm
        go_enter Tryz.func3, Tryz.ntmps3
        go_wp2_with fail
        refine HA.out.mono ?_
        rintro e w1 ⟨rfl, q1⟩
        simp only []
        go_at_K
        go_wp2_with fail
        refine (T1.out w1 q1).mono ?_
        rintro e w2 ⟨v1, rfl, ⟨A1, c1, rfl, hc1, hC1, _⟩, q2⟩
        have b2 := Lib.hid (below_step q1 q2)
        have F1 := Lib.hid (And.intro hC1 hc1)
        clear hC1 hc1 q2
        simp only []
        go_at_K
        go_wp2_with fail
        refine (S1.out A1 c1 w2 F1.out.1 F1.out.2 (HR.out w2 b2.out) HCL.out).mono ?_
        rintro e w3 ⟨rfl, hd⟩
        have q3 : Below w2.heap.size w2 w3 := by obtain ⟨nd, rfl⟩ := hd; exact pw_below_drewN (Below.refl _ _) _
        have b3 := Lib.hid (below_step b2.out q3)
        clear q3 hd
        simp only []
        go_at_K
        go_wp2_with fail
        refine (T2.out w3 b3.out).mono ?_
        rintro e w4 ⟨v4, rfl, ⟨A4, c4, rfl, hc4, hC4, _⟩, q4⟩
        have b4 := Lib.hid (below_step b3.out q4)
        have F4 := Lib.hid (And.intro hC4 hc4)
        clear hC4 hc4 q4
        simp only []
        go_at_K
        go_wp2_with fail
        refine (T3.out w4 b4.out).mono ?_
        rintro e w5 ⟨v5, rfl, ⟨A5, c5, rfl, hc5, hC5, _⟩, q5⟩
        have b5 := Lib.hid (below_step b4.out q5)
        have F4 := Lib.hid (And.intro (Kd.C_below F4.out.1 q5) F4.out.2)
        have F5 := Lib.hid (And.intro hC5 hc5)
        clear hC5 hc5 q5
        simp only []
        go_at_K
        go_wp2_with fail
        refine (T4.out w5 b5.out A5 c5 F5.out.1 F5.out.2).mono ?_
        rintro e w6 ⟨v6, rfl, ⟨A6, c6, rfl, hc6, hC6, _⟩, q6⟩
        have b6 := below_step b5.out q6
        have F4 := Lib.hid (And.intro (Kd.C_below F4.out.1 q6) F4.out.2)
        have F6 := Lib.hid (And.intro hC6 hc6)
        clear hC6 hc6 q6
        simp only []
        go_at_K
        go_wp2_with fail
        refine (S2.out A6 c6 A4 c4 w6 F6.out.1 F6.out.2 F4.out.1 F4.out.2).mono ?_
        rintro e w7 ⟨rfl, hd⟩
        have q7 : Below w6.heap.size w6 w7 := by obtain ⟨nd, rfl⟩ := hd; exact pw_below_drewN (Below.refl _ _) _
        simp only []
        go_at_K
        go_wp2_with fail
        go_ret
        exact ⟨rfl, below_step b6 q7⟩
    · have z : ∀ x : Int, x ≠ 0 → (x == 0) = false := fun x h => by simpa using h
      simp only [z _ hR, if_neg hR] at T2
      clear hr0 hr hc hc0 hb hml hmx ht hs e1 hk1 hl0 hR z
      go_enter Tryz.func3, Tryz.ntmps3
      go_wp2_with fail
      refine HA.out.mono ?_
      rintro e w1 ⟨rfl, q1⟩
      simp only []
      go_at_K
      go_wp2_with fail
      refine (T1.out w1 q1).mono ?_
      rintro e w2 ⟨v1, rfl, ⟨A1, c1, rfl, hc1, hC1, _⟩, q2⟩
      have b2 := Lib.hid (below_step q1 q2)
      have F1 := Lib.hid (And.intro hC1 hc1)
      clear hC1 hc1 q2
      simp only []
      go_at_K
      go_wp2_with fail
      refine (S1.out A1 c1 w2 F1.out.1 F1.out.2 (HR.out w2 b2.out) HCL.out).mono ?_
      rintro e w3 ⟨rfl, hd⟩
      have q3 : Below w2.heap.size w2 w3 := by obtain ⟨nd, rfl⟩ := hd; exact pw_below_drewN (Below.refl _ _) _
      have b3 := Lib.hid (below_step b2.out q3)
      clear q3 hd
      simp only []
      go_at_K
      go_wp2_with fail
      refine (T2.out w3 b3.out).mono ?_
      rintro e w4 ⟨v4, rfl, ⟨A4, c4, rfl, hc4, hC4, _⟩, q4⟩
      have b4 := Lib.hid (below_step b3.out q4)
      have F4 := Lib.hid (And.intro hC4 hc4)
      clear hC4 hc4 q4
      simp only []
      go_at_K
      go_wp2_with fail
      go_ret
      exact ⟨rfl, b4.out⟩
  · have hg1 : (lawOf [rCat] t).1 ≠ 0 := bad_law [] rCat 0 (by omega) cCat gCat (fun _ _ _ => rfl) hb hgood
    have T1 := Lib.hid (fun W hB => thr1 rCat A c t w hr hc hb hml _ rfl W hB)
    have z : ∀ x : Int, x ≠ 0 → (x == 0) = false := fun x h => by simpa using h
    simp only [z _ hg1, if_neg hg1] at T1
    have RT := Lib.hid (fun W (hB : Below w.heap.size w W) => ref_through.calls A c t W (HR.out W hB) hc)
    have HGD := Lib.hid hgood
    clear hr0 hr hc hc0 hb hml hmx hl0 hg1 hgood z
    by_cases hbig : 1048576 < t.length
    · have g : decide ((t.length : Int) > 1048576) = true := by simp; omega
      clear hbig
      go_enter Tryz.func3, Tryz.ntmps3
      go_wp2_with fail
      refine HA.out.mono ?_
      rintro e w1 ⟨rfl, q1⟩
      simp only []
      go_at_K
      go_wp2_with fail
      refine (T1.out w1 q1).mono ?_
      rintro e w2 ⟨v1, rfl, ⟨A1, c1, rfl, _, _, _⟩, q2⟩
      have b2 := Lib.hid (below_step q1 q2)
      clear q2
      simp only []
      go_at_K
      go_wp2_with fail
      refine (RT.out w2 b2.out).mono ?_
      rintro e w7 ⟨v7, r7, rfl, q7, hrr⟩
      have q7b := below_step b2.out q7
      simp only []
      go_at_K
      go_wp2
      all_goals go_ret
      all_goals exact ⟨by first | rfl | (simp [*]; done), q7b⟩
    · have hr0 : ∀ r : Int, (t.length ≤ 1048576 → ¬ shortL t → r ≠ 0) → (r != 0) = true := fun r h => by
        have := h (by omega) (fun hs => HGD.out ⟨by omega, hs⟩)
        simpa using this
      have HZ := Lib.hid hr0
      clear hr0 hbig
      go_enter Tryz.func3, Tryz.ntmps3
      go_wp2_with fail
      refine HA.out.mono ?_
      rintro e w1 ⟨rfl, q1⟩
      simp only []
      go_at_K
      go_wp2_with fail
      refine (T1.out w1 q1).mono ?_
      rintro e w2 ⟨v1, rfl, ⟨A1, c1, rfl, _, _, _⟩, q2⟩
      have b2 := Lib.hid (below_step q1 q2)
      clear q2
      simp only []
      go_at_K
      go_wp2_with fail
      refine (RT.out w2 b2.out).mono ?_
      rintro e w7 ⟨v7, r7, rfl, q7, hrr⟩
      have q7b := below_step b2.out q7
      simp only []
      go_at_K
      have g := HZ.out _ hrr
      clear hrr
      go_wp2
      all_goals go_ret
      all_goals exact ⟨by first | rfl | (simp [*]; done), q7b⟩

end Go.Proofs.YthmijenlndnmcaaGreatDoor.Sh
