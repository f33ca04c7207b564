-- Written by wip/tools/xprint.py of this work (the kit's print with contracts of its own).
import Derived.Test.YtbggmdgeanoelaaFtx0
namespace Go.Proofs.Ytbggmdgeanoelaa.Ft
open Go.RowKit Go.Proofs.YtbggmdgeanoelaaW.PrintWords Go.Proofs.YtbggmdgeanoelaaW.PrintLast Go.Proofs.YtbggmdgeanoelaaW.PrintMore
attribute [local go_sem] max2_int min2_int max_two min_two max_three min_three max_four min_four   -- for this text's walks alone
set_option linter.unusedVariables false
set_option linter.unusedSimpArgs false

-- NOT PRINTED: function 21 (api_Fault_21)

/-! ### faults_Check: function 16 -/
-- STUB millrace/faults.Check | [millrace/api.Fault]S | i64 i64 | 0 | 1 | faults_Check
/-- May a fault be? -/
def fMay (x : S45) : Bool := if x.f0 = 1 then decide (1 ≤ x.f1) && decide (x.f1 ≤ 1048576) else (decide (x.f0 = 0) || decide (x.f0 = 2) || decide (x.f0 = 3)) && decide (x.f1 = 0)
/-- The first that may not be. -/
def fFirst : Nat → List S45 → Option Nat
  | _, [] => none
  | i, x :: r => if fMay x = true then fFirst (i + 1) r else some i
def fIndex (l : List S45) : Int := match fFirst 0 l with | some i => (i : Int) | none => -1
def faults_Check.f (l0 : List S45) : Option (Int × Int) :=
  some (if 4096 < l0.length then (3, 0) else match fFirst 0 l0 with | some i => (21, (i : Int)) | none => (0, (l0.length : Int)))

set_option maxHeartbeats 1000000 in
set_option maxRecDepth 100000 in
theorem faults_may.calls (a b : Int) (w : World) :
    Calls Try.prog 23 #[.agg #[.int .i64 a, .int .i64 b]] w fun e w' => e = .returned (.bool (fMay ⟨a, b⟩)) ∧ Below w.heap.size w w' := by
  have hu := Try.underlying45
  by_cases h1 : a = 1
  · subst h1
    have e : fMay ⟨1, b⟩ = (decide (1 ≤ b) && decide (b ≤ 1048576)) := by simp [fMay]
    have E := Lib.hid e
    clear e
    by_cases h2 : 1 ≤ b
    · have g : decide (1 ≤ b) = true := decide_eq_true h2
      go_enter Try.func23, Try.ntmps23
      go_wp2
      go_ret
      exact ⟨by rw [E.out, g]; simp, by repeat (first | exact Below.refl _ _ | apply below_alloc | apply Below.drew)⟩
    · have g : decide (1 ≤ b) = false := decide_eq_false h2
      go_enter Try.func23, Try.ntmps23
      go_wp2
      go_ret
      exact ⟨by rw [E.out, g]; simp, by repeat (first | exact Below.refl _ _ | apply below_alloc | apply Below.drew)⟩
  · have e : fMay ⟨a, b⟩ = ((decide (a = 0) || decide (a = 2) || decide (a = 3)) && decide (b = 0)) := by simp [fMay, h1]
    have E := Lib.hid e
    clear e
    have g1 : (a == 1) = false := by simpa using h1
    have fin : ∀ W, Below w.heap.size w W → Below w.heap.size w W := fun _ h => h
    by_cases h2 : a = 0
    · subst h2
      go_enter Try.func23, Try.ntmps23
      go_wp2
      go_ret
      exact ⟨by rw [E.out]; simp <;> rfl, by repeat (first | exact Below.refl _ _ | apply below_alloc | apply Below.drew)⟩
    · have g2 : (a == 0) = false := by simpa using h2
      by_cases h3 : a = 2
      · subst h3
        go_enter Try.func23, Try.ntmps23
        go_wp2
        go_ret
        exact ⟨by rw [E.out]; simp <;> rfl, by repeat (first | exact Below.refl _ _ | apply below_alloc | apply Below.drew)⟩
      · have g3 : (a == 2) = false := by simpa using h3
        by_cases h4 : a = 3
        · subst h4
          go_enter Try.func23, Try.ntmps23
          go_wp2
          go_ret
          exact ⟨by rw [E.out]; simp <;> rfl, by repeat (first | exact Below.refl _ _ | apply below_alloc | apply Below.drew)⟩
        · have g4 : (a == 3) = false := by simpa using h4
          have e2 : fMay ⟨a, b⟩ = false := by rw [E.out]; simp [h2, h3, h4]
          have E2 := Lib.hid e2
          clear e2 E h1 h2 h3 h4
          go_enter Try.func23, Try.ntmps23
          go_wp2
          go_ret
          exact ⟨by rw [E2.out]; simp <;> rfl, by repeat (first | exact Below.refl _ _ | apply below_alloc | apply Below.drew)⟩

/-- Check's closure. -/
theorem faults_mayNot.calls (a b : Int) (w : World) :
    Calls Try.prog 22 #[.agg #[.int .i64 a, .int .i64 b]] w fun e w' => e = .returned (.bool (!fMay ⟨a, b⟩)) ∧ Below w.heap.size w w' := by
  have hu := Try.underlying45
  have hc := fun W => faults_may.calls a b W
  go_enter Try.func22, Try.ntmps22
  go_wp2_with (go_at_call 23; go_must (refine (hc _).mono ?_); go_must (rintro e w' ⟨rfl, hB2⟩))
  go_ret
  exact ⟨rfl, below_step (by repeat (first | exact Below.refl _ _ | apply below_alloc | apply Below.drew)) hB2⟩

set_option maxHeartbeats 1000000 in
set_option maxRecDepth 100000 in
theorem faults_index.calls (A0 : Option Addr) (c0 : Nat) (l0 : List S45) (w : World) (hr0 : Kd.C k45 w A0 l0.length l0) :
    Calls Try.prog 21 #[.slice A0 l0.length c0, .func (.func 22) #[] #[]] w fun e w' => e = .returned (.int .i64 (fIndex l0)) ∧ Below w.heap.size w w' := by
  have hu := Try.underlying45
  have hm : l0.length ≤ 9223372036854775807 := by have := hr0.2.1; omega
  have HR0 := Lib.hid hr0
  clear hr0
  go_enter Try.func21, Try.ntmps21
  go_wp2
  go_loopg [8] l0.length (fun k v8 wr => ∃ i : Nat, v8 = .int .i64 i ∧ i ≤ l0.length ∧ k = l0.length - i ∧ fFirst 0 l0 = fFirst i (l0.drop i) ∧ Below w.heap.size w wr)
  case atStart => exact ⟨0, rfl, by omega, by omega, by simp, Below.refl _ _⟩
  case round =>
    obtain ⟨i, rfl, hi, hk, hx, hB⟩ := hrel
    by_cases hlt : i < l0.length
    · have h3 : decide ((i : Int) < (l0.length : Int)) = true := by simp; omega
      obtain ⟨ad, e, hx0, hx1⟩ := at_T45 HR0.out (i : Int) (by omega) (by omega)
      cases e
      replace hx0 := (hB.cell (World.block_lt_of_cell? w _ hx0)).trans hx0
      replace hx1 := (hB.cell (World.block_lt_of_cell? w _ hx1)).trans hx1
      obtain ⟨x, hxx⟩ : ∃ x, x = rd_T45 l0 (i : Int) := ⟨_, rfl⟩
      rw [← hxx] at hx0 hx1
      simp only [Int.toNat_natCast] at hx0 hx1
      have hdrop : l0.drop i = x :: l0.drop (i + 1) := by
        rw [List.drop_eq_getElem_cons hlt, hxx]; simp [rd_T45, hlt]
      rw [hdrop] at hx
      simp only [fFirst] at hx
      clear hxx hdrop
      have hcall := fun W => faults_mayNot.calls x.f0 x.f1 W
      cases hg : fMay x with
      | true =>
        have hg' : fMay ⟨x.f0, x.f1⟩ = true := hg
        simp only [hg', Bool.not_true] at hcall
        rw [if_pos hg] at hx
        have HX := Lib.hid hx
        have HK := Lib.hid hk
        have HC := Lib.hid hcall
        have p := eq_true (show 0 ≤ (i : Int) by omega)
        have q := eq_true (show (i : Int) < (l0.length : Int) by omega)
        clear hx hg hg' hcall hk
        go_wp2_with (go_at_call 22; go_must (refine (HC.out _).mono ?_); go_must (rintro e w' ⟨rfl, hB2⟩))
        go_roundg (l0.length - (i + 1))
        case measure => have := HK.out; omega
        case rel => exact ⟨i + 1, by go_num, by omega, rfl, HX.out, hB.trans (hB2.mono hB.size)⟩
      | false =>
        have hg' : fMay ⟨x.f0, x.f1⟩ = false := hg
        simp only [hg', Bool.not_false] at hcall
        rw [if_neg (by simp [hg])] at hx
        have hv : fIndex l0 = (i : Int) := by rw [fIndex, hx]
        have HV := Lib.hid hv
        have HC := Lib.hid hcall
        have p := eq_true (show 0 ≤ (i : Int) by omega)
        have q := eq_true (show (i : Int) < (l0.length : Int) by omega)
        clear hx hg hg' hcall hk hv
        go_wp2_with (go_at_call 22; go_must (refine (HC.out _).mono ?_); go_must (rintro e w' ⟨rfl, hB2⟩))
        go_ret
        exact ⟨by rw [HV.out]; rfl, hB.trans (hB2.mono hB.size)⟩
    · obtain rfl : i = l0.length := by omega
      rw [List.drop_eq_nil_of_le (by simp)] at hx
      have hv : fIndex l0 = -1 := by rw [fIndex, hx]; rfl
      have HV := Lib.hid hv
      clear hx hk hv
      have h3 : decide ((l0.length : Int) < (l0.length : Int)) = false := by simp
      go_wp2
      go_ret
      exact ⟨by rw [HV.out]; rfl, hB⟩

set_option maxHeartbeats 1000000 in
theorem faults_Check.calls (A0 : Option Addr) (c0 : Nat) (l0 : List S45) (r1 r2 : Int) (w : World) (hr0 : Kd.C k45 w A0 l0.length l0) (hc0 : l0.length ≤ c0) (h : faults_Check.f l0 = some (r1, r2)) :
    Calls Try.prog 16 #[.slice A0 l0.length c0] w fun e w' => e = .returned (.tuple #[.int .i64 r1, .int .i64 r2]) ∧ Below w.heap.size w w' := by
  have h := Option.some.inj h
  have hcall := fun W (hB : Below w.heap.size w W) => faults_index.calls A0 c0 l0 W (Kd.C_below hr0 hB)
  by_cases hl : 4096 < l0.length
  · rw [if_pos hl] at h
    simp only [Prod.mk.injEq] at h
    obtain ⟨rfl, rfl⟩ := h
    have g : decide (4096 < (l0.length : Int)) = true := by simp; omega
    have g' : decide (4096 < l0.length) = true := by simp; omega
    clear hcall hl
    go_enter Try.func16, Try.ntmps16
    go_wp2
    go_ret2
    exact ⟨rfl, Below.refl _ _⟩
  · rw [if_neg hl] at h
    have g : decide (4096 < (l0.length : Int)) = false := by simp; omega
    have g' : decide (4096 < l0.length) = false := by simp; omega
    cases hf : fFirst 0 l0 with
    | some i =>
      rw [hf] at h
      simp only [Prod.mk.injEq] at h
      obtain ⟨rfl, rfl⟩ := h
      have hi : fIndex l0 = (i : Int) := by rw [fIndex, hf]
      rw [hi] at hcall
      have HC := Lib.hid hcall
      have g2 : decide (0 ≤ (i : Int)) = true := by simp
      clear hcall hl hf hi
      go_enter Try.func16, Try.ntmps16
      go_wp2_with (go_at_call 21; go_must (refine (HC.out _ (by first | exact Below.refl _ _ | exact (Below.refl _ _).drew)).mono ?_); go_must (rintro e w' ⟨rfl, hB2⟩))
      go_ret2
      exact ⟨rfl, hB2⟩
    | none =>
      rw [hf] at h
      simp only [Prod.mk.injEq] at h
      obtain ⟨rfl, rfl⟩ := h
      have hi : fIndex l0 = -1 := by rw [fIndex, hf]
      rw [hi] at hcall
      have HC := Lib.hid hcall
      clear hcall hl hf hi
      go_enter Try.func16, Try.ntmps16
      go_wp2_with (go_at_call 21; go_must (refine (HC.out _ (by first | exact Below.refl _ _ | exact (Below.refl _ _).drew)).mono ?_); go_must (rintro e w' ⟨rfl, hB2⟩))
      go_ret2
      exact ⟨rfl, hB2⟩

-- NOT PRINTED: function 17 (api_Fault_17)

-- NOT PRINTED: function 6 (faults_New)

/-! ### millracelaw02_num: function 7 -/
def millracelaw02_num.f (a0 : Int) : Option (Int) := some a0
set_option maxHeartbeats 8000000 in
set_option maxRecDepth 100000 in
theorem millracelaw02_num.calls (a0 : Int) (r : Int) (w : World) (h : millracelaw02_num.f a0 = some r) :
    Calls Try.prog 7 #[.int .i64 a0] w fun e w' => e = .returned (.int .i64 r) ∧ Drawn0 w w' := by
  have H : (some a0) = some r := h
  clear h
  obtain rfl := Option.some.inj H
  go_enter Try.func7, Try.ntmps7
  go_wp2
  go_ret
  exact ⟨by first | rfl | (simp; done) | (simp [*]; done), by repeat (first | exact Drawn0.refl _ | apply Drawn0.step)⟩

-- NOT PRINTED: function 8 (faults_Plan_Next)

-- NOT PRINTED: function 28 (num_places)

/-! ### slices_Reverse_byte_byte: function 29 -/
def slices_Reverse_byte_byte.l0 : Nat → List Int → Int → Int → Option (List Int)
  | 0, _, _, _ => none
  | k + 1, x0, x2, x3 => if x2 < x3 then (if 0 ≤ x3 then (if x3 < (x0.length : Int) then (if 0 ≤ x2 then (if x2 < (x0.length : Int) then (slices_Reverse_byte_byte.l0 k ((x0.set (x2 : Int).toNat (rd x0 x3)).set (x3 : Int).toNat (rd x0 x2)) (wrap64 (x2 + 1)) (wrap64 (x3 - 1))) else (none)) else (none)) else (none)) else (none)) else (some x0)
def slices_Reverse_byte_byte.f (k : Nat) (l0 : List Int) : Option (List Int) := slices_Reverse_byte_byte.l0 k l0 0 (wrap64 ((l0.length : Int) - 1))
theorem slices_Reverse_byte_byte.mono_l : ∀ k, (∀ y0 y1 y2, LeO (slices_Reverse_byte_byte.l0 k y0 y1 y2) (slices_Reverse_byte_byte.l0 (k + 1) y0 y1 y2))
  | 0 => fun _ _ _ r h => by simp [slices_Reverse_byte_byte.l0] at h
  | k + 1 => by
    have ih0 := slices_Reverse_byte_byte.mono_l k
    · intro y0 y1 y2
      unfold slices_Reverse_byte_byte.l0
      repeat' first
      | (with_reducible exact ih0 _ _ _)
      | (with_reducible exact LeO.refl _)
      | (with_reducible exact LeO.none _)
      | (with_reducible refine LeO.ite ?_ ?_)
      | (with_reducible refine LeO.bind ?_ (fun _ => ?_))
      | exact ih0 _ _ _
      | exact LeO.none _
      | refine LeO.ite ?_ ?_
      | refine LeO.bind ?_ (fun _ => ?_)
theorem slices_Reverse_byte_byte.mono : ∀ a0 k, LeO (slices_Reverse_byte_byte.f k a0) (slices_Reverse_byte_byte.f (k + 1) a0) := by
  intro a0 k
  have ih0 := slices_Reverse_byte_byte.mono_l k
  unfold slices_Reverse_byte_byte.f
  repeat' first
      | (with_reducible exact ih0 _ _ _)
      | (with_reducible exact LeO.refl _)
      | (with_reducible exact LeO.none _)
      | (with_reducible refine LeO.ite ?_ ?_)
      | (with_reducible refine LeO.bind ?_ (fun _ => ?_))
      | exact ih0 _ _ _
      | exact LeO.none _
      | refine LeO.ite ?_ ?_
      | refine LeO.bind ?_ (fun _ => ?_)
def slices_Reverse_byte_byte.T3 : Bool × List (List Nat × List Nat) := (true, [([], []), ([], []), ([], []), ([], []), ([], []), ([], []), ([4, 5], [4, 5]), ([6], [6]), ([], []), ([], []), ([8, 9], [8, 9]), ([10], [10]), ([0, 1, 0, 1, 4, 5, 6, 7, 11], [0, 1]), ([12, 7, 0, 1, 4, 5, 6, 7, 11], [7, 12]), ([2, 3, 0, 1, 2, 3, 4, 5, 6, 7, 8, 9, 10, 11, 12, 13], [2, 3]), ([14, 11, 13, 0, 1, 2, 3, 4, 5, 6, 7, 8, 9, 10, 11, 12, 13], [11, 14])])
def slices_Reverse_byte_byte.B3 : List Nat := [0, 0, 0, 0, 0, 0, 48, 112, 0, 0, 768, 1792, 4083, 8179, 16383, 32767]
theorem slices_Reverse_byte_byte.tab3 : rtab .any (opsOf Try.f29 3) = slices_Reverse_byte_byte.T3 := by kernel_rfl
theorem slices_Reverse_byte_byte.bits3 : waitsOk slices_Reverse_byte_byte.T3.2 slices_Reverse_byte_byte.B3 = true := by kernel_rfl
set_option maxHeartbeats 8000000 in
set_option maxRecDepth 100000 in
theorem slices_Reverse_byte_byte.calls (k : Nat) (P0_ : Nat → Prop) (u9000_ : Value) (l0 : List Int) (r : List Int) (w0 w : World) (hB : Below w0.heap.size w0 w) (ho0 : Kd.R (Kd.int .u8) 5 w w0.heap.size P0_ u9000_ l0) (h : slices_Reverse_byte_byte.f k l0 = some r) :
    Calls Try.prog 29 #[u9000_] w fun e w' => e = .returned (.tuple #[]) ∧ Kd.R (Kd.int .u8) 5 w' w0.heap.size (fun k_ => (P0_ k_ ∨ w.heap.size ≤ k_)) u9000_ r ∧ Below w0.heap.size w0 w' ∧ Kept w w' (fun k_ => P0_ k_) := by
  have HO0 := Aside0.mk (show Kd.R (Kd.int .u8) 5 w w0.heap.size (fun k_ => (P0_ k_ ∨ w.heap.size ≤ k_)) u9000_ l0 from Kd.R_mono ho0 (fun k_ hk => (.inl hk)))
  have HK := Aside0.mk (Kept.refl w (fun k_ => P0_ k_))
  have HW0 := Aside0.mk hB.size
  have HB := Aside0.mk hB
  clear hB
  have H : (slices_Reverse_byte_byte.l0 k l0 0 (wrap64 ((l0.length : Int) - 1))) = some r := h
  clear h
  have H' := Aside0.mk H
  clear H
  obtain ⟨Ao2, co2, eo2⟩ := Kd.R_slice HO0.out
  subst eo2
  go_enter Try.func29, Try.ntmps29
  go_wp2
  go_loopg [2, 3] k (fun kq v2 v3 w' => ∃ (x0_1 : List Int) (x2_1 : Int) (x3_1 : Int), v2 = .int .i64 x2_1 ∧ v3 = .int .i64 x3_1 ∧ Aside0 (slices_Reverse_byte_byte.l0 kq x0_1 x2_1 x3_1 = some r) ∧ Aside0 (kq ≤ k) ∧ Aside0 (Kd.R (Kd.int .u8) 5 w' w0.heap.size (fun k_ => (P0_ k_ ∨ w.heap.size ≤ k_)) (.slice Ao2 l0.length co2) x0_1) ∧ Aside0 (Kept w w' (fun k_ => P0_ k_)) ∧ Aside0 (Below w0.heap.size w0 w'))
  case atStart => exact ⟨(l0), (0), (wrap64 ((l0.length : Int) - 1)), (by first | rfl | (simp; done) | (simp [*]; done)), (by first | rfl | (simp; done) | (simp [*]; done)), H', ⟨Nat.le_refl _⟩, ⟨by (with_reducible repeat (first | apply Kd.R_alloc | apply Kd.R_drewN | apply Kd.R_drew)); exact HO0.out⟩, ⟨by repeat (first | (with_reducible first | exact HK.out | apply Kept.alloc | apply Kept.drewN | apply Kept.drew) | exact HK.out)⟩, ⟨by repeat (first | (with_reducible first | exact HB.out | apply below_alloc | apply pw_below_drewN | apply below_drew1) | exact HB.out)⟩⟩
  case round =>
    clear H'
    try clear c2
    try clear p2
    obtain ⟨x0_1, x2_1, x3_1, rfl, rfl, HA, HK1, HO_0, HK, HB⟩ := hrel
    have hl0_1 := (Kd.R_reads' HO_0.out).1
    rw [hl0_1] at HO_0
    (try simp only [hl0_1])
    cases gk with
    | zero => exact absurd HA.out (by simp [slices_Reverse_byte_byte.l0])
    | succ k1 =>
      have H := HA.out
      clear HA
      simp only [slices_Reverse_byte_byte.l0] at H
      by_cases c3 : x2_1 < x3_1
      · rw [if_pos c3] at H
        have c3b0 : decide (x2_1 < x3_1) = true := decide_eq_true c3
        clear c3
        by_cases c4 : 0 ≤ x3_1
        · rw [if_pos c4] at H
          have c4b0 : decide (0 ≤ x3_1) = true := decide_eq_true c4
          clear c4
          by_cases c5 : x3_1 < (x0_1.length : Int)
          · rw [if_pos c5] at H
            have c5b0 : decide (x3_1 < (x0_1.length : Int)) = true := decide_eq_true c5
            clear c5
            by_cases c6 : 0 ≤ x2_1
            · rw [if_pos c6] at H
              have c6b0 : decide (0 ≤ x2_1) = true := decide_eq_true c6
              clear c6
              by_cases c7 : x2_1 < (x0_1.length : Int)
              · rw [if_pos c7] at H
                have c7b0 : decide (x2_1 < (x0_1.length : Int)) = true := decide_eq_true c7
                clear c7
                obtain ⟨y103, hy103⟩ : ∃ y_ : List Int, y_ = (x0_1.set (x2_1 : Int).toNat (rd x0_1 x3_1)) := ⟨_, rfl⟩
                replace H : (slices_Reverse_byte_byte.l0 k1 (y103.set (x3_1 : Int).toNat (rd x0_1 x2_1)) (wrap64 (x2_1 + 1)) (wrap64 (x3_1 - 1))) = some r := by first | (rw [hy103]; with_reducible exact H) | (have H2_ := (Option.bind_some _ _).symm.trans H; rw [hy103]; with_reducible exact H2_) | (have H2_ := (Option.bind_some _ _).symm.trans H; with_reducible exact H2_) | with_reducible exact H | (rw [hy103]; exact H) | exact H
                have Ny103 := Aside0.mk hy103
                clear hy103
                obtain ⟨y104, hy104⟩ : ∃ y_ : List Int, y_ = (y103.set (x3_1 : Int).toNat (rd x0_1 x2_1)) := ⟨_, rfl⟩
                replace H : (slices_Reverse_byte_byte.l0 k1 y104 (wrap64 (x2_1 + 1)) (wrap64 (x3_1 - 1))) = some r := by first | (rw [hy104]; with_reducible exact H) | (have H2_ := (Option.bind_some _ _).symm.trans H; rw [hy104]; with_reducible exact H2_) | (have H2_ := (Option.bind_some _ _).symm.trans H; with_reducible exact H2_) | with_reducible exact H | (rw [hy104]; exact H) | exact H
                have Ny104 := Aside0.mk hy104
                clear hy104
                have H' := Aside0.mk H
                clear H
                try go_wp2
                have n0_ := Aside0.mk (Kd.R_drew HO_0.out)
                have n1_ := Aside0.mk (Kept.drew HK.out)
                have n2_ := Aside0.mk (below_drew1 HB.out)
                clear HO_0
                clear HK
                clear HB
                have HO_0 := n0_
                have HK := n1_
                have HB := n2_
                clear n0_ n1_ n2_
                have p101 : 0 ≤ (x3_1 : Int) := of_decide_eq_true (by first | (with_reducible assumption) | assumption)
                have q101 : x3_1 < (x0_1.length : Int) := of_decide_eq_true (by first | (with_reducible assumption) | assumption)
                obtain ⟨ad101, e101, hx101_0⟩ := Kd.at_int (Kd.R_reads' HO_0.out).2.2 x3_1 p101 q101
                cases e101
                replace p101 := eq_true p101
                replace q101 := eq_true q101
                have p102 : 0 ≤ (x2_1 : Int) := of_decide_eq_true (by first | (with_reducible assumption) | assumption)
                have q102 : x2_1 < (x0_1.length : Int) := of_decide_eq_true (by first | (with_reducible assumption) | assumption)
                obtain ⟨ad102, e102, hx102_0⟩ := Kd.at_int (Kd.R_reads' HO_0.out).2.2 x2_1 p102 q102
                obtain rfl : ad101 = ad102 := (by injection e102)
                replace p102 := eq_true p102
                replace q102 := eq_true q102
                have p8 : 0 ≤ (x2_1 : Int) := of_decide_eq_true (by first | (with_reducible assumption) | assumption)
                have q8 : (x2_1 : Int) < ((x0_1.length : Int) : Int) := of_decide_eq_true (by first | (with_reducible assumption) | assumption)
                obtain ⟨go8, co8, eo8, gb8, gl8, cl8, HG8⟩ := Kd.R_form HO_0.out (by omega)
                (first | cases eo8 | (injection eo8 with ea_ en_ ec_; (first | subst ea_ | (injection ea_ with ea_; subst ea_)); subst ec_; clear en_))
                have GB8 := Aside0.mk gb8
                have GG8 := Aside0.mk HG8
                clear gb8 gl8 HG8
                have HMgo8 := Aside0.mk (show (P0_ go8 ∨ w.heap.size ≤ go8) from (HO_0.out.1 _ rfl))
                (first | simp only [add_plain] at hx101_0 | skip)
                (first | simp only [add_plain] at hx102_0 | skip)
                obtain ⟨hx8_0, hf8_0⟩ := Kd.R_celln 0 HO_0.out (x2_1 : Int) p8 q8
                replace p8 := eq_true p8
                replace q8 := eq_true q8
                have HP11 := Kd.R_putn HO_0.out (x2_1 : Int) (rd x0_1 x3_1)
                rw [← Ny103.out] at HP11
                have HQ11 := Aside0.mk HP11
                clear HP11
                have p9 : 0 ≤ (x3_1 : Int) := of_decide_eq_true (by first | (with_reducible assumption) | assumption)
                have q9 : (x3_1 : Int) < ((x0_1.length : Int) : Int) := of_decide_eq_true (by first | (with_reducible assumption) | assumption)
                obtain ⟨hx9_0, hf9_0⟩ := Kd.R_celln 0 HQ11.out (x3_1 : Int) p9 q9
                replace p9 := eq_true p9
                replace q9 := eq_true q9
                have HP12 := Kd.R_putn HQ11.out (x3_1 : Int) (rd x0_1 x2_1)
                rw [← Ny104.out] at HP12
                have HQ12 := Aside0.mk HP12
                clear HP12
                refine start_ (n := 16) (S := fun w' => w'.cell? ⟨go8, (x3_1).toNat, none⟩ = some (.int .u8 (rd x0_1 x3_1)) ∧ w'.cell? ⟨go8, (x2_1).toNat, none⟩ = some (.int .u8 (rd x0_1 x2_1))) (ds := [13, 15]) #[false, false, false, false, false, false, false, false, false, false, false, false, false, false, false, false] (by kernel_rfl) rfl rfl ⟨hx101_0, hx102_0⟩ (fun hHeld => ?_); refine with_tabW slices_Reverse_byte_byte.tab3 slices_Reverse_byte_byte.bits3 (fun HT_ HW_ => ?_)
                generalize wr.drew = w10 at HO_0 HK HB GG8 HQ11 HQ12 hf8_0 hf9_0 hx101_0 hx102_0 hx8_0 hx9_0 hHeld ⊢
                refine pure_ (i := 0) (N := some 14) (v := ?_) (a' := ?_) #[true, false, false, false, false, false, false, false, false, false, false, false, false, false, false, false] rfl rfl (any_of HT_.out (by kernel_rfl)) (fun _ _ _ h => h) (Or.inl ⟨by rfl, ?_⟩) ?_ ?_
                rotate_left
                · intro w'
                  go_simp
                  with_reducible rfl
                rotate_left
                · simp only [Act.put, List.setIfInBounds_toArray, List.set_cons_zero, List.set_cons_succ, i64_w, i32_w]
                  rfl
                refine pure_ (i := 1) (N := some 15) (v := ?_) (a' := ?_) #[true, true, false, false, false, false, false, false, false, false, false, false, false, false, false, false] rfl rfl (any_of HT_.out (by kernel_rfl)) (fun _ _ _ h => h) (Or.inl ⟨by rfl, ?_⟩) ?_ ?_
                rotate_left
                · intro w'
                  go_simp
                  with_reducible rfl
                rotate_left
                · simp only [Act.put, List.setIfInBounds_toArray, List.set_cons_zero, List.set_cons_succ, i64_w, i32_w]
                  rfl
                refine pure_ (i := 2) (N := some 16) (v := ?_) (a' := ?_) #[true, true, true, false, false, false, false, false, false, false, false, false, false, false, false, false] rfl rfl (any_of HT_.out (by kernel_rfl)) (fun _ _ _ h => h) (Or.inl ⟨by rfl, ?_⟩) ?_ ?_
                rotate_left
                · intro w'
                  go_simp
                  with_reducible rfl
                rotate_left
                · simp only [Act.put, List.setIfInBounds_toArray, List.set_cons_zero, List.set_cons_succ, i64_w, i32_w]
                  rfl
                refine pure_ (i := 3) (N := some 17) (v := ?_) (a' := ?_) #[true, true, true, true, false, false, false, false, false, false, false, false, false, false, false, false] rfl rfl (any_of HT_.out (by kernel_rfl)) (fun _ _ _ h => h) (Or.inl ⟨by rfl, ?_⟩) ?_ ?_
                rotate_left
                · intro w'
                  go_simp
                  with_reducible rfl
                rotate_left
                · simp only [Act.put, List.setIfInBounds_toArray, List.set_cons_zero, List.set_cons_succ, i64_w, i32_w]
                  rfl
                refine pure_ (i := 4) (N := some 18) (v := ?_) (a' := ?_) #[true, true, true, true, true, false, false, false, false, false, false, false, false, false, false, false] rfl rfl (any_of HT_.out (by kernel_rfl)) (fun _ _ _ h => h) (Or.inl ⟨by rfl, ?_⟩) ?_ ?_
                rotate_left
                · intro w'
                  go_simp
                  with_reducible rfl
                rotate_left
                · simp only [Act.put, List.setIfInBounds_toArray, List.set_cons_zero, List.set_cons_succ, i64_w, i32_w]
                  rfl
                refine pure_ (i := 5) (N := some 19) (v := ?_) (a' := ?_) #[true, true, true, true, true, true, false, false, false, false, false, false, false, false, false, false] rfl rfl (any_of HT_.out (by kernel_rfl)) (fun _ _ _ h => h) (Or.inl ⟨by rfl, ?_⟩) ?_ ?_
                rotate_left
                · intro w'
                  go_simp
                  with_reducible rfl
                rotate_left
                · simp only [Act.put, List.setIfInBounds_toArray, List.set_cons_zero, List.set_cons_succ, i64_w, i32_w]
                  rfl
                refine pure_ (i := 6) (N := some 20) (v := ?_) (a' := ?_) #[true, true, true, true, true, true, true, false, false, false, false, false, false, false, false, false] rfl rfl (any_of HT_.out (by kernel_rfl)) (fun _ _ _ h => h) (Or.inl ⟨by rfl, ?_⟩) ?_ ?_
                rotate_left
                · intro w'
                  go_simp
                  with_reducible rfl
                rotate_left
                · simp only [Act.put, List.setIfInBounds_toArray, List.set_cons_zero, List.set_cons_succ, i64_w, i32_w]
                  rfl
                refine pure_ (i := 8) (N := some 22) (v := ?_) (a' := ?_) #[true, true, true, true, true, true, true, false, true, false, false, false, false, false, false, false] rfl rfl (any_of HT_.out (by kernel_rfl)) (fun _ _ _ h => h) (Or.inl ⟨by rfl, ?_⟩) ?_ ?_
                rotate_left
                · intro w'
                  go_simp
                  with_reducible rfl
                rotate_left
                · simp only [Act.put, List.setIfInBounds_toArray, List.set_cons_zero, List.set_cons_succ, i64_w, i32_w]
                  rfl
                refine pure_ (i := 9) (N := some 23) (v := ?_) (a' := ?_) #[true, true, true, true, true, true, true, false, true, true, false, false, false, false, false, false] rfl rfl (any_of HT_.out (by kernel_rfl)) (fun _ _ _ h => h) (Or.inl ⟨by rfl, ?_⟩) ?_ ?_
                rotate_left
                · intro w'
                  go_simp
                  with_reducible rfl
                rotate_left
                · simp only [Act.put, List.setIfInBounds_toArray, List.set_cons_zero, List.set_cons_succ, i64_w, i32_w]
                  rfl
                refine pure_ (i := 10) (N := some 24) (v := ?_) (a' := ?_) #[true, true, true, true, true, true, true, false, true, true, true, false, false, false, false, false] rfl rfl (any_of HT_.out (by kernel_rfl)) (fun _ _ _ h => h) (Or.inl ⟨by rfl, ?_⟩) ?_ ?_
                rotate_left
                · intro w'
                  go_simp
                  with_reducible rfl
                rotate_left
                · simp only [Act.put, List.setIfInBounds_toArray, List.set_cons_zero, List.set_cons_succ, i64_w, i32_w]
                  rfl
                refine take_ (i := 7) (N := some 21) (v := ?_) (a' := ?_) #[true, true, true, true, true, true, true, true, true, true, true, false, false, false, false, false] rfl rfl (take_ofW HT_.out HW_.out (by kernel_rfl)) (fun _ _ _ h => h) (Or.inl ⟨by rfl, ?_⟩) hHeld ?_ ?_
                rotate_left
                · rintro w' ⟨s0, s1⟩
                  go_simp
                  with_reducible rfl
                rotate_left
                · simp only [Act.put, List.setIfInBounds_toArray, List.set_cons_zero, List.set_cons_succ, i64_w, i32_w]
                  rfl
                refine take_ (i := 11) (N := some 25) (v := ?_) (a' := ?_) #[true, true, true, true, true, true, true, true, true, true, true, true, false, false, false, false] rfl rfl (take_ofW HT_.out HW_.out (by kernel_rfl)) (fun _ _ _ h => h) (Or.inl ⟨by rfl, ?_⟩) hHeld ?_ ?_
                rotate_left
                · rintro w' ⟨s0, s1⟩
                  go_simp
                  with_reducible rfl
                rotate_left
                · simp only [Act.put, List.setIfInBounds_toArray, List.set_cons_zero, List.set_cons_succ, i64_w, i32_w]
                  rfl
                refine pure_ (i := 12) (N := some 26) (v := ?_) (a' := ?_) #[true, true, true, true, true, true, true, true, true, true, true, true, true, false, false, false] rfl rfl (any_of HT_.out (by kernel_rfl)) (fun _ _ _ h => h) (Or.inl ⟨by rfl, ?_⟩) ?_ ?_
                rotate_left
                · intro w'
                  go_simp
                  with_reducible rfl
                rotate_left
                · simp only [Act.put, List.setIfInBounds_toArray, List.set_cons_zero, List.set_cons_succ, i64_w, i32_w]
                  rfl
                refine last_ (i := 13) (N := none) #[true, true, true, true, true, true, true, true, true, true, true, true, true, true, false, false] rfl rfl (one_of HT_.out (by kernel_rfl)) (by decide) (fun K hK => ?_)
                refine skip_ (w1 := ?_) (by rfl) rfl ?_ ?_
                rotate_left
                · go_simp
                  rfl
                refine hK.out _ _ ?_
                clear hK K
                refine pure_ (i := 14) (N := some 27) (v := ?_) (a' := ?_) #[true, true, true, true, true, true, true, true, true, true, true, true, true, true, true, false] rfl rfl (any_of HT_.out (by kernel_rfl)) (fun _ _ _ h => h) (Or.inl ⟨by rfl, ?_⟩) ?_ ?_
                rotate_left
                · intro w'
                  go_simp
                  with_reducible rfl
                rotate_left
                · simp only [Act.put, List.setIfInBounds_toArray, List.set_cons_zero, List.set_cons_succ, i64_w, i32_w]
                  rfl
                refine last_ (i := 15) (N := none) #[true, true, true, true, true, true, true, true, true, true, true, true, true, true, true, true] rfl rfl (one_of HT_.out (by kernel_rfl)) (by decide) (fun K hK => ?_)
                refine skip_ (w1 := ?_) (by rfl) rfl ?_ ?_
                rotate_left
                · go_simp
                  rfl
                refine hK.out _ _ ?_
                clear hK K
                refine done_ (done_of HT_.out (by kernel_rfl)) ?_
                try go_wp2
                (try simp only [← hl0_1])
                go_roundg k1
                case measure => have := HK1.out; omega
                case rel => exact ⟨(y104), (wrap64 (x2_1 + 1)), (wrap64 (x3_1 - 1)), (by first | rfl | (simp; done) | (simp [*]; done)), (by first | rfl | (simp; done) | (simp [*]; done)), H', ⟨by have := HK1.out; omega⟩, ⟨by (try simp only [hl0_1]); (with_reducible repeat (first | apply Kd.R_alloc | apply Kd.R_drewN | apply Kd.R_drew)); exact HQ12.out⟩, ⟨by repeat (first | (with_reducible first | exact HK.out | apply Kept.alloc | apply Kept.drewN | apply Kept.drew | refine Kept.setCell ?_ HMgo8.out _ | refine Kept.setCell ?_ HMgo8.out _) | exact HK.out)⟩, ⟨by repeat (first | (with_reducible first | exact HB.out | apply below_alloc | apply pw_below_drewN | apply below_drew1 | refine below_set ?_ GB8.out | refine below_set ?_ GB8.out) | exact HB.out)⟩⟩
              · rw [if_neg c7] at H
                exact absurd H (by simp)
            · rw [if_neg c6] at H
              exact absurd H (by simp)
          · rw [if_neg c5] at H
            exact absurd H (by simp)
        · rw [if_neg c4] at H
          exact absurd H (by simp)
      · rw [if_neg c3] at H
        have c3b0 : decide (x2_1 < x3_1) = false := decide_eq_false c3
        clear c3
        obtain rfl := Option.some.inj H
        go_wp2
        first | go_end0 | ((try simp only [Exit.inBlock, Exit.then]); refine bodyPost_ret (results_none rfl _ _ _) rfl ?_)
        exact ⟨by first | rfl | (simp [errW_none, errW_some] <;> rfl) | (simp [*, errW_none, errW_some] <;> rfl), (by first | exact (by (with_reducible repeat (first | apply Kd.R_alloc | apply Kd.R_drewN | apply Kd.R_drew)); exact HO_0.out) | (simp only [hl0_1]; exact (by (with_reducible repeat (first | apply Kd.R_alloc | apply Kd.R_drewN | apply Kd.R_drew)); exact HO_0.out))), by repeat (first | (with_reducible first | exact HB.out | apply below_alloc | apply pw_below_drewN | apply below_drew1) | exact HB.out), by repeat (first | (with_reducible first | exact HK.out | apply Kept.alloc | apply Kept.drewN | apply Kept.drew) | exact HK.out)⟩

/-! ### num_written: function 24 -/
-- STUB millrace/num.written | u64 i64 | str | 0 | 1 | num_written
/-- A digit's sign. -/
def numChr (d : Nat) : Int := if d < 10 then 48 + (d : Int) else 87 + (d : Int)
/-- The digits of n to base b, the lowest first, in at most f digits. -/
def numDigs (b : Nat) : Nat → Nat → List Int
  | 0, _ => []
  | f + 1, n => numChr (n % b) :: (if n / b = 0 then [] else numDigs b f (n / b))
theorem numDigs_len (b : Nat) : ∀ f n, (numDigs b f n).length ≤ f
  | 0, _ => by simp [numDigs]
  | f + 1, n => by
    have := numDigs_len b f (n / b)
    simp only [numDigs, List.length_cons]
    split
    · simp
    · omega
theorem numDigs_zero {b f n : Nat} (h : n / b = 0) : numDigs b (f + 1) n = [numChr (n % b)] := by simp [numDigs, h]
theorem numDigs_more {b f n : Nat} (h : ¬ n / b = 0) : numDigs b (f + 1) n = numChr (n % b) :: numDigs b f (n / b) := by simp [numDigs, h]
def numBound (n : Nat) : Prop := n < 2 ^ 64
theorem numChr_at (d : Nat) (h : d < 16) : ((⟨#[48, 49, 50, 51, 52, 53, 54, 55, 56, 57, 97, 98, 99, 100, 101, 102]⟩ : ByteArray)[d]'h).toNat = numChr d := by
  have : ∀ e : Fin 16, (((⟨#[48, 49, 50, 51, 52, 53, 54, 55, 56, 57, 97, 98, 99, 100, 101, 102]⟩ : ByteArray)[e.1]'e.2).toNat : Int) = numChr e.1 := by decide +kernel
  exact this ⟨d, h⟩

theorem num_wrap (n b q : Nat) (h : n < 2 ^ 64) (hq : q = n / b) : IntKind.u64.wrap ((n : Int) / (b : Int)) = (q : Int) := by
  have h1 : n / b ≤ n := Nat.div_le_self n b
  have h2 : ((n / b : Nat) : Int) = (n : Int) / (b : Int) := Int.natCast_ediv n b
  subst hq
  rw [← h2]
  have h3 : n / b < 2 ^ 64 := Nat.lt_of_le_of_lt h1 h
  generalize n / b = x at h3 ⊢
  simp only [IntKind.wrap, IntKind.signed, IntKind.bits, Bool.false_and, Bool.false_eq_true, if_false]
  omega
set_option maxHeartbeats 1000000 in
set_option maxRecDepth 100000 in
/-- places' closure: the digits, lowest first, handed out one by one; its own box B1 is turned, B2 read. -/
theorem num_places1 (l B1 B2 : Nat) (hne : B1 ≠ B2) (b : Nat) (hb : 2 ≤ b) (hb16 : b ≤ 16) (f0 n0 : Nat) (hf0 : f0 ≤ 63) (hn0 : n0 < 2 ^ (f0 + 1)) (J : List Int → World → Prop) (Jx : List Int → World → Prop)
    (hJ : ∀ pre W v, J pre W → J pre (W.setCell ⟨B1, 0, none⟩ v))
    (hY : ∀ pre x W, J pre W → (pre ++ [x]).length ≤ f0 + 1 → Rng.YieldW Try.prog l #[.int .u8 x] W fun e W' =>
      (e = .returned (.bool true) ∧ J (pre ++ [x]) W' ∧ W'.heap[B1]? = W.heap[B1]? ∧ W'.heap[B2]? = W.heap[B2]?) ∨ (e = .returned (.bool false) ∧ Jx (pre ++ [x]) W'))
    (W : World) (h1 : Boxed W B1 58 (.int .u64 n0)) (h2 : Boxed W B2 58 (.int .u64 b)) (h0 : J [] W) :
    Calls Try.prog 32 #[.func (.yield l) #[] #[], .pointer (some ⟨B1, 0, none⟩), .pointer (some ⟨B2, 0, none⟩)] W fun e W' => (∃ v, e = .returned v) ∧
      (J (numDigs b (f0 + 1) n0) W' ∨ ∃ pre, pre.length ≤ f0 + 1 ∧ Jx pre W') := by
  refine (callsIn_wide (n := 1)).1 ?_
  refine callsIn_of_wp Try.func32 rfl trivial ?_ rfl
  simp only [Try.ntmps32, List.size_toArray, List.length_cons, List.length_nil, Nat.reduceAdd, Nat.reduceSub, Array.replicate_succ, Array.replicate_zero, List.push_toArray, List.append_toArray, List.nil_append, List.cons_append]
  gi_wp2
  gi_loopg [4] (f0 + 1) (fun k v wr => (∃ (f n : Nat) (pre : List Int), k = f + 1 ∧ v = .bool true ∧ n < 2 ^ (f + 1) ∧ f ≤ f0 ∧ pre.length + (f + 1) ≤ f0 + 1 ∧ numDigs b (f0 + 1) n0 = pre ++ numDigs b (f + 1) n ∧ Boxed wr B1 58 (.int .u64 n) ∧ Boxed wr B2 58 (.int .u64 b) ∧ J pre wr) ∨ (k = 0 ∧ v = .bool false ∧ J (numDigs b (f0 + 1) n0) wr))
  case atStart => exact .inl ⟨f0, n0, [], rfl, rfl, hn0, Nat.le_refl _, by simp, by simp, h1, h2, h0⟩
  case round =>
    rcases hrel with ⟨f, n, pre, rfl, rfl, hn, hf, hpl, hx, hb1, hb2, hj⟩ | ⟨rfl, rfl, hj⟩
    · have c1 := hb1.cell
      have f1 := hb1.frozen
      have c2 := hb2.cell
      have d0 : (0 : Int) ≤ (n : Int) := by omega
      have d1 : (1 : Int) ≤ (b : Int) := by omega
      have hlt : n < 2 ^ 64 := Nat.lt_of_lt_of_le hn (Nat.pow_le_pow_right (by omega) (by omega))
      have hqb : n / b < 2 ^ (f + 1) := Nat.lt_of_le_of_lt (Nat.div_le_self _ _) hn
      have hqf : n / b < 2 ^ f := by
        have : n / b ≤ n / 2 := Nat.div_le_div_left hb (by omega)
        rw [Nat.pow_succ] at hn
        omega
      obtain ⟨q, hq⟩ : ∃ q, q = n / b := ⟨_, rfl⟩
      obtain ⟨m, hm⟩ : ∃ m, m = n % b := ⟨_, rfl⟩
      have eq1 : IntKind.u64.wrap ((n : Int) / (b : Int)) = (q : Int) := num_wrap n b q hlt hq
      have em1 : (n : Int) % (b : Int) = (m : Int) := by rw [hm]; omega
      have hm16 : m < 16 := by have := Nat.mod_lt n (show b > 0 by omega); omega
      have hch := numChr_at m hm16
      rw [← hq] at hqf
      have hx' : Hid (numDigs b (f0 + 1) n0 = pre ++ (numChr m :: (if q = 0 then [] else numDigs b f q))) := by
        show _ = _
        rw [hx, hm, hq]
        rfl
      clear hx hn hlt hqb hq hm
      have hj1 := hJ pre wr (.int .u64 q) hj
      have B1' : Boxed (wr.setCell ⟨B1, 0, none⟩ (.int .u64 q)) B1 58 (.int .u64 q) := hb1.set _
      have B2' : Boxed (wr.setCell ⟨B1, 0, none⟩ (.int .u64 q)) B2 58 (.int .u64 b) := (Below.heap_setCell wr ⟨B1, 0, none⟩ _ B2 (Ne.symm hne)).trans hb2
      obtain ⟨fn, tmps, assign, body, hy, hR⟩ := hY pre (numChr m) _ hj1 (by simp; omega) 0
      have HR := Lib.hid hR
      clear hR
      gi_wp2
      refine HR.out.mono ?_
      rintro e W3 (⟨rfl, hJ3, hk1, hk2⟩ | ⟨rfl, hJx3⟩)
      · have B1x : Boxed W3 B1 58 (.int .u64 q) := hk1.trans B1'
        have B2x : Boxed W3 B2 58 (.int .u64 b) := hk2.trans B2'
        have c3 := B1x.cell
        by_cases hz : q = 0
        · subst hz
          gi_wp2
          go_roundg 0
          case measure => omega
          case rel => exact .inr ⟨rfl, rfl, by rw [hx'.out]; simpa using hJ3⟩
        · have hz' : decide ((0 : Int) < (q : Int)) = true := by simp; omega
          cases f with
          | zero => simp at hqf; exact absurd hqf hz
          | succ f =>
            gi_wp2
            go_roundg (f + 1)
            case measure => omega
            case rel => exact .inl ⟨f, q, pre ++ [numChr m], rfl, (by simp; omega), hqf, by omega, by simp; omega, by rw [hx'.out, if_neg hz]; simp, B1x, B2x, hJ3⟩
      · gi_wp2
        refine bodyPost_ret (results_none rfl _ _ _) rfl ?_
        exact ⟨⟨_, rfl⟩, .inr ⟨pre ++ [numChr m], by simp; omega, hJx3⟩⟩
    · gi_wp2
      go_end0
      exact ⟨⟨_, rfl⟩, .inl hj⟩

/-- written, of numbers that a uint64 holds, to bases from 2 to 16. -/
def num_written.f (a0 : Int) (a1 : Int) : Option ByteArray :=
  if 2 ≤ a1 ∧ a1 ≤ 16 ∧ 0 ≤ a0 ∧ a0.toNat < 2 ^ 64 then some (strOfNums (numDigs a1.toNat 64 a0.toNat).reverse) else none

theorem num_set_at (x y : Int) (post : List Int) : ∀ pre : List Int, (pre ++ x :: post).set pre.length y = pre ++ y :: post
  | [] => rfl
  | a :: pre => by simp [num_set_at x y post pre]
theorem num_rd_at (x : Int) (pre post : List Int) : rd (pre ++ x :: post) ((pre.length : Nat) : Int) = x := by simp [rd]
/-- slices.Reverse, as the print tells it. -/
theorem num_rev : ∀ (k : Nat) (pre mid post : List Int), mid.length ≤ 2 * k + 1 → (pre ++ mid ++ post).length ≤ 9223372036854775807 → ∀ (i j : Int), i = (pre.length : Int) → j = (pre.length : Int) + (mid.length : Int) - 1 →
    slices_Reverse_byte_byte.l0 (k + 1) (pre ++ mid ++ post) i j = some (pre ++ mid.reverse ++ post) := by
  intro k
  induction k with
  | zero =>
    intro pre mid post hm hl i j hi hj
    simp only [slices_Reverse_byte_byte.l0]
    rw [if_neg (by omega)]
    match mid, hm with
    | [], _ => rfl
    | [x], _ => rfl
  | succ k ih =>
    intro pre mid post hm hl i j hi hj
    by_cases h1 : mid.length ≤ 1
    · simp only [slices_Reverse_byte_byte.l0]
      rw [if_neg (by omega)]
      match mid, h1 with
      | [], _ => rfl
      | [x], _ => rfl
    · obtain ⟨a, m, z, rfl⟩ : ∃ a m z, mid = a :: (m ++ [z]) := by
        match mid, h1 with
        | [], h => exact absurd (by simp) h
        | a :: r, h =>
          have hr : r ≠ [] := by rintro rfl; simp at h
          exact ⟨a, r.dropLast, r.getLast hr, by rw [List.dropLast_concat_getLast]⟩
      have hlen : (a :: (m ++ [z])).length = m.length + 2 := by simp
      have hll : (pre ++ a :: (m ++ [z]) ++ post).length = pre.length + (m.length + 2) + post.length := by simp; omega
      rw [hlen] at hm hj
      rw [hll] at hl
      have e1 : pre ++ a :: (m ++ [z]) ++ post = (pre ++ a :: m) ++ z :: post := by simp
      have e2 : pre ++ a :: (m ++ [z]) ++ post = pre ++ a :: (m ++ z :: post) := by simp
      have hj' : j = ((pre ++ a :: m).length : Nat) := by simp; omega
      have hjr : rd (pre ++ a :: (m ++ [z]) ++ post) j = z := by rw [e1, hj']; exact num_rd_at _ _ _
      have hir : rd (pre ++ a :: (m ++ [z]) ++ post) i = a := by rw [e2, hi]; exact num_rd_at _ _ _
      have hs1 : (pre ++ a :: (m ++ [z]) ++ post).set i.toNat z = (pre ++ z :: m) ++ z :: post := by
        rw [e2, hi, Int.toNat_natCast, num_set_at]; simp
      have hs2 : ((pre ++ z :: m) ++ z :: post).set j.toNat a = (pre ++ [z]) ++ m ++ (a :: post) := by
        rw [show j.toNat = (pre ++ z :: m).length by simp; omega, num_set_at]; simp
      have hlt : ((pre ++ a :: (m ++ [z]) ++ post).length : Int) = (pre.length : Int) + (m.length : Int) + 2 + (post.length : Int) := by rw [hll]; omega
      rw [slices_Reverse_byte_byte.l0, if_pos (by omega), if_pos (by omega), if_pos (by omega), if_pos (by omega), if_pos (by omega), hjr, hir, hs1, hs2]
      have w1 : wrap64 (i + 1) = ((pre ++ [z]).length : Int) := by unfold wrap64; simp; omega
      have w2 : wrap64 (j - 1) = ((pre ++ [z]).length : Int) + (m.length : Int) - 1 := by unfold wrap64; simp; omega
      rw [ih (pre ++ [z]) m (a :: post) (by omega) (by simp; omega) _ _ w1 w2]
      simp
theorem num_reverse (l : List Int) (hl : l.length ≤ 9223372036854775807) : slices_Reverse_byte_byte.f (l.length + 1) l = some l.reverse := by
  have := num_rev l.length [] l [] (by omega) (by simpa using hl) 0 (wrap64 ((l.length : Int) - 1)) rfl (by unfold wrap64; simp; omega)
  simpa [slices_Reverse_byte_byte.f] using this

set_option maxHeartbeats 1000000 in
theorem num_places (n b : Int) (w : World) :
    Calls Try.prog 28 #[.int .u64 n, .int .u64 b] w fun e w' => e = .returned (.func (.func 32) #[] #[.pointer (some ⟨w.heap.size, 0, none⟩), .pointer (some ⟨w.heap.size + 1, 0, none⟩)]) ∧
      w' = (w.alloc (.cells #[.int .u64 n] 58)).alloc (.cells #[.int .u64 b] 58) := by
  go_enter Try.func28, Try.ntmps28
  go_wp2
  go_ret
  exact ⟨rfl, rfl⟩

theorem num_places_seq (B1 B2 : Nat) (hne : B1 ≠ B2) (b : Nat) (hb : 2 ≤ b) (hb16 : b ≤ 16) (n : Nat) (hn : n < 2 ^ 64) (w : World) (h1 : Boxed w B1 58 (.int .u64 n)) (h2 : Boxed w B2 58 (.int .u64 b)) :
    Rng.SeqW Try.prog 32 #[.pointer (some ⟨B1, 0, none⟩), .pointer (some ⟨B2, 0, none⟩)] (fun x : Int => #[Value.int .u8 x]) (fun r => r = B1) (fun k => k = B1 ∨ k = B2) (fun xs => xs = numDigs b 64 n) (fun pre => pre.length ≤ 64) w := by
  intro l J Jx W hW hJ hJx hY h0
  have g1 : Boxed W B1 58 (.int .u64 n) := (hW.block B1 h1.lt).trans h1
  have g2 : Boxed W B2 58 (.int .u64 b) := (hW.block B2 h2.lt).trans h2
  refine (num_places1 l B1 B2 hne b hb hb16 63 n (by omega) hn (fun pre W => J pre W ∧ B1 < W.heap.size ∧ B2 < W.heap.size) Jx ?_ ?_ W g1 g2 ⟨h0, g1.lt, g2.lt⟩).mono ?_
  · rintro pre W v ⟨hj, hl1, hl2⟩
    exact ⟨hJ pre W _ (some B1) hj (grownBy_setCell' W B1 v) (fun r e => .inl (by cases e; rfl)), by simpa [World.setCell] using hl1, by simpa [World.setCell] using hl2⟩
  · rintro pre x W ⟨hj, hl1, hl2⟩ hlen m
    obtain ⟨fn, tmps, assign, body, hy, hR⟩ := hY pre x W hj hlen m
    refine ⟨fn, tmps, assign, body, hy, hR.mono ?_⟩
    rintro e W' (⟨rfl, hj', hk, hs⟩ | ⟨rfl, hx⟩)
    · exact .inl ⟨rfl, ⟨hj', Nat.lt_of_lt_of_le hl1 hs.size, Nat.lt_of_lt_of_le hl2 hs.size⟩, hs.same _ (.inl rfl) hl1, hs.same _ (.inr rfl) hl2⟩
    · exact .inr ⟨rfl, hx⟩
  · rintro e W' ⟨hv, ⟨hj, _⟩ | ⟨pre, hp, hx⟩⟩
    · exact ⟨hv, .inl ⟨_, rfl, hj⟩⟩
    · exact ⟨hv, .inr ⟨pre, hp, hx⟩⟩

theorem num_appended {w W w1 : World} {v v' : Value} {k m : Nat} {xs ys : List Value} {tmp : Obj} (hv : Boxed W w.heap.size 60 v) (hrow : W.ownsRow (w.heap.size + 3) 5 1 v k xs) (hn : w.heap.size ≤ W.heap.size)
    (hown' : w1.ownsRow (w.heap.size + 3) 5 1 v' m ys) (hgrow : (W.alloc tmp).grownBy w1 v.ownBlock) :
    Boxed w1 w.heap.size 60 v ∧ Boxed (w1.setCell ⟨w.heap.size, 0, none⟩ v') w.heap.size 60 v' ∧ (w1.setCell ⟨w.heap.size, 0, none⟩ v').ownsRow (w.heap.size + 3) 5 1 v' m ys ∧ KeepsOthers W (w1.setCell ⟨w.heap.size, 0, none⟩ v') ∧ Below w.heap.size W (w1.setCell ⟨w.heap.size, 0, none⟩ v') ∧ Rng.Same (fun k => k = w.heap.size + 1 ∨ k = w.heap.size + 1 + 1) W (w1.setCell ⟨w.heap.size, 0, none⟩ v') := by
  obtain ⟨h1, h2, h3, h4, h5⟩ := hv.appended (show (60 : TypeId) ≠ 5 by decide) (Joins.ownsRow_le hrow (show w.heap.size ≤ w.heap.size + 3 by omega)) hn (Nat.le_refl _) (Joins.ownsRow_le hown' (show w.heap.size ≤ w.heap.size + 3 by omega)) hgrow
  exact ⟨h1, h2, hown'.kept (grownBy_setCell' w1 w.heap.size v') (.inr (h1.not_row (by decide) hown').symm), h4, h5, ((Rng.Same.alloc _ W tmp).trans (Rng.Same.grown hgrow (fun r e h => by have := (hrow.lt r e).1; rcases h with h | h <;> omega))).trans (Rng.Same.setCell w1 (by simp; omega) v')⟩

attribute [local go_sem] Oper.semAt_some Rng.wide_fn Rng.wide_depth Rng.wide_alive

set_option maxHeartbeats 2000000 in
set_option maxRecDepth 100000 in
theorem num_written.calls (a0 a1 : Int) (r : ByteArray) (w : World) (h : num_written.f a0 a1 = some r) :
    Calls Try.prog 24 #[.int .u64 a0, .int .i64 a1] w fun e w' => e = .returned (.string r) ∧ Below w.heap.size w w' := by
  unfold num_written.f at h
  split at h
  case isFalse => cases h
  case isTrue hr =>
    obtain ⟨hr1, hr2, hr3, hr4⟩ := hr
    obtain rfl := Option.some.inj h
    clear h
    obtain ⟨n, rfl⟩ := Int.eq_ofNat_of_zero_le hr3
    obtain ⟨b, rfl⟩ := Int.eq_ofNat_of_zero_le (show 0 ≤ a1 by omega)
    rw [Int.toNat_natCast, Int.toNat_natCast] at *
    have hb2 : 2 ≤ b := by omega
    have hb16 : b ≤ 16 := by omega
    have hwb : IntKind.u64.wrap (b : Int) = (b : Int) := by
      simp only [IntKind.wrap, IntKind.signed, IntKind.bits, Bool.false_and, Bool.false_eq_true, if_false]
      omega
    have hwb' := Lib.hid hr4
    obtain ⟨xs, hxs⟩ : ∃ xs, xs = numDigs b 64 n := ⟨_, rfl⟩
    have hxl : xs.length ≤ 64 := by rw [hxs]; exact numDigs_len b 64 n
    rw [← hxs]
    have HX := Lib.hid hxs
    clear hxs
    clear hr1 hr2 hr3 hr4
    obtain ⟨i0, hi, hz0, hz1, hz2⟩ := info_parts (show (Try.prog.info? 5).map (fun i => (i.zero, i.size, i.bytes)) = some (some (.int .u8 0), 1, 1) by kernel_rfl)
    refine (callsIn_wide (n := 5)).1 ?_
    refine callsIn_of_wp_marks Try.func24 rfl trivial ?_ rfl
    simp only [Try.ntmps24, List.size_toArray, List.length_cons, List.length_nil, Nat.reduceAdd, Nat.reduceSub, Array.replicate_succ, Array.replicate_zero, List.push_toArray, List.append_toArray, List.nil_append, List.cons_append]
    gi_wp2_with (gi_at_call 28; refine (callsIn_wide.2 (num_places _ _ _)).mono ?_; rintro e w' ⟨rfl, rfl⟩)
    have b0 := Boxed.new w 60 (.slice none 0 0)
    have b1 := Boxed.new (w.alloc (.cells #[.slice none 0 0] 60)) 58 (.int .u64 (n : Int))
    have b2 := Boxed.new ((w.alloc (.cells #[.slice none 0 0] 60)).alloc (.cells #[.int .u64 (n : Int)] 58)) 58 (.int .u64 (b : Int))
    rw [World.size_alloc] at b1
    rw [World.size_alloc, World.size_alloc] at b2
    have hB0 : Below w.heap.size w (((w.alloc (.cells #[.slice none 0 0] 60)).alloc (.cells #[.int .u64 (n : Int)] 58)).alloc (.cells #[.int .u64 (b : Int)] 58)) := (((Below.refl _ w).alloc (Nat.le_refl _) _).alloc (by simp) _).alloc (by simp; omega) _
    refine Rng.rangeW (gf := 32) (lb := #[.pointer (some ⟨w.heap.size + 1, 0, none⟩), .pointer (some ⟨w.heap.size + 1 + 1, 0, none⟩)]) rfl (enters_of Try.func32 (by kernel_rfl) rfl)
      (num_places_seq (w.heap.size + 1) (w.heap.size + 1 + 1) (by omega) b hb2 hb16 n hwb'.out _ (b1.alloc _) b2) (Below.refl _ _) (fun r h => by subst h; simp) (fun r h => by rcases h with rfl | rfl <;> simp) (fun _ => rfl)
      (fun pre W => (∃ v, Boxed W w.heap.size 60 v ∧ W.ownsRow (w.heap.size + 3) 5 1 v pre.length (pre.map (Value.int .u8)) ∧ True) ∧ Below w.heap.size w W)
      (fun _ _ _ => False)
      (Rng.Owns.and (Rng.Owns.holds (w.heap.size + 3) w.heap.size 60 5 1 (fun pre : List Int => pre.length) (fun pre => pre.map (Value.int .u8)) (fun _ _ => True) (by omega) (fun r h => by omega)) (Rng.Owns.below (Nat.le_refl _) (by simp; omega) (fun r h => by omega)))
      (fun _ => Rng.Owns.never)
      ⟨⟨_, (b0.alloc _).alloc _, World.ownsRow_nil _ _ _ _, trivial⟩, hB0⟩
      (fun x => { tmps := #[.int .u64 n, .int .i64 b, undef, undef, .string ⟨#[]⟩, .pointer (some ⟨w.heap.size, 0, none⟩), .int .u8 x, .int .u64 n, .int .i64 b, .int .u64 b, .func (.func 32) #[] #[.pointer (some ⟨w.heap.size + 1, 0, none⟩), .pointer (some ⟨w.heap.size + 1 + 1, 0, none⟩)], .int .u8 x, undef, undef, undef, undef, undef, undef, undef, undef], defers := [] }) ?assign ?body ?done ?stop
    case assign =>
      intro l x W K hK
      gi_wp2
      exact hK
    case body =>
      rintro l pre x W ⟨⟨v, hv, hrow, _⟩, hB⟩ hlen hsz
      have hc := hv.cell
      simp only [World.size_alloc] at hsz
      have hlen' : pre.length + 1 ≤ 64 := by simpa using hlen
      have hrow2 : (W.alloc (.cells #[.int .u8 x] 5)).ownsRow (w.heap.size + 3) 5 1 v pre.length (pre.map (Value.int .u8)) := hrow.alloc _
      have q1 : pre.length + 1 ≤ maxLen := by unfold maxLen; omega
      have q2 : (pre.length + 1) * 1 ≤ 140737488355328 := by omega
      have q3 : w.heap.size + 3 ≤ (W.alloc (.cells #[.int .u8 x] 5)).heap.size := by simp; omega
      have q4 : ∀ u ∈ [Value.int .u8 x], u.oneCell' = true := by simp [Value.oneCell']
      have hn2 : w.heap.size ≤ W.heap.size := hB.size
      have Q := Lib.hid (And.intro q1 (And.intro q2 q3))
      clear q1 q2 q3 hlen hlen' hsz
      gi_wp2_with (gi_at_builtin; go_must (refine wpListIn_append_own _ rfl _ _ 60 rfl (w.heap.size + 3) 5 i0 (.int .u8 0) 1 1 Try.underlying60 hi hz0 hz1 hz2 rfl (by decide) _ _ _ rfl hrow2 ⟨W.heap.size, 0, none⟩ 1 1 [.int .u8 x] rfl rfl (cell_one_new _ _ _) q4 Q.out.1 Q.out.2.1 Q.out.2.2 ?_); go_must (intro v' w1 hown' hgrow _; obtain ⟨g', cap', rfl⟩ := ownsRow_succ hown'; obtain ⟨hv1, hv2, hr2, hk2, hb2, hs2⟩ := num_appended hv hrow hn2 hown' hgrow; have hc1 := hv1.cell; have hf1 := hv1.frozen))
      exact ⟨hk2, hs2, ⟨_, hv2, by simpa using hr2, trivial⟩, hB.trans hb2⟩
    case done =>
      rintro D ys W hD hys ⟨⟨v, hv, hrow, _⟩, hB⟩ hK
      have hc := hv.cell
      obtain rfl : ys = xs := hys.trans HX.out.symm
      clear hys
      have hR : Kd.R (Kd.int .u8) 5 W w.heap.size (fun k => some k = v.ownBlock) v ys := Kd.R_of_own (enc := Value.int .u8) (h1 := fun _ => rfl) (Joins.ownsRow_le hrow (show w.heap.size ≤ w.heap.size + 3 by omega)) (fun k hk => hk.symm)
      have hne : ¬ some w.heap.size = v.ownBlock := fun e => by have := (hrow.lt _ e.symm).1; omega
      have hcall := slices_Reverse_byte_byte.calls (ys.length + 1) (fun k => some k = v.ownBlock) v ys ys.reverse w W hB hR (num_reverse ys (by omega))
      have HC := Lib.hid hcall
      have hnD : ¬ some D = v.ownBlock := fun e => by obtain ⟨cs, hcs⟩ := own_typed hrow D e.symm; rw [hK] at hcs; cases hcs
      clear hcall hR hrow hxl
      simp only [World.size_alloc] at hD
      gi_wp2_with (gi_at_call 29; go_must (refine (callsIn_wide.2 HC.out).mono ?_); go_must (rintro e W4 ⟨rfl, hR4, hB4, hk4⟩; have hv4 : Boxed W4 w.heap.size 60 v := blk_kept hv hk4 hne; have hc4 := hv4.cell))
      have hK4 : W4.heap[D]? = some (.deferred (some [])) := blk_kept hK hk4 hnD
      obtain ⟨A, c, hv0, _, hC⟩ := Kd.R_reads hR4
      have hcv : (convert 60 9 v).run Try.prog W4 = .ok (.string (strOfNums ys.reverse)) W4 := by
        rw [hv0]; exact Kd.C_string Try.underlying60 Try.underlying5 Try.underlying9 hC
      clear hv0 hC hR4
      rw [hcv]
      simp only [Result.andThen]
      rw [Oper.uponIn_value]
      gi_wp2
      refine ⟨by simp, .inl ⟨_, _, rfl, run_takeDeferred hK4, ?_⟩⟩
      exact ⟨_, results_tmp rfl _ _ _, rfl, hB4.trans (belowK_b (w := w) (Nat.le_refl _) W4 D _ _ (by omega) hK4 rfl rfl)⟩
    case stop =>
      rintro D c pre W _ _ h _
      exact h.elim

/-! ### num_Decimal: function 19 -/
def num_Decimal.f (a0 : Int) : Option (ByteArray) := if a0 < 0 then ((num_written.f (IntKind.u64.wrap (-(IntKind.u64.wrap (a0)))) 10).bind fun t105 => (if 1 + t105.size ≤ 9223372036854775807 then (some ((⟨#[45]⟩ : ByteArray) ++ t105)) else (none))) else ((num_written.f (IntKind.u64.wrap (a0)) 10).bind fun t106 => (some t106))
set_option maxHeartbeats 8000000 in
set_option maxRecDepth 100000 in
theorem num_Decimal.calls (a0 : Int) (r : ByteArray) (w : World) (h : num_Decimal.f a0 = some r) :
    Calls Try.prog 19 #[.int .i64 a0] w fun e w' => e = .returned (.string r) ∧ Below w.heap.size w w' := by
  have HB := Aside0.mk (Below.refl w.heap.size w)
  have H : (if a0 < 0 then ((num_written.f (IntKind.u64.wrap (-(IntKind.u64.wrap (a0)))) 10).bind fun t105 => (if 1 + t105.size ≤ 9223372036854775807 then (some ((⟨#[45]⟩ : ByteArray) ++ t105)) else (none))) else ((num_written.f (IntKind.u64.wrap (a0)) 10).bind fun t106 => (some t106))) = some r := h
  clear h
  by_cases c2 : a0 < 0
  · rw [if_pos c2] at H
    have c2b0 : decide (a0 < 0) = true := decide_eq_true c2
    clear c2
    replace H := Option.bind_eq_some_iff.mp H
    obtain ⟨t105, A30, H⟩ := H
    replace H : (if 1 + t105.size ≤ 9223372036854775807 then (some ((⟨#[45]⟩ : ByteArray) ++ t105)) else (none)) = some r := H
    have A3 := Aside0.mk A30
    clear A30
    by_cases c4 : 1 + t105.size ≤ 9223372036854775807
    · rw [if_pos c4] at H
      have c4b0 := eq_true c4
      have c4b1 : decide (1 + t105.size ≤ 9223372036854775807) = true := decide_eq_true c4
      try have c4b2 : (9223372036854775807 < 1 + t105.size) = False := eq_false (Nat.not_lt.2 c4)
      obtain rfl := Option.some.inj H
      go_enter Try.func19, Try.ntmps19
      go_wp2_with (first | ((with_reducible refine gate_callee (f := 24) rfl ?_); refine goesL_ (some 8) rfl rfl Try.func24 (by kernel_rfl) rfl #[.int .u64 (IntKind.u64.wrap (-(IntKind.u64.wrap (a0)))), .int .i64 10] rfl (by (try simp only [List.map_toArray, List.map_cons, List.map_nil]); first | done | rfl | (simp only [List.length_drop, List.length_take]; rfl)) ?_; (with_reducible refine (num_written.calls (IntKind.u64.wrap (-(IntKind.u64.wrap (a0)))) 10 t105 _ A3.out).mono ?_); rintro e w5 ⟨rfl, hb⟩; refine ⟨_, rfl, ?_⟩; have n0_ := Aside0.mk (below_step (by repeat (first | (with_reducible first | exact HB.out | apply below_alloc | apply pw_below_drewN | apply below_drew1) | exact HB.out)) hb); clear HB; have HB := n0_; clear n0_; (try clear hb); (try clear hb2); (try clear hk); (try clear hi)))
      go_ret
      exact ⟨by first | rfl | (simp [errW_none, errW_some] <;> rfl) | (simp [*, errW_none, errW_some] <;> rfl), by repeat (first | (with_reducible first | exact HB.out | apply below_alloc | apply pw_below_drewN | apply below_drew1) | exact HB.out)⟩
    · rw [if_neg c4] at H
      exact absurd H (by simp)
  · rw [if_neg c2] at H
    have c2b0 : decide (a0 < 0) = false := decide_eq_false c2
    clear c2
    replace H := Option.bind_eq_some_iff.mp H
    obtain ⟨t106, A60, H⟩ := H
    replace H : (some t106) = some r := H
    have A6 := Aside0.mk A60
    clear A60
    obtain rfl := Option.some.inj H
    go_enter Try.func19, Try.ntmps19
    go_wp2_with (first | ((with_reducible refine gate_callee (f := 24) rfl ?_); refine goesL_ (some 12) rfl rfl Try.func24 (by kernel_rfl) rfl #[.int .u64 (IntKind.u64.wrap (a0)), .int .i64 10] rfl (by (try simp only [List.map_toArray, List.map_cons, List.map_nil]); first | done | rfl | (simp only [List.length_drop, List.length_take]; rfl)) ?_; (with_reducible refine (num_written.calls (IntKind.u64.wrap (a0)) 10 t106 _ A6.out).mono ?_); rintro e w7 ⟨rfl, hb⟩; refine ⟨_, rfl, ?_⟩; have n0_ := Aside0.mk (below_step (by repeat (first | (with_reducible first | exact HB.out | apply below_alloc | apply pw_below_drewN | apply below_drew1) | exact HB.out)) hb); clear HB; have HB := n0_; clear n0_; (try clear hb); (try clear hb2); (try clear hk); (try clear hi)))
    go_ret
    exact ⟨by first | rfl | (simp [errW_none, errW_some] <;> rfl) | (simp [*, errW_none, errW_some] <;> rfl), by repeat (first | (with_reducible first | exact HB.out | apply below_alloc | apply pw_below_drewN | apply below_drew1) | exact HB.out)⟩

-- NOT PRINTED: function 33 (abi_NoEscape)

-- NOT PRINTED: function 30 (strings_Builder_copyCheck)

-- NOT PRINTED: function 34 (bytealg_MakeNoZero)

-- NOT PRINTED: function 31 (strings_Builder_grow)

-- NOT PRINTED: function 25 (strings_Builder_Grow)

-- NOT PRINTED: function 26 (strings_Builder_WriteString)

-- NOT PRINTED: function 27 (strings_Builder_String)

/-! ### strings_Join: function 20 -/
-- STUB strings.Join | [string]str str | str | 0 | 1 | strings_Join
def joinOf (l0 : List ByteArray) (a1 : ByteArray) : List UInt8 := Lib.join (l0.map (·.data.toList)) a1.data.toList
def strings_Join.f (l0 : List ByteArray) (a1 : ByteArray) : Option ByteArray :=
  if l0.length ≤ 140737488355328 ∧ (joinOf l0 a1).length ≤ 140737488355328 then some ⟨(joinOf l0 a1).toArray⟩ else none
theorem strings_Join.calls (A0 : Option Addr) (c0 : Nat) (l0 : List ByteArray) (a1 : ByteArray) (r : ByteArray) (w : World) (hr0 : Kd.C Kd.string w A0 l0.length l0) (hc0 : l0.length ≤ c0) (h : strings_Join.f l0 a1 = some r) :
    Calls Try.prog 20 #[.slice A0 l0.length c0, .string a1] w fun e w' => e = .returned (.string r) ∧ Below w.heap.size w w' := by
  unfold strings_Join.f at h
  split at h
  case isFalse => cases h
  case isTrue hb =>
    obtain rfl := Option.some.inj h
    by_cases h0 : l0.length = 0
    · obtain rfl : l0 = [] := List.eq_nil_of_length_eq_zero h0
      refine (Try.strings_Join_none A0 c0 a1 w).mono ?_
      rintro e w' ⟨rfl, rfl⟩
      exact ⟨rfl, Below.refl _ _⟩
    · obtain ⟨ad, rfl, hcell⟩ := hr0.2.2 (by omega)
      have hx : ∀ j x, l0[j]? = some x → w.cell? (ad.add j) = some (.string x) := by
        intro j x hj
        obtain ⟨c, hcl, hK, hc⟩ := hcell j x hj
        obtain rfl : c = [.string x] := hK
        have := hc 0 _ rfl
        have e : j * Kd.string.sz + 0 = j := by show j * 1 + 0 = j; omega
        rw [e] at this
        exact this
      have hsp : ad.spot = none := by
        have := hx 0 l0[0] (List.getElem?_eq_getElem (by omega))
        cases hs : ad.spot with
        | none => rfl
        | some s =>
          simp only [Addr.add, if_pos] at this
          unfold World.cell? at this
          split at this
          · rw [hs] at this; simp at this
          · cases this
      obtain ⟨bk, o, sp⟩ := ad
      obtain rfl : sp = none := hsp
      have hx2 : ∀ j x, l0[j]? = some x → w.cell? ⟨bk, o + j, none⟩ = some (.string x) := by
        intro j x hj
        have := hx j x hj
        by_cases hj0 : j = 0
        · subst hj0; simpa [Addr.add] using this
        · simpa [Addr.add, hj0] using this
      have hbk : bk < w.heap.size := World.block_lt_of_cell? w _ (hx2 0 l0[0] (List.getElem?_eq_getElem (by omega)))
      exact Try.strings_Join bk o c0 l0 a1 w hx2 hbk hb.1 hc0 hb.2

end Go.Proofs.Ytbggmdgeanoelaa.Ft
