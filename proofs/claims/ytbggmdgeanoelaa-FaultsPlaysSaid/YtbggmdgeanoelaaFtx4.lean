-- Written by wip/tools/xprint.py of this work (the kit's print with contracts of its own).
import Derived.Test.YtbggmdgeanoelaaFtx0
import Derived.Test.YtbggmdgeanoelaaFtx1
import Derived.Test.YtbggmdgeanoelaaFtx2
import Derived.Test.YtbggmdgeanoelaaFtx3
namespace Go.Proofs.Ytbggmdgeanoelaa.Ft
open Go.RowKit Go.Proofs.YtbggmdgeanoelaaW.PrintWords Go.Proofs.YtbggmdgeanoelaaW.PrintLast Go.Proofs.YtbggmdgeanoelaaW.PrintMore
attribute [local go_sem] max2_int min2_int max_two min_two max_three min_three max_four min_four   -- for this text's walks alone
set_option linter.unusedVariables false
set_option linter.unusedSimpArgs false

attribute [local go_sem high] eqA45
/-! ### millraceplain_SameFaults: function 9 -/
def millraceplain_SameFaults.l0 : Nat → List (S45) → List (S45) → Int → Option (Bool)
  | 0, _, _, _ => none
  | k + 1, x0, x1, x5 => if x5 < (x0.length : Int) then (if 0 ≤ x5 then (if x5 < (x1.length : Int) then (if (!(((rd_T45 x0 x5).f0) == ((rd_T45 x1 x5).f0)) || (!(((rd_T45 x0 x5).f1) == ((rd_T45 x1 x5).f1)))) = true then (some false) else (millraceplain_SameFaults.l0 k x0 x1 (wrap64 (x5 + 1)))) else (none)) else (none)) else (some true)
def millraceplain_SameFaults.f (k : Nat) (l0 : List (S45)) (l1 : List (S45)) : Option (Bool) := if (l0.length : Int) = (l1.length : Int) then (millraceplain_SameFaults.l0 k l0 l1 0) else (some false)
theorem millraceplain_SameFaults.mono_l : ∀ k, (∀ y0 y1 y2, LeO (millraceplain_SameFaults.l0 k y0 y1 y2) (millraceplain_SameFaults.l0 (k + 1) y0 y1 y2))
  | 0 => fun _ _ _ r h => by simp [millraceplain_SameFaults.l0] at h
  | k + 1 => by
    have ih0 := millraceplain_SameFaults.mono_l k
    · intro y0 y1 y2
      unfold millraceplain_SameFaults.l0
      repeat' first
      | (with_reducible exact ih0 _ _ _)
      | (with_reducible exact LeO.refl _)
      | (with_reducible exact LeO.none _)
      | (with_reducible refine LeO.ite ?_ ?_)
      | (with_reducible refine LeO.bind ?_ (fun _ => ?_))
      | exact ih0 _ _ _
      | exact LeO.none _
      | refine LeO.ite ?_ ?_
      | refine LeO.bind ?_ (fun _ => ?_)
theorem millraceplain_SameFaults.mono : ∀ a0 a1 k, LeO (millraceplain_SameFaults.f k a0 a1) (millraceplain_SameFaults.f (k + 1) a0 a1) := by
  intro a0 a1 k
  have ih0 := millraceplain_SameFaults.mono_l k
  unfold millraceplain_SameFaults.f
  repeat' first
      | (with_reducible exact ih0 _ _ _)
      | (with_reducible exact LeO.refl _)
      | (with_reducible exact LeO.none _)
      | (with_reducible refine LeO.ite ?_ ?_)
      | (with_reducible refine LeO.bind ?_ (fun _ => ?_))
      | exact ih0 _ _ _
      | exact LeO.none _
      | refine LeO.ite ?_ ?_
      | refine LeO.bind ?_ (fun _ => ?_)
set_option maxHeartbeats 8000000 in
set_option maxRecDepth 100000 in
theorem millraceplain_SameFaults.calls (k : Nat) (A0 : Option Addr) (c0 : Nat) (l0 : List (S45)) (A1 : Option Addr) (c1 : Nat) (l1 : List (S45)) (r : Bool) (w : World) (hr0 : Kd.C k45 w A0 l0.length l0) (hc0 : l0.length ≤ c0) (hr1 : Kd.C k45 w A1 l1.length l1) (hc1 : l1.length ≤ c1) (h : millraceplain_SameFaults.f k l0 l1 = some r) :
    Calls Try.prog 9 #[.slice A0 l0.length c0, .slice A1 l1.length c1] w fun e w' => e = .returned (.bool r) ∧ Drawn0 w w' := by
  have hu45 := Try.underlying45
  have HR0 := Aside0.mk hr0
  have HC0 := Aside0.mk hc0
  clear hr0 hc0
  have HR1 := Aside0.mk hr1
  have HC1 := Aside0.mk hc1
  clear hr1 hc1
  have H : (if (l0.length : Int) = (l1.length : Int) then (millraceplain_SameFaults.l0 k l0 l1 0) else (some false)) = some r := h
  clear h
  by_cases c3 : (l0.length : Int) = (l1.length : Int)
  · rw [if_pos c3] at H
    have c3b0 : ((l0.length : Int) == (l1.length : Int)) = true := beq_iff_eq.mpr c3
    have c3b1 : ((l0.length : Int) != (l1.length : Int)) = false := bne_eq_false_iff_eq.mpr c3
    have c3b2 : (l0.length == l1.length) = true := by first | simpa using c3 | (simp at c3 ⊢; omega)
    clear c3
    have H' := Aside0.mk H
    clear H
    go_enter Try.func9, Try.ntmps9
    go_wp2
    repeat (go_quiet (fail); try go_wp2)
    go_loopg [5] k (fun kq v5 w' => ∃ (x5_1 : Int), v5 = .int .i64 x5_1 ∧ Aside0 (millraceplain_SameFaults.l0 kq l0 l1 x5_1 = some r) ∧ Aside0 (kq ≤ k) ∧ Drawn0 w w')
    case atStart => exact ⟨(0), (by first | rfl | (simp; done) | (simp [*]; done)), H', ⟨Nat.le_refl _⟩, by repeat (first | exact Drawn0.refl _ | apply Drawn0.step)⟩
    case round =>
      clear H'
      try clear c1
      try clear p2
      try clear c3
      try clear c3b0
      try clear c3b1
      try clear c3b2
      obtain ⟨x5_1, rfl, HA, HK1, ⟨m1, rfl⟩⟩ := hrel
      cases gk with
      | zero => exact absurd HA.out (by simp [millraceplain_SameFaults.l0])
      | succ k1 =>
        have H := HA.out
        clear HA
        simp only [millraceplain_SameFaults.l0] at H
        by_cases c4 : x5_1 < (l0.length : Int)
        · rw [if_pos c4] at H
          have c4b0 : decide (x5_1 < (l0.length : Int)) = true := decide_eq_true c4
          clear c4
          by_cases c5 : 0 ≤ x5_1
          · rw [if_pos c5] at H
            have c5b0 : decide (0 ≤ x5_1) = true := decide_eq_true c5
            clear c5
            by_cases c6 : x5_1 < (l1.length : Int)
            · rw [if_pos c6] at H
              have c6b0 : decide (x5_1 < (l1.length : Int)) = true := decide_eq_true c6
              clear c6
              by_cases c7 : (!(((rd_T45 l0 x5_1).f0) == ((rd_T45 l1 x5_1).f0)) || (!(((rd_T45 l0 x5_1).f1) == ((rd_T45 l1 x5_1).f1)))) = true
              · rw [if_pos c7] at H
                have c7b0 : (!(((rd_T45 l0 x5_1).f0) == ((rd_T45 l1 x5_1).f0)) || (!(((rd_T45 l0 x5_1).f1) == ((rd_T45 l1 x5_1).f1)))) = true := c7
                clear c7
                obtain rfl := Option.some.inj H
                have p119 : 0 ≤ (x5_1 : Int) := of_decide_eq_true (by first | (with_reducible assumption) | assumption)
                have q119 : x5_1 < (l0.length : Int) := of_decide_eq_true (by first | (with_reducible assumption) | assumption)
                obtain ⟨ad119, e119, hx119_0, hx119_1⟩ := at_T45 HR0.out x5_1 p119 q119
                cases e119
                replace p119 := eq_true p119
                replace q119 := eq_true q119
                have p120 : 0 ≤ (x5_1 : Int) := of_decide_eq_true (by first | (with_reducible assumption) | assumption)
                have q120 : x5_1 < (l1.length : Int) := of_decide_eq_true (by first | (with_reducible assumption) | assumption)
                obtain ⟨ad120, e120, hx120_0, hx120_1⟩ := at_T45 HR1.out x5_1 p120 q120
                cases e120
                replace p120 := eq_true p120
                replace q120 := eq_true q120
                go_wp2
                repeat (go_quiet (fail); try go_wp2)
                go_ret
                exact ⟨by first | rfl | (simp; done) | (simp [*]; done), by repeat (first | exact Drawn0.refl _ | apply Drawn0.step)⟩
              · rw [if_neg c7] at H
                have c7b0 : (!(((rd_T45 l0 x5_1).f0) == ((rd_T45 l1 x5_1).f0)) || (!(((rd_T45 l0 x5_1).f1) == ((rd_T45 l1 x5_1).f1)))) = false := by simpa using c7
                clear c7
                have H' := Aside0.mk H
                clear H
                have p119 : 0 ≤ (x5_1 : Int) := of_decide_eq_true (by first | (with_reducible assumption) | assumption)
                have q119 : x5_1 < (l0.length : Int) := of_decide_eq_true (by first | (with_reducible assumption) | assumption)
                obtain ⟨ad119, e119, hx119_0, hx119_1⟩ := at_T45 HR0.out x5_1 p119 q119
                cases e119
                replace p119 := eq_true p119
                replace q119 := eq_true q119
                have p120 : 0 ≤ (x5_1 : Int) := of_decide_eq_true (by first | (with_reducible assumption) | assumption)
                have q120 : x5_1 < (l1.length : Int) := of_decide_eq_true (by first | (with_reducible assumption) | assumption)
                obtain ⟨ad120, e120, hx120_0, hx120_1⟩ := at_T45 HR1.out x5_1 p120 q120
                cases e120
                replace p120 := eq_true p120
                replace q120 := eq_true q120
                go_wp2
                repeat (go_quiet (fail); try go_wp2)
                go_roundg k1
                case measure => have := HK1.out; omega
                case rel => exact ⟨(wrap64 (x5_1 + 1)), (by first | rfl | (simp; done) | (simp [*]; done)), H', ⟨by have := HK1.out; omega⟩, by repeat (first | exact Drawn0.refl _ | apply Drawn0.step)⟩
            · rw [if_neg c6] at H
              exact absurd H (by simp)
          · rw [if_neg c5] at H
            exact absurd H (by simp)
        · rw [if_neg c4] at H
          have c4b0 : decide (x5_1 < (l0.length : Int)) = false := decide_eq_false c4
          clear c4
          obtain rfl := Option.some.inj H
          go_wp2
          repeat (go_quiet (fail); try go_wp2)
          go_ret
          exact ⟨by first | rfl | (simp; done) | (simp [*]; done), by repeat (first | exact Drawn0.refl _ | apply Drawn0.step)⟩
  · rw [if_neg c3] at H
    have c3b0 : ((l0.length : Int) == (l1.length : Int)) = false := beq_eq_false_iff_ne.mpr c3
    have c3b1 : ((l0.length : Int) != (l1.length : Int)) = true := bne_iff_ne.mpr c3
    have c3b2 : (l0.length == l1.length) = false := by first | simpa using c3 | (simp at c3 ⊢; omega)
    obtain rfl := Option.some.inj H
    go_enter Try.func9, Try.ntmps9
    go_wp2
    repeat (go_quiet (fail); try go_wp2)
    go_ret
    exact ⟨by first | rfl | (simp; done) | (simp [*]; done), by repeat (first | exact Drawn0.refl _ | apply Drawn0.step)⟩

-- NOT PRINTED: function 10 (faults_Plan_Rest)

/-! ### millracelaw02_FaultsEnd: function 3 -/
-- STUB millrace/millracelaw02.FaultsEnd | [millrace/api.Fault]S i64 | bool | 0 | 1 | millracelaw02_FaultsEnd
theorem fFirst_may : ∀ (l : List S45) (i : Nat), fFirst i l = none → ∀ x ∈ l, fMay x = true := by
  intro l
  induction l with
  | nil => intro i _ x h; simp at h
  | cons a r ih =>
    intro i h x hx
    simp only [fFirst] at h
    split at h
    · rename_i hm
      rcases List.mem_cons.1 hx with e | e
      · rw [e]; exact hm
      · exact ih _ h x e
    · cases h
theorem faultsOk_may {l : List S45} (h : faultsOk l = 0) : l.length ≤ 4096 ∧ ∀ x ∈ l, fMay x = true := by
  unfold faultsOk at h
  split at h
  · cases h
  · rename_i hl
    cases hf : fFirst 0 l with
    | some i => rw [hf] at h; cases h
    | none => exact ⟨by omega, fFirst_may l 0 hf⟩
/-- A fault that may be is answered as the law wants. -/
theorem next_good {f : S45} {r : List S45} {want : Int} (hm : fMay f = true) (h1 : 1 ≤ want) (h2 : want ≤ 1048576) :
    ∃ n e, nextOf (f :: r) want = ((n, e), r) ∧ ((e = 0 ∧ 1 ≤ n ∧ n ≤ want) ∨ (e = 22 ∧ n = 0) ∨ (e = 23 ∧ n = 0)) := by
  rw [nextOf.eq_def, if_neg (by omega)]
  unfold fMay at hm
  by_cases k1 : f.f0 = 1
  · simp [k1] at hm
    exact ⟨min want f.f1, 0, by simp [k1], .inl ⟨rfl, by omega, by omega⟩⟩
  · by_cases k2 : f.f0 = 2
    · exact ⟨0, 22, by simp [k2], .inr (.inl ⟨rfl, rfl⟩)⟩
    · by_cases k3 : f.f0 = 3
      · exact ⟨0, 23, by simp [k3], .inr (.inr ⟨rfl, rfl⟩)⟩
      · exact ⟨want, 0, by simp [k1, k2, k3], .inl ⟨rfl, h1, by omega⟩⟩
theorem same_loop02 (l : List S45) (hl : l.length ≤ 9223372036854775806) : ∀ (d : Nat) (i : Int) (k : Nat), 0 ≤ i → (l.length - i).toNat = d → d + 1 ≤ k → millraceplain_SameFaults.l0 k l l i = some true := by
  intro d
  induction d with
  | zero =>
    intro i k h0 hd hk
    obtain ⟨k, rfl⟩ : ∃ i, k = i + 1 := ⟨k - 1, by omega⟩
    simp only [millraceplain_SameFaults.l0]
    rw [if_neg (by omega)]
  | succ d ih =>
    intro i k h0 hd hk
    obtain ⟨k, rfl⟩ : ∃ i, k = i + 1 := ⟨k - 1, by omega⟩
    have e : wrap64 (i + 1) = i + 1 := by unfold wrap64; omega
    simp only [millraceplain_SameFaults.l0, e]
    have := ih (i + 1) k (by omega) (by omega) (by omega)
    rw [if_pos (by omega), if_pos h0, if_pos (by omega)]
    simp [this]
theorem same_faults (l : List S45) (hl : l.length ≤ 9223372036854775806) : millraceplain_SameFaults.f (l.length + 1) l l = some true := by
  rw [millraceplain_SameFaults.f, if_pos rfl]; exact same_loop02 l hl l.length 0 _ (by omega) (by omega) (Nat.le_refl _)

def millracelaw02_FaultsEnd.f (l0 : List S45) (a1 : Int) : Option Bool := some true
set_option maxHeartbeats 4000000 in
set_option maxRecDepth 100000 in
theorem millracelaw02_FaultsEnd.calls (A0 : Option Addr) (c0 : Nat) (l0 : List S45) (a1 : Int) (r : Bool) (w : World) (hr0 : Kd.C k45 w A0 l0.length l0) (hc0 : l0.length ≤ c0) (h : millracelaw02_FaultsEnd.f l0 a1 = some r) :
    Calls Try.prog 3 #[.slice A0 l0.length c0, .int .i64 a1] w fun e w' => e = .returned (.bool r) ∧ Below w.heap.size w w' := by
  obtain rfl := Option.some.inj h
  clear h
  have HAL := Lib.hid (fun W => millracelaw02_alive.calls true W rfl)
  have HR0 := Lib.hid hr0
  have hne := fun W hB => faults_New.calls A0 c0 l0 W (Kd.C_below hr0 hB) hc0
  by_cases hok : faultsOk l0 = 0
  case neg =>
    have hne' : ∀ W, Below w.heap.size w W → Calls Try.prog 6 #[.slice A0 l0.length c0] W fun e w' => e = .returned (.tuple #[.pointer none, .int .i64 (faultsOk l0)]) ∧ Below W.heap.size W w' := by
      intro W hB
      refine (hne W hB).mono ?_
      rintro e w' ⟨h1, ⟨_, h2⟩ | ⟨h2, _⟩⟩
      · exact ⟨h2, h1⟩
      · exact absurd h2 hok
    have g : (faultsOk l0 != 0) = true := by simpa using hok
    have HNE := Lib.hid hne'
    clear hne hne' hok hr0 hc0
    go_enter Try.func3, Try.ntmps3
    go_wp2_with (first
      | (go_at_call 5; go_must (refine (HAL.out _).mono ?_); go_must (rintro e w1 ⟨rfl, hB1⟩))
      | (go_at_call 6; go_must (refine (HNE.out _ hB1).mono ?_); go_must (rintro e w2 ⟨rfl, hB2⟩))
      | go_in)
    go_ret
    exact ⟨rfl, below_step hB1 hB2⟩
  case pos =>
    obtain ⟨hlen, hmay⟩ := faultsOk_may hok
    have hne' : ∀ W, Below w.heap.size w W → Calls Try.prog 6 #[.slice A0 l0.length c0] W fun e w' => ∃ B, e = .returned (.tuple #[.pointer (some ⟨B, 0, none⟩), .int .i64 0]) ∧ W.heap.size ≤ B ∧ PlanAt w' B l0 ∧ Below W.heap.size W w' := by
      intro W hB
      refine (hne W hB).mono ?_
      rintro e w' ⟨h1, ⟨h2, _⟩ | ⟨_, B, h3, h4, h5⟩⟩
      · exact absurd hok h2
      · exact ⟨B, h3, h4, h5, h1⟩
    have HNE := Lib.hid hne'
    clear hne hne' hok
    have hsame := fun (A : Option Addr) (c : Nat) (W : World) (hB : Below w.heap.size w W) (hC : Kd.C k45 W A l0.length l0) (hc : l0.length ≤ c) =>
      millraceplain_SameFaults.calls (l0.length + 1) A c l0 A0 c0 l0 true W hC hc (Kd.C_below hr0 hB) hc0 (same_faults l0 (by omega))
    have HSM := Lib.hid hsame
    have hrest := fun B l W hP (hl : l.length ≤ 4096) => faults_Rest.calls B l W hP (by omega)
    have HRS := Lib.hid hrest
    have HLEN := Lib.hid hlen
    by_cases hw : a1 < 1 ∨ 1048576 < a1
    · have hnx := fun B W hP => faults_Next.calls B l0 a1 W hP
      have e : nextOf l0 a1 = ((0, 4), l0) := by rw [nextOf.eq_def, if_pos hw]
      rw [e] at hnx
      simp only at hnx
      have HNX := Lib.hid hnx
      clear hnx hsame hrest hmay hr0 e hlen
      by_cases h1 : a1 < 1
      · have g1 : decide (a1 < 1) = true := decide_eq_true h1
        clear hw h1 hc0
        go_enter Try.func3, Try.ntmps3
        go_wp2_with (first
          | (go_at_call 5; go_must (refine (HAL.out _).mono ?_); go_must (rintro e w1 ⟨rfl, hB1⟩))
          | (go_at_call 6; go_must (refine (HNE.out _ hB1).mono ?_); go_must (rintro e w2 ⟨B, rfl, hBB, hP, hB2⟩))
          | (go_at_call 8; go_must (refine (HNX.out B _ hP).mono ?_); go_must (rintro e w3 ⟨rfl, hP3, hK3, hB3⟩))
          | (go_at_call 10; go_must (refine (HRS.out B _ _ hP3 HLEN.out).mono ?_); go_must (rintro e w4 ⟨v, rfl, hO4, hB4⟩); have hB04 := below_step ((below_step hB1 hB2).trans (hB3.mono (Nat.le_trans hB1.size hBB))) hB4; obtain ⟨Av, cv, rfl, hcv, hCv⟩ := Kd.R_reads hO4)
          | (go_at_call 9; go_must (refine (HSM.out _ _ _ hB04 hCv hcv).mono ?_); go_must (rintro e w5 ⟨rfl, ⟨nd5, rfl⟩⟩))
          | go_in)
        go_ret
        exact ⟨rfl, pw_below_drewN hB04 nd5⟩
      · have g1 : decide (a1 < 1) = false := decide_eq_false h1
        have g2 : decide (1048576 < a1) = true := decide_eq_true (by omega)
        clear hw h1 hc0
        go_enter Try.func3, Try.ntmps3
        go_wp2_with (first
          | (go_at_call 5; go_must (refine (HAL.out _).mono ?_); go_must (rintro e w1 ⟨rfl, hB1⟩))
          | (go_at_call 6; go_must (refine (HNE.out _ hB1).mono ?_); go_must (rintro e w2 ⟨B, rfl, hBB, hP, hB2⟩))
          | (go_at_call 8; go_must (refine (HNX.out B _ hP).mono ?_); go_must (rintro e w3 ⟨rfl, hP3, hK3, hB3⟩))
          | (go_at_call 10; go_must (refine (HRS.out B _ _ hP3 HLEN.out).mono ?_); go_must (rintro e w4 ⟨v, rfl, hO4, hB4⟩); have hB04 := below_step ((below_step hB1 hB2).trans (hB3.mono (Nat.le_trans hB1.size hBB))) hB4; obtain ⟨Av, cv, rfl, hcv, hCv⟩ := Kd.R_reads hO4)
          | (go_at_call 9; go_must (refine (HSM.out _ _ _ hB04 hCv hcv).mono ?_); go_must (rintro e w5 ⟨rfl, ⟨nd5, rfl⟩⟩))
          | go_in)
        go_ret
        exact ⟨rfl, pw_below_drewN hB04 nd5⟩
    · have g1 : decide (a1 < 1) = false := decide_eq_false (by omega)
      have g2 : decide (1048576 < a1) = false := decide_eq_false (by omega)
      have hgood : ∀ i, i < l0.length → ∃ n e, nextOf (l0.drop i) a1 = ((n, e), l0.drop (i + 1)) ∧ ((e = 0 ∧ 1 ≤ n ∧ n ≤ a1) ∨ (e = 22 ∧ n = 0) ∨ (e = 23 ∧ n = 0)) := by
        intro i hi
        have hd : l0.drop i = l0[i] :: l0.drop (i + 1) := List.drop_eq_getElem_cons hi
        rw [hd]; exact next_good (hmay _ (List.getElem_mem hi)) (by omega) (by omega)
      have hend : ∀ B W, PlanAt W B [] → Calls Try.prog 8 #[.pointer (some ⟨B, 0, none⟩), .int .i64 a1] W fun e w' => e = .returned (.tuple #[.int .i64 a1, .int .i64 0]) ∧ PlanAt w' B [] ∧ Kept W w' (· = B) ∧ Below B W w' := by
        intro B W hP
        have := faults_Next.calls B [] a1 W hP
        have e : nextOf [] a1 = ((a1, 0), []) := by rw [nextOf.eq_def, if_neg (by omega)]
        rw [e] at this; exact this
      have HG := Lib.hid hgood
      have HE := Lib.hid hend
      clear hgood hend hsame hrest hmay hr0 hw hc0
      go_enter Try.func3, Try.ntmps3
      go_wp2_with (first
        | (go_at_call 5; go_must (refine (HAL.out _).mono ?_); go_must (rintro e w1 ⟨rfl, hB1⟩))
        | (go_at_call 6; go_must (refine (HNE.out _ hB1).mono ?_); go_must (rintro e w2 ⟨B, rfl, hBB, hP, hB2⟩))
        | go_in)
      have hB02 := below_step hB1 hB2
      have hwB := Nat.le_trans hB1.size hBB
      clear hB1 hB2 hBB HNE
      go_loopg [9] l0.length (fun k v9 wr => ∃ i : Nat, v9 = .int .i64 i ∧ i ≤ l0.length ∧ k = l0.length - i ∧ PlanAt wr B (l0.drop i) ∧ Below w.heap.size w wr)
      case atStart => exact ⟨0, rfl, by omega, by omega, by simpa using hP, hB02⟩
      case round =>
        obtain ⟨i, rfl, hi, hk, hPi, hB⟩ := hrel
        clear hP hB02
        by_cases hlt : i < l0.length
        · have g3 : decide ((i : Int) < (l0.length : Int)) = true := by simp; omega
          obtain ⟨n, e, hnx, hcase⟩ := HG.out i hlt
          have hcall := faults_Next.calls B (l0.drop i) a1
          rw [hnx] at hcall
          simp only at hcall
          have HC := Lib.hid hcall
          have HK := Lib.hid hk
          have HLT := Lib.hid hlt
          clear hcall hnx hk hlt hi
          rcases hcase with ⟨rfl, hn1, hn2⟩ | ⟨rfl, rfl⟩ | ⟨rfl, rfl⟩
          · have g4 : decide (1 ≤ n) = true := decide_eq_true hn1
            have g5 : decide (n ≤ a1) = true := decide_eq_true hn2
            clear hn1 hn2
            go_wp2_with (first | (go_at_call 8; go_must (refine (HC.out _ hPi).mono ?_); go_must (rintro e w3 ⟨rfl, hP3, hK3, hB3⟩)) | go_in)
            go_roundg (l0.length - (i + 1))
            case measure => have := HLT.out; have := HK.out; omega
            case rel => exact ⟨i + 1, by have := HLEN.out; go_num, by have := HLT.out; omega, rfl, hP3, hB.trans (hB3.mono hwB)⟩
          · go_wp2_with (first | (go_at_call 8; go_must (refine (HC.out _ hPi).mono ?_); go_must (rintro e w3 ⟨rfl, hP3, hK3, hB3⟩)) | go_in)
            go_roundg (l0.length - (i + 1))
            case measure => have := HLT.out; have := HK.out; omega
            case rel => exact ⟨i + 1, by have := HLEN.out; go_num, by have := HLT.out; omega, rfl, hP3, hB.trans (hB3.mono hwB)⟩
          · go_wp2_with (first | (go_at_call 8; go_must (refine (HC.out _ hPi).mono ?_); go_must (rintro e w3 ⟨rfl, hP3, hK3, hB3⟩)) | go_in)
            go_roundg (l0.length - (i + 1))
            case measure => have := HLT.out; have := HK.out; omega
            case rel => exact ⟨i + 1, by have := HLEN.out; go_num, by have := HLT.out; omega, rfl, hP3, hB.trans (hB3.mono hwB)⟩
        · obtain rfl : i = l0.length := by omega
          have g3 : decide ((l0.length : Int) < (l0.length : Int)) = false := by simp
          have hPe : PlanAt wr B [] := by simpa using hPi
          have hrest0 := fun W hP => HRS.out B [] W hP (by simp)
          have HR := Lib.hid hrest0
          clear hPi hlt hk hi hrest0
          go_wp2_with (first
            | (go_at_call 8; go_must (refine (HE.out B _ hPe).mono ?_); go_must (rintro e w3 ⟨rfl, hP3, hK3, hB3⟩))
            | (go_at_call 10; go_must (refine (HR.out _ hP3).mono ?_); go_must (rintro e w4 ⟨v, rfl, hO4, hB4⟩); obtain ⟨Av, cv, rfl, hcv, hCv⟩ := Kd.R_reads hO4)
            | go_in)
          go_ret
          exact ⟨by simp <;> rfl, below_step (hB.trans (hB3.mono hwB)) hB4⟩

/-! ### millraceref02_may: function 18 -/
def millraceref02_may.f (a0_0 : Int) (a0_1 : Int) : Option (Bool) := if a0_0 = 1 then (if a0_1 ≥ 1 then (some (decide (a0_1 ≤ 1048576))) else (some false)) else (if a0_0 ≥ 0 then (if a0_0 ≤ 3 then (some (a0_1 == 0)) else (some false)) else (some false))
set_option maxHeartbeats 8000000 in
set_option maxRecDepth 100000 in
theorem millraceref02_may.calls (a0_0 : Int) (a0_1 : Int) (r : Bool) (w : World) (h : millraceref02_may.f a0_0 a0_1 = some r) :
    Calls Try.prog 18 #[.agg #[.int .i64 a0_0, .int .i64 a0_1]] w fun e w' => e = .returned (.bool r) ∧ Below w.heap.size w w' := by
  have hu45 := Try.underlying45
  have HB := Aside0.mk (Below.refl w.heap.size w)
  have H : (if a0_0 = 1 then (if a0_1 ≥ 1 then (some (decide (a0_1 ≤ 1048576))) else (some false)) else (if a0_0 ≥ 0 then (if a0_0 ≤ 3 then (some (a0_1 == 0)) else (some false)) else (some false))) = some r := h
  clear h
  by_cases c2 : a0_0 = 1
  · rw [if_pos c2] at H
    have c2b0 : (a0_0 == 1) = true := beq_iff_eq.mpr c2
    have c2b1 : (a0_0 != 1) = false := bne_eq_false_iff_eq.mpr c2
    clear c2
    by_cases c3 : a0_1 ≥ 1
    · rw [if_pos c3] at H
      have c3b0 : decide (1 ≤ a0_1) = true := decide_eq_true c3
      clear c3
      obtain rfl := Option.some.inj H
      go_enter Try.func18, Try.ntmps18
      go_wp2_with (first | ((with_reducible refine gate_dst (N := 1) rfl ?_); refine box_event ?hg (N := 1) ?hd (cs := #[.int .i64 a0_0, .int .i64 a0_1]) (t := 45) ?hr ?_; (case hd => rfl); (case hg => rfl); (case hr => first | (go_simp; done) | (go_simp; rfl)); intro gb121 hg w4 hbox hb; have n0_ := Aside0.mk (below_step (by repeat (first | (with_reducible first | exact HB.out | apply below_alloc | apply pw_below_drewN | apply below_drew1) | exact HB.out)) hb); have n1_ := Aside0.mk (hbox); have n2_ := Aside0.mk ((by rw [hg]; exact (below_size (by repeat (first | (with_reducible first | exact HB.out | apply below_alloc | apply pw_below_drewN | apply below_drew1) | exact HB.out))) : w.heap.size ≤ gb121)); have n3_ := Aside0.mk ((by rw [hg]; exact (below_size (by repeat (first | (with_reducible first | exact HB.out | apply below_alloc | apply pw_below_drewN | apply below_drew1) | exact HB.out))) : w.heap.size ≤ gb121)); clear HB; have HB := n0_; have BK121 := n1_; have GW121 := n2_; have GE121 := n3_; clear n0_ n1_ n2_ n3_; clear hb hbox hg; have hcz5_0 : w4.cell? ⟨gb121, 0, none⟩ = some (.int .i64 a0_0) := (blk_cell BK121.out 0).trans rfl; have hcz5_1 : w4.cell? ⟨gb121, 1, none⟩ = some (.int .i64 a0_1) := (blk_cell BK121.out 1).trans rfl; have hfz5_0 := blk_frozen BK121.out 0; have hfz5_1 := blk_frozen BK121.out 1))
      go_ret
      exact ⟨by first | rfl | (simp [errW_none, errW_some] <;> rfl) | (simp [*, errW_none, errW_some] <;> rfl), by repeat (first | (with_reducible first | exact HB.out | apply below_alloc | apply pw_below_drewN | apply below_drew1 | refine below_set ?_ GE121.out) | exact HB.out)⟩
    · rw [if_neg c3] at H
      have c3b0 : decide (1 ≤ a0_1) = false := decide_eq_false c3
      clear c3
      obtain rfl := Option.some.inj H
      go_enter Try.func18, Try.ntmps18
      go_wp2_with (first | ((with_reducible refine gate_dst (N := 1) rfl ?_); refine box_event ?hg (N := 1) ?hd (cs := #[.int .i64 a0_0, .int .i64 a0_1]) (t := 45) ?hr ?_; (case hd => rfl); (case hg => rfl); (case hr => first | (go_simp; done) | (go_simp; rfl)); intro gb121 hg w6 hbox hb; have n0_ := Aside0.mk (below_step (by repeat (first | (with_reducible first | exact HB.out | apply below_alloc | apply pw_below_drewN | apply below_drew1) | exact HB.out)) hb); have n1_ := Aside0.mk (hbox); have n2_ := Aside0.mk ((by rw [hg]; exact (below_size (by repeat (first | (with_reducible first | exact HB.out | apply below_alloc | apply pw_below_drewN | apply below_drew1) | exact HB.out))) : w.heap.size ≤ gb121)); have n3_ := Aside0.mk ((by rw [hg]; exact (below_size (by repeat (first | (with_reducible first | exact HB.out | apply below_alloc | apply pw_below_drewN | apply below_drew1) | exact HB.out))) : w.heap.size ≤ gb121)); clear HB; have HB := n0_; have BK121 := n1_; have GW121 := n2_; have GE121 := n3_; clear n0_ n1_ n2_ n3_; clear hb hbox hg; have hcz7_0 : w6.cell? ⟨gb121, 0, none⟩ = some (.int .i64 a0_0) := (blk_cell BK121.out 0).trans rfl; have hcz7_1 : w6.cell? ⟨gb121, 1, none⟩ = some (.int .i64 a0_1) := (blk_cell BK121.out 1).trans rfl; have hfz7_0 := blk_frozen BK121.out 0; have hfz7_1 := blk_frozen BK121.out 1))
      go_ret
      exact ⟨by first | rfl | (simp [errW_none, errW_some] <;> rfl) | (simp [*, errW_none, errW_some] <;> rfl), by repeat (first | (with_reducible first | exact HB.out | apply below_alloc | apply pw_below_drewN | apply below_drew1 | refine below_set ?_ GE121.out) | exact HB.out)⟩
  · rw [if_neg c2] at H
    have c2b0 : (a0_0 == 1) = false := beq_eq_false_iff_ne.mpr c2
    have c2b1 : (a0_0 != 1) = true := bne_iff_ne.mpr c2
    by_cases c8 : a0_0 ≥ 0
    · rw [if_pos c8] at H
      have c8b0 : decide (0 ≤ a0_0) = true := decide_eq_true c8
      clear c8
      by_cases c9 : a0_0 ≤ 3
      · rw [if_pos c9] at H
        have c9b0 : decide (a0_0 ≤ 3) = true := decide_eq_true c9
        clear c9
        obtain rfl := Option.some.inj H
        go_enter Try.func18, Try.ntmps18
        go_wp2_with (first | ((with_reducible refine gate_dst (N := 1) rfl ?_); refine box_event ?hg (N := 1) ?hd (cs := #[.int .i64 a0_0, .int .i64 a0_1]) (t := 45) ?hr ?_; (case hd => rfl); (case hg => rfl); (case hr => first | (go_simp; done) | (go_simp; rfl)); intro gb121 hg w10 hbox hb; have n0_ := Aside0.mk (below_step (by repeat (first | (with_reducible first | exact HB.out | apply below_alloc | apply pw_below_drewN | apply below_drew1) | exact HB.out)) hb); have n1_ := Aside0.mk (hbox); have n2_ := Aside0.mk ((by rw [hg]; exact (below_size (by repeat (first | (with_reducible first | exact HB.out | apply below_alloc | apply pw_below_drewN | apply below_drew1) | exact HB.out))) : w.heap.size ≤ gb121)); have n3_ := Aside0.mk ((by rw [hg]; exact (below_size (by repeat (first | (with_reducible first | exact HB.out | apply below_alloc | apply pw_below_drewN | apply below_drew1) | exact HB.out))) : w.heap.size ≤ gb121)); clear HB; have HB := n0_; have BK121 := n1_; have GW121 := n2_; have GE121 := n3_; clear n0_ n1_ n2_ n3_; clear hb hbox hg; have hcz11_0 : w10.cell? ⟨gb121, 0, none⟩ = some (.int .i64 a0_0) := (blk_cell BK121.out 0).trans rfl; have hcz11_1 : w10.cell? ⟨gb121, 1, none⟩ = some (.int .i64 a0_1) := (blk_cell BK121.out 1).trans rfl; have hfz11_0 := blk_frozen BK121.out 0; have hfz11_1 := blk_frozen BK121.out 1))
        go_ret
        exact ⟨by first | rfl | (simp [errW_none, errW_some] <;> rfl) | (simp [*, errW_none, errW_some] <;> rfl), by repeat (first | (with_reducible first | exact HB.out | apply below_alloc | apply pw_below_drewN | apply below_drew1 | refine below_set ?_ GE121.out) | exact HB.out)⟩
      · rw [if_neg c9] at H
        have c9b0 : decide (a0_0 ≤ 3) = false := decide_eq_false c9
        clear c9
        obtain rfl := Option.some.inj H
        go_enter Try.func18, Try.ntmps18
        go_wp2_with (first | ((with_reducible refine gate_dst (N := 1) rfl ?_); refine box_event ?hg (N := 1) ?hd (cs := #[.int .i64 a0_0, .int .i64 a0_1]) (t := 45) ?hr ?_; (case hd => rfl); (case hg => rfl); (case hr => first | (go_simp; done) | (go_simp; rfl)); intro gb121 hg w12 hbox hb; have n0_ := Aside0.mk (below_step (by repeat (first | (with_reducible first | exact HB.out | apply below_alloc | apply pw_below_drewN | apply below_drew1) | exact HB.out)) hb); have n1_ := Aside0.mk (hbox); have n2_ := Aside0.mk ((by rw [hg]; exact (below_size (by repeat (first | (with_reducible first | exact HB.out | apply below_alloc | apply pw_below_drewN | apply below_drew1) | exact HB.out))) : w.heap.size ≤ gb121)); have n3_ := Aside0.mk ((by rw [hg]; exact (below_size (by repeat (first | (with_reducible first | exact HB.out | apply below_alloc | apply pw_below_drewN | apply below_drew1) | exact HB.out))) : w.heap.size ≤ gb121)); clear HB; have HB := n0_; have BK121 := n1_; have GW121 := n2_; have GE121 := n3_; clear n0_ n1_ n2_ n3_; clear hb hbox hg; have hcz13_0 : w12.cell? ⟨gb121, 0, none⟩ = some (.int .i64 a0_0) := (blk_cell BK121.out 0).trans rfl; have hcz13_1 : w12.cell? ⟨gb121, 1, none⟩ = some (.int .i64 a0_1) := (blk_cell BK121.out 1).trans rfl; have hfz13_0 := blk_frozen BK121.out 0; have hfz13_1 := blk_frozen BK121.out 1))
        go_ret
        exact ⟨by first | rfl | (simp [errW_none, errW_some] <;> rfl) | (simp [*, errW_none, errW_some] <;> rfl), by repeat (first | (with_reducible first | exact HB.out | apply below_alloc | apply pw_below_drewN | apply below_drew1 | refine below_set ?_ GE121.out) | exact HB.out)⟩
    · rw [if_neg c8] at H
      have c8b0 : decide (0 ≤ a0_0) = false := decide_eq_false c8
      clear c8
      obtain rfl := Option.some.inj H
      go_enter Try.func18, Try.ntmps18
      go_wp2_with (first | ((with_reducible refine gate_dst (N := 1) rfl ?_); refine box_event ?hg (N := 1) ?hd (cs := #[.int .i64 a0_0, .int .i64 a0_1]) (t := 45) ?hr ?_; (case hd => rfl); (case hg => rfl); (case hr => first | (go_simp; done) | (go_simp; rfl)); intro gb121 hg w14 hbox hb; have n0_ := Aside0.mk (below_step (by repeat (first | (with_reducible first | exact HB.out | apply below_alloc | apply pw_below_drewN | apply below_drew1) | exact HB.out)) hb); have n1_ := Aside0.mk (hbox); have n2_ := Aside0.mk ((by rw [hg]; exact (below_size (by repeat (first | (with_reducible first | exact HB.out | apply below_alloc | apply pw_below_drewN | apply below_drew1) | exact HB.out))) : w.heap.size ≤ gb121)); have n3_ := Aside0.mk ((by rw [hg]; exact (below_size (by repeat (first | (with_reducible first | exact HB.out | apply below_alloc | apply pw_below_drewN | apply below_drew1) | exact HB.out))) : w.heap.size ≤ gb121)); clear HB; have HB := n0_; have BK121 := n1_; have GW121 := n2_; have GE121 := n3_; clear n0_ n1_ n2_ n3_; clear hb hbox hg; have hcz15_0 : w14.cell? ⟨gb121, 0, none⟩ = some (.int .i64 a0_0) := (blk_cell BK121.out 0).trans rfl; have hcz15_1 : w14.cell? ⟨gb121, 1, none⟩ = some (.int .i64 a0_1) := (blk_cell BK121.out 1).trans rfl; have hfz15_0 := blk_frozen BK121.out 0; have hfz15_1 := blk_frozen BK121.out 1))
      go_ret
      exact ⟨by first | rfl | (simp [errW_none, errW_some] <;> rfl) | (simp [*, errW_none, errW_some] <;> rfl), by repeat (first | (with_reducible first | exact HB.out | apply below_alloc | apply pw_below_drewN | apply below_drew1 | refine below_set ?_ GE121.out) | exact HB.out)⟩

/-! ### millraceref02_Check: function 11 -/
def millraceref02_Check.l0 : Nat → List (S45) → Int → Option (Int × Int)
  | 0, _, _ => none
  | k + 1, x0, x4 => if x4 < (x0.length : Int) then (if 0 ≤ x4 then ((millraceref02_may.f ((rd_T45 x0 x4).f0) ((rd_T45 x0 x4).f1)).bind fun t123 => (if t123 = true then (millraceref02_Check.l0 k x0 (wrap64 (x4 + 1))) else (some (21, x4)))) else (none)) else (some (0, (x0.length : Int)))
def millraceref02_Check.f (k : Nat) (l0 : List (S45)) : Option (Int × Int) := if (l0.length : Int) > 4096 then (some (3, 0)) else (millraceref02_Check.l0 k l0 0)
theorem millraceref02_Check.mono_l : ∀ k, (∀ y0 y1, LeO (millraceref02_Check.l0 k y0 y1) (millraceref02_Check.l0 (k + 1) y0 y1))
  | 0 => fun _ _ r h => by simp [millraceref02_Check.l0] at h
  | k + 1 => by
    have ih0 := millraceref02_Check.mono_l k
    · intro y0 y1
      unfold millraceref02_Check.l0
      repeat' first
      | (with_reducible exact ih0 _ _)
      | (with_reducible exact LeO.refl _)
      | (with_reducible exact LeO.none _)
      | (with_reducible refine LeO.ite ?_ ?_)
      | (with_reducible refine LeO.bind ?_ (fun _ => ?_))
      | exact ih0 _ _
      | exact LeO.none _
      | refine LeO.ite ?_ ?_
      | refine LeO.bind ?_ (fun _ => ?_)
theorem millraceref02_Check.mono : ∀ a0 k, LeO (millraceref02_Check.f k a0) (millraceref02_Check.f (k + 1) a0) := by
  intro a0 k
  have ih0 := millraceref02_Check.mono_l k
  unfold millraceref02_Check.f
  repeat' first
      | (with_reducible exact ih0 _ _)
      | (with_reducible exact LeO.refl _)
      | (with_reducible exact LeO.none _)
      | (with_reducible refine LeO.ite ?_ ?_)
      | (with_reducible refine LeO.bind ?_ (fun _ => ?_))
      | exact ih0 _ _
      | exact LeO.none _
      | refine LeO.ite ?_ ?_
      | refine LeO.bind ?_ (fun _ => ?_)
set_option maxHeartbeats 8000000 in
set_option maxRecDepth 100000 in
theorem millraceref02_Check.calls (k : Nat) (A0 : Option Addr) (c0 : Nat) (l0 : List (S45)) (r1 : Int) (r2 : Int) (w : World) (hr0 : Kd.C k45 w A0 l0.length l0) (hc0 : l0.length ≤ c0) (h : millraceref02_Check.f k l0 = some (r1, r2)) :
    Calls Try.prog 11 #[.slice A0 l0.length c0] w fun e w' => e = .returned (.tuple #[.int .i64 r1, .int .i64 r2]) ∧ Below w.heap.size w w' := by
  have hu45 := Try.underlying45
  have HR0 := Aside0.mk hr0
  have HC0 := Aside0.mk hc0
  clear hr0 hc0
  have HB := Aside0.mk (Below.refl w.heap.size w)
  have H : (if (l0.length : Int) > 4096 then (some (3, 0)) else (millraceref02_Check.l0 k l0 0)) = some (r1, r2) := h
  clear h
  by_cases c2 : (l0.length : Int) > 4096
  · rw [if_pos c2] at H
    have c2b0 : decide (4096 < (l0.length : Int)) = true := decide_eq_true c2
    have c2b1 : decide (4096 < l0.length) = true := decide_eq_true (by omega)
    clear c2
    simp only [Option.some.injEq, Prod.mk.injEq] at H
    obtain ⟨rfl, rfl⟩ := H
    go_enter Try.func11, Try.ntmps11
    go_wp2
    go_ret2
    exact ⟨by first | rfl | (simp [errW_none, errW_some] <;> rfl) | (simp [*, errW_none, errW_some] <;> rfl), by repeat (first | (with_reducible first | exact HB.out | apply below_alloc | apply pw_below_drewN | apply below_drew1) | exact HB.out)⟩
  · rw [if_neg c2] at H
    have c2b0 : decide (4096 < (l0.length : Int)) = false := decide_eq_false c2
    have c2b1 : decide (4096 < l0.length) = false := decide_eq_false (by omega)
    clear c2
    have H' := Aside0.mk H
    clear H
    go_enter Try.func11, Try.ntmps11
    go_wp2
    go_loopg [4] k (fun kq v4 w' => ∃ (x4_1 : Int), v4 = .int .i64 x4_1 ∧ Aside0 (millraceref02_Check.l0 kq l0 x4_1 = some (r1, r2)) ∧ Aside0 (kq ≤ k) ∧ Aside0 (Below w.heap.size w w'))
    case atStart => exact ⟨(0), (by first | rfl | (simp; done) | (simp [*]; done)), H', ⟨Nat.le_refl _⟩, ⟨by repeat (first | (with_reducible first | exact HB.out | apply below_alloc | apply pw_below_drewN | apply below_drew1) | exact HB.out)⟩⟩
    case round =>
      clear H'
      try clear c1
      try clear c2
      try clear c2b0
      try clear c2b1
      try clear p2
      obtain ⟨x4_1, rfl, HA, HK1, HB⟩ := hrel
      cases gk with
      | zero => exact absurd HA.out (by simp [millraceref02_Check.l0])
      | succ k1 =>
        have H := HA.out
        clear HA
        simp only [millraceref02_Check.l0] at H
        by_cases c3 : x4_1 < (l0.length : Int)
        · rw [if_pos c3] at H
          have c3b0 : decide (x4_1 < (l0.length : Int)) = true := decide_eq_true c3
          clear c3
          by_cases c4 : 0 ≤ x4_1
          · rw [if_pos c4] at H
            have c4b0 : decide (0 ≤ x4_1) = true := decide_eq_true c4
            clear c4
            replace H := Option.bind_eq_some_iff.mp H
            obtain ⟨t123, A50, H⟩ := H
            replace H : (if t123 = true then (millraceref02_Check.l0 k1 l0 (wrap64 (x4_1 + 1))) else (some (21, x4_1))) = some (r1, r2) := H
            have A5 := Aside0.mk A50
            clear A50
            by_cases c6 : t123 = true
            · subst c6
              have H1 : (millraceref02_Check.l0 k1 l0 (wrap64 (x4_1 + 1))) = some (r1, r2) := by rw [if_pos rfl] at H; exact H
              clear H
              have H := H1
              clear H1
              have H' := Aside0.mk H
              clear H
              have p122 : 0 ≤ (x4_1 : Int) := of_decide_eq_true (by first | (with_reducible assumption) | assumption)
              have q122 : x4_1 < (l0.length : Int) := of_decide_eq_true (by first | (with_reducible assumption) | assumption)
              obtain ⟨ad122, e122, hx122_0, hx122_1⟩ := at_T45 HR0.out x4_1 p122 q122
              cases e122
              replace hx122_0 := (HB.out.cell (World.block_lt_of_cell? w _ hx122_0)).trans hx122_0
              replace hx122_1 := (HB.out.cell (World.block_lt_of_cell? w _ hx122_1)).trans hx122_1
              replace p122 := eq_true p122
              replace q122 := eq_true q122
              go_wp2_with (first | ((with_reducible refine gate_callee (f := 18) rfl ?_); refine goesL_ (some 18) rfl rfl Try.func18 (by kernel_rfl) rfl #[.agg #[.int .i64 ((rd_T45 l0 x4_1).f0), .int .i64 ((rd_T45 l0 x4_1).f1)]] rfl (by (try simp only [List.map_toArray, List.map_cons, List.map_nil]); first | done | rfl | (simp only [List.length_drop, List.length_take]; rfl)) ?_; (with_reducible refine (millraceref02_may.calls ((rd_T45 l0 x4_1).f0) ((rd_T45 l0 x4_1).f1) true _ A5.out).mono ?_); rintro e w7 ⟨rfl, hb⟩; refine ⟨_, rfl, ?_⟩; have n0_ := Aside0.mk (below_step (by repeat (first | (with_reducible first | exact HB.out | apply below_alloc | apply pw_below_drewN | apply below_drew1) | exact HB.out)) hb); clear HB; have HB := n0_; clear n0_; (try clear hb); (try clear hb2); (try clear hk); (try clear hi)))
              go_roundg k1
              case measure => have := HK1.out; omega
              case rel => exact ⟨(wrap64 (x4_1 + 1)), (by first | rfl | (simp; done) | (simp [*]; done)), H', ⟨by have := HK1.out; omega⟩, ⟨by repeat (first | (with_reducible first | exact HB.out | apply below_alloc | apply pw_below_drewN | apply below_drew1) | exact HB.out)⟩⟩
            · replace c6 := Bool.eq_false_iff.mpr c6
              subst c6
              have H1 : (some (21, x4_1)) = some (r1, r2) := by rw [if_neg (show ¬ (false = true) by decide)] at H; exact H
              clear H
              have H := H1
              clear H1
              simp only [Option.some.injEq, Prod.mk.injEq] at H
              obtain ⟨rfl, rfl⟩ := H
              have p122 : 0 ≤ (x4_1 : Int) := of_decide_eq_true (by first | (with_reducible assumption) | assumption)
              have q122 : x4_1 < (l0.length : Int) := of_decide_eq_true (by first | (with_reducible assumption) | assumption)
              obtain ⟨ad122, e122, hx122_0, hx122_1⟩ := at_T45 HR0.out x4_1 p122 q122
              cases e122
              replace hx122_0 := (HB.out.cell (World.block_lt_of_cell? w _ hx122_0)).trans hx122_0
              replace hx122_1 := (HB.out.cell (World.block_lt_of_cell? w _ hx122_1)).trans hx122_1
              replace p122 := eq_true p122
              replace q122 := eq_true q122
              go_wp2_with (first | ((with_reducible refine gate_callee (f := 18) rfl ?_); refine goesL_ (some 18) rfl rfl Try.func18 (by kernel_rfl) rfl #[.agg #[.int .i64 ((rd_T45 l0 x4_1).f0), .int .i64 ((rd_T45 l0 x4_1).f1)]] rfl (by (try simp only [List.map_toArray, List.map_cons, List.map_nil]); first | done | rfl | (simp only [List.length_drop, List.length_take]; rfl)) ?_; (with_reducible refine (millraceref02_may.calls ((rd_T45 l0 x4_1).f0) ((rd_T45 l0 x4_1).f1) false _ A5.out).mono ?_); rintro e w8 ⟨rfl, hb⟩; refine ⟨_, rfl, ?_⟩; have n0_ := Aside0.mk (below_step (by repeat (first | (with_reducible first | exact HB.out | apply below_alloc | apply pw_below_drewN | apply below_drew1) | exact HB.out)) hb); clear HB; have HB := n0_; clear n0_; (try clear hb); (try clear hb2); (try clear hk); (try clear hi)))
              go_ret2
              exact ⟨by first | rfl | (simp [errW_none, errW_some] <;> rfl) | (simp [*, errW_none, errW_some] <;> rfl), by repeat (first | (with_reducible first | exact HB.out | apply below_alloc | apply pw_below_drewN | apply below_drew1) | exact HB.out)⟩
          · rw [if_neg c4] at H
            exact absurd H (by simp)
        · rw [if_neg c3] at H
          have c3b0 : decide (x4_1 < (l0.length : Int)) = false := decide_eq_false c3
          clear c3
          simp only [Option.some.injEq, Prod.mk.injEq] at H
          obtain ⟨rfl, rfl⟩ := H
          go_wp2
          go_ret2
          exact ⟨by first | rfl | (simp [errW_none, errW_some] <;> rfl) | (simp [*, errW_none, errW_some] <;> rfl), by repeat (first | (with_reducible first | exact HB.out | apply below_alloc | apply pw_below_drewN | apply below_drew1) | exact HB.out)⟩

/-! ### millraceplain_CopyFaults: function 12 -/
def millraceplain_CopyFaults.f (l0 : List (S45)) : Option ((List (S45))) := if ([] : List (S45)).length + l0.length < 8796093022208 then (some (([] : List (S45)) ++ l0)) else (none)
set_option maxHeartbeats 8000000 in
set_option maxRecDepth 100000 in
theorem millraceplain_CopyFaults.calls (A0 : Option Addr) (c0 : Nat) (l0 : List (S45)) (r : List (S45)) (w : World) (hr0 : Kd.C k45 w A0 l0.length l0) (hc0 : l0.length ≤ c0) (h : millraceplain_CopyFaults.f l0 = some r) :
    Calls Try.prog 12 #[.slice A0 l0.length c0] w fun e w' => ∃ v0_ : Value, e = .returned (v0_) ∧ Kd.R k45 45 w' w.heap.size (fun _ => True) v0_ r ∧ Below w.heap.size w w' := by
  have HR0 := Aside0.mk hr0
  have HC0 := Aside0.mk hc0
  clear hr0 hc0
  have HB := Aside0.mk (Below.refl w.heap.size w)
  have H : (if ([] : List (S45)).length + l0.length < 8796093022208 then (some (([] : List (S45)) ++ l0)) else (none)) = some r := h
  clear h
  by_cases c2 : ([] : List (S45)).length + l0.length < 8796093022208
  · rw [if_pos c2] at H
    have LMc2 := Aside0.mk c2
    clear c2
    obtain ⟨y124, hy124⟩ : ∃ y_ : List (S45), y_ = (([] : List (S45)) ++ l0) := ⟨_, rfl⟩
    replace H : (some y124) = some r := by first | (rw [hy124]; with_reducible exact H) | (have H2_ := (Option.bind_some _ _).symm.trans H; rw [hy124]; with_reducible exact H2_) | (have H2_ := (Option.bind_some _ _).symm.trans H; with_reducible exact H2_) | with_reducible exact H | (rw [hy124]; exact H) | exact H
    have Ny124 := Aside0.mk hy124
    clear hy124
    obtain rfl := Option.some.inj H
    go_enter Try.func12, Try.ntmps12
    go_wp2_with (first | ((with_reducible refine gate_builtin (b := .append) (xs := #[.tmp 4, .tmp 5]) rfl ?_); at_builtin; refine Kd.R_append_rows k45 (w0 := w) w.heap.size rfl (.tmp 4) (.tmp 5) 22 45 (.agg #[(.int .i64 0), (.int .i64 0)]) 16 rfl Try.underlying22 info45 rfl (by decide) (by omega) (.slice none 0 0) ([] : List (S45)) l0 _ _ _ (fun _ => True) (fun _ => False) rfl rfl ?aO ?aR (fun _ _ h => h) (fun _ h => h.elim) ?aF ?aB ?aS ?aL ?_; (case aR => repeat (first | exact HR0.out | (with_reducible refine Kd.C_alloc ?_ _) | (with_reducible refine Kd.C_drewN ?_ _) | (with_reducible refine Kd.C_drew ?_))); (case aB => exact (by repeat (first | (with_reducible first | exact HB.out | apply below_alloc | apply pw_below_drewN | apply below_drew1) | exact HB.out))); (case aF => exact (fun _ _ => trivial)); (case aO => exact ((Kd.R_nil _ _ _ _ (fun _ => True)))); (case aS => exact (below_size (by repeat (first | (with_reducible first | exact HB.out | apply below_alloc | apply pw_below_drewN | apply below_drew1) | exact HB.out)))); (case aL => have := LMc2.out; omega); intro v125 w3 ho hb hg hat; rw [← Ny124.out] at ho; have n0_ := Aside0.mk (hb); have n1_ := Aside0.mk (ho); clear HB; have HB := n0_; have HO126 := n1_; clear n0_ n1_; clear ho hb hg hat))
    go_ret
    exact ⟨_, by first | rfl | (simp [errW_none, errW_some] <;> rfl) | (simp [*, errW_none, errW_some] <;> rfl), by (with_reducible repeat (first | apply Kd.R_alloc | apply Kd.R_drewN | apply Kd.R_drew)); exact HO126.out, by repeat (first | (with_reducible first | exact HB.out | apply below_alloc | apply pw_below_drewN | apply below_drew1) | exact HB.out)⟩
  · rw [if_neg c2] at H
    exact absurd H (by simp)

-- NOT PRINTED: function 13 (millraceref02_Plan_Next)

-- NOT PRINTED: function 14 (faults_Plan_Copy)

end Go.Proofs.Ytbggmdgeanoelaa.Ft
