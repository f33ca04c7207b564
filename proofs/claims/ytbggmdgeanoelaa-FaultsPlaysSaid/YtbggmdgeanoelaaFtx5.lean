-- Written by wip/tools/xprint.py of this work (the kit's print with contracts of its own).
import Derived.Test.YtbggmdgeanoelaaFtx0
import Derived.Test.YtbggmdgeanoelaaFtx2
import Derived.Test.YtbggmdgeanoelaaFtx3
import Derived.Test.YtbggmdgeanoelaaFtx4
namespace Go.Proofs.Ytbggmdgeanoelaa.Ft
open Go.RowKit Go.Proofs.YtbggmdgeanoelaaW.PrintWords Go.Proofs.YtbggmdgeanoelaaW.PrintLast Go.Proofs.YtbggmdgeanoelaaW.PrintMore
attribute [local go_sem] max2_int min2_int max_two min_two max_three min_three max_four min_four   -- for this text's walks alone
set_option linter.unusedVariables false
set_option linter.unusedSimpArgs false

/-! ### millracelaw02_FaultsPlays: function 4 -/
-- STUB millrace/millracelaw02.FaultsPlays | [millrace/api.Fault]S [int]i64 | bool | 0 | 1 | millracelaw02_FaultsPlays
/-- The document's plan. -/
def PlanRef (w : World) (B : Nat) (l : List S45) : Prop :=
  ∃ A c, w.heap[B]? = some (.cells #[.slice A l.length c] 40 (0, 0)) ∧ l.length ≤ c ∧ RowT w A l
theorem PlanRef.keptS {w W : World} {B : Nat} {l : List S45} {S : Nat → Prop} (h : PlanRef w B l) (hk : Kept w W S) (hB : ¬ S B) (hS : NoRow w S) : PlanRef W B l := by
  obtain ⟨A, c, h1, h2, h3⟩ := h
  exact ⟨A, c, blk_kept h1 hk hB, h2, h3.kept hk hS⟩
theorem PlanRef.kept {w W : World} {B : Nat} {l : List S45} (h : PlanRef w B l) (hk : Below w.heap.size w W) : PlanRef W B l :=
  h.keptS (Kept.of_below hk (fun _ => False)) id NoRow.none
theorem PlanRef.noRow {w : World} {B : Nat} {l : List S45} (h : PlanRef w B l) : NoRow w (· = B) := by
  obtain ⟨A, c, h1, _⟩ := h
  exact NoRow.one h1 (by decide)
theorem PlanRef.made {w1 : World} {base : Nat} {A : Option Addr} {c : Nat} {l : List S45} (h : OwnFaults w1 base (.slice A l.length c) l) : PlanRef (w1.alloc (.cells #[.slice A l.length c] 40)) w1.heap.size l :=
  ⟨A, c, blk_new _ _, (Kd.R_reads' h).2.1, (OwnFaults.row h).kept (Kept.of_below (below_alloc (Below.refl _ _) _) (fun _ => False)) NoRow.none⟩

theorem next_ref_world {w : World} {B n c : Nat} {f : S45} {r : List S45} {ad : Addr}
    (hb : w.heap[B]? = some (.cells #[.slice (some ad) (f :: r).length c] 40 (0, 0))) (hc : n ≤ c) (hn : n = (f :: r).length)
    (hrow : RowT w (some ad) (f :: r)) :
    ∀ o W, W = ((w.setCell ⟨B, 0, none⟩ (.slice (if c = 1 then some ad else some { block := ad.block, off := ad.off + 2 }) (n - 1) (c - 1))).alloc o) → PlanRef W B r ∧ Kept w W (fun x => x = B) ∧ Below B w W := by
  rintro o W rfl
  have hBl := blk_lt hb
  have hlen : n - 1 = r.length := by rw [hn]; simp
  have hset : (w.setCell ⟨B, 0, none⟩ (.slice (if c = 1 then some ad else some { block := ad.block, off := ad.off + 2 }) (n - 1) (c - 1))).heap[B]? = some (.cells #[.slice (if c = 1 then some ad else some { block := ad.block, off := ad.off + 2 }) (n - 1) (c - 1)] 40 (0, 0)) := blk_set hb 0 _
  have hk : Kept w (w.setCell ⟨B, 0, none⟩ (.slice (if c = 1 then some ad else some { block := ad.block, off := ad.off + 2 }) (n - 1) (c - 1))) (fun x => x = B) := Kept.setCell (S := fun x => x = B) (Kept.refl w _) (.inl rfl) _
  have hno : NoRow w (fun x => x = B) := NoRow.one hb (by decide)
  refine ⟨⟨_, _, blk_alloc (by rw [← hlen]; exact hset) o, by omega, ?_⟩, ?_, ?_⟩
  · have hr := hrow.kept (hk.alloc o) hno
    have h := Kd.C_drop (m := 1) (c := c) hr.1 (by simp) (by omega)
    have e : (if c = 1 then some ad else Option.map (fun x : Addr => x.add (1 * k45.sz)) (some ad)) = (if c = 1 then some ad else some { block := ad.block, off := ad.off + 2 }) := by
      split
      · rfl
      · rfl
    rw [e] at h
    refine ⟨h, fun ad' e' => ?_⟩
    obtain ⟨cs, hcs⟩ := hr.2 ad rfl
    have : ad'.block = ad.block := by
      split at e'
      · cases e'; rfl
      · cases e'; rfl
    rw [this]; exact ⟨cs, hcs⟩
  · exact hk.alloc o
  · exact (((Below.refl B w).setCell (Nat.le_refl B) _).alloc (by simp [World.setCell]; omega) o)

set_option maxHeartbeats 1000000 in
set_option maxRecDepth 100000 in
theorem ref02_Next.calls (B : Nat) (l : List S45) (want : Int) (w : World) (hP : PlanRef w B l) :
    Calls Try.prog 13 #[.pointer (some ⟨B, 0, none⟩), .int .i64 want] w fun e w' => e = .returned (.tuple #[.int .i64 (nextOf l want).1.1, .int .i64 (nextOf l want).1.2]) ∧
      PlanRef w' B (nextOf l want).2 ∧ Kept w w' (· = B) ∧ Below B w w' := by
  have hu := Try.underlying45
  have hu2 := Try.underlying40
  obtain ⟨A, c, hb, hc, hT⟩ := hP
  have hP : PlanRef w B l := ⟨A, c, hb, hc, hT⟩
  have hBl := blk_lt hb
  have hc1 : w.cell? ⟨B, 0, none⟩ = some (.slice A l.length c) := blk_cell hb 0
  have hf1 : w.frozen? ⟨B, 0, none⟩ = false := blk_frozen hb 0
  by_cases hw1 : want < 1
  · have e : nextOf l want = ((0, 4), l) := by rw [nextOf.eq_def, if_pos (.inl hw1)]
    rw [e]
    have g : decide (want < 1) = true := decide_eq_true hw1
    have HP := Lib.hid hP
    clear hP hT hw1 e
    go_enter Try.func13, Try.ntmps13
    go_wp2
    go_ret2
    exact ⟨rfl, HP.out, Kept.refl _ _, Below.refl _ _⟩
  have g : decide (want < 1) = false := decide_eq_false hw1
  by_cases hw2 : 1048576 < want
  · have e : nextOf l want = ((0, 4), l) := by rw [nextOf.eq_def, if_pos (.inr hw2)]
    rw [e]
    have g2 : decide (1048576 < want) = true := decide_eq_true hw2
    have HP := Lib.hid hP
    clear hP hT hw1 hw2 e
    go_enter Try.func13, Try.ntmps13
    go_wp2
    go_ret2
    exact ⟨rfl, HP.out, Kept.refl _ _, Below.refl _ _⟩
  have g2 : decide (1048576 < want) = false := decide_eq_false hw2
  cases l with
  | nil =>
    have e : nextOf [] want = ((want, 0), []) := by rw [nextOf.eq_def, if_neg (by omega)]
    rw [e]
    have HP := Lib.hid hP
    clear hP hT hw1 hw2 e
    go_enter Try.func13, Try.ntmps13
    go_wp2
    go_ret2
    exact ⟨rfl, HP.out, Kept.refl _ _, Below.refl _ _⟩
  | cons f r =>
    obtain ⟨ad, e, hx0, hx1⟩ := at_T45 hT.1 0 (by omega) (by simp)
    cases e
    have hrd : rd_T45 (f :: r) 0 = f := rfl
    rw [hrd] at hx0 hx1
    replace hx0 : w.cell? ad = some (.int .i64 f.f0) := hx0
    replace hx1 : w.cell? ⟨ad.block, ad.off + 1, none⟩ = some (.int .i64 f.f1) := hx1
    obtain ⟨n, hn⟩ : ∃ n, n = (f :: r).length := ⟨_, rfl⟩
    have HW := Lib.hid (next_ref_world hb (hn ▸ hc) hn hT)
    rw [← hn] at hc1 hc
    have p : decide ((0 : Int) < (n : Int)) = true := by rw [hn]; simp
    have p2 : decide ((1 : Int) ≤ (n : Int)) = true := by rw [hn]; simp; omega
    have p3 : decide ((n : Int) ≤ (c : Int)) = true := by simp; omega
    have p4 : (1 : Int) ≤ (n : Int) := of_decide_eq_true p2
    have p5 : (n : Int) ≤ (c : Int) := of_decide_eq_true p3
    have p6 : (0 : Int) < (n : Int) := of_decide_eq_true p
    have p7 : ((n : Int) == 0) = false := by simp; omega
    have p8 : (n == 0) = false := by simp; omega
    generalize hA' : (if c = 1 then some ad else some ({ block := ad.block, off := ad.off + 2 } : Addr)) = A' at HW
    clear hrd hP hb hT hn
    by_cases h1 : f.f0 = 1
    · have e : nextOf (f :: r) want = ((min want f.f1, 0), r) := by rw [nextOf.eq_def, if_neg (by omega)]; simp [h1]
      have E := Lib.hid e
      have k1 : (f.f0 == 1) = true := by simpa using h1
      clear e h1 hw1 hw2
      go_enter Try.func13, Try.ntmps13
      go_wp2
      all_goals go_ret2
      all_goals rw [E.out]
      all_goals refine ⟨?_, HW.out _ _ rfl⟩
      all_goals first | (simp [Int.min_def, *]; done) | (simp [Int.min_def, *]; omega)
    · have k1 : (f.f0 == 1) = false := by simpa using h1
      by_cases h2 : f.f0 = 2
      · have e : nextOf (f :: r) want = ((0, 22), r) := by rw [nextOf.eq_def, if_neg (by omega)]; simp [h2]
        have E := Lib.hid e
        have k2 : (f.f0 == 2) = true := by simpa using h2
        clear e h1 h2 hw1 hw2
        go_enter Try.func13, Try.ntmps13
        go_wp2
        go_ret2
        rw [E.out]
        exact ⟨rfl, HW.out _ _ rfl⟩
      · have k2 : (f.f0 == 2) = false := by simpa using h2
        by_cases h3 : f.f0 = 3
        · have e : nextOf (f :: r) want = ((0, 23), r) := by rw [nextOf.eq_def, if_neg (by omega)]; simp [h3]
          have E := Lib.hid e
          have k3 : (f.f0 == 3) = true := by simpa using h3
          clear e h1 h2 h3 hw1 hw2
          go_enter Try.func13, Try.ntmps13
          go_wp2
          go_ret2
          rw [E.out]
          exact ⟨rfl, HW.out _ _ rfl⟩
        · have k3 : (f.f0 == 3) = false := by simpa using h3
          have e : nextOf (f :: r) want = ((want, 0), r) := by rw [nextOf.eq_def, if_neg (by omega)]; simp [h1, h2, h3]
          have E := Lib.hid e
          clear e h1 h2 h3 hw1 hw2
          go_enter Try.func13, Try.ntmps13
          go_wp2
          go_ret2
          rw [E.out]
          exact ⟨rfl, HW.out _ _ rfl⟩

theorem ref_may02 (x : S45) : millraceref02_may.f x.f0 x.f1 = some (fMay x) := by
  unfold millraceref02_may.f fMay
  by_cases h1 : x.f0 = 1
  · simp only [h1, if_true]
    by_cases h2 : 1 ≤ x.f1
    · rw [if_pos h2]; simp [h2]
    · rw [if_neg h2]; simp [h2]
  · simp only [if_neg h1]
    by_cases h2 : 0 ≤ x.f0
    · by_cases h3 : x.f0 ≤ 3
      · rw [if_pos h2, if_pos h3]
        have : x.f0 = 0 ∨ x.f0 = 2 ∨ x.f0 = 3 := by omega
        rcases this with h | h | h <;> simp [h] <;> rfl
      · rw [if_pos h2, if_neg h3]
        have : ¬ (x.f0 = 0) ∧ ¬ (x.f0 = 2) ∧ ¬ (x.f0 = 3) := by omega
        simp [this]
    · rw [if_neg h2]
      have : ¬ (x.f0 = 0) ∧ ¬ (x.f0 = 2) ∧ ¬ (x.f0 = 3) := by omega
      simp [this]
theorem ref_check_loop (l : List S45) (hl : l.length ≤ 4096) : ∀ (d i k : Nat), i + d = l.length → d + 1 ≤ k →
    millraceref02_Check.l0 k l (i : Int) = some (match fFirst i (l.drop i) with | some j => (21, (j : Int)) | none => (0, (l.length : Int))) := by
  intro d
  induction d with
  | zero =>
    intro i k hi hk
    obtain ⟨k, rfl⟩ : ∃ i, k = i + 1 := ⟨k - 1, by omega⟩
    simp only [millraceref02_Check.l0]
    rw [if_neg (by omega), List.drop_eq_nil_of_le (by omega)]; rfl
  | succ d ih =>
    intro i k hi hk
    obtain ⟨k, rfl⟩ : ∃ i, k = i + 1 := ⟨k - 1, by omega⟩
    have hlt : i < l.length := by omega
    have hd : l.drop i = l[i] :: l.drop (i + 1) := List.drop_eq_getElem_cons hlt
    have hx : rd_T45 l (i : Int) = l[i] := by simp [rd_T45, hlt]
    have e : wrap64 ((i : Int) + 1) = ((i + 1 : Nat) : Int) := by unfold wrap64; omega
    simp only [millraceref02_Check.l0, hx, ref_may02, Option.bind_some, e]
    rw [if_pos (by omega), if_pos (by omega), hd]
    simp only [fFirst]
    by_cases hm : fMay l[i] = true
    · rw [if_pos hm, if_pos hm]; exact ih (i + 1) k (by omega) (by omega)
    · rw [if_neg hm, if_neg hm]
theorem ref_Check02 (l : List S45) : ∃ j, millraceref02_Check.f (l.length + 1) l = some (faultsOk l, j) := by
  unfold millraceref02_Check.f faultsOk
  by_cases h : 4096 < l.length
  · rw [if_pos (by omega), if_pos h]; exact ⟨_, rfl⟩
  · rw [if_neg (by omega), if_neg h]
    have := ref_check_loop l (by omega) l.length 0 (l.length + 1) (by omega) (Nat.le_refl _)
    have this : millraceref02_Check.l0 (l.length + 1) l 0 = _ := this
    rw [this, List.drop_zero]
    cases fFirst 0 l with
    | some j => exact ⟨_, rfl⟩
    | none => exact ⟨_, rfl⟩

theorem same_loopP (l : List S45) (hl : l.length ≤ 9223372036854775806) : ∀ (d : Nat) (i : Int) (k : Nat), 0 ≤ i → (l.length - i).toNat = d → d + 1 ≤ k → millraceplain_SameFaults.l0 k l l i = some true := by
  intro d
  induction d with
  | zero =>
    intro i k h0 hd hk
    obtain ⟨k, rfl⟩ : ∃ i, k = i + 1 := ⟨k - 1, by omega⟩
    simp only [millraceplain_SameFaults.l0]
    rw [if_neg (by omega)]
  | succ d ih =>
    intro i k h0 hd hk
    obtain ⟨k, rfl⟩ : ∃ i, k = i + 1 := ⟨k - 1, by omega⟩
    have e : wrap64 (i + 1) = i + 1 := by unfold wrap64; omega
    simp only [millraceplain_SameFaults.l0, e]
    have := ih (i + 1) k (by omega) (by omega) (by omega)
    rw [if_pos (by omega), if_pos h0, if_pos (by omega)]
    simp [this]
theorem same_faultsP (l : List S45) (hl : l.length ≤ 9223372036854775806) : millraceplain_SameFaults.f (l.length + 1) l l = some true := by
  rw [millraceplain_SameFaults.f, if_pos rfl]; exact same_loopP l hl l.length 0 _ (by omega) (by omega) (Nat.le_refl _)

theorem nextOf_le (l : List S45) (want : Int) : (nextOf l want).2.length ≤ l.length := by
  rw [nextOf.eq_def]
  split
  · exact Nat.le_refl _
  · cases l with
    | nil => exact Nat.le_refl _
    | cons a b => simp
theorem same_two {l' : List S45} (hl : l'.length ≤ 4096) {Av : Option Addr} {cv : Nat} {Ar : Option Addr} {c : Nat} {W : World} (h1 : Kd.C k45 W Av l'.length l') (hc1 : l'.length ≤ cv) (h2 : Kd.C k45 W Ar l'.length l') (hc2 : l'.length ≤ c) :
    Calls Try.prog 9 #[.slice Av l'.length cv, .slice Ar l'.length c] W fun e w' => e = .returned (.bool true) ∧ Drawn0 W w' :=
  millraceplain_SameFaults.calls (l'.length + 1) Av cv l' Ar c l' true W h1 hc1 h2 hc2 (same_faultsP l' (by omega))

def millracelaw02_FaultsPlays.f (l0 : List S45) (l1 : List Int) : Option Bool := if l0.length < 8796093022208 then some true else none
set_option maxHeartbeats 4000000 in
set_option maxRecDepth 100000 in
theorem millracelaw02_FaultsPlays.calls (A0 : Option Addr) (c0 : Nat) (l0 : List S45) (A1 : Option Addr) (c1 : Nat) (l1 : List Int) (r : Bool) (w : World) (hr0 : Kd.C k45 w A0 l0.length l0) (hc0 : l0.length ≤ c0) (hr1 : Kd.C (Kd.int .i64) w A1 l1.length l1) (hc1 : l1.length ≤ c1) (h : millracelaw02_FaultsPlays.f l0 l1 = some r) :
    Calls Try.prog 4 #[.slice A0 l0.length c0, .slice A1 l1.length c1] w fun e w' => e = .returned (.bool r) ∧ Below w.heap.size w w' := by
  unfold millracelaw02_FaultsPlays.f at h
  split at h
  case isFalse => cases h
  case isTrue hbig =>
  obtain rfl := Option.some.inj h
  clear h
  have HAL := Lib.hid (fun W => millracelaw02_alive.calls true W rfl)
  have hne := fun W hB => faults_New.calls A0 c0 l0 W (Kd.C_below hr0 hB) hc0
  obtain ⟨jj, hjj⟩ := ref_Check02 l0
  have HRC := Lib.hid (fun W (hB : Below w.heap.size w W) => millraceref02_Check.calls (l0.length + 1) A0 c0 l0 _ _ W (Kd.C_below hr0 hB) hc0 hjj)
  have HCP := Lib.hid (fun W (hB : Below w.heap.size w W) => millraceplain_CopyFaults.calls A0 c0 l0 l0 W (Kd.C_below hr0 hB) hc0 (by simp [millraceplain_CopyFaults.f]; omega))
  by_cases hok : faultsOk l0 = 0
  case neg =>
    have hne' : ∀ W, Below w.heap.size w W → Calls Try.prog 6 #[.slice A0 l0.length c0] W fun e w' => e = .returned (.tuple #[.pointer none, .int .i64 (faultsOk l0)]) ∧ Below W.heap.size W w' := by
      intro W hB
      refine (hne W hB).mono ?_
      rintro e w' ⟨h1, ⟨_, h2⟩ | ⟨h2, _⟩⟩
      · exact ⟨h2, h1⟩
      · exact absurd h2 hok
    have g : (faultsOk l0 != 0) = true := by simpa using hok
    generalize faultsOk l0 = fo at *
    have g2 : (fo != fo) = false := by simp
    have HNE := Lib.hid hne'
    clear hne hne' hok hr0 hc0 hjj
    go_enter Try.func4, Try.ntmps4
    go_wp2_with (first
      | (go_at_call 6; go_must (refine (HNE.out _ (by first | exact Below.refl _ _ | exact (Below.refl _ _).drew)).mono ?_); go_must (rintro e w1 ⟨rfl, hB1⟩))
      | (go_at_call 11; go_must (refine (HRC.out _ hB1).mono ?_); go_must (rintro e w2 ⟨rfl, hB2⟩); have hB02 := below_step hB1 hB2)
      | (go_at_call 12; go_must (refine (HCP.out _ hB02).mono ?_); go_must (rintro e w3 ⟨v, rfl, hO3, hB3⟩); have hB03 := below_alloc (below_step hB02 hB3); obtain ⟨Av, cv, rfl⟩ := Kd.R_slice hO3)
      | go_in)
    clear hB1 hB2 hB02 hB3 hO3
    go_loopg [5, 10] 1 (fun k v5 v10 wr => k = 1 ∧ v5 = .pointer none ∧ v10 = .int .i64 0 ∧ Below w.heap.size w wr)
    case atStart => exact ⟨rfl, rfl, rfl, hB03 _⟩
    case round =>
      obtain ⟨rfl, rfl, rfl, hB⟩ := hrel
      go_wp2_with (go_at_call 5; go_must (refine (HAL.out _).mono ?_); go_must (rintro e w4 ⟨rfl, hB4⟩))
      go_ret
      exact ⟨rfl, below_step hB hB4⟩
  case pos =>
    obtain ⟨hlen, hmay⟩ : l0.length ≤ 4096 ∧ True := by
      refine ⟨?_, trivial⟩
      unfold faultsOk at hok
      split at hok
      · cases hok
      · omega
    have hne' : ∀ W, Below w.heap.size w W → Calls Try.prog 6 #[.slice A0 l0.length c0] W fun e w' => ∃ B, e = .returned (.tuple #[.pointer (some ⟨B, 0, none⟩), .int .i64 0]) ∧ W.heap.size ≤ B ∧ PlanAt w' B l0 ∧ Below W.heap.size W w' := by
      intro W hB
      refine (hne W hB).mono ?_
      rintro e w' ⟨h1, ⟨h2, _⟩ | ⟨_, B, h3, h4, h5⟩⟩
      · exact absurd hok h2
      · exact ⟨B, h3, h4, h5, h1⟩
    have HNE := Lib.hid hne'
    rw [hok] at HRC
    have HRS := Lib.hid (fun B (l : List S45) W hP (hl : l.length ≤ 4096) => faults_Rest.calls B l W hP (by omega))
    have HCY := Lib.hid (fun B (l : List S45) W hP (hl : l.length ≤ 4096) => faults_Copy.calls B l W hP (by omega))
    have HR1 := Lib.hid hr1
    have HLEN := Lib.hid hlen
    have hl1 : l1.length ≤ 9223372036854775807 := hr1.2.1
    clear hne hne' hok hr0 hc0 hjj hbig hmay hlen hr1
    go_enter Try.func4, Try.ntmps4
    go_wp2_with (first
      | (go_at_call 6; go_must (refine (HNE.out _ (by first | exact Below.refl _ _ | exact (Below.refl _ _).drew)).mono ?_); go_must (rintro e w1 ⟨B0, rfl, hBB, hP1, hB1⟩))
      | (go_at_call 11; go_must (refine (HRC.out _ hB1).mono ?_); go_must (rintro e w2 ⟨rfl, hB2⟩); have hB02 := below_step hB1 hB2)
      | (go_at_call 12; go_must (refine (HCP.out _ hB02).mono ?_); go_must (rintro e w3 ⟨v, rfl, hO3, hB3⟩); have hB03 := below_step hB02 hB3; obtain ⟨Av, cv, rfl⟩ := Kd.R_slice hO3)
      | go_in)
    have hP3 := ((hP1.kept hB2).kept hB3).kept (below_alloc (Below.refl _ _) (.cells #[.slice Av l0.length cv] 40))
    have hR3 := PlanRef.made hO3
    have hBB2 : B0 < w3.heap.size := by
      obtain ⟨_, _, hb, _⟩ := (hP1.kept hB2).kept hB3
      exact blk_lt hb
    have hB04 := below_alloc hB03 (.cells #[.slice Av l0.length cv] 40)
    clear hB1 hB2 hB02 hB3 hO3 hP1
    obtain ⟨Br, hBr⟩ : ∃ Br, Br = w3.heap.size := ⟨_, rfl⟩
    have hwr : w.heap.size ≤ Br := by rw [hBr]; exact hB03.size
    rw [← hBr] at hR3 hBB2 ⊢
    clear hB03 hBr
    go_loopg [5, 10] l1.length (fun k v5 v10 wr => ∃ (i Bp : Nat) (l' : List S45), v5 = .pointer (some ⟨Bp, 0, none⟩) ∧ v10 = .int .i64 i ∧ i ≤ l1.length ∧ k = l1.length - i ∧ l'.length ≤ 4096 ∧ w.heap.size ≤ Bp ∧ Bp ≠ Br ∧ PlanAt wr Bp l' ∧ PlanRef wr Br l' ∧ Below w.heap.size w wr)
    case atStart => exact ⟨0, B0, l0, rfl, rfl, by omega, by omega, HLEN.out, hBB, by omega, hP3, hR3, hB04⟩
    case round =>
      obtain ⟨i, Bp, l', rfl, rfl, hi, hk, hl', hwp, hne, hP, hR, hB⟩ := hrel
      clear hP3 hR3 hB04 hBB hBB2
      by_cases hlt : i < l1.length
      · have g3 : decide ((i : Int) < (l1.length : Int)) = true := by simp; omega
        obtain ⟨ad, e, hcell0⟩ := Kd.at_int HR1.out (i : Int) (by omega) (by omega)
        cases e
        rw [Int.toNat_natCast] at hcell0
        obtain ⟨want, hwant⟩ : ∃ c, c = rd l1 (i : Int) := ⟨_, rfl⟩
        rw [← hwant] at hcell0
        have hcw : ∀ W, Below w.heap.size w W → W.cell? (ad.add i) = some (.int .i64 want) := fun W hW => (hW.cell (World.block_lt_of_cell? w _ hcell0)).trans hcell0
        have hcell := hcw _ hB
        obtain ⟨⟨⟨ga, ge⟩, l2⟩, hnx⟩ : ∃ x, x = nextOf l' want := ⟨_, rfl⟩
        have hl2 : l2.length ≤ 4096 := by
          have hle : l2.length ≤ l'.length := by
            have := nextOf_le l' want
            rw [← hnx] at this; exact this
          omega
        have hN := fun W hP => faults_Next.calls Bp l' want W hP
        have hN2 := fun W hP => ref02_Next.calls Br l' want W hP
        rw [← hnx] at hN hN2
        simp only at hN hN2
        have HN := Lib.hid hN
        have HN2 := Lib.hid hN2
        have HCW := Lib.hid hcw
        have HL := Lib.hid hl2
        have HI := Lib.hid hi
        have HK := Lib.hid hk
        have HLT := Lib.hid hlt
        clear hN hN2 hnx hwant hcw hl2 hl' hcell0 hi hk hlt
        have p := eq_true (show 0 ≤ (i : Int) by omega)
        have q := eq_true (show (i : Int) < (l1.length : Int) by have := HLT.out; omega)
        have gg1 : (ga != ga) = false := by simp
        have gg2 : (ge != ge) = false := by simp
        go_wp2_with (first
          | (go_at_call 8; go_must (refine (HN.out _ hP).mono ?_); go_must (rintro e w4 ⟨rfl, hP4, hK4, hB4⟩); have hB04 := hB.trans (hB4.mono hwp); have hcell4 := HCW.out _ hB04; have hR4 := hR.keptS hK4 (fun e => hne e.symm) hP.noRow)
          | (go_at_call 13; go_must (refine (HN2.out _ hR4).mono ?_); go_must (rintro e w5 ⟨rfl, hR5, hK5, hB5⟩); have hB05 := hB04.trans (hB5.mono hwr); have hP5 := hP4.keptS hK5 hne hR4.noRow))
        obtain ⟨Ar, c, hbr, hcr2, hTr⟩ := hR5
        have hR5 : PlanRef w5 Br l2 := ⟨Ar, c, hbr, hcr2, hTr⟩
        have hcr : w5.cell? ⟨Br, 0, none⟩ = some (.slice Ar l2.length c) := blk_cell hbr 0
        have hCr := hTr.1
        have hP2 := hP5
        clear hP hR hB hcell hK4 hB4 hB04 hcell4 hR4 hP4 hK5 hB5 hbr
        refine start_ (n := 19) (S := fun w' => w'.cell? ⟨Br, 0, none⟩ = some (.slice Ar l2.length c)) (ds := []) #[false, false, false, false, false, false, false, false, false, false, false, false, false, false, false, false, false, false, false] (by kernel_rfl) rfl rfl (hcr) (fun hHeld => ?_)
        refine pure_ (i := 0) (N := some 69) (v := ?_) (a' := ?_) #[true, false, false, false, false, false, false, false, false, false, false, false, false, false, false, false, false, false, false] rfl rfl (by kernel_rfl) (fun _ _ _ h => h) (Or.inl ⟨by rfl, ?_⟩) ?_ ?_
        rotate_left
        · intro w'
          go_simp
          with_reducible rfl
        rotate_left
        · simp only [Act.put, List.setIfInBounds_toArray, List.set_cons_zero, List.set_cons_succ, i64_w, i32_w]
          rfl
        refine pure_ (i := 1) (N := some 70) (v := ?_) (a' := ?_) #[true, true, false, false, false, false, false, false, false, false, false, false, false, false, false, false, false, false, false] rfl rfl (by kernel_rfl) (fun _ _ _ h => h) (Or.inl ⟨by rfl, ?_⟩) ?_ ?_
        rotate_left
        · intro w'
          go_simp
          with_reducible rfl
        rotate_left
        · simp only [Act.put, List.setIfInBounds_toArray, List.set_cons_zero, List.set_cons_succ, i64_w, i32_w]
          rfl
        refine pure_ (i := 2) (N := some 71) (v := ?_) (a' := ?_) #[true, true, true, false, false, false, false, false, false, false, false, false, false, false, false, false, false, false, false] rfl rfl (by kernel_rfl) (fun _ _ _ h => h) (Or.inl ⟨by rfl, ?_⟩) ?_ ?_
        rotate_left
        · intro w'
          go_simp
          with_reducible rfl
        rotate_left
        · simp only [Act.put, List.setIfInBounds_toArray, List.set_cons_zero, List.set_cons_succ, i64_w, i32_w]
          rfl
        refine pure_ (i := 3) (N := some 72) (v := ?_) (a' := ?_) #[true, true, true, true, false, false, false, false, false, false, false, false, false, false, false, false, false, false, false] rfl rfl (by kernel_rfl) (fun _ _ _ h => h) (Or.inl ⟨by rfl, ?_⟩) ?_ ?_
        rotate_left
        · intro w'
          go_simp
          with_reducible rfl
        rotate_left
        · simp only [Act.put, List.setIfInBounds_toArray, List.set_cons_zero, List.set_cons_succ, i64_w, i32_w]
          rfl
        refine pure_ (i := 4) (N := some 73) (v := ?_) (a' := ?_) #[true, true, true, true, true, false, false, false, false, false, false, false, false, false, false, false, false, false, false] rfl rfl (by kernel_rfl) (fun _ _ _ h => h) (Or.inl ⟨by rfl, ?_⟩) ?_ ?_
        rotate_left
        · intro w'
          go_simp
          with_reducible rfl
        rotate_left
        · simp only [Act.put, List.setIfInBounds_toArray, List.set_cons_zero, List.set_cons_succ, i64_w, i32_w]
          rfl
        refine pure_ (i := 6) (N := some 75) (v := ?_) (a' := ?_) #[true, true, true, true, true, false, true, false, false, false, false, false, false, false, false, false, false, false, false] rfl rfl (by kernel_rfl) (fun _ _ _ h => h) (Or.inl ⟨by rfl, ?_⟩) ?_ ?_
        rotate_left
        · intro w'
          go_simp
          with_reducible rfl
        rotate_left
        · simp only [Act.put, List.setIfInBounds_toArray, List.set_cons_zero, List.set_cons_succ, i64_w, i32_w]
          rfl
        refine one_ (i := 5) (N := some 74) #[true, true, true, true, true, true, true, false, false, false, false, false, false, false, false, false, false, false, false] rfl rfl (by kernel_rfl) (by decide) (fun K hK => ?_)
        refine goes_ Try.func7 (by kernel_rfl) rfl #[.int .i64 ge] (by rfl) rfl rfl (by simp only [List.map_toArray, List.map_cons, List.map_nil]; rfl) ?_
        with_reducible refine (millracelaw02_num.calls ge ge _ rfl).mono ?_
        rintro e w5 ⟨rfl, ⟨nd5, rfl⟩⟩
        refine ⟨_, rfl, ?_⟩
        refine hK.out _ _ (hcr) (fun hHeld => ?_)
        clear hK K
        refine norm_ (a' := ?_) ?_ ?_
        rotate_left
        · show Act.put _ (some 74) _ = _
          simp only [Act.put, List.setIfInBounds_toArray, List.set_cons_zero, List.set_cons_succ, i64_w, i32_w]
          rfl
        refine pure_ (i := 7) (N := some 76) (v := ?_) (a' := ?_) #[true, true, true, true, true, true, true, true, false, false, false, false, false, false, false, false, false, false, false] rfl rfl (by kernel_rfl) (fun _ _ _ h => h) (Or.inl ⟨by rfl, ?_⟩) ?_ ?_
        rotate_left
        · intro w'
          go_simp
          with_reducible rfl
        rotate_left
        · simp only [Act.put, List.setIfInBounds_toArray, List.set_cons_zero, List.set_cons_succ, i64_w, i32_w]
          rfl
        refine pure_ (i := 8) (N := some 77) (v := ?_) (a' := ?_) #[true, true, true, true, true, true, true, true, true, false, false, false, false, false, false, false, false, false, false] rfl rfl (by kernel_rfl) (fun _ _ _ h => h) (Or.inl ⟨by rfl, ?_⟩) ?_ ?_
        rotate_left
        · intro w'
          go_simp
          with_reducible rfl
        rotate_left
        · simp only [Act.put, List.setIfInBounds_toArray, List.set_cons_zero, List.set_cons_succ, i64_w, i32_w]
          rfl
        refine pure_ (i := 9) (N := some 78) (v := ?_) (a' := ?_) #[true, true, true, true, true, true, true, true, true, true, false, false, false, false, false, false, false, false, false] rfl rfl (by kernel_rfl) (fun _ _ _ h => h) (Or.inl ⟨by rfl, ?_⟩) ?_ ?_
        rotate_left
        · intro w'
          go_simp
          with_reducible rfl
        rotate_left
        · simp only [Act.put, List.setIfInBounds_toArray, List.set_cons_zero, List.set_cons_succ, i64_w, i32_w]
          rfl
        refine pure_ (i := 10) (N := some 79) (v := ?_) (a' := ?_) #[true, true, true, true, true, true, true, true, true, true, true, false, false, false, false, false, false, false, false] rfl rfl (by kernel_rfl) (fun _ _ _ h => h) (Or.inl ⟨by rfl, ?_⟩) ?_ ?_
        rotate_left
        · intro w'
          go_simp
          with_reducible rfl
        rotate_left
        · simp only [Act.put, List.setIfInBounds_toArray, List.set_cons_zero, List.set_cons_succ, i64_w, i32_w]
          rfl
        refine pure_ (i := 12) (N := some 81) (v := ?_) (a' := ?_) #[true, true, true, true, true, true, true, true, true, true, true, false, true, false, false, false, false, false, false] rfl rfl (by kernel_rfl) (fun _ _ _ h => h) (Or.inl ⟨by rfl, ?_⟩) ?_ ?_
        rotate_left
        · intro w'
          go_simp
          with_reducible rfl
        rotate_left
        · simp only [Act.put, List.setIfInBounds_toArray, List.set_cons_zero, List.set_cons_succ, i64_w, i32_w]
          rfl
        refine pure_ (i := 13) (N := some 82) (v := ?_) (a' := ?_) #[true, true, true, true, true, true, true, true, true, true, true, false, true, true, false, false, false, false, false] rfl rfl (by kernel_rfl) (fun _ _ _ h => h) (Or.inl ⟨by rfl, ?_⟩) ?_ ?_
        rotate_left
        · intro w'
          go_simp
          with_reducible rfl
        rotate_left
        · simp only [Act.put, List.setIfInBounds_toArray, List.set_cons_zero, List.set_cons_succ, i64_w, i32_w]
          rfl
        refine pure_ (i := 14) (N := some 83) (v := ?_) (a' := ?_) #[true, true, true, true, true, true, true, true, true, true, true, false, true, true, true, false, false, false, false] rfl rfl (by kernel_rfl) (fun _ _ _ h => h) (Or.inl ⟨by rfl, ?_⟩) ?_ ?_
        rotate_left
        · intro w'
          go_simp
          with_reducible rfl
        rotate_left
        · simp only [Act.put, List.setIfInBounds_toArray, List.set_cons_zero, List.set_cons_succ, i64_w, i32_w]
          rfl
        refine take_ (i := 15) (N := some 84) (v := ?_) (a' := ?_) #[true, true, true, true, true, true, true, true, true, true, true, false, true, true, true, true, false, false, false] rfl rfl (by kernel_rfl) (fun _ _ _ h => h) (Or.inl ⟨by rfl, ?_⟩) hHeld ?_ ?_
        rotate_left
        · intro w' s0
          go_simp
          with_reducible rfl
        rotate_left
        · simp only [Act.put, List.setIfInBounds_toArray, List.set_cons_zero, List.set_cons_succ, i64_w, i32_w]
          rfl
        refine one_ (i := 11) (N := some 80) #[true, true, true, true, true, true, true, true, true, true, true, true, true, true, true, true, false, false, false] rfl rfl (by kernel_rfl) (by decide) (fun K hK => ?_)
        refine goes_ Try.func10 (by kernel_rfl) rfl #[.pointer (some ⟨Bp, 0, none⟩)] (by rfl) rfl rfl (by simp only [List.map_toArray, List.map_cons, List.map_nil]; rfl) ?_
        with_reducible refine (HRS.out Bp l2 _ (hP2.kept (pw_below_drewN (below_drew (Below.refl _ _)) _)) HL.out).mono ?_
        rintro e w6 ⟨v, rfl, hO, hB6⟩
        refine ⟨_, rfl, ?_⟩
        obtain ⟨Av, cv, rfl, hcv, hCv⟩ := Kd.R_reads hO
        refine hK.out _ _ (((hB6.cell (World.block_lt_of_cell? _ _ hcr)).trans hcr)) (fun hHeld => ?_)
        clear hK K
        refine norm_ (a' := ?_) ?_ ?_
        rotate_left
        · show Act.put _ (some 80) _ = _
          simp only [Act.put, List.setIfInBounds_toArray, List.set_cons_zero, List.set_cons_succ, i64_w, i32_w]
          rfl
        refine one_ (i := 16) (N := some 85) #[true, true, true, true, true, true, true, true, true, true, true, true, true, true, true, true, true, false, false] rfl rfl (by kernel_rfl) (by decide) (fun K hK => ?_)
        refine goes_ Try.func9 (by kernel_rfl) rfl #[.slice Av l2.length cv, .slice Ar l2.length c] (by rfl) rfl rfl (by simp only [List.map_toArray, List.map_cons, List.map_nil]; rfl) ?_
        with_reducible refine (same_two HL.out hCv hcv (Kd.C_below hCr (below_step (pw_below_drewN (below_drew (Below.refl _ _)) _) hB6)) hcr2).mono ?_
        rintro e w7 ⟨rfl, ⟨nd7, rfl⟩⟩
        refine ⟨_, rfl, ?_⟩
        refine hK.out _ _ (((hB6.cell (World.block_lt_of_cell? _ _ hcr)).trans hcr)) (fun hHeld => ?_)
        clear hK K
        refine norm_ (a' := ?_) ?_ ?_
        rotate_left
        · show Act.put _ (some 85) _ = _
          simp only [Act.put, List.setIfInBounds_toArray, List.set_cons_zero, List.set_cons_succ, i64_w, i32_w]
          rfl
        refine pure_ (i := 17) (N := some 86) (v := ?_) (a' := ?_) #[true, true, true, true, true, true, true, true, true, true, true, true, true, true, true, true, true, true, false] rfl rfl (by kernel_rfl) (fun _ _ _ h => h) (Or.inl ⟨by rfl, ?_⟩) ?_ ?_
        rotate_left
        · intro w'
          go_simp
          with_reducible rfl
        rotate_left
        · simp only [Act.put, List.setIfInBounds_toArray, List.set_cons_zero, List.set_cons_succ, i64_w, i32_w]
          rfl
        refine pure_ (i := 18) (N := some 87) (v := ?_) (a' := ?_) #[true, true, true, true, true, true, true, true, true, true, true, true, true, true, true, true, true, true, true] rfl rfl (by kernel_rfl) (fun _ _ _ h => h) (Or.inl ⟨by rfl, ?_⟩) ?_ ?_
        rotate_left
        · intro w'
          go_simp
          with_reducible rfl
        rotate_left
        · simp only [Act.put, List.setIfInBounds_toArray, List.set_cons_zero, List.set_cons_succ, i64_w, i32_w]
          rfl
        refine done_ (by kernel_rfl) ?_

        have hB56 : Below w5.heap.size w5 w6 := below_step (pw_below_drewN (below_drew (Below.refl _ _)) _) hB6
        have hB06 := below_step hB05 hB56
        have hP6 := hP2.kept hB56
        have hR6 := hR5.kept hB56
        clear hB05 hB6 hB56 hP2 hR5 hcr hCr hcr2 hTr hO hCv hcv hHeld
        have hBpl : Bp < w6.heap.size := by
          obtain ⟨_, _, hb, _⟩ := hP6
          exact blk_lt hb
        have hBrl : Br < w6.heap.size := by
          obtain ⟨_, _, hb, _⟩ := hR6
          exact blk_lt hb
        have HN1 := Lib.hid (fun W hP => faults_Next.calls Bp l2 1 W hP)
        go_wp2_with (first
          | (go_at_call 14; go_must (refine (HCY.out Bp l2 _ (hP6.kept (pw_below_drewN (Below.refl _ _) _)) HL.out).mono ?_); go_must (rintro e w7 ⟨B', rfl, hBB', hP7, hB7⟩); have hB67 := below_step (pw_below_drewN (Below.refl _ _) _) hB7)
          | (go_at_call 8; go_must (refine (HN1.out _ (hP6.kept hB67)).mono ?_); go_must (rintro e w8 ⟨rfl, hP8, hK8, hB8⟩)))
        · have hno := (hP6.kept hB67).noRow
          have hBB2 : w6.heap.size ≤ B' := hBB'
          have hP9 := hP7.keptS hK8 (by omega) hno
          have hR9 := (hR6.kept hB67).keptS hK8 (fun e => hne e.symm) hno
          have hB09 := (below_step hB06 hB67).trans (hB8.mono hwp)
          have hs6 := hB06.size
          go_roundg (l1.length - (i + 1))
          case measure => have ha := HLT.out; have hb := HK.out; omega
          case rel => exact ⟨i + 1, B', l2, rfl, by rw [show wrap64 ((i : Int) + 1) = ((i + 1 : Nat) : Int) by have := HLT.out; unfold wrap64; omega], by have := HLT.out; omega, rfl, HL.out, by omega, by omega, hP9, hR9, hB09⟩
        · go_roundg (l1.length - (i + 1))
          case measure => have ha := HLT.out; have hb := HK.out; omega
          case rel => exact ⟨i + 1, Bp, l2, rfl, by rw [show wrap64 ((i : Int) + 1) = ((i + 1 : Nat) : Int) by have := HLT.out; unfold wrap64; omega], by have := HLT.out; omega, rfl, HL.out, hwp, hne, hP6.kept (pw_below_drewN (Below.refl _ _) _), hR6.kept (pw_below_drewN (Below.refl _ _) _), pw_below_drewN hB06 _⟩
      · obtain rfl : i = l1.length := by omega
        have g3 : decide ((l1.length : Int) < (l1.length : Int)) = false := by simp
        clear hk hlt hP hR
        go_wp2_with (go_at_call 5; go_must (refine (HAL.out _).mono ?_); go_must (rintro e w4 ⟨rfl, hB4⟩))
        go_ret
        exact ⟨rfl, below_step hB hB4⟩

end Go.Proofs.Ytbggmdgeanoelaa.Ft
