-- Written by wip/tools/xprint.py of this work (the kit's print with contracts of its own).
import Derived.Test.YtbggmdgeanoelaaFtx0
import Derived.Test.YtbggmdgeanoelaaFtx2
namespace Go.Proofs.Ytbggmdgeanoelaa.Ft
open Go.RowKit Go.Proofs.YtbggmdgeanoelaaW.PrintWords Go.Proofs.YtbggmdgeanoelaaW.PrintLast Go.Proofs.YtbggmdgeanoelaaW.PrintMore
attribute [local go_sem] max2_int min2_int max_two min_two max_three min_three max_four min_four   -- for this text's walks alone
set_option linter.unusedVariables false
set_option linter.unusedSimpArgs false

/-! ### faults_Print: function 15 -/
def faults_Print.l0 : Nat → List ByteArray → List (S45) → Int → Int → Option (ByteArray × Int)
  | 0, _, _, _, _ => none
  | k + 1, x6, x20, x21, x22 => if x22 < x21 then (if 0 ≤ x22 then (if x22 < (x20.length : Int) then (if 0 ≤ ((rd_T45 x20 x22).f0) then (if ((rd_T45 x20 x22).f0) ≤ (wrap64 (((rd_T45 x20 x22).f0) + 1)) then (if (wrap64 (((rd_T45 x20 x22).f0) + 1)) ≤ 4 then (if x22 < (x6.length : Int) then ((some (x6.set (x22 : Int).toNat ((⟨#[102, 115, 105, 97]⟩ : ByteArray).extract (((rd_T45 x20 x22).f0) : Int).toNat ((wrap64 (((rd_T45 x20 x22).f0) + 1)) : Int).toNat) : List ByteArray)).bind fun y114 => (if ((rd_T45 x20 x22).f0) = 1 then ((num_Decimal.f ((rd_T45 x20 x22).f1)).bind fun t116 => (if (rdOf ByteArray.empty y114 x22).size + t116.size ≤ 9223372036854775807 then (faults_Print.l0 k (y114.set (x22 : Int).toNat ((rdOf ByteArray.empty y114 x22) ++ t116)) x20 x21 (wrap64 (x22 + 1))) else (none))) else (faults_Print.l0 k y114 x20 x21 (wrap64 (x22 + 1))))) else (none)) else (none)) else (none)) else (none)) else (none)) else (none)) else ((strings_Join.f x6 (⟨#[32]⟩ : ByteArray)).bind fun t118 => (some (t118, 0)))
def faults_Print.f (k : Nat) (l0 : List (S45)) : Option (ByteArray × Int) := (faults_Check.f l0).bind fun bt107 => (if bt107.1 = 0 then (if 0 ≤ (l0.length : Int) then (if ((l0.length : Int) : Int).toNat ≤ 17592186044416 then (faults_Print.l0 k (List.replicate ((l0.length : Int) : Int).toNat (⟨#[]⟩ : ByteArray)) l0 (l0.length : Int) 0) else (none)) else (none)) else (some ((⟨#[]⟩ : ByteArray), bt107.1)))
theorem faults_Print.mono_l : ∀ k, (∀ y0 y1 y2 y3, LeO (faults_Print.l0 k y0 y1 y2 y3) (faults_Print.l0 (k + 1) y0 y1 y2 y3))
  | 0 => fun _ _ _ _ r h => by simp [faults_Print.l0] at h
  | k + 1 => by
    have ih0 := faults_Print.mono_l k
    · intro y0 y1 y2 y3
      unfold faults_Print.l0
      repeat' first
      | (with_reducible exact ih0 _ _ _ _)
      | (with_reducible exact LeO.refl _)
      | (with_reducible exact LeO.none _)
      | (with_reducible refine LeO.ite ?_ ?_)
      | (with_reducible refine LeO.bind ?_ (fun _ => ?_))
      | exact ih0 _ _ _ _
      | exact LeO.none _
      | refine LeO.ite ?_ ?_
      | refine LeO.bind ?_ (fun _ => ?_)
theorem faults_Print.mono : ∀ a0 k, LeO (faults_Print.f k a0) (faults_Print.f (k + 1) a0) := by
  intro a0 k
  have ih0 := faults_Print.mono_l k
  unfold faults_Print.f
  repeat' first
      | (with_reducible exact ih0 _ _ _ _)
      | (with_reducible exact LeO.refl _)
      | (with_reducible exact LeO.none _)
      | (with_reducible refine LeO.ite ?_ ?_)
      | (with_reducible refine LeO.bind ?_ (fun _ => ?_))
      | exact ih0 _ _ _ _
      | exact LeO.none _
      | refine LeO.ite ?_ ?_
      | refine LeO.bind ?_ (fun _ => ?_)
def faults_Print.T10 : Bool × List (List Nat × List Nat) := (true, [([], []), ([], []), ([0, 1], [0, 1]), ([2], [2]), ([], []), ([4], [4]), ([5], [5]), ([3, 6], [3, 6]), ([0, 1, 0, 1, 2, 3, 4, 5, 6, 7], [0, 1]), ([8, 7, 6, 0, 1, 2, 3, 4, 5, 6, 7], [7, 8])])
def faults_Print.B10 : List Nat := [0, 0, 3, 7, 0, 16, 48, 127, 255, 511]
theorem faults_Print.tab10 : rtab .any (opsOf Try.f15 10) = faults_Print.T10 := by kernel_rfl
theorem faults_Print.bits10 : waitsOk faults_Print.T10.2 faults_Print.B10 = true := by kernel_rfl
set_option maxHeartbeats 8000000 in
set_option maxRecDepth 100000 in
theorem faults_Print.calls (k : Nat) (A0 : Option Addr) (c0 : Nat) (l0 : List (S45)) (r1 : ByteArray) (r2 : Int) (w : World) (hr0 : Kd.C k45 w A0 l0.length l0) (hc0 : l0.length ≤ c0) (h : faults_Print.f k l0 = some (r1, r2)) :
    Calls Try.prog 15 #[.slice A0 l0.length c0] w fun e w' => e = .returned (.tuple #[.string r1, .int .i64 r2]) ∧ Below w.heap.size w w' := by
  have hu45 := Try.underlying45
  have HR0 := Aside0.mk hr0
  have HC0 := Aside0.mk hc0
  clear hr0 hc0
  have HB := Aside0.mk (Below.refl w.heap.size w)
  have H : ((faults_Check.f l0).bind fun bt107 => (if bt107.1 = 0 then (if 0 ≤ (l0.length : Int) then (if ((l0.length : Int) : Int).toNat ≤ 17592186044416 then (faults_Print.l0 k (List.replicate ((l0.length : Int) : Int).toNat (⟨#[]⟩ : ByteArray)) l0 (l0.length : Int) 0) else (none)) else (none)) else (some ((⟨#[]⟩ : ByteArray), bt107.1)))) = some (r1, r2) := h
  clear h
  replace H := Option.bind_eq_some_iff.mp H
  obtain ⟨⟨t107, t108⟩, A20, H⟩ := H
  replace H : (if t107 = 0 then (if 0 ≤ (l0.length : Int) then (if ((l0.length : Int) : Int).toNat ≤ 17592186044416 then (faults_Print.l0 k (List.replicate ((l0.length : Int) : Int).toNat (⟨#[]⟩ : ByteArray)) l0 (l0.length : Int) 0) else (none)) else (none)) else (some ((⟨#[]⟩ : ByteArray), t107))) = some (r1, r2) := H
  have A2 := Aside0.mk A20
  clear A20
  by_cases c3 : t107 = 0
  · rw [if_pos c3] at H
    have c3b0 : (t107 == 0) = true := beq_iff_eq.mpr c3
    have c3b1 : (t107 != 0) = false := bne_eq_false_iff_eq.mpr c3
    clear c3
    by_cases c4 : 0 ≤ (l0.length : Int)
    · rw [if_pos c4] at H
      have c4b0 := eq_true c4
      have c4b1 : decide (0 ≤ (l0.length : Int)) = true := decide_eq_true c4
      clear c4
      by_cases c5 : ((l0.length : Int) : Int).toNat ≤ 17592186044416
      · rw [if_pos c5] at H
        have c5b0 := eq_true c5
        have c5b1 : decide (((l0.length : Int) : Int).toNat ≤ 17592186044416) = true := decide_eq_true c5
        clear c5
        obtain ⟨y109, hy109⟩ : ∃ y_ : List ByteArray, y_ = (List.replicate ((l0.length : Int) : Int).toNat (⟨#[]⟩ : ByteArray)) := ⟨_, rfl⟩
        replace H : (faults_Print.l0 k y109 l0 (l0.length : Int) 0) = some (r1, r2) := by first | (rw [hy109]; with_reducible exact H) | (have H2_ := (Option.bind_some _ _).symm.trans H; rw [hy109]; with_reducible exact H2_) | (have H2_ := (Option.bind_some _ _).symm.trans H; with_reducible exact H2_) | with_reducible exact H | (rw [hy109]; exact H) | exact H
        have Ny109 := Aside0.mk hy109
        clear hy109
        have H' := Aside0.mk H
        clear H
        go_enter Try.func15, Try.ntmps15
        go_wp2_with (first | ((with_reducible refine gate_callee (f := 16) rfl ?_); refine goesL_ (some 11) rfl rfl Try.func16 (by kernel_rfl) rfl #[.slice A0 l0.length c0] rfl (by (try simp only [List.map_toArray, List.map_cons, List.map_nil]); first | done | rfl | (simp only [List.length_drop, List.length_take]; rfl)) ?_; (with_reducible refine (faults_Check.calls _ _ l0 t107 t108 _ ?side1 ?side2 A2.out).mono ?_); (case side1 => repeat (first | exact HR0.out | (with_reducible refine Kd.C_alloc ?_ _) | (with_reducible refine Kd.C_drewN ?_ _) | (with_reducible refine Kd.C_drew ?_))); (case side2 => exact HC0.out); rintro e w6 ⟨rfl, hb⟩; refine ⟨_, rfl, ?_⟩; have n0_ := Aside0.mk (below_step (by repeat (first | (with_reducible first | exact HB.out | apply below_alloc | apply pw_below_drewN | apply below_drew1) | exact HB.out)) hb); clear HB; have HB := n0_; clear n0_; (try clear hb); (try clear hb2); (try clear hk); (try clear hi)) | ((with_reducible refine gate_dst (N := 19) rfl ?_); refine Kd.R_make Kd.string _ 9 rfl (N := 19) rfl 53 _ _ rfl (l0.length : Int) rfl rfl Try.underlying53 (.string ⟨#[]⟩) 16 info9 rfl (by decide) (by omega) (⟨#[]⟩ : ByteArray) (ok := fun _ => True) (okp := fun _ => True) rfl (fun _ hk => hk) trivial (of_decide_eq_true (by first | (with_reducible assumption) | assumption)) (Nat.le_trans (Nat.mul_le_mul_right _ (of_decide_eq_true (by first | (with_reducible assumption) | assumption) : (l0.length : Int).toNat ≤ 17592186044416)) (by omega)) (Below.refl _ _) (Nat.le_refl _) ?_; intro v110 w7 ho8 hb hg_ hnew_; clear hg_ hnew_; (first | rw [← Ny109.out] at ho8 | (simp only [Int.reduceToNat] at ho8; rw [← Ny109.out] at ho8)); have n0_ := Aside0.mk (Kd.R_lower ho8 (below_size (by repeat (first | (with_reducible first | exact HB.out | apply below_alloc | apply pw_below_drewN | apply below_drew1) | exact HB.out)))); have n1_ := Aside0.mk (below_step (by repeat (first | (with_reducible first | exact HB.out | apply below_alloc | apply pw_below_drewN | apply below_drew1) | exact HB.out)) hb); clear HB; have HO111 := n0_; have HB := n1_; clear n0_ n1_; clear hb ho8))
        go_loopg [22] k (fun kq v22 w' => ∃ (x6_1 : List ByteArray) (x22_1 : Int), v22 = .int .i64 x22_1 ∧ Aside0 (faults_Print.l0 kq x6_1 l0 (l0.length : Int) x22_1 = some (r1, r2)) ∧ Aside0 (kq ≤ k) ∧ Aside0 (Kd.R Kd.string 9 w' w.heap.size (fun _ => True) v110 x6_1) ∧ Aside0 (Below w.heap.size w w'))
        case atStart => exact ⟨(y109), (0), (by first | rfl | (simp; done) | (simp [*]; done)), H', ⟨Nat.le_refl _⟩, ⟨by (with_reducible repeat (first | apply Kd.R_alloc | apply Kd.R_drewN | apply Kd.R_drew)); exact HO111.out⟩, ⟨by repeat (first | (with_reducible first | exact HB.out | apply below_alloc | apply pw_below_drewN | apply below_drew1) | exact HB.out)⟩⟩
        case round =>
          clear H'
          try clear c1
          try clear p2
          try clear c3
          try clear c3b0
          try clear c3b1
          try clear c4
          try clear c4b0
          try clear c4b1
          try clear c5
          try clear c5b0
          try clear c5b1
          obtain ⟨x6_1, x22_1, rfl, HA, HK1, HO_6, HB⟩ := hrel
          cases gk with
          | zero => exact absurd HA.out (by simp [faults_Print.l0])
          | succ k1 =>
            have H := HA.out
            clear HA
            simp only [faults_Print.l0] at H
            by_cases c9 : x22_1 < (l0.length : Int)
            · rw [if_pos c9] at H
              have c9b0 : decide (x22_1 < (l0.length : Int)) = true := decide_eq_true c9
              clear c9
              by_cases c10 : 0 ≤ x22_1
              · rw [if_pos c10] at H
                have c10b0 : decide (0 ≤ x22_1) = true := decide_eq_true c10
                clear c10
                by_cases c11 : x22_1 < (l0.length : Int)
                · rw [if_pos c11] at H
                  have c11b0 : decide (x22_1 < (l0.length : Int)) = true := decide_eq_true c11
                  clear c11
                  by_cases c12 : 0 ≤ ((rd_T45 l0 x22_1).f0)
                  · rw [if_pos c12] at H
                    have c12b0 := eq_true c12
                    have c12b1 : decide (0 ≤ ((rd_T45 l0 x22_1).f0)) = true := decide_eq_true c12
                    clear c12
                    by_cases c13 : ((rd_T45 l0 x22_1).f0) ≤ (wrap64 (((rd_T45 l0 x22_1).f0) + 1))
                    · rw [if_pos c13] at H
                      have c13b0 := eq_true c13
                      have c13b1 : decide (((rd_T45 l0 x22_1).f0) ≤ (wrap64 (((rd_T45 l0 x22_1).f0) + 1))) = true := decide_eq_true c13
                      by_cases c14 : (wrap64 (((rd_T45 l0 x22_1).f0) + 1)) ≤ 4
                      · rw [if_pos c14] at H
                        have c14b0 := eq_true c14
                        have c14b1 : decide ((wrap64 (((rd_T45 l0 x22_1).f0) + 1)) ≤ 4) = true := decide_eq_true c14
                        by_cases c15 : x22_1 < (x6_1.length : Int)
                        · rw [if_pos c15] at H
                          have c15b0 : decide (x22_1 < (x6_1.length : Int)) = true := decide_eq_true c15
                          clear c15
                          obtain ⟨y114, hy114⟩ : ∃ y_ : List ByteArray, y_ = (x6_1.set (x22_1 : Int).toNat ((⟨#[102, 115, 105, 97]⟩ : ByteArray).extract (((rd_T45 l0 x22_1).f0) : Int).toNat ((wrap64 (((rd_T45 l0 x22_1).f0) + 1)) : Int).toNat)) := ⟨_, rfl⟩
                          replace H : (if ((rd_T45 l0 x22_1).f0) = 1 then ((num_Decimal.f ((rd_T45 l0 x22_1).f1)).bind fun t116 => (if (rdOf ByteArray.empty y114 x22_1).size + t116.size ≤ 9223372036854775807 then (faults_Print.l0 k1 (y114.set (x22_1 : Int).toNat ((rdOf ByteArray.empty y114 x22_1) ++ t116)) l0 (l0.length : Int) (wrap64 (x22_1 + 1))) else (none))) else (faults_Print.l0 k1 y114 l0 (l0.length : Int) (wrap64 (x22_1 + 1)))) = some (r1, r2) := by first | (rw [hy114]; with_reducible exact H) | (have H2_ := (Option.bind_some _ _).symm.trans H; rw [hy114]; with_reducible exact H2_) | (have H2_ := (Option.bind_some _ _).symm.trans H; with_reducible exact H2_) | with_reducible exact H | (rw [hy114]; exact H) | exact H
                          have Ny114 := Aside0.mk hy114
                          clear hy114
                          by_cases c17 : ((rd_T45 l0 x22_1).f0) = 1
                          · rw [if_pos c17] at H
                            have c17b0 : (((rd_T45 l0 x22_1).f0) == 1) = true := beq_iff_eq.mpr c17
                            have c17b1 : (((rd_T45 l0 x22_1).f0) != 1) = false := bne_eq_false_iff_eq.mpr c17
                            clear c17
                            replace H := Option.bind_eq_some_iff.mp H
                            obtain ⟨t116, A180, H⟩ := H
                            replace H : (if (rdOf ByteArray.empty y114 x22_1).size + t116.size ≤ 9223372036854775807 then (faults_Print.l0 k1 (y114.set (x22_1 : Int).toNat ((rdOf ByteArray.empty y114 x22_1) ++ t116)) l0 (l0.length : Int) (wrap64 (x22_1 + 1))) else (none)) = some (r1, r2) := H
                            have A18 := Aside0.mk A180
                            clear A180
                            by_cases c19 : (rdOf ByteArray.empty y114 x22_1).size + t116.size ≤ 9223372036854775807
                            · rw [if_pos c19] at H
                              have c19b0 := eq_true c19
                              have c19b1 : decide ((rdOf ByteArray.empty y114 x22_1).size + t116.size ≤ 9223372036854775807) = true := decide_eq_true c19
                              try have c19b2 : (9223372036854775807 < (rdOf ByteArray.empty y114 x22_1).size + t116.size) = False := eq_false (Nat.not_lt.2 c19)
                              obtain ⟨y117, hy117⟩ : ∃ y_ : List ByteArray, y_ = (y114.set (x22_1 : Int).toNat ((rdOf ByteArray.empty y114 x22_1) ++ t116)) := ⟨_, rfl⟩
                              replace H : (faults_Print.l0 k1 y117 l0 (l0.length : Int) (wrap64 (x22_1 + 1))) = some (r1, r2) := by first | (rw [hy117]; with_reducible exact H) | (have H2_ := (Option.bind_some _ _).symm.trans H; rw [hy117]; with_reducible exact H2_) | (have H2_ := (Option.bind_some _ _).symm.trans H; with_reducible exact H2_) | with_reducible exact H | (rw [hy117]; exact H) | exact H
                              have Ny117 := Aside0.mk hy117
                              clear hy117
                              have H' := Aside0.mk H
                              clear H
                              have p112 : 0 ≤ (x22_1 : Int) := of_decide_eq_true (by first | (with_reducible assumption) | assumption)
                              have q112 : x22_1 < (l0.length : Int) := of_decide_eq_true (by first | (with_reducible assumption) | assumption)
                              obtain ⟨ad112, e112, hx112_0, hx112_1⟩ := at_T45 HR0.out x22_1 p112 q112
                              cases e112
                              replace hx112_0 := (HB.out.cell (World.block_lt_of_cell? w _ hx112_0)).trans hx112_0
                              replace hx112_1 := (HB.out.cell (World.block_lt_of_cell? w _ hx112_1)).trans hx112_1
                              replace p112 := eq_true p112
                              replace q112 := eq_true q112
                              try go_wp2_with (first | ((with_reducible refine gate_dst (N := 8) rfl ?_); refine box_event ?hg (N := 8) ?hd (cs := #[.int .i64 0, .int .i64 0]) (t := 45) ?hr ?_; (case hd => rfl); (case hg => rfl); (case hr => first | (go_simp; done) | (go_simp; rfl)); intro gb113 hg w21 hbox hb; have n0_ := Aside0.mk (Kd.R_below (by (with_reducible repeat (first | apply Kd.R_alloc | apply Kd.R_drewN | apply Kd.R_drew)); exact HO_6.out) hb); have n1_ := Aside0.mk (below_step (by repeat (first | (with_reducible first | exact HB.out | apply below_alloc | apply pw_below_drewN | apply below_drew1) | exact HB.out)) hb); have n2_ := Aside0.mk (hbox); have n3_ := Aside0.mk ((by rw [hg]; exact (below_size (by repeat (first | (with_reducible first | exact HB.out | apply below_alloc | apply pw_below_drewN | apply below_drew1) | exact HB.out))) : w.heap.size ≤ gb113)); have n4_ := Aside0.mk ((by rw [hg]; exact (below_size (by repeat (first | (with_reducible first | exact HB.out | apply below_alloc | apply pw_below_drewN | apply below_drew1) | exact HB.out))) : w.heap.size ≤ gb113)); clear HO_6; clear HB; have HO_6 := n0_; have HB := n1_; have BK113 := n2_; have GW113 := n3_; have GE113 := n4_; clear n0_ n1_ n2_ n3_ n4_; clear hb hbox hg; have hcz22_0 : w21.cell? ⟨gb113, 0, none⟩ = some (.int .i64 0) := (blk_cell BK113.out 0).trans rfl; have hcz22_1 : w21.cell? ⟨gb113, 1, none⟩ = some (.int .i64 0) := (blk_cell BK113.out 1).trans rfl; have hfz22_0 := blk_frozen BK113.out 0; have hfz22_1 := blk_frozen BK113.out 1) | ((with_reducible refine gate_store (t := 45) (p := 8) rfl ?_); refine store_event (t := 45) (p := 8) (v := ?vo_w23) (w1 := ((w21.setCell ⟨gb113, 0, none⟩ (.int .i64 ((rd_T45 l0 x22_1).f0))).setCell ⟨gb113, 1, none⟩ (.int .i64 ((rd_T45 l0 x22_1).f1)))) ?hg ?ho ?hn ?hr ?_; (case ho => rfl); (case hg => rfl); (case hn => rfl); (case hr => first | (go_simp; done) | (go_simp; rfl)); intro w23 hw; have n0_ : Aside0 (Kd.R Kd.string 9 w23 w.heap.size (fun _ => True) v110 x6_1) := ⟨(by rw [hw]; exact (by (with_reducible repeat (first | apply Kd.R_alloc | apply Kd.R_drewN | apply Kd.R_drew)); exact Kd.R_mono (Kd.R_far (p := ⟨gb113, 1, none⟩) (Kd.R_far (p := ⟨gb113, 0, none⟩) (Kd.R_types HO_6.out BK113.out (by decide)) (fun _ hk => hk.2) (.int .i64 ((rd_T45 l0 x22_1).f0))) (fun _ hk => hk.2) (.int .i64 ((rd_T45 l0 x22_1).f1))) (fun _ hk => trivial)))⟩; have n1_ : Aside0 (w23.heap[gb113]? = some (.cells #[.int .i64 ((rd_T45 l0 x22_1).f0), .int .i64 ((rd_T45 l0 x22_1).f1)] 45 (0, 0))) := ⟨(by rw [hw]; exact (by (with_reducible repeat (first | refine blk_drewN ?_ _ | refine blk_drew ?_ | refine blk_alloc ?_ _)); refine blk_put (cs := #[.int .i64 ((rd_T45 l0 x22_1).f0), .int .i64 0]) ?_ 1 _ rfl; (with_reducible repeat (first | refine blk_drewN ?_ _ | refine blk_drew ?_ | refine blk_alloc ?_ _)); refine blk_put (cs := #[.int .i64 0, .int .i64 0]) ?_ 0 _ rfl; (with_reducible repeat (first | refine blk_drewN ?_ _ | refine blk_drew ?_ | refine blk_alloc ?_ _)); exact BK113.out))⟩; have n2_ : Aside0 (Below w.heap.size w w23) := ⟨(by rw [hw]; exact (by repeat (first | (with_reducible first | exact HB.out | apply below_alloc | apply pw_below_drewN | apply below_drew1 | refine below_set ?_ GE113.out) | exact HB.out)))⟩; clear hw; clear HO_6; clear BK113; clear HB; have HO_6 := n0_; have BK113 := n1_; have HB := n2_; clear n0_ n1_ n2_; have hcz24_0 : w23.cell? ⟨gb113, 0, none⟩ = some (.int .i64 ((rd_T45 l0 x22_1).f0)) := (blk_cell BK113.out 0).trans rfl; have hcz24_1 : w23.cell? ⟨gb113, 1, none⟩ = some (.int .i64 ((rd_T45 l0 x22_1).f1)) := (blk_cell BK113.out 1).trans rfl; have hfz24_0 := blk_frozen BK113.out 0; have hfz24_1 := blk_frozen BK113.out 1; have p16 : 0 ≤ (x22_1 : Int) := of_decide_eq_true (by first | (with_reducible assumption) | assumption); have q16 : (x22_1 : Int) < ((x6_1.length : Int) : Int) := of_decide_eq_true (by first | (with_reducible assumption) | assumption); obtain ⟨go16, co16, eo16, gb16, gl16, cl16, HG16⟩ := Kd.R_form HO_6.out (by omega); (first | cases eo16 | (injection eo16 with ea_ en_ ec_; (first | subst ea_ | (injection ea_ with ea_; subst ea_)); subst ec_; clear en_)); have GB16 := Aside0.mk gb16; have GG16 := Aside0.mk HG16; clear gb16 gl16 HG16; obtain ⟨hx16_0, hf16_0⟩ := Kd.R_celln (⟨#[]⟩ : ByteArray) HO_6.out (x22_1 : Int) p16 q16; replace p16 := eq_true p16; replace q16 := eq_true q16; obtain ⟨hy25_, hz25_⟩ := Kd.R_celln (⟨#[]⟩ : ByteArray) HO_6.out (x22_1 : Int) (of_decide_eq_true (by first | (with_reducible assumption) | assumption)) (of_decide_eq_true (by first | (with_reducible assumption) | assumption)); have HP25 := Kd.R_putg HO_6.out (x22_1 : Int) ((⟨#[102, 115, 105, 97]⟩ : ByteArray).extract (((rd_T45 l0 x22_1).f0) : Int).toNat ((wrap64 (((rd_T45 l0 x22_1).f0) + 1)) : Int).toNat)) | ((with_reducible refine gate_store (t := 9) (p := 35) rfl ?_); refine store_event (t := 9) (p := 35) (v := ?vo_w26) (w1 := (w23.setCell ⟨go16, (x22_1 : Int).toNat, none⟩ (.string ((⟨#[102, 115, 105, 97]⟩ : ByteArray).extract (((rd_T45 l0 x22_1).f0) : Int).toNat ((wrap64 (((rd_T45 l0 x22_1).f0) + 1)) : Int).toNat)))) ?hg ?ho ?hn ?hr ?_; (case ho => rfl); (case hg => rfl); (case hn => rfl); (case hr => first | (go_simp; done) | (go_simp; rfl)); intro w26 hw; have hg : w23.grownBy w26 (some go16) := (by rw [hw]; exact HP25.2); have hp_ : Kd.R Kd.string 9 w26 w.heap.size (fun _ => True) (.slice (some ⟨go16, 0, none⟩) x6_1.length co16) y114 := (by rw [hw, Ny114.out]; exact HP25.1); clear HP25; have n0_ := Aside0.mk (hp_); have n1_ := Aside0.mk (blk_grown (g := gb113) (o := .cells #[.int .i64 ((rd_T45 l0 x22_1).f0), .int .i64 ((rd_T45 l0 x22_1).f1)] 45 (0, 0)) (by (with_reducible repeat (first | refine blk_drewN ?_ _ | refine blk_drew ?_ | refine blk_alloc ?_ _)); exact BK113.out) hg (Kd.R_ne HO_6.out BK113.out (by decide))); have n2_ := Aside0.mk ((by rw [hw]; exact below_set (HB.out) GB16.out : Below w.heap.size w w26)); clear HO_6; clear BK113; clear HB; have HO_6 := n0_; have BK113 := n1_; have HB := n2_; clear n0_ n1_ n2_; clear hg hw hp_; have hcz27_0 : w26.cell? ⟨gb113, 0, none⟩ = some (.int .i64 ((rd_T45 l0 x22_1).f0)) := (blk_cell BK113.out 0).trans rfl; have hcz27_1 : w26.cell? ⟨gb113, 1, none⟩ = some (.int .i64 ((rd_T45 l0 x22_1).f1)) := (blk_cell BK113.out 1).trans rfl; have hfz27_0 := blk_frozen BK113.out 0; have hfz27_1 := blk_frozen BK113.out 1))
                              have n0_ := Aside0.mk (Kd.R_drew HO_6.out)
                              have n1_ := Aside0.mk (blk_drew BK113.out)
                              have n2_ := Aside0.mk (below_drew1 HB.out)
                              clear HO_6
                              clear BK113
                              clear HB
                              have HO_6 := n0_
                              have BK113 := n1_
                              have HB := n2_
                              clear n0_ n1_ n2_
                              have p115 : 0 ≤ (x22_1 : Int) := of_decide_eq_true (by first | (with_reducible assumption) | assumption)
                              have q115 : x22_1 < (y114.length : Int) := (by have h_ : (x22_1 : Int) < ((x6_1.length : Int) : Int) := of_decide_eq_true (by first | (with_reducible assumption) | assumption); first | (have e_ := (Kd.R_reads' HO_6.out).1; omega) | simpa only [Ny114.out, List.length_set] using h_)
                              have ql115 : ((x22_1 : Int) < ((x6_1.length : Int) : Int)) = True := eq_true (of_decide_eq_true (by first | (with_reducible assumption) | assumption))
                              obtain ⟨ad115, e115, hx115_0⟩ := Kd.at_string (Kd.R_reads' HO_6.out).2.2 x22_1 p115 q115
                              obtain rfl : (⟨go16, 0, none⟩ : Addr) = ad115 := (by injection e115)
                              (first | simp only [add_plain] at hx115_0 | simp only [add_at] at hx115_0 | simp only [Addr.add, Nat.zero_add] at hx115_0 | skip)
                              replace p115 := eq_true p115
                              replace q115 := eq_true q115
                              refine start_ (n := 10) (S := fun w' => w'.cell? ⟨gb113, 0, none⟩ = some (.int .i64 ((rd_T45 l0 x22_1).f0)) ∧ w'.cell? ⟨gb113, 1, none⟩ = some (.int .i64 ((rd_T45 l0 x22_1).f1)) ∧ w'.cell? ⟨go16, (x22_1).toNat, none⟩ = some (.string (rdOf ByteArray.empty y114 x22_1))) (ds := [9]) #[false, false, false, false, false, false, false, false, false, false] (by kernel_rfl) rfl rfl ⟨(blk_cell BK113.out 0).trans rfl, (blk_cell BK113.out 1).trans rfl, hx115_0⟩ (fun hHeld => ?_); refine with_tabW faults_Print.tab10 faults_Print.bits10 (fun HT_ HW_ => ?_)
                              generalize w26.drew = w28 at HO_6 BK113 HB hx115_0 hHeld ⊢
                              refine pure_ (i := 0) (N := some 39) (v := ?_) (a' := ?_) #[true, false, false, false, false, false, false, false, false, false] rfl rfl (any_of HT_.out (by kernel_rfl)) (fun _ _ _ h => h) (Or.inl ⟨by rfl, ?_⟩) ?_ ?_
                              rotate_left
                              · intro w'
                                go_simp
                                with_reducible rfl
                              rotate_left
                              · simp only [Act.put, List.setIfInBounds_toArray, List.set_cons_zero, List.set_cons_succ, i64_w, i32_w]
                                rfl
                              refine pure_ (i := 1) (N := some 40) (v := ?_) (a' := ?_) #[true, true, false, false, false, false, false, false, false, false] rfl rfl (any_of HT_.out (by kernel_rfl)) (fun _ _ _ h => h) (Or.inl ⟨by rfl, ?_⟩) ?_ ?_
                              rotate_left
                              · intro w'
                                go_simp
                                with_reducible rfl
                              rotate_left
                              · simp only [Act.put, List.setIfInBounds_toArray, List.set_cons_zero, List.set_cons_succ, i64_w, i32_w]
                                rfl
                              refine pure_ (i := 2) (N := some 41) (v := ?_) (a' := ?_) #[true, true, true, false, false, false, false, false, false, false] rfl rfl (any_of HT_.out (by kernel_rfl)) (fun _ _ _ h => h) (Or.inl ⟨by rfl, ?_⟩) ?_ ?_
                              rotate_left
                              · intro w'
                                go_simp
                                with_reducible rfl
                              rotate_left
                              · simp only [Act.put, List.setIfInBounds_toArray, List.set_cons_zero, List.set_cons_succ, i64_w, i32_w]
                                rfl
                              refine pure_ (i := 4) (N := some 43) (v := ?_) (a' := ?_) #[true, true, true, false, true, false, false, false, false, false] rfl rfl (any_of HT_.out (by kernel_rfl)) (fun _ _ _ h => h) (Or.inl ⟨by rfl, ?_⟩) ?_ ?_
                              rotate_left
                              · intro w'
                                go_simp
                                with_reducible rfl
                              rotate_left
                              · simp only [Act.put, List.setIfInBounds_toArray, List.set_cons_zero, List.set_cons_succ, i64_w, i32_w]
                                rfl
                              refine take_ (i := 3) (N := some 42) (v := ?_) (a' := ?_) #[true, true, true, true, true, false, false, false, false, false] rfl rfl (take_ofW HT_.out HW_.out (by kernel_rfl)) (fun _ _ _ h => h) (Or.inl ⟨by rfl, ?_⟩) hHeld ?_ ?_
                              rotate_left
                              · rintro w' ⟨s0, s1, s2⟩
                                go_simp
                                with_reducible rfl
                              rotate_left
                              · simp only [Act.put, List.setIfInBounds_toArray, List.set_cons_zero, List.set_cons_succ, i64_w, i32_w]
                                rfl
                              refine take_ (i := 5) (N := some 44) (v := ?_) (a' := ?_) #[true, true, true, true, true, true, false, false, false, false] rfl rfl (take_ofW HT_.out HW_.out (by kernel_rfl)) (fun _ _ _ h => h) (Or.inl ⟨by rfl, ?_⟩) hHeld ?_ ?_
                              rotate_left
                              · rintro w' ⟨s0, s1, s2⟩
                                go_simp
                                with_reducible rfl
                              rotate_left
                              · simp only [Act.put, List.setIfInBounds_toArray, List.set_cons_zero, List.set_cons_succ, i64_w, i32_w]
                                rfl
                              refine one_ (i := 6) (N := some 45) #[true, true, true, true, true, true, true, false, false, false] rfl rfl (one_of HT_.out (by kernel_rfl)) (by decide) (fun K hK => ?_)
                              refine goes_ Try.func19 (by kernel_rfl) rfl #[.int .i64 ((rd_T45 l0 x22_1).f1)] (by rfl) rfl rfl (by (try simp only [List.map_toArray, List.map_cons, List.map_nil]); first | done | rfl | (simp only [List.length_drop, List.length_take]; rfl)) ?_
                              with_reducible refine (num_Decimal.calls ((rd_T45 l0 x22_1).f1) t116 _ A18.out).mono ?_
                              rintro e w29 ⟨rfl, hb⟩
                              have HS2_ := (hb.cell (World.block_lt_of_cell? _ _ (hHeld.2.2))).trans (hHeld.2.2)
                              refine ⟨_, rfl, ?_⟩
                              have n0_ := Aside0.mk (Kd.R_below (by (with_reducible repeat (first | apply Kd.R_alloc | apply Kd.R_drewN | apply Kd.R_drew)); exact HO_6.out) hb)
                              have n1_ := Aside0.mk (blk_below (g := gb113) (o := .cells #[.int .i64 ((rd_T45 l0 x22_1).f0), .int .i64 ((rd_T45 l0 x22_1).f1)] 45 (0, 0)) (by (with_reducible repeat (first | refine blk_drewN ?_ _ | refine blk_drew ?_ | refine blk_alloc ?_ _)); exact BK113.out) hb)
                              have n2_ := Aside0.mk (below_step (by repeat (first | (with_reducible first | exact HB.out | apply below_alloc | apply pw_below_drewN | apply below_drew1 | refine below_set ?_ GE113.out) | exact HB.out)) hb)
                              clear HO_6
                              clear BK113
                              clear HB
                              have HO_6 := n0_
                              have BK113 := n1_
                              have HB := n2_
                              clear n0_ n1_ n2_
                              (try clear hb)
                              (try clear hb2)
                              (try clear hk)
                              (try clear hi)
                              have p20 : 0 ≤ (x22_1 : Int) := of_decide_eq_true (by first | (with_reducible assumption) | assumption)
                              have q20 : (x22_1 : Int) < ((x6_1.length : Int) : Int) := of_decide_eq_true (by first | (with_reducible assumption) | assumption)
                              obtain ⟨hx20_0, hf20_0⟩ := Kd.R_celln (⟨#[]⟩ : ByteArray) HO_6.out (x22_1 : Int) p20 q20
                              replace p20 := eq_true p20
                              replace q20 := eq_true q20
                              have HP30 := Kd.R_putn HO_6.out (x22_1 : Int) ((rdOf ByteArray.empty y114 x22_1) ++ t116)
                              rw [← Ny117.out] at HP30
                              have HQ30 := Aside0.mk HP30
                              clear HP30
                              refine hK.out _ _ ⟨(blk_cell BK113.out 0).trans rfl, (blk_cell BK113.out 1).trans rfl, HS2_⟩ (fun hHeld => ?_)
                              clear hK K
                              refine norm_ (a' := ?_) ?_ ?_
                              rotate_left
                              · show Act.put _ (some 45) _ = _
                                simp only [Act.put, List.setIfInBounds_toArray, List.set_cons_zero, List.set_cons_succ, i64_w, i32_w]
                                rfl
                              refine pure_ (i := 7) (N := some 46) (v := ?_) (a' := ?_) #[true, true, true, true, true, true, true, true, false, false] rfl rfl (any_of HT_.out (by kernel_rfl)) (fun _ _ _ h => h) (Or.inl ⟨by rfl, ?_⟩) ?_ ?_
                              rotate_left
                              · intro w'
                                go_simp
                                with_reducible rfl
                              rotate_left
                              · simp only [Act.put, List.setIfInBounds_toArray, List.set_cons_zero, List.set_cons_succ, i64_w, i32_w]
                                rfl
                              refine pure_ (i := 8) (N := some 47) (v := ?_) (a' := ?_) #[true, true, true, true, true, true, true, true, true, false] rfl rfl (any_of HT_.out (by kernel_rfl)) (fun _ _ _ h => h) (Or.inl ⟨by rfl, ?_⟩) ?_ ?_
                              rotate_left
                              · intro w'
                                go_simp
                                with_reducible rfl
                              rotate_left
                              · simp only [Act.put, List.setIfInBounds_toArray, List.set_cons_zero, List.set_cons_succ, i64_w, i32_w]
                                rfl
                              refine last_ (i := 9) (N := none) #[true, true, true, true, true, true, true, true, true, true] rfl rfl (one_of HT_.out (by kernel_rfl)) (by decide) (fun K hK => ?_)
                              refine skip_ (w1 := ?_) (by rfl) rfl ?_ ?_
                              rotate_left
                              · go_simp
                                rfl
                              refine hK.out _ _ ?_
                              clear hK K
                              refine done_ (done_of HT_.out (by kernel_rfl)) ?_
                              try go_wp2
                              go_roundg k1
                              case measure => have := HK1.out; omega
                              case rel => exact ⟨(y117), (wrap64 (x22_1 + 1)), (by first | rfl | (simp; done) | (simp [*]; done)), H', ⟨by have := HK1.out; omega⟩, ⟨by (with_reducible repeat (first | apply Kd.R_alloc | apply Kd.R_drewN | apply Kd.R_drew)); exact HQ30.out⟩, ⟨by repeat (first | (with_reducible first | exact HB.out | apply below_alloc | apply pw_below_drewN | apply below_drew1 | refine below_set ?_ GB16.out | refine below_set ?_ GE113.out) | exact HB.out)⟩⟩
                            · rw [if_neg c19] at H
                              exact absurd H (by simp)
                          · rw [if_neg c17] at H
                            have c17b0 : (((rd_T45 l0 x22_1).f0) == 1) = false := beq_eq_false_iff_ne.mpr c17
                            have c17b1 : (((rd_T45 l0 x22_1).f0) != 1) = true := bne_iff_ne.mpr c17
                            have H' := Aside0.mk H
                            clear H
                            have p112 : 0 ≤ (x22_1 : Int) := of_decide_eq_true (by first | (with_reducible assumption) | assumption)
                            have q112 : x22_1 < (l0.length : Int) := of_decide_eq_true (by first | (with_reducible assumption) | assumption)
                            obtain ⟨ad112, e112, hx112_0, hx112_1⟩ := at_T45 HR0.out x22_1 p112 q112
                            cases e112
                            replace hx112_0 := (HB.out.cell (World.block_lt_of_cell? w _ hx112_0)).trans hx112_0
                            replace hx112_1 := (HB.out.cell (World.block_lt_of_cell? w _ hx112_1)).trans hx112_1
                            replace p112 := eq_true p112
                            replace q112 := eq_true q112
                            go_wp2_with (first | ((with_reducible refine gate_dst (N := 8) rfl ?_); refine box_event ?hg (N := 8) ?hd (cs := #[.int .i64 0, .int .i64 0]) (t := 45) ?hr ?_; (case hd => rfl); (case hg => rfl); (case hr => first | (go_simp; done) | (go_simp; rfl)); intro gb113 hg w31 hbox hb; have n0_ := Aside0.mk (Kd.R_below (by (with_reducible repeat (first | apply Kd.R_alloc | apply Kd.R_drewN | apply Kd.R_drew)); exact HO_6.out) hb); have n1_ := Aside0.mk (below_step (by repeat (first | (with_reducible first | exact HB.out | apply below_alloc | apply pw_below_drewN | apply below_drew1) | exact HB.out)) hb); have n2_ := Aside0.mk (hbox); have n3_ := Aside0.mk ((by rw [hg]; exact (below_size (by repeat (first | (with_reducible first | exact HB.out | apply below_alloc | apply pw_below_drewN | apply below_drew1) | exact HB.out))) : w.heap.size ≤ gb113)); have n4_ := Aside0.mk ((by rw [hg]; exact (below_size (by repeat (first | (with_reducible first | exact HB.out | apply below_alloc | apply pw_below_drewN | apply below_drew1) | exact HB.out))) : w.heap.size ≤ gb113)); clear HO_6; clear HB; have HO_6 := n0_; have HB := n1_; have BK113 := n2_; have GW113 := n3_; have GE113 := n4_; clear n0_ n1_ n2_ n3_ n4_; clear hb hbox hg; have hcz32_0 : w31.cell? ⟨gb113, 0, none⟩ = some (.int .i64 0) := (blk_cell BK113.out 0).trans rfl; have hcz32_1 : w31.cell? ⟨gb113, 1, none⟩ = some (.int .i64 0) := (blk_cell BK113.out 1).trans rfl; have hfz32_0 := blk_frozen BK113.out 0; have hfz32_1 := blk_frozen BK113.out 1) | ((with_reducible refine gate_store (t := 45) (p := 8) rfl ?_); refine store_event (t := 45) (p := 8) (v := ?vo_w33) (w1 := ((w31.setCell ⟨gb113, 0, none⟩ (.int .i64 ((rd_T45 l0 x22_1).f0))).setCell ⟨gb113, 1, none⟩ (.int .i64 ((rd_T45 l0 x22_1).f1)))) ?hg ?ho ?hn ?hr ?_; (case ho => rfl); (case hg => rfl); (case hn => rfl); (case hr => first | (go_simp; done) | (go_simp; rfl)); intro w33 hw; have n0_ : Aside0 (Kd.R Kd.string 9 w33 w.heap.size (fun _ => True) v110 x6_1) := ⟨(by rw [hw]; exact (by (with_reducible repeat (first | apply Kd.R_alloc | apply Kd.R_drewN | apply Kd.R_drew)); exact Kd.R_mono (Kd.R_far (p := ⟨gb113, 1, none⟩) (Kd.R_far (p := ⟨gb113, 0, none⟩) (Kd.R_types HO_6.out BK113.out (by decide)) (fun _ hk => hk.2) (.int .i64 ((rd_T45 l0 x22_1).f0))) (fun _ hk => hk.2) (.int .i64 ((rd_T45 l0 x22_1).f1))) (fun _ hk => trivial)))⟩; have n1_ : Aside0 (w33.heap[gb113]? = some (.cells #[.int .i64 ((rd_T45 l0 x22_1).f0), .int .i64 ((rd_T45 l0 x22_1).f1)] 45 (0, 0))) := ⟨(by rw [hw]; exact (by (with_reducible repeat (first | refine blk_drewN ?_ _ | refine blk_drew ?_ | refine blk_alloc ?_ _)); refine blk_put (cs := #[.int .i64 ((rd_T45 l0 x22_1).f0), .int .i64 0]) ?_ 1 _ rfl; (with_reducible repeat (first | refine blk_drewN ?_ _ | refine blk_drew ?_ | refine blk_alloc ?_ _)); refine blk_put (cs := #[.int .i64 0, .int .i64 0]) ?_ 0 _ rfl; (with_reducible repeat (first | refine blk_drewN ?_ _ | refine blk_drew ?_ | refine blk_alloc ?_ _)); exact BK113.out))⟩; have n2_ : Aside0 (Below w.heap.size w w33) := ⟨(by rw [hw]; exact (by repeat (first | (with_reducible first | exact HB.out | apply below_alloc | apply pw_below_drewN | apply below_drew1 | refine below_set ?_ GE113.out) | exact HB.out)))⟩; clear hw; clear HO_6; clear BK113; clear HB; have HO_6 := n0_; have BK113 := n1_; have HB := n2_; clear n0_ n1_ n2_; have hcz34_0 : w33.cell? ⟨gb113, 0, none⟩ = some (.int .i64 ((rd_T45 l0 x22_1).f0)) := (blk_cell BK113.out 0).trans rfl; have hcz34_1 : w33.cell? ⟨gb113, 1, none⟩ = some (.int .i64 ((rd_T45 l0 x22_1).f1)) := (blk_cell BK113.out 1).trans rfl; have hfz34_0 := blk_frozen BK113.out 0; have hfz34_1 := blk_frozen BK113.out 1; have p16 : 0 ≤ (x22_1 : Int) := of_decide_eq_true (by first | (with_reducible assumption) | assumption); have q16 : (x22_1 : Int) < ((x6_1.length : Int) : Int) := of_decide_eq_true (by first | (with_reducible assumption) | assumption); obtain ⟨go16, co16, eo16, gb16, gl16, cl16, HG16⟩ := Kd.R_form HO_6.out (by omega); (first | cases eo16 | (injection eo16 with ea_ en_ ec_; (first | subst ea_ | (injection ea_ with ea_; subst ea_)); subst ec_; clear en_)); have GB16 := Aside0.mk gb16; have GG16 := Aside0.mk HG16; clear gb16 gl16 HG16; obtain ⟨hx16_0, hf16_0⟩ := Kd.R_celln (⟨#[]⟩ : ByteArray) HO_6.out (x22_1 : Int) p16 q16; replace p16 := eq_true p16; replace q16 := eq_true q16; obtain ⟨hy35_, hz35_⟩ := Kd.R_celln (⟨#[]⟩ : ByteArray) HO_6.out (x22_1 : Int) (of_decide_eq_true (by first | (with_reducible assumption) | assumption)) (of_decide_eq_true (by first | (with_reducible assumption) | assumption)); have HP35 := Kd.R_putg HO_6.out (x22_1 : Int) ((⟨#[102, 115, 105, 97]⟩ : ByteArray).extract (((rd_T45 l0 x22_1).f0) : Int).toNat ((wrap64 (((rd_T45 l0 x22_1).f0) + 1)) : Int).toNat)) | ((with_reducible refine gate_store (t := 9) (p := 35) rfl ?_); refine store_event (t := 9) (p := 35) (v := ?vo_w36) (w1 := (w33.setCell ⟨go16, (x22_1 : Int).toNat, none⟩ (.string ((⟨#[102, 115, 105, 97]⟩ : ByteArray).extract (((rd_T45 l0 x22_1).f0) : Int).toNat ((wrap64 (((rd_T45 l0 x22_1).f0) + 1)) : Int).toNat)))) ?hg ?ho ?hn ?hr ?_; (case ho => rfl); (case hg => rfl); (case hn => rfl); (case hr => first | (go_simp; done) | (go_simp; rfl)); intro w36 hw; have hg : w33.grownBy w36 (some go16) := (by rw [hw]; exact HP35.2); have hp_ : Kd.R Kd.string 9 w36 w.heap.size (fun _ => True) (.slice (some ⟨go16, 0, none⟩) x6_1.length co16) y114 := (by rw [hw, Ny114.out]; exact HP35.1); clear HP35; have n0_ := Aside0.mk (hp_); have n1_ := Aside0.mk (blk_grown (g := gb113) (o := .cells #[.int .i64 ((rd_T45 l0 x22_1).f0), .int .i64 ((rd_T45 l0 x22_1).f1)] 45 (0, 0)) (by (with_reducible repeat (first | refine blk_drewN ?_ _ | refine blk_drew ?_ | refine blk_alloc ?_ _)); exact BK113.out) hg (Kd.R_ne HO_6.out BK113.out (by decide))); have n2_ := Aside0.mk ((by rw [hw]; exact below_set (HB.out) GB16.out : Below w.heap.size w w36)); clear HO_6; clear BK113; clear HB; have HO_6 := n0_; have BK113 := n1_; have HB := n2_; clear n0_ n1_ n2_; clear hg hw hp_; have hcz37_0 : w36.cell? ⟨gb113, 0, none⟩ = some (.int .i64 ((rd_T45 l0 x22_1).f0)) := (blk_cell BK113.out 0).trans rfl; have hcz37_1 : w36.cell? ⟨gb113, 1, none⟩ = some (.int .i64 ((rd_T45 l0 x22_1).f1)) := (blk_cell BK113.out 1).trans rfl; have hfz37_0 := blk_frozen BK113.out 0; have hfz37_1 := blk_frozen BK113.out 1))
                            go_roundg k1
                            case measure => have := HK1.out; omega
                            case rel => exact ⟨(y114), (wrap64 (x22_1 + 1)), (by first | rfl | (simp; done) | (simp [*]; done)), H', ⟨by have := HK1.out; omega⟩, ⟨by (with_reducible repeat (first | apply Kd.R_alloc | apply Kd.R_drewN | apply Kd.R_drew)); exact HO_6.out⟩, ⟨by repeat (first | (with_reducible first | exact HB.out | apply below_alloc | apply pw_below_drewN | apply below_drew1 | refine below_set ?_ GE113.out) | exact HB.out)⟩⟩
                        · rw [if_neg c15] at H
                          exact absurd H (by simp)
                      · rw [if_neg c14] at H
                        exact absurd H (by simp)
                    · rw [if_neg c13] at H
                      exact absurd H (by simp)
                  · rw [if_neg c12] at H
                    exact absurd H (by simp)
                · rw [if_neg c11] at H
                  exact absurd H (by simp)
              · rw [if_neg c10] at H
                exact absurd H (by simp)
            · rw [if_neg c9] at H
              have c9b0 : decide (x22_1 < (l0.length : Int)) = false := decide_eq_false c9
              clear c9
              replace H := Option.bind_eq_some_iff.mp H
              obtain ⟨t118, A380, H⟩ := H
              replace H : (some (t118, 0)) = some (r1, r2) := H
              have A38 := Aside0.mk A380
              clear A380
              simp only [Option.some.injEq, Prod.mk.injEq] at H
              obtain ⟨rfl, rfl⟩ := H
              obtain ⟨Ao39, co39, eo39⟩ := Kd.R_slice HO_6.out
              subst eo39
              go_wp2_with (first | ((with_reducible refine gate_callee (f := 20) rfl ?_); refine goesL_ (some 50) rfl rfl Try.func20 (by kernel_rfl) rfl #[.slice Ao39 x6_1.length co39, .string (⟨#[32]⟩ : ByteArray)] rfl (by (try simp only [List.map_toArray, List.map_cons, List.map_nil]); first | done | rfl | (simp only [List.length_drop, List.length_take]; rfl)) ?_; (with_reducible refine (strings_Join.calls _ _ x6_1 (⟨#[32]⟩ : ByteArray) t118 _ ?side1 ?side2 A38.out).mono ?_); (case side1 => repeat (first | exact (Kd.R_reads' HO_6.out).2.2 | (with_reducible refine Kd.C_alloc ?_ _) | (with_reducible refine Kd.C_drewN ?_ _) | (with_reducible refine Kd.C_drew ?_))); (case side2 => exact (Kd.R_reads' HO_6.out).2.1); rintro e w40 ⟨rfl, hb⟩; refine ⟨_, rfl, ?_⟩; have n0_ := Aside0.mk (Kd.R_below (by (with_reducible repeat (first | apply Kd.R_alloc | apply Kd.R_drewN | apply Kd.R_drew)); exact HO_6.out) hb); have n1_ := Aside0.mk (below_step (by repeat (first | (with_reducible first | exact HB.out | apply below_alloc | apply pw_below_drewN | apply below_drew1) | exact HB.out)) hb); clear HO_6; clear HB; have HO_6 := n0_; have HB := n1_; clear n0_ n1_; (try clear hb); (try clear hb2); (try clear hk); (try clear hi)))
              go_ret2
              exact ⟨by first | rfl | (simp [errW_none, errW_some] <;> rfl) | (simp [*, errW_none, errW_some] <;> rfl), by repeat (first | (with_reducible first | exact HB.out | apply below_alloc | apply pw_below_drewN | apply below_drew1) | exact HB.out)⟩
      · rw [if_neg c5] at H
        exact absurd H (by simp)
    · rw [if_neg c4] at H
      exact absurd H (by simp)
  · rw [if_neg c3] at H
    have c3b0 : (t107 == 0) = false := beq_eq_false_iff_ne.mpr c3
    have c3b1 : (t107 != 0) = true := bne_iff_ne.mpr c3
    simp only [Option.some.injEq, Prod.mk.injEq] at H
    obtain ⟨rfl, rfl⟩ := H
    go_enter Try.func15, Try.ntmps15
    go_wp2_with (first | ((with_reducible refine gate_callee (f := 16) rfl ?_); refine goesL_ (some 11) rfl rfl Try.func16 (by kernel_rfl) rfl #[.slice A0 l0.length c0] rfl (by (try simp only [List.map_toArray, List.map_cons, List.map_nil]); first | done | rfl | (simp only [List.length_drop, List.length_take]; rfl)) ?_; (with_reducible refine (faults_Check.calls _ _ l0 t107 t108 _ ?side1 ?side2 A2.out).mono ?_); (case side1 => repeat (first | exact HR0.out | (with_reducible refine Kd.C_alloc ?_ _) | (with_reducible refine Kd.C_drewN ?_ _) | (with_reducible refine Kd.C_drew ?_))); (case side2 => exact HC0.out); rintro e w41 ⟨rfl, hb⟩; refine ⟨_, rfl, ?_⟩; have n0_ := Aside0.mk (below_step (by repeat (first | (with_reducible first | exact HB.out | apply below_alloc | apply pw_below_drewN | apply below_drew1) | exact HB.out)) hb); clear HB; have HB := n0_; clear n0_; (try clear hb); (try clear hb2); (try clear hk); (try clear hi)))
    go_ret2
    exact ⟨by first | rfl | (simp [errW_none, errW_some] <;> rfl) | (simp [*, errW_none, errW_some] <;> rfl), by repeat (first | (with_reducible first | exact HB.out | apply below_alloc | apply pw_below_drewN | apply below_drew1) | exact HB.out)⟩

/-! ### millracelaw02_alive: function 5 -/
-- STUB millrace/millracelaw02.alive | | bool | 0 | 1 | millracelaw02_alive
/-- A row of faults, in a block of their own type. -/
def RowT (w : World) (A : Option Addr) (l : List S45) : Prop :=
  Kd.C k45 w A l.length l ∧ ∀ ad, A = some ad → ∃ cs, w.heap[ad.block]? = some (.cells cs 45 (0, 0))
/-- Blocks that hold no faults. -/
def NoRow (w : World) (S : Nat → Prop) : Prop := ∀ k, S k → ∀ cs, w.heap[k]? ≠ some (.cells cs 45 (0, 0))
theorem RowT.kept {w W : World} {A : Option Addr} {l : List S45} {S : Nat → Prop} (h : RowT w A l) (hk : Kept w W S) (hS : NoRow w S) : RowT W A l := by
  obtain ⟨⟨h1, h2, h3⟩, h4⟩ := h
  have hsame : ∀ ad, A = some ad → W.heap[ad.block]? = w.heap[ad.block]? := by
    intro ad e
    obtain ⟨cs, hcs⟩ := h4 ad e
    exact hk.2 ad.block (blk_lt hcs) (fun hs => hS _ hs cs hcs)
  refine ⟨⟨h1, h2, fun hp => ?_⟩, fun ad e => ?_⟩
  · obtain ⟨ad, e, hc⟩ := h3 hp
    refine ⟨ad, e, fun j p hj => ?_⟩
    obtain ⟨c, hc1, hc2, hc3⟩ := hc j p hj
    obtain rfl := k45_open hc2
    refine ⟨_, hc1, k45_mk _ _, fun i u hu => ?_⟩
    have := hc3 i u hu
    have e2 : ∀ x, (ad.add x).block = ad.block := by
      intro x; unfold Addr.add; split <;> rfl
    unfold World.cell? at this ⊢
    rw [e2] at this ⊢
    rw [hsame ad e]
    have e3 : ∀ x, (ad.add x).block = ad.block := e2
    exact this
  · obtain ⟨cs, hcs⟩ := h4 ad e
    exact ⟨cs, (hsame ad e).trans hcs⟩
theorem RowT.nil (w : World) : RowT w none [] := ⟨Kd.C_nil _ _, fun _ e => by cases e⟩
theorem NoRow.one {w : World} {B : Nat} {cs : Array Value} {t : TypeId} (h : w.heap[B]? = some (.cells cs t (0, 0))) (ht : t ≠ 45) : NoRow w (· = B) := by
  rintro k rfl cs' h'
  rw [h] at h'
  cases h'; exact ht rfl
theorem NoRow.none {w : World} : NoRow w (fun _ => False) := fun _ h => h.elim
/-- A plan that was made, in block B, whose faults that are left are l. -/
def PlanAt (w : World) (B : Nat) (l : List S45) : Prop :=
  ∃ A c, w.heap[B]? = some (.cells #[.bool true, .slice A l.length c] 51 (0, 0)) ∧ l.length ≤ c ∧ RowT w A l
theorem PlanAt.keptS {w W : World} {B : Nat} {l : List S45} {S : Nat → Prop} (h : PlanAt w B l) (hk : Kept w W S) (hB : ¬ S B) (hS : NoRow w S) : PlanAt W B l := by
  obtain ⟨A, c, h1, h2, h3⟩ := h
  exact ⟨A, c, blk_kept h1 hk hB, h2, h3.kept hk hS⟩
theorem PlanAt.kept {w W : World} {B : Nat} {l : List S45} (h : PlanAt w B l) (hk : Below w.heap.size w W) : PlanAt W B l :=
  h.keptS (Kept.of_below hk (fun _ => False)) id NoRow.none
theorem PlanAt.noRow {w : World} {B : Nat} {l : List S45} (h : PlanAt w B l) : NoRow w (· = B) := by
  obtain ⟨A, c, h1, _⟩ := h
  exact NoRow.one h1 (by decide)
/-- What a raw call meets, and what is left. -/
def nextOf (l : List S45) (want : Int) : (Int × Int) × List S45 :=
  if want < 1 ∨ 1048576 < want then ((0, 4), l) else match l with
  | [] => ((want, 0), [])
  | f :: r => (if f.f0 = 1 then (min want f.f1, 0) else if f.f0 = 2 then (0, 22) else if f.f0 = 3 then (0, 23) else (want, 0), r)

/-- The world behind a fault that is used up. -/
theorem next_world {w : World} {B n c : Nat} {f : S45} {r : List S45} {ad : Addr}
    (hb : w.heap[B]? = some (.cells #[.bool true, .slice (some ad) (f :: r).length c] 51 (0, 0))) (hc : n ≤ c) (hn : n = (f :: r).length)
    (hrow : RowT w (some ad) (f :: r)) :
    ∀ o W, W = ((w.setCell ⟨B, 1, none⟩ (.slice (if c = 1 then some ad else some { block := ad.block, off := ad.off + 2 }) (n - 1) (c - 1))).alloc o).drew → PlanAt W B r ∧ Kept w W (fun x => x = B) ∧ Below B w W := by
  rintro o W rfl
  have hBl := blk_lt hb
  have hlen : n - 1 = r.length := by rw [hn]; simp
  have hset : (w.setCell ⟨B, 1, none⟩ (.slice (if c = 1 then some ad else some { block := ad.block, off := ad.off + 2 }) (n - 1) (c - 1))).heap[B]? = some (.cells #[.bool true, .slice (if c = 1 then some ad else some { block := ad.block, off := ad.off + 2 }) (n - 1) (c - 1)] 51 (0, 0)) := blk_set hb 1 _
  have hk : Kept w (w.setCell ⟨B, 1, none⟩ (.slice (if c = 1 then some ad else some { block := ad.block, off := ad.off + 2 }) (n - 1) (c - 1))) (fun x => x = B) := Kept.setCell (S := fun x => x = B) (Kept.refl w _) (.inl rfl) _
  have hno : NoRow w (fun x => x = B) := NoRow.one hb (by decide)
  refine ⟨⟨_, _, blk_drew (blk_alloc (by rw [← hlen]; exact hset) o), by omega, ?_⟩, ?_, ?_⟩
  · have hr := hrow.kept (hk.alloc o) hno
    have h := Kd.C_drop (m := 1) (c := c) hr.1 (by simp) (by omega)
    have e : (if c = 1 then some ad else Option.map (fun x : Addr => x.add (1 * k45.sz)) (some ad)) = (if c = 1 then some ad else some { block := ad.block, off := ad.off + 2 }) := by
      split
      · rfl
      · rfl
    rw [e] at h
    refine ⟨h, fun ad' e' => ?_⟩
    obtain ⟨cs, hcs⟩ := hr.2 ad rfl
    have : ad'.block = ad.block := by
      split at e'
      · cases e'; rfl
      · cases e'; rfl
    rw [this]; exact ⟨cs, hcs⟩
  · exact hk.alloc o
  · exact (((Below.refl B w).setCell (Nat.le_refl B) _).alloc (by simp [World.setCell]; omega) o).drew

set_option maxHeartbeats 1000000 in
set_option maxRecDepth 100000 in
theorem faults_Next.calls (B : Nat) (l : List S45) (want : Int) (w : World) (hP : PlanAt w B l) :
    Calls Try.prog 8 #[.pointer (some ⟨B, 0, none⟩), .int .i64 want] w fun e w' => e = .returned (.tuple #[.int .i64 (nextOf l want).1.1, .int .i64 (nextOf l want).1.2]) ∧
      PlanAt w' B (nextOf l want).2 ∧ Kept w w' (· = B) ∧ Below B w w' := by
  have hu := Try.underlying45
  have hu2 := Try.underlying51
  obtain ⟨A, c, hb, hc, hT⟩ := hP
  have hP : PlanAt w B l := ⟨A, c, hb, hc, hT⟩
  have hrow : ∀ W', Kept w W' (· = B) → Kd.C k45 W' A l.length l := fun W' hk => (hT.kept hk hP.noRow).1
  have hBl := blk_lt hb
  have hc0 : w.cell? ⟨B, 0, none⟩ = some (.bool true) := blk_cell hb 0
  have hc1 : w.cell? ⟨B, 1, none⟩ = some (.slice A l.length c) := blk_cell hb 1
  have hf1 : w.frozen? ⟨B, 1, none⟩ = false := blk_frozen hb 1
  by_cases hw1 : want < 1
  · have e : nextOf l want = ((0, 4), l) := by rw [nextOf.eq_def, if_pos (.inl hw1)]
    rw [e]
    have g : decide (want < 1) = true := decide_eq_true hw1
    have HP := Lib.hid hP
    clear hP hrow hT hw1 e
    go_enter Try.func8, Try.ntmps8
    go_wp2
    go_ret2
    exact ⟨rfl, HP.out, Kept.refl _ _, Below.refl _ _⟩
  have g : decide (want < 1) = false := decide_eq_false hw1
  by_cases hw2 : 1048576 < want
  · have e : nextOf l want = ((0, 4), l) := by rw [nextOf.eq_def, if_pos (.inr hw2)]
    rw [e]
    have g2 : decide (1048576 < want) = true := decide_eq_true hw2
    have HP := Lib.hid hP
    clear hP hrow hT hw1 hw2 e
    go_enter Try.func8, Try.ntmps8
    go_wp2
    go_ret2
    exact ⟨rfl, HP.out, Kept.refl _ _, Below.refl _ _⟩
  have g2 : decide (1048576 < want) = false := decide_eq_false hw2
  cases l with
  | nil =>
    have e : nextOf [] want = ((want, 0), []) := by rw [nextOf.eq_def, if_neg (by omega)]
    rw [e]
    have HP := Lib.hid hP
    clear hP hrow hT hw1 hw2 e
    go_enter Try.func8, Try.ntmps8
    go_wp2
    go_ret2
    exact ⟨rfl, HP.out.kept (by repeat (first | exact Below.refl _ _ | apply below_alloc | apply Below.drew)), Kept.of_below (by repeat (first | exact Below.refl _ _ | apply below_alloc | apply Below.drew)) _, ((by repeat (first | exact Below.refl _ _ | apply below_alloc | apply Below.drew) : Below w.heap.size w _)).mono (Nat.le_of_lt hBl)⟩
  | cons f r =>
    obtain ⟨ad, e, hx0, hx1⟩ := at_T45 (hrow w (Kept.refl _ _)) 0 (by omega) (by simp)
    cases e
    have hrd : rd_T45 (f :: r) 0 = f := rfl
    rw [hrd] at hx0 hx1
    replace hx0 : w.cell? ad = some (.int .i64 f.f0) := hx0
    replace hx1 : w.cell? ⟨ad.block, ad.off + 1, none⟩ = some (.int .i64 f.f1) := hx1
    have HROW := Lib.hid hT
    have HP := Lib.hid hP
    have HBL := Lib.hid hb
    clear hrow hrd hP hb hT
    obtain ⟨n, hn⟩ : ∃ n, n = (f :: r).length := ⟨_, rfl⟩
    rw [← hn] at hc1 hc
    have p : decide ((0 : Int) < (n : Int)) = true := by rw [hn]; simp
    have p2 : decide ((1 : Int) ≤ (n : Int)) = true := by rw [hn]; simp; omega
    have p3 : decide ((n : Int) ≤ (c : Int)) = true := by simp; omega
    have p4 : (1 : Int) ≤ (n : Int) := of_decide_eq_true p2
    have p5 : (n : Int) ≤ (c : Int) := of_decide_eq_true p3
    have p6 : (0 : Int) < (n : Int) := of_decide_eq_true p
    have HN := Lib.hid hn
    clear hn
    go_enter Try.func8, Try.ntmps8
    go_wp2
    refine start_ (n := 16) (S := fun w' => w'.cell? ⟨B, 1, none⟩ = some (.slice (some ad) n c) ∧ w'.cell? ad = some (.int .i64 f.f0) ∧ w'.cell? ⟨ad.block, ad.off + 1, none⟩ = some (.int .i64 f.f1)) (ds := [15]) #[false, false, false, false, false, false, false, false, false, false, false, false, false, false, false, false] (by kernel_rfl) rfl rfl ⟨(pw_cell_below (below_alloc (Below.refl _ _) _) hc1), (pw_cell_below (below_alloc (Below.refl _ _) _) hx0), (pw_cell_below (below_alloc (Below.refl _ _) _) hx1)⟩ (fun hHeld => ?_)
    refine pure_ (i := 0) (N := some 28) (v := ?_) (a' := ?_) #[true, false, false, false, false, false, false, false, false, false, false, false, false, false, false, false] rfl rfl (by kernel_rfl) (fun _ _ _ h => h) (Or.inl ⟨by rfl, ?_⟩) ?_ ?_
    rotate_left
    · intro w'
      go_simp
      with_reducible rfl
    rotate_left
    · simp only [Act.put, List.setIfInBounds_toArray, List.set_cons_zero, List.set_cons_succ, i64_w, i32_w]
      rfl
    refine pure_ (i := 1) (N := some 29) (v := ?_) (a' := ?_) #[true, true, false, false, false, false, false, false, false, false, false, false, false, false, false, false] rfl rfl (by kernel_rfl) (fun _ _ _ h => h) (Or.inl ⟨by rfl, ?_⟩) ?_ ?_
    rotate_left
    · intro w'
      go_simp
      with_reducible rfl
    rotate_left
    · simp only [Act.put, List.setIfInBounds_toArray, List.set_cons_zero, List.set_cons_succ, i64_w, i32_w]
      rfl
    refine pure_ (i := 2) (N := some 30) (v := ?_) (a' := ?_) #[true, true, true, false, false, false, false, false, false, false, false, false, false, false, false, false] rfl rfl (by kernel_rfl) (fun _ _ _ h => h) (Or.inl ⟨by rfl, ?_⟩) ?_ ?_
    rotate_left
    · intro w'
      go_simp
      with_reducible rfl
    rotate_left
    · simp only [Act.put, List.setIfInBounds_toArray, List.set_cons_zero, List.set_cons_succ, i64_w, i32_w]
      rfl
    refine pure_ (i := 3) (N := some 31) (v := ?_) (a' := ?_) #[true, true, true, true, false, false, false, false, false, false, false, false, false, false, false, false] rfl rfl (by kernel_rfl) (fun _ _ _ h => h) (Or.inl ⟨by rfl, ?_⟩) ?_ ?_
    rotate_left
    · intro w'
      go_simp
      with_reducible rfl
    rotate_left
    · simp only [Act.put, List.setIfInBounds_toArray, List.set_cons_zero, List.set_cons_succ, i64_w, i32_w]
      rfl
    refine pure_ (i := 7) (N := some 35) (v := ?_) (a' := ?_) #[true, true, true, true, false, false, false, true, false, false, false, false, false, false, false, false] rfl rfl (by kernel_rfl) (fun _ _ _ h => h) (Or.inl ⟨by rfl, ?_⟩) ?_ ?_
    rotate_left
    · intro w'
      go_simp
      with_reducible rfl
    rotate_left
    · simp only [Act.put, List.setIfInBounds_toArray, List.set_cons_zero, List.set_cons_succ, i64_w, i32_w]
      rfl
    refine pure_ (i := 8) (N := some 36) (v := ?_) (a' := ?_) #[true, true, true, true, false, false, false, true, true, false, false, false, false, false, false, false] rfl rfl (by kernel_rfl) (fun _ _ _ h => h) (Or.inl ⟨by rfl, ?_⟩) ?_ ?_
    rotate_left
    · intro w'
      go_simp
      with_reducible rfl
    rotate_left
    · simp only [Act.put, List.setIfInBounds_toArray, List.set_cons_zero, List.set_cons_succ, i64_w, i32_w]
      rfl
    refine pure_ (i := 9) (N := some 37) (v := ?_) (a' := ?_) #[true, true, true, true, false, false, false, true, true, true, false, false, false, false, false, false] rfl rfl (by kernel_rfl) (fun _ _ _ h => h) (Or.inl ⟨by rfl, ?_⟩) ?_ ?_
    rotate_left
    · intro w'
      go_simp
      with_reducible rfl
    rotate_left
    · simp only [Act.put, List.setIfInBounds_toArray, List.set_cons_zero, List.set_cons_succ, i64_w, i32_w]
      rfl
    refine take_ (i := 4) (N := some 32) (v := ?_) (a' := ?_) #[true, true, true, true, true, false, false, true, true, true, false, false, false, false, false, false] rfl rfl (by kernel_rfl) (fun _ _ _ h => h) (Or.inl ⟨by rfl, ?_⟩) hHeld ?_ ?_
    rotate_left
    · rintro w' ⟨s0, s1, s2⟩
      go_simp
      with_reducible rfl
    rotate_left
    · simp only [Act.put, List.setIfInBounds_toArray, List.set_cons_zero, List.set_cons_succ, i64_w, i32_w]
      rfl
    refine pure_ (i := 5) (N := some 33) (v := ?_) (a' := ?_) #[true, true, true, true, true, true, false, true, true, true, false, false, false, false, false, false] rfl rfl (by kernel_rfl) (fun _ _ _ h => h) (Or.inl ⟨by rfl, ?_⟩) ?_ ?_
    rotate_left
    · intro w'
      go_simp
      with_reducible rfl
    rotate_left
    · simp only [Act.put, List.setIfInBounds_toArray, List.set_cons_zero, List.set_cons_succ, i64_w, i32_w]
      rfl
    refine take_ (i := 6) (N := some 34) (v := ?_) (a' := ?_) #[true, true, true, true, true, true, true, true, true, true, false, false, false, false, false, false] rfl rfl (by kernel_rfl) (fun _ _ _ h => h) (Or.inl ⟨by rfl, ?_⟩) hHeld ?_ ?_
    rotate_left
    · rintro w' ⟨s0, s1, s2⟩
      go_simp
      with_reducible rfl
    rotate_left
    · simp only [Act.put, List.setIfInBounds_toArray, List.set_cons_zero, List.set_cons_succ, i64_w, i32_w]
      rfl
    refine take_ (i := 10) (N := some 38) (v := ?_) (a' := ?_) #[true, true, true, true, true, true, true, true, true, true, true, false, false, false, false, false] rfl rfl (by kernel_rfl) (fun _ _ _ h => h) (Or.inl ⟨by rfl, ?_⟩) hHeld ?_ ?_
    rotate_left
    · rintro w' ⟨s0, s1, s2⟩
      go_simp
      with_reducible rfl
    rotate_left
    · simp only [Act.put, List.setIfInBounds_toArray, List.set_cons_zero, List.set_cons_succ, i64_w, i32_w]
      rfl
    refine pure_ (i := 11) (N := some 39) (v := ?_) (a' := ?_) #[true, true, true, true, true, true, true, true, true, true, true, true, false, false, false, false] rfl rfl (by kernel_rfl) (fun _ _ _ h => h) (Or.inl ⟨by rfl, ?_⟩) ?_ ?_
    rotate_left
    · intro w'
      go_simp
      with_reducible rfl
    rotate_left
    · simp only [Act.put, List.setIfInBounds_toArray, List.set_cons_zero, List.set_cons_succ, i64_w, i32_w]
      rfl
    refine one_ (i := 12) (N := none) #[true, true, true, true, true, true, true, true, true, true, true, true, true, false, false, false] rfl rfl (by kernel_rfl) (by decide) (fun K hK => ?_)
    refine skip_ (w1 := ?_) (by rfl) rfl ?_ ?_
    rotate_left
    · go_simp
      rfl
    refine hK.out _ _ ⟨(pw_cell_below (below_alloc (Below.refl _ _) _) hc1), (pw_cell_below (below_alloc (Below.refl _ _) _) hx0), (pw_cell_below (below_alloc (Below.refl _ _) _) hx1)⟩ (fun hHeld => ?_)
    clear hK K
    refine pure_ (i := 13) (N := some 40) (v := ?_) (a' := ?_) #[true, true, true, true, true, true, true, true, true, true, true, true, true, true, false, false] rfl rfl (by kernel_rfl) (fun _ _ _ h => h) (Or.inl ⟨by rfl, ?_⟩) ?_ ?_
    rotate_left
    · intro w'
      go_simp
      with_reducible rfl
    rotate_left
    · simp only [Act.put, List.setIfInBounds_toArray, List.set_cons_zero, List.set_cons_succ, i64_w, i32_w]
      rfl
    refine pure_ (i := 14) (N := some 41) (v := ?_) (a' := ?_) #[true, true, true, true, true, true, true, true, true, true, true, true, true, true, true, false] rfl rfl (by kernel_rfl) (fun _ _ _ h => h) (Or.inl ⟨by rfl, ?_⟩) ?_ ?_
    rotate_left
    · intro w'
      go_simp
      with_reducible rfl
    rotate_left
    · simp only [Act.put, List.setIfInBounds_toArray, List.set_cons_zero, List.set_cons_succ, i64_w, i32_w]
      rfl
    refine last_ (i := 15) (N := none) #[true, true, true, true, true, true, true, true, true, true, true, true, true, true, true, true] rfl rfl (by kernel_rfl) (by decide) (fun K hK => ?_)
    refine skip_ (w1 := ?_) (by rfl) rfl ?_ ?_
    rotate_left
    · go_simp
      rfl
    refine hK.out _ _ ?_
    clear hK K
    refine done_ (by kernel_rfl) ?_

    have HW := Lib.hid (next_world HBL.out hc HN.out HROW.out)
    generalize (if c = 1 then some ad else some ({ block := ad.block, off := ad.off + 2 } : Addr)) = A' at HW ⊢
    generalize c - 1 = c' at HW ⊢
    generalize n - 1 = n' at HW ⊢
    clear HROW HP HBL HN
    by_cases h1 : f.f0 = 1
    · have e : nextOf (f :: r) want = ((min want f.f1, 0), r) := by rw [nextOf.eq_def, if_neg (by omega)]; simp [h1]
      have E := Lib.hid e
      have k1 : (f.f0 == 1) = true := by simpa using h1
      clear e h1 hw1 hw2
      go_wp2
      all_goals go_ret2
      all_goals rw [E.out]
      all_goals refine ⟨?_, HW.out _ _ rfl⟩
      all_goals first | (simp [Int.min_def, *]; done) | (simp [Int.min_def, *]; omega)
    · have k1 : (f.f0 == 1) = false := by simpa using h1
      by_cases h2 : f.f0 = 2
      · have e : nextOf (f :: r) want = ((0, 22), r) := by rw [nextOf.eq_def, if_neg (by omega)]; simp [h2]
        have E := Lib.hid e
        have k2 : (f.f0 == 2) = true := by simpa using h2
        clear e h1 h2 hw1 hw2
        go_wp2
        go_ret2
        rw [E.out]
        exact ⟨rfl, HW.out _ _ rfl⟩
      · have k2 : (f.f0 == 2) = false := by simpa using h2
        by_cases h3 : f.f0 = 3
        · have e : nextOf (f :: r) want = ((0, 23), r) := by rw [nextOf.eq_def, if_neg (by omega)]; simp [h3]
          have E := Lib.hid e
          have k3 : (f.f0 == 3) = true := by simpa using h3
          clear e h1 h2 h3 hw1 hw2
          go_wp2
          go_ret2
          rw [E.out]
          exact ⟨rfl, HW.out _ _ rfl⟩
        · have k3 : (f.f0 == 3) = false := by simpa using h3
          have e : nextOf (f :: r) want = ((want, 0), r) := by rw [nextOf.eq_def, if_neg (by omega)]; simp [h1, h2, h3]
          have E := Lib.hid e
          clear e h1 h2 h3 hw1 hw2
          go_wp2
          go_ret2
          rw [E.out]
          exact ⟨rfl, HW.out _ _ rfl⟩

/-- What a call that makes a row hands back. -/
def OwnFaults (w' : World) (base : Nat) (v : Value) (l : List S45) : Prop := Kd.R k45 45 w' base (fun _ => True) v l

set_option maxHeartbeats 1000000 in
set_option maxRecDepth 100000 in
theorem faults_Clone.calls (A0 : Option Addr) (c0 : Nat) (l0 : List S45) (w : World) (hr0 : Kd.C k45 w A0 l0.length l0) (hl : l0.length < 8796093022208) :
    Calls Try.prog 17 #[.slice A0 l0.length c0] w fun e w' => ∃ v, e = .returned v ∧ OwnFaults w' w.heap.size v l0 ∧ Below w.heap.size w w' := by
  have HR0 := Lib.hid hr0
  have HL := Lib.hid hl
  clear hl
  have q22 : ∀ (W : World) (n c : Nat), (binOp .eql 22 (.slice A0 n c) (.slice none 0 0)).run Try.prog W = .ok (.bool A0.isNone) W := fun W n c => Lib.run_eql_slice_nil W _ _ A0 n c 0 0 Try.underlying22
  cases A0 with
  | none =>
    have h0 : l0.length = 0 := by
      by_cases h : 0 < l0.length
      · obtain ⟨ad, e, _⟩ := hr0.2.2 h; cases e
      · omega
    obtain rfl : l0 = [] := List.eq_nil_of_length_eq_zero h0
    clear hr0
    go_enter Try.func17, Try.ntmps17
    go_wp2
    go_ret
    exact ⟨_, rfl, Kd.R_nil _ _ _ _ _, Below.refl _ _⟩
  | some ad =>
    clear hr0
    go_enter Try.func17, Try.ntmps17
    have hinf := (show (Try.prog.info? 45).map (fun i => (i.zero, i.size, i.bytes)) = some (some (.agg #[(.int .i64 0), (.int .i64 0)]), 2, 16) by kernel_rfl)
    go_wp2_with ((with_reducible refine gate_builtin (b := .append) (xs := #[.tmp 5, .tmp 6]) rfl ?_); at_builtin; refine Kd.R_append_rows k45 (w0 := w) w.heap.size rfl (.tmp 5) (.tmp 6) 22 45 (.agg #[(.int .i64 0), (.int .i64 0)]) 16 rfl Try.underlying22 hinf rfl (by decide) (by omega) (.slice (some ⟨w.heap.size, 0, none⟩) 0 0) ([] : List S45) l0 _ _ _ (fun _ => True) (fun _ => False) rfl rfl ?aO ?aR (fun _ _ h => h) (fun _ h => h.elim) ?aF ?aB ?aS ?aL ?_; (case aR => exact Kd.C_below HR0.out (by repeat (first | exact Below.refl _ _ | apply below_alloc | apply Below.drew))); (case aB => exact (by repeat (first | exact Below.refl _ _ | apply below_alloc | apply Below.drew))); (case aF => exact (fun _ _ => trivial)); (case aO => exact ⟨fun _ _ => trivial, [], ⟨rfl, .inr ⟨w.heap.size, 0, #[], rfl, Nat.le_refl _, blk_new w _, Nat.le_refl _, Nat.zero_le _, rfl, rfl⟩⟩, Reps.none _ _⟩); (case aS => simp); (case aL => have := HL.out; simp; omega); intro v1 w3 ho hb hg hat)
    go_ret
    exact ⟨_, rfl, ho, hb⟩

theorem OwnFaults.row {w1 : World} {base : Nat} {A : Option Addr} {c : Nat} {l : List S45} (h : OwnFaults w1 base (.slice A l.length c) l) : RowT w1 A l := by
  refine ⟨(Kd.R_reads' h).2.2, fun ad e => ?_⟩
  subst e
  rcases h.2 with ⟨inner, ho, _⟩
  exact own_typed ho ad.block rfl
/-- A row that was made, in a box of its own: a plan. -/
theorem PlanAt.made {w1 : World} {base : Nat} {v : Value} {l : List S45} (h : OwnFaults w1 base v l) : PlanAt (w1.alloc (.cells #[.bool true, v] 51)) w1.heap.size l := by
  obtain ⟨A, c, rfl⟩ : ∃ A c, v = .slice A l.length c := by
    rcases h.2 with ⟨inner, ho, _⟩
    rcases ho.2 with ⟨rfl, h0⟩ | ⟨g, cap, cur, rfl, _⟩
    · exact ⟨none, 0, by rw [h0]⟩
    · exact ⟨_, _, rfl⟩
  have hc : l.length ≤ c := by
    rcases h.2 with ⟨inner, ho, _⟩
    rcases ho.2 with ⟨e, h0⟩ | ⟨g, cap, cur, e, _, _, hcap, _⟩
    · omega
    · cases e; exact hcap
  refine ⟨A, c, blk_new _ _, hc, ?_⟩
  exact (OwnFaults.row h).kept (Kept.of_below (below_alloc (Below.refl _ _) _) (fun _ => False)) NoRow.none
theorem PlanAt.drew {w : World} {B : Nat} {l : List S45} (h : PlanAt w B l) : PlanAt w.drew B l := h.kept (Below.refl _ _).drew

def faultsOk (l : List S45) : Int := if 4096 < l.length then 3 else match fFirst 0 l with | some _ => 21 | none => 0
theorem faults_Check.of (l : List S45) : ∃ k, faults_Check.f l = some (faultsOk l, k) := by
  unfold faults_Check.f faultsOk
  split
  · exact ⟨_, rfl⟩
  · cases fFirst 0 l with
    | some i => exact ⟨_, rfl⟩
    | none => exact ⟨_, rfl⟩

set_option maxHeartbeats 1000000 in
set_option maxRecDepth 100000 in
theorem faults_New.calls (A0 : Option Addr) (c0 : Nat) (l0 : List S45) (w : World) (hr0 : Kd.C k45 w A0 l0.length l0) (hc0 : l0.length ≤ c0) :
    Calls Try.prog 6 #[.slice A0 l0.length c0] w fun e w' => Below w.heap.size w w' ∧
      ((faultsOk l0 ≠ 0 ∧ e = .returned (.tuple #[.pointer none, .int .i64 (faultsOk l0)])) ∨
       (faultsOk l0 = 0 ∧ ∃ B, e = .returned (.tuple #[.pointer (some ⟨B, 0, none⟩), .int .i64 0]) ∧ w.heap.size ≤ B ∧ PlanAt w' B l0)) := by
  obtain ⟨k, hk⟩ := faults_Check.of l0
  have hcheck := faults_Check.calls A0 c0 l0 _ _ w hr0 hc0 hk
  have HC := Lib.hid hcheck
  clear hcheck
  by_cases h0 : faultsOk l0 = 0
  · have hlen : l0.length < 8796093022208 := by
      unfold faultsOk at h0
      split at h0
      · cases h0
      · omega
    rw [h0] at HC
    have hclone := fun W (hB : Below w.heap.size w W) => faults_Clone.calls A0 c0 l0 W (Kd.C_below hr0 hB) hlen
    have HCl := Lib.hid hclone
    have H0 := Lib.hid h0
    clear hclone h0 hlen hk hr0 hc0
    go_enter Try.func6, Try.ntmps6
    go_wp2_with (first | (go_at_call 16; go_must (refine (HC.out).mono ?_); go_must (rintro e w1 ⟨rfl, hB1⟩)) | (go_at_call 17; go_must (refine (HCl.out _ hB1).mono ?_); go_must (rintro e w2 ⟨v, rfl, hO, hB2⟩); obtain ⟨Av, cv, rfl⟩ := Kd.R_slice hO))
    go_ret2
    have hB12 := below_step hB1 hB2
    exact ⟨below_alloc hB12 _, .inr ⟨H0.out, w2.heap.size, rfl, hB12.size, PlanAt.made hO⟩⟩
  · have g : (faultsOk l0 != 0) = true := by simpa using h0
    have H0 := Lib.hid h0
    clear h0 hk hr0 hc0
    generalize faultsOk l0 = e0 at *
    go_enter Try.func6, Try.ntmps6
    go_wp2_with (go_at_call 16; go_must (refine (HC.out).mono ?_); go_must (rintro e w1 ⟨rfl, hB1⟩))
    go_ret2
    exact ⟨hB1, .inl ⟨H0.out, rfl⟩⟩

set_option maxHeartbeats 1000000 in
set_option maxRecDepth 100000 in
theorem faults_Rest.calls (B : Nat) (l : List S45) (w : World) (hP : PlanAt w B l) (hl : l.length < 8796093022208) :
    Calls Try.prog 10 #[.pointer (some ⟨B, 0, none⟩)] w fun e w' => ∃ v, e = .returned v ∧ OwnFaults w' w.heap.size v l ∧ Below w.heap.size w w' := by
  have hu2 := Try.underlying51
  obtain ⟨A, c, hb, hc, hT⟩ := hP
  have hc1 : w.cell? ⟨B, 1, none⟩ = some (.slice A l.length c) := blk_cell hb 1
  have hclone := fun W (hB : Below w.heap.size w W) => faults_Clone.calls A c l W (Kd.C_below hT.1 hB) hl
  have HCl := Lib.hid hclone
  clear hclone hT hl hc hb
  go_enter Try.func10, Try.ntmps10
  go_wp2_with (go_at_call 17; go_must (refine (HCl.out _ (by first | exact Below.refl _ _ | exact (Below.refl _ _).drew)).mono ?_); go_must (rintro e w2 ⟨v, rfl, hO, hB2⟩))
  go_ret
  exact ⟨_, rfl, hO, hB2⟩

set_option maxHeartbeats 1000000 in
set_option maxRecDepth 100000 in
theorem faults_Copy.calls (B : Nat) (l : List S45) (w : World) (hP : PlanAt w B l) (hl : l.length < 8796093022208) :
    Calls Try.prog 14 #[.pointer (some ⟨B, 0, none⟩)] w fun e w' => ∃ B', e = .returned (.pointer (some ⟨B', 0, none⟩)) ∧ w.heap.size ≤ B' ∧ PlanAt w' B' l ∧ Below w.heap.size w w' := by
  have hu2 := Try.underlying51
  obtain ⟨A, c, hb, hc, hT⟩ := hP
  have hc0 : w.cell? ⟨B, 0, none⟩ = some (.bool true) := blk_cell hb 0
  have hc1 : w.cell? ⟨B, 1, none⟩ = some (.slice A l.length c) := blk_cell hb 1
  have hclone := fun W (hB : Below w.heap.size w W) => faults_Clone.calls A c l W (Kd.C_below hT.1 hB) hl
  have HCl := Lib.hid hclone
  clear hclone hT hl hc hb
  go_enter Try.func14, Try.ntmps14
  go_wp2_with (go_at_call 17; go_must (refine (HCl.out _ (by first | exact Below.refl _ _ | exact (Below.refl _ _).drew)).mono ?_); go_must (rintro e w2 ⟨v, rfl, hO, hB2⟩); obtain ⟨Av, cv, rfl⟩ := Kd.R_slice hO)
  go_ret
  exact ⟨w2.heap.size, rfl, hB2.size, PlanAt.made hO, below_alloc hB2 _⟩

def fExample : List S45 := [⟨1, 3⟩, ⟨2, 0⟩]
theorem two_faults (w : World) : Kd.C k45 (w.alloc (.cells #[.int .i64 1, .int .i64 3, .int .i64 2, .int .i64 0] 45)) (some ⟨w.heap.size, 0, none⟩) fExample.length fExample := by
  have hb := blk_new w (.cells #[.int .i64 1, .int .i64 3, .int .i64 2, .int .i64 0] 45)
  refine ⟨rfl, by decide, fun _ => ⟨⟨w.heap.size, 0, none⟩, rfl, fun j p hj => ?_⟩⟩
  match j, hj with
  | 0, hj =>
    obtain rfl : p = ⟨1, 3⟩ := (Option.some.inj hj).symm
    refine ⟨_, rfl, k45_mk _ _, fun i u hi => ?_⟩
    match i, hi with
    | 0, hi => exact (blk_cell hb 0).trans hi
    | 1, hi => exact (blk_cell hb 1).trans hi
    | i + 2, hi => simp at hi
  | 1, hj =>
    obtain rfl : p = ⟨2, 0⟩ := (Option.some.inj hj).symm
    refine ⟨_, rfl, k45_mk _ _, fun i u hi => ?_⟩
    match i, hi with
    | 0, hi => exact (blk_cell hb 2).trans hi
    | 1, hi => exact (blk_cell hb 3).trans hi
    | i + 2, hi => simp at hi
  | j + 2, hj => simp [fExample] at hj

def millracelaw02_alive.f : Option Bool := some true
set_option maxHeartbeats 2000000 in
set_option maxRecDepth 100000 in
theorem millracelaw02_alive.calls (r : Bool) (w : World) (h : millracelaw02_alive.f = some r) :
    Calls Try.prog 5 #[] w fun e w' => e = .returned (.bool r) ∧ Below w.heap.size w w' := by
  obtain rfl := Option.some.inj h
  have hp : faults_Print.f 5 fExample = some (⟨#[115, 51, 32, 105]⟩, 0) := by decide +kernel
  have hpr := fun A c W hC hc => faults_Print.calls 5 A c fExample _ _ W hC hc hp
  have hne := fun A c W hC hc => faults_New.calls A c fExample W hC hc
  have hok : faultsOk fExample = 0 := by decide +kernel
  rw [hok] at hne
  have e1 : nextOf fExample 10 = ((3, 0), [⟨2, 0⟩]) := by rfl
  have e2 : nextOf [⟨2, 0⟩] 10 = ((0, 22), []) := by rfl
  have e3 : nextOf [] 10 = ((10, 0), []) := by rfl
  have n1 := fun B W hP => faults_Next.calls B fExample 10 W hP
  have n2 := fun B W hP => faults_Next.calls B [⟨2, 0⟩] 10 W hP
  have n3 := fun B W hP => faults_Next.calls B [] 10 W hP
  rw [e1] at n1
  rw [e2] at n2
  rw [e3] at n3
  simp only at n1 n2 n3
  simp only [ne_eq, not_true_eq_false, false_and, true_and, false_or] at hne
  have h2 := two_faults w
  have hl2 : fExample.length = 2 := rfl
  rw [hl2] at hpr hne h2
  have HPR := Lib.hid hpr
  have HNE := Lib.hid hne
  have N1 := Lib.hid n1
  have N2 := Lib.hid n2
  have N3 := Lib.hid n3
  have H2 := Lib.hid h2
  clear hp hpr hne hok e1 e2 e3 n1 n2 n3 h h2
  go_enter Try.func5, Try.ntmps5
  go_wp2_with (first
    | (go_at_call 15; go_must (refine (HPR.out _ 2 _ (Kd.C_below H2.out (by first | exact Below.refl _ _ | exact (Below.refl _ _).drew)) (Nat.le_refl 2)).mono ?_); go_must (rintro e w1 ⟨rfl, hB1⟩))
    | (go_at_call 6; go_must (refine (HNE.out _ 2 _ (Kd.C_below H2.out (by first | exact hB1 | exact hB1.drew)) (Nat.le_refl 2)).mono ?_); go_must (rintro e w2 ⟨hB2, B, rfl, hBB, hP1⟩))
    | (go_at_call 8; refine (N3.out B _ (by first | exact hP3 | exact hP3.drew)).mono ?_; rintro e w5 ⟨rfl, hP4, hK5, hB5⟩)
    | (go_at_call 8; refine (N2.out B _ (by first | exact hP2 | exact hP2.drew)).mono ?_; rintro e w4 ⟨rfl, hP3, hK4, hB4⟩)
    | (go_at_call 8; refine (N1.out B _ (by first | exact hP1 | exact hP1.drew)).mono ?_; rintro e w3 ⟨rfl, hP2, hK3, hB3⟩)
    | go_in)
  go_ret
  have b1 : Below w.heap.size w w1 := below_step (below_alloc (Below.refl _ _) _) hB1
  have b2 := below_step b1 hB2
  have hw : w.heap.size ≤ B := Nat.le_trans b1.size hBB
  exact ⟨rfl, ((b2.trans (hB3.mono hw)).trans (hB4.mono hw)).trans (hB5.mono hw)⟩

end Go.Proofs.Ytbggmdgeanoelaa.Ft
