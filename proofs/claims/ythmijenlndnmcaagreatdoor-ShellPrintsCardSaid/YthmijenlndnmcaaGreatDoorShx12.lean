import Derived.Test.YthmijenlndnmcaaGreatDoorShx0
import Derived.Test.YthmijenlndnmcaaGreatDoorShx7
namespace Go.Proofs.YthmijenlndnmcaaGreatDoor.Sh
open Go.RowKit Go.Proofs.YthmijenlndnmcaaGreatDoorW.PrintWords Go.Proofs.YthmijenlndnmcaaGreatDoorW.PrintLast Go.Proofs.YthmijenlndnmcaaGreatDoorW.PrintMore
attribute [local go_sem] max2_int min2_int max_two min_two max_three min_three max_four min_four
set_option linter.unusedVariables false
set_option linter.unusedSimpArgs false
mutual
def millraceref21_Check.j0 : Nat → Bool → ByteArray → List (S28) → ByteArray → Bool → Option (Int)
  | 0, _, _, _, _, _ => none
  | k + 1, x5, x359000, x359001, x359002, x359003 => if x5 = true then (some 61) else (if (x359001.length : Int) < 1 then (some 3) else (if (x359001.length : Int) > 16 then (some 3) else (millraceref21_Check.l0 k 0 x359000 x359001 x359002 x359003)))
def millraceref21_Check.l0 : Nat → Int → ByteArray → List (S28) → ByteArray → Bool → Option (Int)
  | 0, _, _, _, _, _ => none
  | k + 1, x3, x359000, x359001, x359002, x359003 => if x3 < (x359001.length : Int) then (if 0 ≤ x3 then ((millraceref21_CheckTool.f k ((rd_T28 x359001 x3).f0) ((rd_T28 x359001 x3).f1) ((rd_T28 x359001 x3).f2)).bind fun t363 => (if t363 = 0 then (millraceref21_Check.l0 k (wrap64 (x3 + 1)) x359000 x359001 x359002 x359003) else (some 211))) else (none)) else (if 0 < (x359001.length : Int) then (if x359000.toList = ([] : List UInt8) then (if ((rd_T28 x359001 0).f0).toList = ([99, 97, 116] : List UInt8) then (some 0) else (if ((rd_T28 x359001 0).f0).toList = ([104, 101, 97, 100] : List UInt8) then (some 0) else (if ((rd_T28 x359001 0).f0).toList = ([119, 99] : List UInt8) then (some 0) else (some 211)))) else (some 0)) else (none))
end
def millraceref21_Check.f (k : Nat) (a0_0 : ByteArray) (l0_1 : List (S28)) (a0_2 : ByteArray) (a0_3 : Bool) : Option (Int) := if a0_0.toList = ([] : List UInt8) then ((millraceref21_named.f k a0_2).bind fun t359 => (millraceref21_Check.j0 k (!t359) a0_0 l0_1 a0_2 a0_3)) else ((millraceref21_named.f k a0_0).bind fun t360 => (if t360 = true then ((millraceref21_named.f k a0_2).bind fun t361 => (millraceref21_Check.j0 k (!t361) a0_0 l0_1 a0_2 a0_3)) else (millraceref21_Check.j0 k true a0_0 l0_1 a0_2 a0_3)))
theorem millraceref21_Check.mono_l : ∀ k, (∀ y0 y1 y2 y3 y4, LeO (millraceref21_Check.j0 k y0 y1 y2 y3 y4) (millraceref21_Check.j0 (k + 1) y0 y1 y2 y3 y4)) ∧ (∀ y0 y1 y2 y3 y4, LeO (millraceref21_Check.l0 k y0 y1 y2 y3 y4) (millraceref21_Check.l0 (k + 1) y0 y1 y2 y3 y4))
  | 0 => ⟨fun _ _ _ _ _ r h => by simp [millraceref21_Check.j0] at h, fun _ _ _ _ _ r h => by simp [millraceref21_Check.l0] at h⟩
  | k + 1 => by
    obtain ⟨ih0, ih1⟩ := millraceref21_Check.mono_l k
    refine ⟨?_, ?_⟩
    · intro y0 y1 y2 y3 y4
      unfold millraceref21_Check.j0
      repeat' first
      | (with_reducible exact ih0 _ _ _ _ _)
      | (with_reducible exact ih1 _ _ _ _ _)
      | (with_reducible exact millraceref21_CheckTool.mono _ _ _ _)
      | (with_reducible exact millraceref21_named.mono _ _)
      | (with_reducible exact LeO.refl _)
      | (with_reducible exact LeO.none _)
      | (with_reducible refine LeO.ite ?_ ?_)
      | (with_reducible refine LeO.bind ?_ (fun _ => ?_))
      | exact ih0 _ _ _ _ _
      | exact ih1 _ _ _ _ _
      | exact millraceref21_CheckTool.mono _ _ _ _
      | exact millraceref21_named.mono _ _
      | exact LeO.none _
      | refine LeO.ite ?_ ?_
      | refine LeO.bind ?_ (fun _ => ?_)
    · intro y0 y1 y2 y3 y4
      unfold millraceref21_Check.l0
      repeat' first
      | (with_reducible exact ih0 _ _ _ _ _)
      | (with_reducible exact ih1 _ _ _ _ _)
      | (with_reducible exact millraceref21_CheckTool.mono _ _ _ _)
      | (with_reducible exact millraceref21_named.mono _ _)
      | (with_reducible exact LeO.refl _)
      | (with_reducible exact LeO.none _)
      | (with_reducible refine LeO.ite ?_ ?_)
      | (with_reducible refine LeO.bind ?_ (fun _ => ?_))
      | exact ih0 _ _ _ _ _
      | exact ih1 _ _ _ _ _
      | exact millraceref21_CheckTool.mono _ _ _ _
      | exact millraceref21_named.mono _ _
      | exact LeO.none _
      | refine LeO.ite ?_ ?_
      | refine LeO.bind ?_ (fun _ => ?_)
theorem millraceref21_Check.mono : ∀ a0 a1 a2 a3 k, LeO (millraceref21_Check.f k a0 a1 a2 a3) (millraceref21_Check.f (k + 1) a0 a1 a2 a3) := by
  intro a0 a1 a2 a3 k
  obtain ⟨ih0, ih1⟩ := millraceref21_Check.mono_l k
  unfold millraceref21_Check.f
  repeat' first
      | (with_reducible exact ih0 _ _ _ _ _)
      | (with_reducible exact ih1 _ _ _ _ _)
      | (with_reducible exact millraceref21_CheckTool.mono _ _ _ _)
      | (with_reducible exact millraceref21_named.mono _ _)
      | (with_reducible exact LeO.refl _)
      | (with_reducible exact LeO.none _)
      | (with_reducible refine LeO.ite ?_ ?_)
      | (with_reducible refine LeO.bind ?_ (fun _ => ?_))
      | exact ih0 _ _ _ _ _
      | exact ih1 _ _ _ _ _
      | exact millraceref21_CheckTool.mono _ _ _ _
      | exact millraceref21_named.mono _ _
      | exact LeO.none _
      | refine LeO.ite ?_ ?_
      | refine LeO.bind ?_ (fun _ => ?_)
set_option maxHeartbeats 8000000 in
set_option maxRecDepth 100000 in
theorem millraceref21_Check.calls (k : Nat) (a0_0 : ByteArray) (A0_1 : Option Addr) (c0_1 : Nat) (l0_1 : List (S28)) (a0_2 : ByteArray) (a0_3 : Bool) (r : Int) (w : World) (hr0_1 : Kd.C k28 w A0_1 l0_1.length l0_1) (hc0_1 : l0_1.length ≤ c0_1) (h : millraceref21_Check.f k a0_0 l0_1 a0_2 a0_3 = some r) :
    Calls Tryz.prog 24 #[.agg #[.string a0_0, .slice A0_1 l0_1.length c0_1, .string a0_2, .bool a0_3]] w fun e w' => e = .returned (.int .i64 r) ∧ Below w.heap.size w w' := by
  have hu38 := Tryz.underlying38
  have hu28 := Tryz.underlying28
  have HR0_1 := Aside0.mk hr0_1
  have HC0_1 := Aside0.mk hc0_1
  clear hr0_1 hc0_1
  have HB := Aside0.mk (Below.refl w.heap.size w)
  have H : (if a0_0.toList = ([] : List UInt8) then ((millraceref21_named.f k a0_2).bind fun t359 => (millraceref21_Check.j0 k (!t359) a0_0 l0_1 a0_2 a0_3)) else ((millraceref21_named.f k a0_0).bind fun t360 => (if t360 = true then ((millraceref21_named.f k a0_2).bind fun t361 => (millraceref21_Check.j0 k (!t361) a0_0 l0_1 a0_2 a0_3)) else (millraceref21_Check.j0 k true a0_0 l0_1 a0_2 a0_3)))) = some r := h
  clear h
  have HC2 := Aside0.mk H
  clear H
  go_enter Tryz.func24, Tryz.ntmps24
  go_upto_region 1 with (first | ((with_reducible refine gate_dst (N := 1) rfl ?_); (try (refine gate_guard (by rfl) ?_; dsimp only)); refine box_event ?hg (N := 1) ?hd (cs := #[.string a0_0, .slice A0_1 l0_1.length c0_1, .string a0_2, .bool a0_3]) (t := 38) ?hr ?_; (case hd => rfl); (case hg => rfl); (case hr => first | (go_simp; done) | (go_simp; rfl)); intro gb358 hg w3 hbox hb; have n0_ := Aside0.mk (below_step (by repeat (first | (with_reducible first | exact HB.out | apply below_alloc | apply pw_below_drewN | apply below_drew1) | exact HB.out)) hb); have n1_ := Aside0.mk (hbox); have n2_ := Aside0.mk ((by rw [hg]; exact (below_size (by repeat (first | (with_reducible first | exact HB.out | apply below_alloc | apply pw_below_drewN | apply below_drew1) | exact HB.out))) : w.heap.size ≤ gb358)); have n3_ := Aside0.mk ((by rw [hg]; exact (below_size (by repeat (first | (with_reducible first | exact HB.out | apply below_alloc | apply pw_below_drewN | apply below_drew1) | exact HB.out))) : w.heap.size ≤ gb358)); clear HB; have HB := n0_; have BK358 := n1_; have GW358 := n2_; have GE358 := n3_; clear n0_ n1_ n2_ n3_; clear hb hbox hg))
  (try simp only [Act.put, List.setIfInBounds_toArray, List.set_cons_zero, List.set_cons_succ])
  go_cut [5] (fun v5 wc => ∃ (kq : Nat) (x5_1 : Bool), v5 = .bool x5_1 ∧ Aside0 (millraceref21_Check.j0 kq x5_1 a0_0 l0_1 a0_2 a0_3 = some r) ∧ Aside0 (kq ≤ k) ∧ Aside0 (wc.heap[gb358]? = some (.cells #[.string a0_0, (.slice A0_1 l0_1.length c0_1), .string a0_2, .bool a0_3] 38 (0, 0))) ∧ Aside0 (Below w.heap.size w wc))
  case first =>
    have H := HC2.out
    clear HC2
    by_cases c4 : a0_0.toList = ([] : List UInt8)
    · rw [if_pos c4] at H
      have c4b0 : (a0_0.toList == ([] : List UInt8)) = true := beq_iff_eq.mpr c4
      try have c4b7 : a0_0.toList.isEmpty = true := by rw [c4]; rfl
      have c4b1 : (a0_0.toList != ([] : List UInt8)) = false := bne_eq_false_iff_eq.mpr c4
      clear c4
      (first | rw [c4b0] | (simp only [i64_w, i32_w]; rw [c4b0]) | rw [c4b7] | skip)
      replace H := Option.bind_eq_some_iff.mp H
      obtain ⟨t359, A50, H⟩ := H
      replace H : (millraceref21_Check.j0 k (!t359) a0_0 l0_1 a0_2 a0_3) = some r := H
      have A5 := Aside0.mk A50
      clear A50
      have H' := Aside0.mk H
      clear H
      have hcz6_0 : w3.cell? ⟨gb358, 0, none⟩ = some (.string a0_0) := (blk_cell BK358.out 0).trans rfl
      have hcz6_1 : w3.cell? ⟨gb358, 1, none⟩ = some (.slice A0_1 l0_1.length c0_1) := (blk_cell BK358.out 1).trans rfl
      have hcz6_2 : w3.cell? ⟨gb358, 2, none⟩ = some (.string a0_2) := (blk_cell BK358.out 2).trans rfl
      have hcz6_3 : w3.cell? ⟨gb358, 3, none⟩ = some (.bool a0_3) := (blk_cell BK358.out 3).trans rfl
      have hfz6_0 := blk_frozen BK358.out 0
      have hfz6_1 := blk_frozen BK358.out 1
      have hfz6_2 := blk_frozen BK358.out 2
      have hfz6_3 := blk_frozen BK358.out 3
      go_wp2_with (first | (go_at_call 30; (with_reducible refine (millraceref21_named.calls k a0_2 t359 _ A5.out).mono ?_); rintro e w' ⟨rfl, ⟨nd, rfl⟩⟩))
      go_meet
      case rel => exact ⟨_, (!t359), (by first | rfl | (simp; done) | (simp [*]; done)), H', ⟨by first | omega | exact Nat.le_refl _⟩, ⟨by (with_reducible repeat (first | refine blk_drewN ?_ _ | refine blk_drew ?_ | refine blk_alloc ?_ _)); exact BK358.out⟩, ⟨by repeat (first | (with_reducible first | exact HB.out | apply below_alloc | apply pw_below_drewN | apply below_drew1 | refine below_set ?_ GE358.out) | exact HB.out)⟩⟩
    · rw [if_neg c4] at H
      have c4b0 : (a0_0.toList == ([] : List UInt8)) = false := beq_eq_false_iff_ne.mpr c4
      try have c4b7 : a0_0.toList.isEmpty = false := by simpa using c4
      have c4b1 : (a0_0.toList != ([] : List UInt8)) = true := bne_iff_ne.mpr c4
      (first | rw [c4b0] | (simp only [i64_w, i32_w]; rw [c4b0]) | rw [c4b7] | skip)
      replace H := Option.bind_eq_some_iff.mp H
      obtain ⟨t360, A70, H⟩ := H
      replace H : (if t360 = true then ((millraceref21_named.f k a0_2).bind fun t361 => (millraceref21_Check.j0 k (!t361) a0_0 l0_1 a0_2 a0_3)) else (millraceref21_Check.j0 k true a0_0 l0_1 a0_2 a0_3)) = some r := H
      have A7 := Aside0.mk A70
      clear A70
      by_cases c8 : t360 = true
      · subst c8
        have H1 : ((millraceref21_named.f k a0_2).bind fun t361 => (millraceref21_Check.j0 k (!t361) a0_0 l0_1 a0_2 a0_3)) = some r := by rw [if_pos rfl] at H; exact H
        clear H
        have H := H1
        clear H1
        replace H := Option.bind_eq_some_iff.mp H
        obtain ⟨t361, A90, H⟩ := H
        replace H : (millraceref21_Check.j0 k (!t361) a0_0 l0_1 a0_2 a0_3) = some r := H
        have A9 := Aside0.mk A90
        clear A90
        have H' := Aside0.mk H
        clear H
        have hcz10_0 : w3.cell? ⟨gb358, 0, none⟩ = some (.string a0_0) := (blk_cell BK358.out 0).trans rfl
        have hcz10_1 : w3.cell? ⟨gb358, 1, none⟩ = some (.slice A0_1 l0_1.length c0_1) := (blk_cell BK358.out 1).trans rfl
        have hcz10_2 : w3.cell? ⟨gb358, 2, none⟩ = some (.string a0_2) := (blk_cell BK358.out 2).trans rfl
        have hcz10_3 : w3.cell? ⟨gb358, 3, none⟩ = some (.bool a0_3) := (blk_cell BK358.out 3).trans rfl
        have hfz10_0 := blk_frozen BK358.out 0
        have hfz10_1 := blk_frozen BK358.out 1
        have hfz10_2 := blk_frozen BK358.out 2
        have hfz10_3 := blk_frozen BK358.out 3
        go_wp2_with (first | (go_at_call 30; (with_reducible refine (millraceref21_named.calls k a0_0 true _ A7.out).mono ?_); rintro e w' ⟨rfl, ⟨nd, rfl⟩⟩) | (go_at_call 30; (with_reducible refine (millraceref21_named.calls k a0_2 t361 _ A9.out).mono ?_); rintro e w' ⟨rfl, ⟨nd, rfl⟩⟩))
        go_meet
        case rel => exact ⟨_, (!t361), (by first | rfl | (simp; done) | (simp [*]; done)), H', ⟨by first | omega | exact Nat.le_refl _⟩, ⟨by (with_reducible repeat (first | refine blk_drewN ?_ _ | refine blk_drew ?_ | refine blk_alloc ?_ _)); exact BK358.out⟩, ⟨by repeat (first | (with_reducible first | exact HB.out | apply below_alloc | apply pw_below_drewN | apply below_drew1 | refine below_set ?_ GE358.out) | exact HB.out)⟩⟩
      · replace c8 := Bool.eq_false_iff.mpr c8
        subst c8
        have H1 : (millraceref21_Check.j0 k true a0_0 l0_1 a0_2 a0_3) = some r := by rw [if_neg (show ¬ (false = true) by decide)] at H; exact H
        clear H
        have H := H1
        clear H1
        have H' := Aside0.mk H
        clear H
        have hcz11_0 : w3.cell? ⟨gb358, 0, none⟩ = some (.string a0_0) := (blk_cell BK358.out 0).trans rfl
        have hcz11_1 : w3.cell? ⟨gb358, 1, none⟩ = some (.slice A0_1 l0_1.length c0_1) := (blk_cell BK358.out 1).trans rfl
        have hcz11_2 : w3.cell? ⟨gb358, 2, none⟩ = some (.string a0_2) := (blk_cell BK358.out 2).trans rfl
        have hcz11_3 : w3.cell? ⟨gb358, 3, none⟩ = some (.bool a0_3) := (blk_cell BK358.out 3).trans rfl
        have hfz11_0 := blk_frozen BK358.out 0
        have hfz11_1 := blk_frozen BK358.out 1
        have hfz11_2 := blk_frozen BK358.out 2
        have hfz11_3 := blk_frozen BK358.out 3
        go_wp2_with (first | (go_at_call 30; (with_reducible refine (millraceref21_named.calls k a0_0 false _ A7.out).mono ?_); rintro e w' ⟨rfl, ⟨nd, rfl⟩⟩))
        go_meet
        case rel => exact ⟨_, (true), (by first | rfl | (simp; done) | (simp [*]; done)), H', ⟨by first | omega | exact Nat.le_refl _⟩, ⟨by (with_reducible repeat (first | refine blk_drewN ?_ _ | refine blk_drew ?_ | refine blk_alloc ?_ _)); exact BK358.out⟩, ⟨by repeat (first | (with_reducible first | exact HB.out | apply below_alloc | apply pw_below_drewN | apply below_drew1 | refine below_set ?_ GE358.out) | exact HB.out)⟩⟩
  case rest =>
    clear HC2
    try clear c2
    try clear p2
    try clear c4
    try clear c4b0
    try clear c4b1
    try clear c8
    try clear hcz10_0
    try clear hcz10_1
    try clear hcz10_2
    try clear hcz10_3
    try clear hcz11_0
    try clear hcz11_1
    try clear hcz11_2
    try clear hcz11_3
    try clear hcz6_0
    try clear hcz6_1
    try clear hcz6_2
    try clear hcz6_3
    try clear hfz10_0
    try clear hfz10_1
    try clear hfz10_2
    try clear hfz10_3
    try clear hfz11_0
    try clear hfz11_1
    try clear hfz11_2
    try clear hfz11_3
    try clear hfz6_0
    try clear hfz6_1
    try clear hfz6_2
    try clear hfz6_3
    obtain ⟨kq, x5_1, rfl, HA, HJ1, BK358, HB⟩ := hcut
    cases kq with
    | zero => exact absurd HA.out (by simp [millraceref21_Check.j0])
    | succ kj1 =>
      have H := HA.out
      clear HA
      simp only [millraceref21_Check.j0] at H
      by_cases c12 : x5_1 = true
      · subst c12
        have H1 : (some 61) = some r := by rw [if_pos rfl] at H; exact H
        clear H
        have H := H1
        clear H1
        obtain rfl := Option.some.inj H
        go_wp2
        go_ret
        exact ⟨by first | rfl | (simp [errW_none, errW_some] <;> rfl) | (simp [*, errW_none, errW_some] <;> rfl), by repeat (first | (with_reducible first | exact HB.out | apply below_alloc | apply pw_below_drewN | apply below_drew1 | refine below_set ?_ GE358.out) | exact HB.out)⟩
      · replace c12 := Bool.eq_false_iff.mpr c12
        subst c12
        have H1 : (if (l0_1.length : Int) < 1 then (some 3) else (if (l0_1.length : Int) > 16 then (some 3) else (millraceref21_Check.l0 kj1 0 a0_0 l0_1 a0_2 a0_3))) = some r := by rw [if_neg (show ¬ (false = true) by decide)] at H; exact H
        clear H
        have H := H1
        clear H1
        by_cases c13 : (l0_1.length : Int) < 1
        · rw [if_pos c13] at H
          have c13b0 : decide ((l0_1.length : Int) < 1) = true := decide_eq_true c13
          have c13b1 : decide (l0_1.length < 1) = true := decide_eq_true (by omega)
          clear c13
          obtain rfl := Option.some.inj H
          have hcz14_0 : wc.cell? ⟨gb358, 0, none⟩ = some (.string a0_0) := (blk_cell BK358.out 0).trans rfl
          have hcz14_1 : wc.cell? ⟨gb358, 1, none⟩ = some (.slice A0_1 l0_1.length c0_1) := (blk_cell BK358.out 1).trans rfl
          have hcz14_2 : wc.cell? ⟨gb358, 2, none⟩ = some (.string a0_2) := (blk_cell BK358.out 2).trans rfl
          have hcz14_3 : wc.cell? ⟨gb358, 3, none⟩ = some (.bool a0_3) := (blk_cell BK358.out 3).trans rfl
          have hfz14_0 := blk_frozen BK358.out 0
          have hfz14_1 := blk_frozen BK358.out 1
          have hfz14_2 := blk_frozen BK358.out 2
          have hfz14_3 := blk_frozen BK358.out 3
          go_wp2
          go_ret
          exact ⟨by first | rfl | (simp [errW_none, errW_some] <;> rfl) | (simp [*, errW_none, errW_some] <;> rfl), by repeat (first | (with_reducible first | exact HB.out | apply below_alloc | apply pw_below_drewN | apply below_drew1 | refine below_set ?_ GE358.out) | exact HB.out)⟩
        · rw [if_neg c13] at H
          have c13b0 : decide ((l0_1.length : Int) < 1) = false := decide_eq_false c13
          have c13b1 : decide (l0_1.length < 1) = false := decide_eq_false (by omega)
          clear c13
          by_cases c15 : (l0_1.length : Int) > 16
          · rw [if_pos c15] at H
            have c15b0 : decide (16 < (l0_1.length : Int)) = true := decide_eq_true c15
            have c15b1 : decide (16 < l0_1.length) = true := decide_eq_true (by omega)
            clear c15
            obtain rfl := Option.some.inj H
            have hcz16_0 : wc.cell? ⟨gb358, 0, none⟩ = some (.string a0_0) := (blk_cell BK358.out 0).trans rfl
            have hcz16_1 : wc.cell? ⟨gb358, 1, none⟩ = some (.slice A0_1 l0_1.length c0_1) := (blk_cell BK358.out 1).trans rfl
            have hcz16_2 : wc.cell? ⟨gb358, 2, none⟩ = some (.string a0_2) := (blk_cell BK358.out 2).trans rfl
            have hcz16_3 : wc.cell? ⟨gb358, 3, none⟩ = some (.bool a0_3) := (blk_cell BK358.out 3).trans rfl
            have hfz16_0 := blk_frozen BK358.out 0
            have hfz16_1 := blk_frozen BK358.out 1
            have hfz16_2 := blk_frozen BK358.out 2
            have hfz16_3 := blk_frozen BK358.out 3
            go_wp2
            go_ret
            exact ⟨by first | rfl | (simp [errW_none, errW_some] <;> rfl) | (simp [*, errW_none, errW_some] <;> rfl), by repeat (first | (with_reducible first | exact HB.out | apply below_alloc | apply pw_below_drewN | apply below_drew1 | refine below_set ?_ GE358.out) | exact HB.out)⟩
          · rw [if_neg c15] at H
            have c15b0 : decide (16 < (l0_1.length : Int)) = false := decide_eq_false c15
            have c15b1 : decide (16 < l0_1.length) = false := decide_eq_false (by omega)
            clear c15
            have H' := Aside0.mk H
            clear H
            have hcz17_0 : wc.cell? ⟨gb358, 0, none⟩ = some (.string a0_0) := (blk_cell BK358.out 0).trans rfl
            have hcz17_1 : wc.cell? ⟨gb358, 1, none⟩ = some (.slice A0_1 l0_1.length c0_1) := (blk_cell BK358.out 1).trans rfl
            have hcz17_2 : wc.cell? ⟨gb358, 2, none⟩ = some (.string a0_2) := (blk_cell BK358.out 2).trans rfl
            have hcz17_3 : wc.cell? ⟨gb358, 3, none⟩ = some (.bool a0_3) := (blk_cell BK358.out 3).trans rfl
            have hfz17_0 := blk_frozen BK358.out 0
            have hfz17_1 := blk_frozen BK358.out 1
            have hfz17_2 := blk_frozen BK358.out 2
            have hfz17_3 := blk_frozen BK358.out 3
            go_wp2
            go_loopg [3] kj1 (fun kq v3 w' => ∃ (x3_2 : Int), v3 = .int .i64 x3_2 ∧ Aside0 (millraceref21_Check.l0 kq x3_2 a0_0 l0_1 a0_2 a0_3 = some r) ∧ Aside0 (kq ≤ kj1) ∧ Aside0 (w'.heap[gb358]? = some (.cells #[.string a0_0, (.slice A0_1 l0_1.length c0_1), .string a0_2, .bool a0_3] 38 (0, 0))) ∧ Aside0 (Below w.heap.size w w'))
            case atStart => exact ⟨(0), (by first | rfl | (simp; done) | (simp [*]; done)), H', ⟨Nat.le_refl _⟩, ⟨by (with_reducible repeat (first | refine blk_drewN ?_ _ | refine blk_drew ?_ | refine blk_alloc ?_ _)); exact BK358.out⟩, ⟨by repeat (first | (with_reducible first | exact HB.out | apply below_alloc | apply pw_below_drewN | apply below_drew1 | refine below_set ?_ GE358.out) | exact HB.out)⟩⟩
            case round =>
              clear H'
              try clear c1
              try clear c2
              try clear p2
              try clear c4
              try clear c4b0
              try clear c4b1
              try clear c8
              try clear c12
              try clear c13
              try clear c13b0
              try clear c13b1
              try clear c15
              try clear c15b0
              try clear c15b1
              try clear hcz10_0
              try clear hcz10_1
              try clear hcz10_2
              try clear hcz10_3
              try clear hcz11_0
              try clear hcz11_1
              try clear hcz11_2
              try clear hcz11_3
              try clear hcz14_0
              try clear hcz14_1
              try clear hcz14_2
              try clear hcz14_3
              try clear hcz16_0
              try clear hcz16_1
              try clear hcz16_2
              try clear hcz16_3
              try clear hcz17_0
              try clear hcz17_1
              try clear hcz17_2
              try clear hcz17_3
              try clear hcz6_0
              try clear hcz6_1
              try clear hcz6_2
              try clear hcz6_3
              try clear hfz10_0
              try clear hfz10_1
              try clear hfz10_2
              try clear hfz10_3
              try clear hfz11_0
              try clear hfz11_1
              try clear hfz11_2
              try clear hfz11_3
              try clear hfz14_0
              try clear hfz14_1
              try clear hfz14_2
              try clear hfz14_3
              try clear hfz16_0
              try clear hfz16_1
              try clear hfz16_2
              try clear hfz16_3
              try clear hfz17_0
              try clear hfz17_1
              try clear hfz17_2
              try clear hfz17_3
              try clear hfz6_0
              try clear hfz6_1
              try clear hfz6_2
              try clear hfz6_3
              try clear p2
              obtain ⟨x3_2, rfl, HA, HK2, BK358, HB⟩ := hrel
              cases gk with
              | zero => exact absurd HA.out (by simp [millraceref21_Check.l0])
              | succ k2 =>
                have H := HA.out
                clear HA
                simp only [millraceref21_Check.l0] at H
                by_cases c18 : x3_2 < (l0_1.length : Int)
                · rw [if_pos c18] at H
                  have c18b0 : decide (x3_2 < (l0_1.length : Int)) = true := decide_eq_true c18
                  clear c18
                  by_cases c19 : 0 ≤ x3_2
                  · rw [if_pos c19] at H
                    have c19b0 : decide (0 ≤ x3_2) = true := decide_eq_true c19
                    clear c19
                    replace H := Option.bind_eq_some_iff.mp H
                    obtain ⟨t363, A200, H⟩ := H
                    replace H : (if t363 = 0 then (millraceref21_Check.l0 k2 (wrap64 (x3_2 + 1)) a0_0 l0_1 a0_2 a0_3) else (some 211)) = some r := H
                    have A20 := Aside0.mk A200
                    clear A200
                    by_cases c21 : t363 = 0
                    · rw [if_pos c21] at H
                      have c21b0 : (t363 == 0) = true := beq_iff_eq.mpr c21
                      have c21b1 : (t363 != 0) = false := bne_eq_false_iff_eq.mpr c21
                      clear c21
                      have H' := Aside0.mk H
                      clear H
                      have hcz22_0 : wr.cell? ⟨gb358, 0, none⟩ = some (.string a0_0) := (blk_cell BK358.out 0).trans rfl
                      have hcz22_1 : wr.cell? ⟨gb358, 1, none⟩ = some (.slice A0_1 l0_1.length c0_1) := (blk_cell BK358.out 1).trans rfl
                      have hcz22_2 : wr.cell? ⟨gb358, 2, none⟩ = some (.string a0_2) := (blk_cell BK358.out 2).trans rfl
                      have hcz22_3 : wr.cell? ⟨gb358, 3, none⟩ = some (.bool a0_3) := (blk_cell BK358.out 3).trans rfl
                      have hfz22_0 := blk_frozen BK358.out 0
                      have hfz22_1 := blk_frozen BK358.out 1
                      have hfz22_2 := blk_frozen BK358.out 2
                      have hfz22_3 := blk_frozen BK358.out 3
                      have p362 : 0 ≤ (x3_2 : Int) := of_decide_eq_true (by first | (with_reducible assumption) | assumption)
                      have q362 : x3_2 < (l0_1.length : Int) := of_decide_eq_true (by first | (with_reducible assumption) | assumption)
                      obtain ⟨ad362, e362, hx362_0, hx362_1, hx362_2⟩ := at_T28 HR0_1.out x3_2 p362 q362
                      cases e362
                      replace hx362_0 := (HB.out.cell (World.block_lt_of_cell? w _ hx362_0)).trans hx362_0
                      replace hx362_1 := (HB.out.cell (World.block_lt_of_cell? w _ hx362_1)).trans hx362_1
                      replace hx362_2 := (HB.out.cell (World.block_lt_of_cell? w _ hx362_2)).trans hx362_2
                      replace p362 := eq_true p362
                      replace q362 := eq_true q362
                      go_wp2_with (first | ((with_reducible refine gate_callee (f := 14) rfl ?_); refine goesL_ (some 44) rfl rfl Tryz.func14 (by kernel_rfl) rfl #[.agg #[.string ((rd_T28 l0_1 x3_2).f0), .int .i64 ((rd_T28 l0_1 x3_2).f1), .string ((rd_T28 l0_1 x3_2).f2)]] rfl (by (try simp only [List.map_toArray, List.map_cons, List.map_nil]); first | done | rfl | (simp only [List.length_drop, List.length_take]; rfl)) ?_; (with_reducible refine (millraceref21_CheckTool.calls k2 ((rd_T28 l0_1 x3_2).f0) ((rd_T28 l0_1 x3_2).f1) ((rd_T28 l0_1 x3_2).f2) t363 _ A20.out).mono ?_); rintro e w23 ⟨rfl, hb⟩; refine ⟨_, rfl, ?_⟩; have n0_ := Aside0.mk (blk_below (g := gb358) (o := .cells #[.string a0_0, .slice (some ad362) l0_1.length c0_1, .string a0_2, .bool a0_3] 38 (0, 0)) (by (with_reducible repeat (first | refine blk_drewN ?_ _ | refine blk_drew ?_ | refine blk_alloc ?_ _)); exact BK358.out) hb); have n1_ := Aside0.mk (below_step (by repeat (first | (with_reducible first | exact HB.out | apply below_alloc | apply pw_below_drewN | apply below_drew1 | refine below_set ?_ GE358.out) | exact HB.out)) hb); clear BK358; clear HB; have BK358 := n0_; have HB := n1_; clear n0_ n1_; (try clear hb); (try clear hb2); (try clear hk); (try clear hi)))
                      go_roundg k2
                      case measure => have := HJ1.out; have := HK2.out; omega
                      case rel => exact ⟨(wrap64 (x3_2 + 1)), (by first | rfl | (simp; done) | (simp [*]; done)), H', ⟨by have := HJ1.out; have := HK2.out; omega⟩, ⟨by (with_reducible repeat (first | refine blk_drewN ?_ _ | refine blk_drew ?_ | refine blk_alloc ?_ _)); exact BK358.out⟩, ⟨by repeat (first | (with_reducible first | exact HB.out | apply below_alloc | apply pw_below_drewN | apply below_drew1 | refine below_set ?_ GE358.out) | exact HB.out)⟩⟩
                    · rw [if_neg c21] at H
                      have c21b0 : (t363 == 0) = false := beq_eq_false_iff_ne.mpr c21
                      have c21b1 : (t363 != 0) = true := bne_iff_ne.mpr c21
                      obtain rfl := Option.some.inj H
                      have hcz24_0 : wr.cell? ⟨gb358, 0, none⟩ = some (.string a0_0) := (blk_cell BK358.out 0).trans rfl
                      have hcz24_1 : wr.cell? ⟨gb358, 1, none⟩ = some (.slice A0_1 l0_1.length c0_1) := (blk_cell BK358.out 1).trans rfl
                      have hcz24_2 : wr.cell? ⟨gb358, 2, none⟩ = some (.string a0_2) := (blk_cell BK358.out 2).trans rfl
                      have hcz24_3 : wr.cell? ⟨gb358, 3, none⟩ = some (.bool a0_3) := (blk_cell BK358.out 3).trans rfl
                      have hfz24_0 := blk_frozen BK358.out 0
                      have hfz24_1 := blk_frozen BK358.out 1
                      have hfz24_2 := blk_frozen BK358.out 2
                      have hfz24_3 := blk_frozen BK358.out 3
                      have p362 : 0 ≤ (x3_2 : Int) := of_decide_eq_true (by first | (with_reducible assumption) | assumption)
                      have q362 : x3_2 < (l0_1.length : Int) := of_decide_eq_true (by first | (with_reducible assumption) | assumption)
                      obtain ⟨ad362, e362, hx362_0, hx362_1, hx362_2⟩ := at_T28 HR0_1.out x3_2 p362 q362
                      cases e362
                      replace hx362_0 := (HB.out.cell (World.block_lt_of_cell? w _ hx362_0)).trans hx362_0
                      replace hx362_1 := (HB.out.cell (World.block_lt_of_cell? w _ hx362_1)).trans hx362_1
                      replace hx362_2 := (HB.out.cell (World.block_lt_of_cell? w _ hx362_2)).trans hx362_2
                      replace p362 := eq_true p362
                      replace q362 := eq_true q362
                      go_wp2_with (first | ((with_reducible refine gate_callee (f := 14) rfl ?_); refine goesL_ (some 44) rfl rfl Tryz.func14 (by kernel_rfl) rfl #[.agg #[.string ((rd_T28 l0_1 x3_2).f0), .int .i64 ((rd_T28 l0_1 x3_2).f1), .string ((rd_T28 l0_1 x3_2).f2)]] rfl (by (try simp only [List.map_toArray, List.map_cons, List.map_nil]); first | done | rfl | (simp only [List.length_drop, List.length_take]; rfl)) ?_; (with_reducible refine (millraceref21_CheckTool.calls k2 ((rd_T28 l0_1 x3_2).f0) ((rd_T28 l0_1 x3_2).f1) ((rd_T28 l0_1 x3_2).f2) t363 _ A20.out).mono ?_); rintro e w25 ⟨rfl, hb⟩; refine ⟨_, rfl, ?_⟩; have n0_ := Aside0.mk (blk_below (g := gb358) (o := .cells #[.string a0_0, .slice (some ad362) l0_1.length c0_1, .string a0_2, .bool a0_3] 38 (0, 0)) (by (with_reducible repeat (first | refine blk_drewN ?_ _ | refine blk_drew ?_ | refine blk_alloc ?_ _)); exact BK358.out) hb); have n1_ := Aside0.mk (below_step (by repeat (first | (with_reducible first | exact HB.out | apply below_alloc | apply pw_below_drewN | apply below_drew1 | refine below_set ?_ GE358.out) | exact HB.out)) hb); clear BK358; clear HB; have BK358 := n0_; have HB := n1_; clear n0_ n1_; (try clear hb); (try clear hb2); (try clear hk); (try clear hi)))
                      go_ret
                      exact ⟨by first | rfl | (simp [errW_none, errW_some] <;> rfl) | (simp [*, errW_none, errW_some] <;> rfl), by repeat (first | (with_reducible first | exact HB.out | apply below_alloc | apply pw_below_drewN | apply below_drew1 | refine below_set ?_ GE358.out) | exact HB.out)⟩
                  · rw [if_neg c19] at H
                    exact absurd H (by simp)
                · rw [if_neg c18] at H
                  have c18b0 : decide (x3_2 < (l0_1.length : Int)) = false := decide_eq_false c18
                  clear c18
                  by_cases c26 : 0 < (l0_1.length : Int)
                  · rw [if_pos c26] at H
                    have c26b0 : decide (0 < (l0_1.length : Int)) = true := decide_eq_true c26
                    have c26b1 : decide (0 < l0_1.length) = true := decide_eq_true (by omega)
                    clear c26
                    by_cases c27 : a0_0.toList = ([] : List UInt8)
                    · rw [if_pos c27] at H
                      have c27b0 : (a0_0.toList == ([] : List UInt8)) = true := beq_iff_eq.mpr c27
                      try have c27b7 : a0_0.toList.isEmpty = true := by rw [c27]; rfl
                      have c27b1 : (a0_0.toList != ([] : List UInt8)) = false := bne_eq_false_iff_eq.mpr c27
                      clear c27
                      by_cases c28 : ((rd_T28 l0_1 0).f0).toList = ([99, 97, 116] : List UInt8)
                      · rw [if_pos c28] at H
                        have c28b0 : (((rd_T28 l0_1 0).f0).toList == ([99, 97, 116] : List UInt8)) = true := beq_iff_eq.mpr c28
                        have c28b1 : (((rd_T28 l0_1 0).f0).toList != ([99, 97, 116] : List UInt8)) = false := bne_eq_false_iff_eq.mpr c28
                        clear c28
                        obtain rfl := Option.some.inj H
                        have hcz29_0 : wr.cell? ⟨gb358, 0, none⟩ = some (.string a0_0) := (blk_cell BK358.out 0).trans rfl
                        have hcz29_1 : wr.cell? ⟨gb358, 1, none⟩ = some (.slice A0_1 l0_1.length c0_1) := (blk_cell BK358.out 1).trans rfl
                        have hcz29_2 : wr.cell? ⟨gb358, 2, none⟩ = some (.string a0_2) := (blk_cell BK358.out 2).trans rfl
                        have hcz29_3 : wr.cell? ⟨gb358, 3, none⟩ = some (.bool a0_3) := (blk_cell BK358.out 3).trans rfl
                        have hfz29_0 := blk_frozen BK358.out 0
                        have hfz29_1 := blk_frozen BK358.out 1
                        have hfz29_2 := blk_frozen BK358.out 2
                        have hfz29_3 := blk_frozen BK358.out 3
                        have p364 : 0 ≤ (0 : Int) := (by omega)
                        have q364 : 0 < (l0_1.length : Int) := of_decide_eq_true (by first | (with_reducible assumption) | assumption)
                        obtain ⟨ad364, e364, hx364_0, hx364_1, hx364_2⟩ := at_T28 HR0_1.out 0 p364 q364
                        cases e364
                        have qi364 : (0 < l0_1.length) = True := eq_true (by omega)
                        (try rw [show ((0 : Int)).toNat = 0 from rfl] at hx364_0)
                        (try rw [show 0 * 3 = 0 from rfl] at hx364_0)
                        (try rw [Addr.add_zero'] at hx364_0)
                        (try rw [show ((0 : Int)).toNat = 0 from rfl] at hx364_1)
                        (try rw [show 0 * 3 = 0 from rfl] at hx364_1)
                        (try rw [Addr.add_zero'] at hx364_1)
                        (try rw [show ((0 : Int)).toNat = 0 from rfl] at hx364_2)
                        (try rw [show 0 * 3 = 0 from rfl] at hx364_2)
                        (try rw [Addr.add_zero'] at hx364_2)
                        replace hx364_0 := (HB.out.cell (World.block_lt_of_cell? w _ hx364_0)).trans hx364_0
                        replace hx364_1 := (HB.out.cell (World.block_lt_of_cell? w _ hx364_1)).trans hx364_1
                        replace hx364_2 := (HB.out.cell (World.block_lt_of_cell? w _ hx364_2)).trans hx364_2
                        replace p364 := eq_true p364
                        replace q364 := eq_true q364
                        go_wp2
                        go_ret
                        exact ⟨by first | rfl | (simp [errW_none, errW_some] <;> rfl) | (simp [*, errW_none, errW_some] <;> rfl), by repeat (first | (with_reducible first | exact HB.out | apply below_alloc | apply pw_below_drewN | apply below_drew1 | refine below_set ?_ GE358.out) | exact HB.out)⟩
                      · rw [if_neg c28] at H
                        have c28b0 : (((rd_T28 l0_1 0).f0).toList == ([99, 97, 116] : List UInt8)) = false := beq_eq_false_iff_ne.mpr c28
                        have c28b1 : (((rd_T28 l0_1 0).f0).toList != ([99, 97, 116] : List UInt8)) = true := bne_iff_ne.mpr c28
                        by_cases c30 : ((rd_T28 l0_1 0).f0).toList = ([104, 101, 97, 100] : List UInt8)
                        · rw [if_pos c30] at H
                          have c30b0 : (((rd_T28 l0_1 0).f0).toList == ([104, 101, 97, 100] : List UInt8)) = true := beq_iff_eq.mpr c30
                          have c30b1 : (((rd_T28 l0_1 0).f0).toList != ([104, 101, 97, 100] : List UInt8)) = false := bne_eq_false_iff_eq.mpr c30
                          clear c30
                          obtain rfl := Option.some.inj H
                          have hcz31_0 : wr.cell? ⟨gb358, 0, none⟩ = some (.string a0_0) := (blk_cell BK358.out 0).trans rfl
                          have hcz31_1 : wr.cell? ⟨gb358, 1, none⟩ = some (.slice A0_1 l0_1.length c0_1) := (blk_cell BK358.out 1).trans rfl
                          have hcz31_2 : wr.cell? ⟨gb358, 2, none⟩ = some (.string a0_2) := (blk_cell BK358.out 2).trans rfl
                          have hcz31_3 : wr.cell? ⟨gb358, 3, none⟩ = some (.bool a0_3) := (blk_cell BK358.out 3).trans rfl
                          have hfz31_0 := blk_frozen BK358.out 0
                          have hfz31_1 := blk_frozen BK358.out 1
                          have hfz31_2 := blk_frozen BK358.out 2
                          have hfz31_3 := blk_frozen BK358.out 3
                          have p364 : 0 ≤ (0 : Int) := (by omega)
                          have q364 : 0 < (l0_1.length : Int) := of_decide_eq_true (by first | (with_reducible assumption) | assumption)
                          obtain ⟨ad364, e364, hx364_0, hx364_1, hx364_2⟩ := at_T28 HR0_1.out 0 p364 q364
                          cases e364
                          have qi364 : (0 < l0_1.length) = True := eq_true (by omega)
                          (try rw [show ((0 : Int)).toNat = 0 from rfl] at hx364_0)
                          (try rw [show 0 * 3 = 0 from rfl] at hx364_0)
                          (try rw [Addr.add_zero'] at hx364_0)
                          (try rw [show ((0 : Int)).toNat = 0 from rfl] at hx364_1)
                          (try rw [show 0 * 3 = 0 from rfl] at hx364_1)
                          (try rw [Addr.add_zero'] at hx364_1)
                          (try rw [show ((0 : Int)).toNat = 0 from rfl] at hx364_2)
                          (try rw [show 0 * 3 = 0 from rfl] at hx364_2)
                          (try rw [Addr.add_zero'] at hx364_2)
                          replace hx364_0 := (HB.out.cell (World.block_lt_of_cell? w _ hx364_0)).trans hx364_0
                          replace hx364_1 := (HB.out.cell (World.block_lt_of_cell? w _ hx364_1)).trans hx364_1
                          replace hx364_2 := (HB.out.cell (World.block_lt_of_cell? w _ hx364_2)).trans hx364_2
                          replace p364 := eq_true p364
                          replace q364 := eq_true q364
                          go_wp2
                          go_ret
                          exact ⟨by first | rfl | (simp [errW_none, errW_some] <;> rfl) | (simp [*, errW_none, errW_some] <;> rfl), by repeat (first | (with_reducible first | exact HB.out | apply below_alloc | apply pw_below_drewN | apply below_drew1 | refine below_set ?_ GE358.out) | exact HB.out)⟩
                        · rw [if_neg c30] at H
                          have c30b0 : (((rd_T28 l0_1 0).f0).toList == ([104, 101, 97, 100] : List UInt8)) = false := beq_eq_false_iff_ne.mpr c30
                          have c30b1 : (((rd_T28 l0_1 0).f0).toList != ([104, 101, 97, 100] : List UInt8)) = true := bne_iff_ne.mpr c30
                          by_cases c32 : ((rd_T28 l0_1 0).f0).toList = ([119, 99] : List UInt8)
                          · rw [if_pos c32] at H
                            have c32b0 : (((rd_T28 l0_1 0).f0).toList == ([119, 99] : List UInt8)) = true := beq_iff_eq.mpr c32
                            have c32b1 : (((rd_T28 l0_1 0).f0).toList != ([119, 99] : List UInt8)) = false := bne_eq_false_iff_eq.mpr c32
                            clear c32
                            obtain rfl := Option.some.inj H
                            have hcz33_0 : wr.cell? ⟨gb358, 0, none⟩ = some (.string a0_0) := (blk_cell BK358.out 0).trans rfl
                            have hcz33_1 : wr.cell? ⟨gb358, 1, none⟩ = some (.slice A0_1 l0_1.length c0_1) := (blk_cell BK358.out 1).trans rfl
                            have hcz33_2 : wr.cell? ⟨gb358, 2, none⟩ = some (.string a0_2) := (blk_cell BK358.out 2).trans rfl
                            have hcz33_3 : wr.cell? ⟨gb358, 3, none⟩ = some (.bool a0_3) := (blk_cell BK358.out 3).trans rfl
                            have hfz33_0 := blk_frozen BK358.out 0
                            have hfz33_1 := blk_frozen BK358.out 1
                            have hfz33_2 := blk_frozen BK358.out 2
                            have hfz33_3 := blk_frozen BK358.out 3
                            have p364 : 0 ≤ (0 : Int) := (by omega)
                            have q364 : 0 < (l0_1.length : Int) := of_decide_eq_true (by first | (with_reducible assumption) | assumption)
                            obtain ⟨ad364, e364, hx364_0, hx364_1, hx364_2⟩ := at_T28 HR0_1.out 0 p364 q364
                            cases e364
                            have qi364 : (0 < l0_1.length) = True := eq_true (by omega)
                            (try rw [show ((0 : Int)).toNat = 0 from rfl] at hx364_0)
                            (try rw [show 0 * 3 = 0 from rfl] at hx364_0)
                            (try rw [Addr.add_zero'] at hx364_0)
                            (try rw [show ((0 : Int)).toNat = 0 from rfl] at hx364_1)
                            (try rw [show 0 * 3 = 0 from rfl] at hx364_1)
                            (try rw [Addr.add_zero'] at hx364_1)
                            (try rw [show ((0 : Int)).toNat = 0 from rfl] at hx364_2)
                            (try rw [show 0 * 3 = 0 from rfl] at hx364_2)
                            (try rw [Addr.add_zero'] at hx364_2)
                            replace hx364_0 := (HB.out.cell (World.block_lt_of_cell? w _ hx364_0)).trans hx364_0
                            replace hx364_1 := (HB.out.cell (World.block_lt_of_cell? w _ hx364_1)).trans hx364_1
                            replace hx364_2 := (HB.out.cell (World.block_lt_of_cell? w _ hx364_2)).trans hx364_2
                            replace p364 := eq_true p364
                            replace q364 := eq_true q364
                            go_wp2
                            go_ret
                            exact ⟨by first | rfl | (simp [errW_none, errW_some] <;> rfl) | (simp [*, errW_none, errW_some] <;> rfl), by repeat (first | (with_reducible first | exact HB.out | apply below_alloc | apply pw_below_drewN | apply below_drew1 | refine below_set ?_ GE358.out) | exact HB.out)⟩
                          · rw [if_neg c32] at H
                            have c32b0 : (((rd_T28 l0_1 0).f0).toList == ([119, 99] : List UInt8)) = false := beq_eq_false_iff_ne.mpr c32
                            have c32b1 : (((rd_T28 l0_1 0).f0).toList != ([119, 99] : List UInt8)) = true := bne_iff_ne.mpr c32
                            obtain rfl := Option.some.inj H
                            have hcz34_0 : wr.cell? ⟨gb358, 0, none⟩ = some (.string a0_0) := (blk_cell BK358.out 0).trans rfl
                            have hcz34_1 : wr.cell? ⟨gb358, 1, none⟩ = some (.slice A0_1 l0_1.length c0_1) := (blk_cell BK358.out 1).trans rfl
                            have hcz34_2 : wr.cell? ⟨gb358, 2, none⟩ = some (.string a0_2) := (blk_cell BK358.out 2).trans rfl
                            have hcz34_3 : wr.cell? ⟨gb358, 3, none⟩ = some (.bool a0_3) := (blk_cell BK358.out 3).trans rfl
                            have hfz34_0 := blk_frozen BK358.out 0
                            have hfz34_1 := blk_frozen BK358.out 1
                            have hfz34_2 := blk_frozen BK358.out 2
                            have hfz34_3 := blk_frozen BK358.out 3
                            have p364 : 0 ≤ (0 : Int) := (by omega)
                            have q364 : 0 < (l0_1.length : Int) := of_decide_eq_true (by first | (with_reducible assumption) | assumption)
                            obtain ⟨ad364, e364, hx364_0, hx364_1, hx364_2⟩ := at_T28 HR0_1.out 0 p364 q364
                            cases e364
                            have qi364 : (0 < l0_1.length) = True := eq_true (by omega)
                            (try rw [show ((0 : Int)).toNat = 0 from rfl] at hx364_0)
                            (try rw [show 0 * 3 = 0 from rfl] at hx364_0)
                            (try rw [Addr.add_zero'] at hx364_0)
                            (try rw [show ((0 : Int)).toNat = 0 from rfl] at hx364_1)
                            (try rw [show 0 * 3 = 0 from rfl] at hx364_1)
                            (try rw [Addr.add_zero'] at hx364_1)
                            (try rw [show ((0 : Int)).toNat = 0 from rfl] at hx364_2)
                            (try rw [show 0 * 3 = 0 from rfl] at hx364_2)
                            (try rw [Addr.add_zero'] at hx364_2)
                            replace hx364_0 := (HB.out.cell (World.block_lt_of_cell? w _ hx364_0)).trans hx364_0
                            replace hx364_1 := (HB.out.cell (World.block_lt_of_cell? w _ hx364_1)).trans hx364_1
                            replace hx364_2 := (HB.out.cell (World.block_lt_of_cell? w _ hx364_2)).trans hx364_2
                            replace p364 := eq_true p364
                            replace q364 := eq_true q364
                            go_wp2
                            go_ret
                            exact ⟨by first | rfl | (simp [errW_none, errW_some] <;> rfl) | (simp [*, errW_none, errW_some] <;> rfl), by repeat (first | (with_reducible first | exact HB.out | apply below_alloc | apply pw_below_drewN | apply below_drew1 | refine below_set ?_ GE358.out) | exact HB.out)⟩
                    · rw [if_neg c27] at H
                      have c27b0 : (a0_0.toList == ([] : List UInt8)) = false := beq_eq_false_iff_ne.mpr c27
                      try have c27b7 : a0_0.toList.isEmpty = false := by simpa using c27
                      have c27b1 : (a0_0.toList != ([] : List UInt8)) = true := bne_iff_ne.mpr c27
                      obtain rfl := Option.some.inj H
                      have hcz35_0 : wr.cell? ⟨gb358, 0, none⟩ = some (.string a0_0) := (blk_cell BK358.out 0).trans rfl
                      have hcz35_1 : wr.cell? ⟨gb358, 1, none⟩ = some (.slice A0_1 l0_1.length c0_1) := (blk_cell BK358.out 1).trans rfl
                      have hcz35_2 : wr.cell? ⟨gb358, 2, none⟩ = some (.string a0_2) := (blk_cell BK358.out 2).trans rfl
                      have hcz35_3 : wr.cell? ⟨gb358, 3, none⟩ = some (.bool a0_3) := (blk_cell BK358.out 3).trans rfl
                      have hfz35_0 := blk_frozen BK358.out 0
                      have hfz35_1 := blk_frozen BK358.out 1
                      have hfz35_2 := blk_frozen BK358.out 2
                      have hfz35_3 := blk_frozen BK358.out 3
                      have p364 : 0 ≤ (0 : Int) := (by omega)
                      have q364 : 0 < (l0_1.length : Int) := of_decide_eq_true (by first | (with_reducible assumption) | assumption)
                      obtain ⟨ad364, e364, hx364_0, hx364_1, hx364_2⟩ := at_T28 HR0_1.out 0 p364 q364
                      cases e364
                      have qi364 : (0 < l0_1.length) = True := eq_true (by omega)
                      (try rw [show ((0 : Int)).toNat = 0 from rfl] at hx364_0)
                      (try rw [show 0 * 3 = 0 from rfl] at hx364_0)
                      (try rw [Addr.add_zero'] at hx364_0)
                      (try rw [show ((0 : Int)).toNat = 0 from rfl] at hx364_1)
                      (try rw [show 0 * 3 = 0 from rfl] at hx364_1)
                      (try rw [Addr.add_zero'] at hx364_1)
                      (try rw [show ((0 : Int)).toNat = 0 from rfl] at hx364_2)
                      (try rw [show 0 * 3 = 0 from rfl] at hx364_2)
                      (try rw [Addr.add_zero'] at hx364_2)
                      replace hx364_0 := (HB.out.cell (World.block_lt_of_cell? w _ hx364_0)).trans hx364_0
                      replace hx364_1 := (HB.out.cell (World.block_lt_of_cell? w _ hx364_1)).trans hx364_1
                      replace hx364_2 := (HB.out.cell (World.block_lt_of_cell? w _ hx364_2)).trans hx364_2
                      replace p364 := eq_true p364
                      replace q364 := eq_true q364
                      go_wp2
                      go_ret
                      exact ⟨by first | rfl | (simp [errW_none, errW_some] <;> rfl) | (simp [*, errW_none, errW_some] <;> rfl), by repeat (first | (with_reducible first | exact HB.out | apply below_alloc | apply pw_below_drewN | apply below_drew1 | refine below_set ?_ GE358.out) | exact HB.out)⟩
                  · rw [if_neg c26] at H
                    exact absurd H (by simp)
end Go.Proofs.YthmijenlndnmcaaGreatDoor.Sh
