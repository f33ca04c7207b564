import Derived.Test.YthmijenlndnmcaaGreatDoorShx0
import Derived.Test.YthmijenlndnmcaaGreatDoorShx6
import Derived.Test.YthmijenlndnmcaaGreatDoorShx12
namespace Go.Proofs.YthmijenlndnmcaaGreatDoor.Sh
open Go.RowKit Go.Proofs.YthmijenlndnmcaaGreatDoorW.PrintWords Go.Proofs.YthmijenlndnmcaaGreatDoorW.PrintLast Go.Proofs.YthmijenlndnmcaaGreatDoorW.PrintMore
attribute [local go_sem] max2_int min2_int max_two min_two max_three min_three max_four min_four
set_option linter.unusedVariables false
set_option linter.unusedSimpArgs false
mutual
def millraceref21_Print.j0 : Nat → ByteArray → ByteArray → List (S28) → ByteArray → Bool → Option (ByteArray × Int)
  | 0, _, _, _, _, _ => none
  | k + 1, x5, x366000, x366001, x366002, x366003 => millraceref21_Print.l0 k x5 0 x366000 x366001 x366002 x366003
def millraceref21_Print.l0 : Nat → ByteArray → Int → ByteArray → List (S28) → ByteArray → Bool → Option (ByteArray × Int)
  | 0, _, _, _, _, _, _ => none
  | k + 1, x5, x6, x366000, x366001, x366002, x366003 => if x6 < (x366001.length : Int) then (if 0 ≤ x6 then (if x6 > 0 then (if x5.size + 2 ≤ 9223372036854775807 then (millraceref21_Print.j2 k (x5 ++ (⟨#[124, 32]⟩ : ByteArray)) x6 x366000 x366001 x366002 x366003 ((rd_T28 x366001 x6).f0) ((rd_T28 x366001 x6).f1) ((rd_T28 x366001 x6).f2)) else (none)) else (millraceref21_Print.j2 k x5 x6 x366000 x366001 x366002 x366003 ((rd_T28 x366001 x6).f0) ((rd_T28 x366001 x6).f1) ((rd_T28 x366001 x6).f2))) else (none)) else (if x366003 = true then (if x5.size + 3 ≤ 9223372036854775807 then (if (x5 ++ (⟨#[62, 62, 32]⟩ : ByteArray)).size + x366002.size ≤ 9223372036854775807 then (some ((x5 ++ (⟨#[62, 62, 32]⟩ : ByteArray)) ++ x366002, 0)) else (none)) else (none)) else (if x5.size + 2 ≤ 9223372036854775807 then (if (x5 ++ (⟨#[62, 32]⟩ : ByteArray)).size + x366002.size ≤ 9223372036854775807 then (some ((x5 ++ (⟨#[62, 32]⟩ : ByteArray)) ++ x366002, 0)) else (none)) else (none)))
def millraceref21_Print.j2 : Nat → ByteArray → Int → ByteArray → List (S28) → ByteArray → Bool → ByteArray → Int → ByteArray → Option (ByteArray × Int)
  | 0, _, _, _, _, _, _, _, _, _ => none
  | k + 1, x5, x6, x366000, x366001, x366002, x366003, x369000, x369001, x369002 => if x5.size + x369000.size ≤ 9223372036854775807 then (if (x5 ++ x369000).size + 1 ≤ 9223372036854775807 then (if x369000.toList = ([104, 101, 97, 100] : List UInt8) then (millraceref21_Print.j3 k ((x5 ++ x369000) ++ (⟨#[32]⟩ : ByteArray)) x6 true x366000 x366001 x366002 x366003 x369000 x369001 x369002) else (millraceref21_Print.j3 k ((x5 ++ x369000) ++ (⟨#[32]⟩ : ByteArray)) x6 (x369000.toList == ([115, 107, 105, 112] : List UInt8)) x366000 x366001 x366002 x366003 x369000 x369001 x369002)) else (none)) else (none)
def millraceref21_Print.j3 : Nat → ByteArray → Int → Bool → ByteArray → List (S28) → ByteArray → Bool → ByteArray → Int → ByteArray → Option (ByteArray × Int)
  | 0, _, _, _, _, _, _, _, _, _, _ => none
  | k + 1, x5, x6, x48, x366000, x366001, x366002, x366003, x369000, x369001, x369002 => if x48 = true then ((millraceref01_Decimal.f k x369001).bind fun t369 => (if x5.size + t369.size ≤ 9223372036854775807 then (if (x5 ++ t369).size + 1 ≤ 9223372036854775807 then (if x369002.toList = ([] : List UInt8) then (millraceref21_Print.l0 k ((x5 ++ t369) ++ (⟨#[32]⟩ : ByteArray)) (wrap64 (x6 + 1)) x366000 x366001 x366002 x366003) else (if ((x5 ++ t369) ++ (⟨#[32]⟩ : ByteArray)).size + x369002.size ≤ 9223372036854775807 then (if (((x5 ++ t369) ++ (⟨#[32]⟩ : ByteArray)) ++ x369002).size + 1 ≤ 9223372036854775807 then (millraceref21_Print.l0 k ((((x5 ++ t369) ++ (⟨#[32]⟩ : ByteArray)) ++ x369002) ++ (⟨#[32]⟩ : ByteArray)) (wrap64 (x6 + 1)) x366000 x366001 x366002 x366003) else (none)) else (none))) else (none)) else (none))) else (if x369002.toList = ([] : List UInt8) then (millraceref21_Print.l0 k x5 (wrap64 (x6 + 1)) x366000 x366001 x366002 x366003) else (if x5.size + x369002.size ≤ 9223372036854775807 then (if (x5 ++ x369002).size + 1 ≤ 9223372036854775807 then (millraceref21_Print.l0 k ((x5 ++ x369002) ++ (⟨#[32]⟩ : ByteArray)) (wrap64 (x6 + 1)) x366000 x366001 x366002 x366003) else (none)) else (none)))
end
def millraceref21_Print.f (k : Nat) (a0_0 : ByteArray) (l0_1 : List (S28)) (a0_2 : ByteArray) (a0_3 : Bool) : Option (ByteArray × Int) := (millraceref21_Check.f k a0_0 l0_1 a0_2 a0_3).bind fun t366 => (if t366 = 0 then (if a0_0.toList = ([] : List UInt8) then (millraceref21_Print.j0 k (⟨#[]⟩ : ByteArray) a0_0 l0_1 a0_2 a0_3) else (if 2 + a0_0.size ≤ 9223372036854775807 then (if ((⟨#[60, 32]⟩ : ByteArray) ++ a0_0).size + 1 ≤ 9223372036854775807 then (millraceref21_Print.j0 k (((⟨#[60, 32]⟩ : ByteArray) ++ a0_0) ++ (⟨#[32]⟩ : ByteArray)) a0_0 l0_1 a0_2 a0_3) else (none)) else (none))) else (some ((⟨#[]⟩ : ByteArray), t366)))
theorem millraceref21_Print.mono_l : ∀ k, (∀ y0 y1 y2 y3 y4, LeO (millraceref21_Print.j0 k y0 y1 y2 y3 y4) (millraceref21_Print.j0 (k + 1) y0 y1 y2 y3 y4)) ∧ (∀ y0 y1 y2 y3 y4 y5, LeO (millraceref21_Print.l0 k y0 y1 y2 y3 y4 y5) (millraceref21_Print.l0 (k + 1) y0 y1 y2 y3 y4 y5)) ∧ (∀ y0 y1 y2 y3 y4 y5 y6 y7 y8, LeO (millraceref21_Print.j2 k y0 y1 y2 y3 y4 y5 y6 y7 y8) (millraceref21_Print.j2 (k + 1) y0 y1 y2 y3 y4 y5 y6 y7 y8)) ∧ (∀ y0 y1 y2 y3 y4 y5 y6 y7 y8 y9, LeO (millraceref21_Print.j3 k y0 y1 y2 y3 y4 y5 y6 y7 y8 y9) (millraceref21_Print.j3 (k + 1) y0 y1 y2 y3 y4 y5 y6 y7 y8 y9))
  | 0 => ⟨fun _ _ _ _ _ r h => by simp [millraceref21_Print.j0] at h, fun _ _ _ _ _ _ r h => by simp [millraceref21_Print.l0] at h, fun _ _ _ _ _ _ _ _ _ r h => by simp [millraceref21_Print.j2] at h, fun _ _ _ _ _ _ _ _ _ _ r h => by simp [millraceref21_Print.j3] at h⟩
  | k + 1 => by
    obtain ⟨ih0, ih1, ih2, ih3⟩ := millraceref21_Print.mono_l k
    refine ⟨?_, ?_, ?_, ?_⟩
    · intro y0 y1 y2 y3 y4
      unfold millraceref21_Print.j0
      repeat' first
      | (with_reducible exact ih0 _ _ _ _ _)
      | (with_reducible exact ih1 _ _ _ _ _ _)
      | (with_reducible exact ih2 _ _ _ _ _ _ _ _ _)
      | (with_reducible exact ih3 _ _ _ _ _ _ _ _ _ _)
      | (with_reducible exact millraceref01_Decimal.mono _ _)
      | (with_reducible exact millraceref21_Check.mono _ _ _ _ _)
      | (with_reducible exact LeO.refl _)
      | (with_reducible exact LeO.none _)
      | (with_reducible refine LeO.ite ?_ ?_)
      | (with_reducible refine LeO.bind ?_ (fun _ => ?_))
      | exact ih0 _ _ _ _ _
      | exact ih1 _ _ _ _ _ _
      | exact ih2 _ _ _ _ _ _ _ _ _
      | exact ih3 _ _ _ _ _ _ _ _ _ _
      | exact millraceref01_Decimal.mono _ _
      | exact millraceref21_Check.mono _ _ _ _ _
      | exact LeO.none _
      | refine LeO.ite ?_ ?_
      | refine LeO.bind ?_ (fun _ => ?_)
    · intro y0 y1 y2 y3 y4 y5
      unfold millraceref21_Print.l0
      repeat' first
      | (with_reducible exact ih0 _ _ _ _ _)
      | (with_reducible exact ih1 _ _ _ _ _ _)
      | (with_reducible exact ih2 _ _ _ _ _ _ _ _ _)
      | (with_reducible exact ih3 _ _ _ _ _ _ _ _ _ _)
      | (with_reducible exact millraceref01_Decimal.mono _ _)
      | (with_reducible exact millraceref21_Check.mono _ _ _ _ _)
      | (with_reducible exact LeO.refl _)
      | (with_reducible exact LeO.none _)
      | (with_reducible refine LeO.ite ?_ ?_)
      | (with_reducible refine LeO.bind ?_ (fun _ => ?_))
      | exact ih0 _ _ _ _ _
      | exact ih1 _ _ _ _ _ _
      | exact ih2 _ _ _ _ _ _ _ _ _
      | exact ih3 _ _ _ _ _ _ _ _ _ _
      | exact millraceref01_Decimal.mono _ _
      | exact millraceref21_Check.mono _ _ _ _ _
      | exact LeO.none _
      | refine LeO.ite ?_ ?_
      | refine LeO.bind ?_ (fun _ => ?_)
    · intro y0 y1 y2 y3 y4 y5 y6 y7 y8
      unfold millraceref21_Print.j2
      repeat' first
      | (with_reducible exact ih0 _ _ _ _ _)
      | (with_reducible exact ih1 _ _ _ _ _ _)
      | (with_reducible exact ih2 _ _ _ _ _ _ _ _ _)
      | (with_reducible exact ih3 _ _ _ _ _ _ _ _ _ _)
      | (with_reducible exact millraceref01_Decimal.mono _ _)
      | (with_reducible exact millraceref21_Check.mono _ _ _ _ _)
      | (with_reducible exact LeO.refl _)
      | (with_reducible exact LeO.none _)
      | (with_reducible refine LeO.ite ?_ ?_)
      | (with_reducible refine LeO.bind ?_ (fun _ => ?_))
      | exact ih0 _ _ _ _ _
      | exact ih1 _ _ _ _ _ _
      | exact ih2 _ _ _ _ _ _ _ _ _
      | exact ih3 _ _ _ _ _ _ _ _ _ _
      | exact millraceref01_Decimal.mono _ _
      | exact millraceref21_Check.mono _ _ _ _ _
      | exact LeO.none _
      | refine LeO.ite ?_ ?_
      | refine LeO.bind ?_ (fun _ => ?_)
    · intro y0 y1 y2 y3 y4 y5 y6 y7 y8 y9
      unfold millraceref21_Print.j3
      repeat' first
      | (with_reducible exact ih0 _ _ _ _ _)
      | (with_reducible exact ih1 _ _ _ _ _ _)
      | (with_reducible exact ih2 _ _ _ _ _ _ _ _ _)
      | (with_reducible exact ih3 _ _ _ _ _ _ _ _ _ _)
      | (with_reducible exact millraceref01_Decimal.mono _ _)
      | (with_reducible exact millraceref21_Check.mono _ _ _ _ _)
      | (with_reducible exact LeO.refl _)
      | (with_reducible exact LeO.none _)
      | (with_reducible refine LeO.ite ?_ ?_)
      | (with_reducible refine LeO.bind ?_ (fun _ => ?_))
      | exact ih0 _ _ _ _ _
      | exact ih1 _ _ _ _ _ _
      | exact ih2 _ _ _ _ _ _ _ _ _
      | exact ih3 _ _ _ _ _ _ _ _ _ _
      | exact millraceref01_Decimal.mono _ _
      | exact millraceref21_Check.mono _ _ _ _ _
      | exact LeO.none _
      | refine LeO.ite ?_ ?_
      | refine LeO.bind ?_ (fun _ => ?_)
theorem millraceref21_Print.mono : ∀ a0 a1 a2 a3 k, LeO (millraceref21_Print.f k a0 a1 a2 a3) (millraceref21_Print.f (k + 1) a0 a1 a2 a3) := by
  intro a0 a1 a2 a3 k
  obtain ⟨ih0, ih1, ih2, ih3⟩ := millraceref21_Print.mono_l k
  unfold millraceref21_Print.f
  repeat' first
      | (with_reducible exact ih0 _ _ _ _ _)
      | (with_reducible exact ih1 _ _ _ _ _ _)
      | (with_reducible exact ih2 _ _ _ _ _ _ _ _ _)
      | (with_reducible exact ih3 _ _ _ _ _ _ _ _ _ _)
      | (with_reducible exact millraceref01_Decimal.mono _ _)
      | (with_reducible exact millraceref21_Check.mono _ _ _ _ _)
      | (with_reducible exact LeO.refl _)
      | (with_reducible exact LeO.none _)
      | (with_reducible refine LeO.ite ?_ ?_)
      | (with_reducible refine LeO.bind ?_ (fun _ => ?_))
      | exact ih0 _ _ _ _ _
      | exact ih1 _ _ _ _ _ _
      | exact ih2 _ _ _ _ _ _ _ _ _
      | exact ih3 _ _ _ _ _ _ _ _ _ _
      | exact millraceref01_Decimal.mono _ _
      | exact millraceref21_Check.mono _ _ _ _ _
      | exact LeO.none _
      | refine LeO.ite ?_ ?_
      | refine LeO.bind ?_ (fun _ => ?_)
set_option maxHeartbeats 8000000 in
set_option maxRecDepth 100000 in
theorem millraceref21_Print.calls (k : Nat) (a0_0 : ByteArray) (A0_1 : Option Addr) (c0_1 : Nat) (l0_1 : List (S28)) (a0_2 : ByteArray) (a0_3 : Bool) (r1 : ByteArray) (r2 : Int) (w : World) (hr0_1 : Kd.C k28 w A0_1 l0_1.length l0_1) (hc0_1 : l0_1.length ≤ c0_1) (h : millraceref21_Print.f k a0_0 l0_1 a0_2 a0_3 = some (r1, r2)) :
    Calls Tryz.prog 21 #[.agg #[.string a0_0, .slice A0_1 l0_1.length c0_1, .string a0_2, .bool a0_3]] w fun e w' => e = .returned (.tuple #[.string r1, .int .i64 r2]) ∧ Below w.heap.size w w' := by
  have hu38 := Tryz.underlying38
  have hu28 := Tryz.underlying28
  have HR0_1 := Aside0.mk hr0_1
  have HC0_1 := Aside0.mk hc0_1
  clear hr0_1 hc0_1
  have HB := Aside0.mk (Below.refl w.heap.size w)
  have H : ((millraceref21_Check.f k a0_0 l0_1 a0_2 a0_3).bind fun t366 => (if t366 = 0 then (if a0_0.toList = ([] : List UInt8) then (millraceref21_Print.j0 k (⟨#[]⟩ : ByteArray) a0_0 l0_1 a0_2 a0_3) else (if 2 + a0_0.size ≤ 9223372036854775807 then (if ((⟨#[60, 32]⟩ : ByteArray) ++ a0_0).size + 1 ≤ 9223372036854775807 then (millraceref21_Print.j0 k (((⟨#[60, 32]⟩ : ByteArray) ++ a0_0) ++ (⟨#[32]⟩ : ByteArray)) a0_0 l0_1 a0_2 a0_3) else (none)) else (none))) else (some ((⟨#[]⟩ : ByteArray), t366)))) = some (r1, r2) := h
  clear h
  replace H := Option.bind_eq_some_iff.mp H
  obtain ⟨t366, A20, H⟩ := H
  replace H : (if t366 = 0 then (if a0_0.toList = ([] : List UInt8) then (millraceref21_Print.j0 k (⟨#[]⟩ : ByteArray) a0_0 l0_1 a0_2 a0_3) else (if 2 + a0_0.size ≤ 9223372036854775807 then (if ((⟨#[60, 32]⟩ : ByteArray) ++ a0_0).size + 1 ≤ 9223372036854775807 then (millraceref21_Print.j0 k (((⟨#[60, 32]⟩ : ByteArray) ++ a0_0) ++ (⟨#[32]⟩ : ByteArray)) a0_0 l0_1 a0_2 a0_3) else (none)) else (none))) else (some ((⟨#[]⟩ : ByteArray), t366))) = some (r1, r2) := H
  have A2 := Aside0.mk A20
  clear A20
  by_cases c3 : t366 = 0
  · rw [if_pos c3] at H
    have c3b0 : (t366 == 0) = true := beq_iff_eq.mpr c3
    have c3b1 : (t366 != 0) = false := bne_eq_false_iff_eq.mpr c3
    clear c3
    have HC4 := Aside0.mk H
    clear H
    go_enter Tryz.func21, Tryz.ntmps21
    go_upto_if 15 with (first | ((with_reducible refine gate_dst (N := 1) rfl ?_); refine box_event ?hg (N := 1) ?hd (cs := #[.string a0_0, .slice A0_1 l0_1.length c0_1, .string a0_2, .bool a0_3]) (t := 38) ?hr ?_; (case hd => rfl); (case hg => rfl); (case hr => first | (go_simp; done) | (go_simp; rfl)); intro gb365 hg w5 hbox hb; have n0_ := Aside0.mk (below_step (by repeat (first | (with_reducible first | exact HB.out | apply below_alloc | apply pw_below_drewN | apply below_drew1) | exact HB.out)) hb); have n1_ := Aside0.mk (hbox); have n2_ := Aside0.mk ((by rw [hg]; exact (below_size (by repeat (first | (with_reducible first | exact HB.out | apply below_alloc | apply pw_below_drewN | apply below_drew1) | exact HB.out))) : w.heap.size ≤ gb365)); have n3_ := Aside0.mk ((by rw [hg]; exact (below_size (by repeat (first | (with_reducible first | exact HB.out | apply below_alloc | apply pw_below_drewN | apply below_drew1) | exact HB.out))) : w.heap.size ≤ gb365)); clear HB; have HB := n0_; have BK365 := n1_; have GW365 := n2_; have GE365 := n3_; clear n0_ n1_ n2_ n3_; clear hb hbox hg; have hcz6_0 : w5.cell? ⟨gb365, 0, none⟩ = some (.string a0_0) := (blk_cell BK365.out 0).trans rfl; have hcz6_1 : w5.cell? ⟨gb365, 1, none⟩ = some (.slice A0_1 l0_1.length c0_1) := (blk_cell BK365.out 1).trans rfl; have hcz6_2 : w5.cell? ⟨gb365, 2, none⟩ = some (.string a0_2) := (blk_cell BK365.out 2).trans rfl; have hcz6_3 : w5.cell? ⟨gb365, 3, none⟩ = some (.bool a0_3) := (blk_cell BK365.out 3).trans rfl; have hfz6_0 := blk_frozen BK365.out 0; have hfz6_1 := blk_frozen BK365.out 1; have hfz6_2 := blk_frozen BK365.out 2; have hfz6_3 := blk_frozen BK365.out 3) | ((with_reducible refine gate_callee (f := 24) rfl ?_); refine goesL_ (some 9) rfl rfl Tryz.func24 (by kernel_rfl) rfl #[.agg #[.string a0_0, .slice A0_1 l0_1.length c0_1, .string a0_2, .bool a0_3]] rfl (by (try simp only [List.map_toArray, List.map_cons, List.map_nil]); first | done | rfl | (simp only [List.length_drop, List.length_take]; rfl)) ?_; (with_reducible refine (millraceref21_Check.calls k a0_0 _ _ l0_1 a0_2 a0_3 t366 _ ?side1 ?side2 A2.out).mono ?_); (case side1 => repeat (first | exact (Kd.C_below HR0_1.out HB.out) | (with_reducible refine Kd.C_alloc ?_ _) | (with_reducible refine Kd.C_drewN ?_ _) | (with_reducible refine Kd.C_drew ?_))); (case side2 => exact HC0_1.out); rintro e w7 ⟨rfl, hb⟩; refine ⟨_, rfl, ?_⟩; have n0_ := Aside0.mk (blk_below (g := gb365) (o := .cells #[.string a0_0, .slice A0_1 l0_1.length c0_1, .string a0_2, .bool a0_3] 38 (0, 0)) (by (with_reducible repeat (first | refine blk_drewN ?_ _ | refine blk_drew ?_ | refine blk_alloc ?_ _)); exact BK365.out) hb); have n1_ := Aside0.mk (below_step (by repeat (first | (with_reducible first | exact HB.out | apply below_alloc | apply pw_below_drewN | apply below_drew1 | refine below_set ?_ GE365.out) | exact HB.out)) hb); clear BK365; clear HB; have BK365 := n0_; have HB := n1_; clear n0_ n1_; (try clear hb); (try clear hb2); (try clear hk); (try clear hi); have hcz8_0 : w7.cell? ⟨gb365, 0, none⟩ = some (.string a0_0) := (blk_cell BK365.out 0).trans rfl; have hcz8_1 : w7.cell? ⟨gb365, 1, none⟩ = some (.slice A0_1 l0_1.length c0_1) := (blk_cell BK365.out 1).trans rfl; have hcz8_2 : w7.cell? ⟨gb365, 2, none⟩ = some (.string a0_2) := (blk_cell BK365.out 2).trans rfl; have hcz8_3 : w7.cell? ⟨gb365, 3, none⟩ = some (.bool a0_3) := (blk_cell BK365.out 3).trans rfl; have hfz8_0 := blk_frozen BK365.out 0; have hfz8_1 := blk_frozen BK365.out 1; have hfz8_2 := blk_frozen BK365.out 2; have hfz8_3 := blk_frozen BK365.out 3))
    (try simp only [Act.put, List.setIfInBounds_toArray, List.set_cons_zero, List.set_cons_succ])
    go_cut [5] (fun v5 wc => ∃ (kq : Nat) (x5_3 : ByteArray), v5 = .string x5_3 ∧ Aside0 (millraceref21_Print.j0 kq x5_3 a0_0 l0_1 a0_2 a0_3 = some (r1, r2)) ∧ Aside0 (kq ≤ k) ∧ Aside0 (wc.heap[gb365]? = some (.cells #[.string a0_0, (.slice A0_1 l0_1.length c0_1), .string a0_2, .bool a0_3] 38 (0, 0))) ∧ Aside0 (Below w.heap.size w wc))
    case first =>
      have H := HC4.out
      clear HC4
      by_cases c9 : a0_0.toList = ([] : List UInt8)
      · rw [if_pos c9] at H
        have c9b0 : (a0_0.toList == ([] : List UInt8)) = true := beq_iff_eq.mpr c9
        try have c9b7 : a0_0.toList.isEmpty = true := by rw [c9]; rfl
        have c9b1 : (a0_0.toList != ([] : List UInt8)) = false := bne_eq_false_iff_eq.mpr c9
        clear c9
        (first | rw [c9b0] | (simp only [i64_w, i32_w]; rw [c9b0]) | rw [c9b7] | skip)
        have H' := Aside0.mk H
        clear H
        go_wp2
        go_meet
        case rel => exact ⟨_, ((⟨#[]⟩ : ByteArray)), (by first | rfl | (simp; done) | (simp [*]; done)), H', ⟨by first | omega | exact Nat.le_refl _⟩, ⟨by (with_reducible repeat (first | refine blk_drewN ?_ _ | refine blk_drew ?_ | refine blk_alloc ?_ _)); exact BK365.out⟩, ⟨by repeat (first | (with_reducible first | exact HB.out | apply below_alloc | apply pw_below_drewN | apply below_drew1 | refine below_set ?_ GE365.out) | exact HB.out)⟩⟩
      · rw [if_neg c9] at H
        have c9b0 : (a0_0.toList == ([] : List UInt8)) = false := beq_eq_false_iff_ne.mpr c9
        try have c9b7 : a0_0.toList.isEmpty = false := by simpa using c9
        have c9b1 : (a0_0.toList != ([] : List UInt8)) = true := bne_iff_ne.mpr c9
        (first | rw [c9b0] | (simp only [i64_w, i32_w]; rw [c9b0]) | rw [c9b7] | skip)
        by_cases c10 : 2 + a0_0.size ≤ 9223372036854775807
        · rw [if_pos c10] at H
          have c10b0 := eq_true c10
          have c10b1 : decide (2 + a0_0.size ≤ 9223372036854775807) = true := decide_eq_true c10
          try have c10b2 : (9223372036854775807 < 2 + a0_0.size) = False := eq_false (Nat.not_lt.2 c10)
          by_cases c11 : ((⟨#[60, 32]⟩ : ByteArray) ++ a0_0).size + 1 ≤ 9223372036854775807
          · rw [if_pos c11] at H
            have c11b0 := eq_true c11
            have c11b1 : decide (((⟨#[60, 32]⟩ : ByteArray) ++ a0_0).size + 1 ≤ 9223372036854775807) = true := decide_eq_true c11
            try have c11b2 : (9223372036854775807 < ((⟨#[60, 32]⟩ : ByteArray) ++ a0_0).size + 1) = False := eq_false (Nat.not_lt.2 c11)
            have c11b3 : (9223372036854775807 < 2 + a0_0.size + 1) = False := by have e_ : ((⟨#[60, 32]⟩ : ByteArray) ++ a0_0).size + 1 = 2 + a0_0.size + 1 := (by first | (simp only [ByteArray.size_append]; done) | (simp only [ByteArray.size_append]; rfl) | rfl); rw [← e_]; exact c11b2
            have H' := Aside0.mk H
            clear H
            have hcz12_0 : w7.cell? ⟨gb365, 0, none⟩ = some (.string a0_0) := (blk_cell BK365.out 0).trans rfl
            have hcz12_1 : w7.cell? ⟨gb365, 1, none⟩ = some (.slice A0_1 l0_1.length c0_1) := (blk_cell BK365.out 1).trans rfl
            have hcz12_2 : w7.cell? ⟨gb365, 2, none⟩ = some (.string a0_2) := (blk_cell BK365.out 2).trans rfl
            have hcz12_3 : w7.cell? ⟨gb365, 3, none⟩ = some (.bool a0_3) := (blk_cell BK365.out 3).trans rfl
            have hfz12_0 := blk_frozen BK365.out 0
            have hfz12_1 := blk_frozen BK365.out 1
            have hfz12_2 := blk_frozen BK365.out 2
            have hfz12_3 := blk_frozen BK365.out 3
            go_wp2
            go_meet
            case rel => exact ⟨_, (((⟨#[60, 32]⟩ : ByteArray) ++ a0_0) ++ (⟨#[32]⟩ : ByteArray)), (by first | rfl | (simp; done) | (simp [*]; done)), H', ⟨by first | omega | exact Nat.le_refl _⟩, ⟨by (with_reducible repeat (first | refine blk_drewN ?_ _ | refine blk_drew ?_ | refine blk_alloc ?_ _)); exact BK365.out⟩, ⟨by repeat (first | (with_reducible first | exact HB.out | apply below_alloc | apply pw_below_drewN | apply below_drew1 | refine below_set ?_ GE365.out) | exact HB.out)⟩⟩
          · rw [if_neg c11] at H
            exact absurd H (by simp)
        · rw [if_neg c10] at H
          exact absurd H (by simp)
    case rest =>
      clear HC4
      try clear c1
      try clear c2
      try clear p2
      try clear c3
      try clear c3b0
      try clear c3b1
      try clear c9
      try clear c9b0
      try clear c9b1
      try clear c10
      try clear c10b0
      try clear c10b1
      try clear c10b2
      try clear c11
      try clear c11b0
      try clear c11b1
      try clear c11b2
      try clear hcz12_0
      try clear hcz12_1
      try clear hcz12_2
      try clear hcz12_3
      try clear hcz6_0
      try clear hcz6_1
      try clear hcz6_2
      try clear hcz6_3
      try clear hcz8_0
      try clear hcz8_1
      try clear hcz8_2
      try clear hcz8_3
      try clear hfz12_0
      try clear hfz12_1
      try clear hfz12_2
      try clear hfz12_3
      try clear hfz6_0
      try clear hfz6_1
      try clear hfz6_2
      try clear hfz6_3
      try clear hfz8_0
      try clear hfz8_1
      try clear hfz8_2
      try clear hfz8_3
      obtain ⟨kq, x5_3, rfl, HA, HJ3, BK365, HB⟩ := hcut
      cases kq with
      | zero => exact absurd HA.out (by simp [millraceref21_Print.j0])
      | succ kj3 =>
        have H := HA.out
        clear HA
        simp only [millraceref21_Print.j0] at H
        have H' := Aside0.mk H
        clear H
        go_wp2
        go_loopg [5, 6] kj3 (fun kq v5 v6 w' => ∃ (x5_2 : ByteArray) (x6_2 : Int), v5 = .string x5_2 ∧ v6 = .int .i64 x6_2 ∧ Aside0 (millraceref21_Print.l0 kq x5_2 x6_2 a0_0 l0_1 a0_2 a0_3 = some (r1, r2)) ∧ Aside0 (kq ≤ kj3) ∧ Aside0 (w'.heap[gb365]? = some (.cells #[.string a0_0, (.slice A0_1 l0_1.length c0_1), .string a0_2, .bool a0_3] 38 (0, 0))) ∧ Aside0 (Below w.heap.size w w'))
        case atStart => exact ⟨(x5_3), (0), (by first | rfl | (simp; done) | (simp [*]; done)), (by first | rfl | (simp; done) | (simp [*]; done)), H', ⟨Nat.le_refl _⟩, ⟨by (with_reducible repeat (first | refine blk_drewN ?_ _ | refine blk_drew ?_ | refine blk_alloc ?_ _)); exact BK365.out⟩, ⟨by repeat (first | (with_reducible first | exact HB.out | apply below_alloc | apply pw_below_drewN | apply below_drew1 | refine below_set ?_ GE365.out) | exact HB.out)⟩⟩
        case round =>
          clear H'
          try clear c1
          try clear c2
          try clear p2
          try clear c3
          try clear c3b0
          try clear c3b1
          try clear c9
          try clear c9b0
          try clear c9b1
          try clear c10
          try clear c10b0
          try clear c10b1
          try clear c10b2
          try clear c11
          try clear c11b0
          try clear c11b1
          try clear c11b2
          try clear hcz12_0
          try clear hcz12_1
          try clear hcz12_2
          try clear hcz12_3
          try clear hcz6_0
          try clear hcz6_1
          try clear hcz6_2
          try clear hcz6_3
          try clear hcz8_0
          try clear hcz8_1
          try clear hcz8_2
          try clear hcz8_3
          try clear hfz12_0
          try clear hfz12_1
          try clear hfz12_2
          try clear hfz12_3
          try clear hfz6_0
          try clear hfz6_1
          try clear hfz6_2
          try clear hfz6_3
          try clear hfz8_0
          try clear hfz8_1
          try clear hfz8_2
          try clear hfz8_3
          try clear p2
          obtain ⟨x5_2, x6_2, rfl, rfl, HA, HK2, BK365, HB⟩ := hrel
          cases gk with
          | zero => exact absurd HA.out (by simp [millraceref21_Print.l0])
          | succ k2 =>
            have H := HA.out
            clear HA
            simp only [millraceref21_Print.l0] at H
            by_cases c13 : x6_2 < (l0_1.length : Int)
            · rw [if_pos c13] at H
              have c13b0 : decide (x6_2 < (l0_1.length : Int)) = true := decide_eq_true c13
              clear c13
              by_cases c14 : 0 ≤ x6_2
              · rw [if_pos c14] at H
                have c14b0 : decide (0 ≤ x6_2) = true := decide_eq_true c14
                clear c14
                have HC15 := Aside0.mk H
                clear H
                have hcz16_0 : wr.cell? ⟨gb365, 0, none⟩ = some (.string a0_0) := (blk_cell BK365.out 0).trans rfl
                have hcz16_1 : wr.cell? ⟨gb365, 1, none⟩ = some (.slice A0_1 l0_1.length c0_1) := (blk_cell BK365.out 1).trans rfl
                have hcz16_2 : wr.cell? ⟨gb365, 2, none⟩ = some (.string a0_2) := (blk_cell BK365.out 2).trans rfl
                have hcz16_3 : wr.cell? ⟨gb365, 3, none⟩ = some (.bool a0_3) := (blk_cell BK365.out 3).trans rfl
                have hfz16_0 := blk_frozen BK365.out 0
                have hfz16_1 := blk_frozen BK365.out 1
                have hfz16_2 := blk_frozen BK365.out 2
                have hfz16_3 := blk_frozen BK365.out 3
                have p367 : 0 ≤ (x6_2 : Int) := of_decide_eq_true (by first | (with_reducible assumption) | assumption)
                have q367 : x6_2 < (l0_1.length : Int) := of_decide_eq_true (by first | (with_reducible assumption) | assumption)
                obtain ⟨ad367, e367, hx367_0, hx367_1, hx367_2⟩ := at_T28 HR0_1.out x6_2 p367 q367
                cases e367
                replace hx367_0 := (HB.out.cell (World.block_lt_of_cell? w _ hx367_0)).trans hx367_0
                replace hx367_1 := (HB.out.cell (World.block_lt_of_cell? w _ hx367_1)).trans hx367_1
                replace hx367_2 := (HB.out.cell (World.block_lt_of_cell? w _ hx367_2)).trans hx367_2
                replace p367 := eq_true p367
                replace q367 := eq_true q367
                go_upto_if 33 with (first | ((with_reducible refine gate_dst (N := 7) rfl ?_); refine box_event ?hg (N := 7) ?hd (cs := #[.string (⟨#[]⟩ : ByteArray), .int .i64 0, .string (⟨#[]⟩ : ByteArray)]) (t := 28) ?hr ?_; (case hd => rfl); (case hg => rfl); (case hr => first | (go_simp; done) | (go_simp; rfl)); intro gb368 hg w17 hbox hb; have n0_ := Aside0.mk (blk_below (g := gb365) (o := .cells #[.string a0_0, .slice (some ad367) l0_1.length c0_1, .string a0_2, .bool a0_3] 38 (0, 0)) (by (with_reducible repeat (first | refine blk_drewN ?_ _ | refine blk_drew ?_ | refine blk_alloc ?_ _)); exact BK365.out) hb); have n1_ := Aside0.mk (below_step (by repeat (first | (with_reducible first | exact HB.out | apply below_alloc | apply pw_below_drewN | apply below_drew1 | refine below_set ?_ GE365.out) | exact HB.out)) hb); have n2_ := Aside0.mk (hbox); have n3_ := Aside0.mk ((by rw [hg]; exact (below_size (by repeat (first | (with_reducible first | exact HB.out | apply below_alloc | apply pw_below_drewN | apply below_drew1 | refine below_set ?_ GE365.out) | exact HB.out))) : w.heap.size ≤ gb368)); have n4_ := Aside0.mk ((by rw [hg]; exact (below_size (by repeat (first | (with_reducible first | exact HB.out | apply below_alloc | apply pw_below_drewN | apply below_drew1 | refine below_set ?_ GE365.out) | exact HB.out))) : w.heap.size ≤ gb368)); have n5_ := Aside0.mk ((by rw [hg]; exact Nat.ne_of_lt (blk_lt (g := gb365) (o := .cells #[.string a0_0, .slice (some ad367) l0_1.length c0_1, .string a0_2, .bool a0_3] 38 (0, 0)) (by (with_reducible repeat (first | refine blk_drewN ?_ _ | refine blk_drew ?_ | refine blk_alloc ?_ _)); exact BK365.out)) : gb365 ≠ gb368)); have n6_ := Aside0.mk ((by rw [hg]; exact Nat.ne_of_gt (blk_lt (g := gb365) (o := .cells #[.string a0_0, .slice (some ad367) l0_1.length c0_1, .string a0_2, .bool a0_3] 38 (0, 0)) (by (with_reducible repeat (first | refine blk_drewN ?_ _ | refine blk_drew ?_ | refine blk_alloc ?_ _)); exact BK365.out)) : gb368 ≠ gb365)); clear BK365; clear HB; have BK365 := n0_; have HB := n1_; have BK368 := n2_; have GW368 := n3_; have GE368 := n4_; have NB365_368 := n5_; have NB368_365 := n6_; clear n0_ n1_ n2_ n3_ n4_ n5_ n6_; clear hb hbox hg; have hnb18 := NB368_365.out; have hnc18 := NB365_368.out; have hcz19_0 : w17.cell? ⟨gb368, 0, none⟩ = some (.string (⟨#[]⟩ : ByteArray)) := (blk_cell BK368.out 0).trans rfl; have hcz19_1 : w17.cell? ⟨gb368, 1, none⟩ = some (.int .i64 0) := (blk_cell BK368.out 1).trans rfl; have hcz19_2 : w17.cell? ⟨gb368, 2, none⟩ = some (.string (⟨#[]⟩ : ByteArray)) := (blk_cell BK368.out 2).trans rfl; have hfz19_0 := blk_frozen BK368.out 0; have hfz19_1 := blk_frozen BK368.out 1; have hfz19_2 := blk_frozen BK368.out 2))
                (try simp only [Act.put, List.setIfInBounds_toArray, List.set_cons_zero, List.set_cons_succ])
                go_cut [5] (fun v5 wc => ∃ (kq : Nat) (x5_14 : ByteArray), v5 = .string x5_14 ∧ Aside0 (millraceref21_Print.j2 kq x5_14 x6_2 a0_0 l0_1 a0_2 a0_3 ((rd_T28 l0_1 x6_2).f0) ((rd_T28 l0_1 x6_2).f1) ((rd_T28 l0_1 x6_2).f2) = some (r1, r2)) ∧ Aside0 (kq ≤ k2) ∧ Aside0 (wc.heap[gb365]? = some (.cells #[.string a0_0, (.slice (some ad367) l0_1.length c0_1), .string a0_2, .bool a0_3] 38 (0, 0))) ∧ Aside0 (wc.heap[gb368]? = some (.cells #[.string ((rd_T28 l0_1 x6_2).f0), .int .i64 ((rd_T28 l0_1 x6_2).f1), .string ((rd_T28 l0_1 x6_2).f2)] 28 (0, 0))) ∧ Aside0 (Below w.heap.size w wc))
                case first =>
                  have H := HC15.out
                  clear HC15
                  by_cases c20 : x6_2 > 0
                  · rw [if_pos c20] at H
                    have c20b0 : decide (0 < x6_2) = true := decide_eq_true c20
                    clear c20
                    (first | rw [c20b0] | (simp only [i64_w, i32_w]; rw [c20b0]) | skip)
                    by_cases c21 : x5_2.size + 2 ≤ 9223372036854775807
                    · rw [if_pos c21] at H
                      have c21b0 := eq_true c21
                      have c21b1 : decide (x5_2.size + 2 ≤ 9223372036854775807) = true := decide_eq_true c21
                      try have c21b2 : (9223372036854775807 < x5_2.size + 2) = False := eq_false (Nat.not_lt.2 c21)
                      have H' := Aside0.mk H
                      clear H
                      go_wp2
                      go_meet
                      case rel => exact ⟨_, (x5_2 ++ (⟨#[124, 32]⟩ : ByteArray)), (by first | rfl | (simp; done) | (simp [*]; done)), H', ⟨by have := HJ3.out; have := HK2.out; first | omega | exact Nat.le_refl _⟩, ⟨by (with_reducible repeat (first | refine blk_drewN ?_ _ | refine blk_drew ?_ | refine blk_alloc ?_ _)); refine blk_far ?_ NB365_368.out _; (with_reducible repeat (first | refine blk_drewN ?_ _ | refine blk_drew ?_ | refine blk_alloc ?_ _)); refine blk_far ?_ NB365_368.out _; (with_reducible repeat (first | refine blk_drewN ?_ _ | refine blk_drew ?_ | refine blk_alloc ?_ _)); refine blk_far ?_ NB365_368.out _; (with_reducible repeat (first | refine blk_drewN ?_ _ | refine blk_drew ?_ | refine blk_alloc ?_ _)); exact BK365.out⟩, ⟨by (with_reducible repeat (first | refine blk_drewN ?_ _ | refine blk_drew ?_ | refine blk_alloc ?_ _)); refine blk_put (cs := #[.string ((rd_T28 l0_1 x6_2).f0), .int .i64 ((rd_T28 l0_1 x6_2).f1), .string (⟨#[]⟩ : ByteArray)]) ?_ 2 _ rfl; (with_reducible repeat (first | refine blk_drewN ?_ _ | refine blk_drew ?_ | refine blk_alloc ?_ _)); refine blk_put (cs := #[.string ((rd_T28 l0_1 x6_2).f0), .int .i64 0, .string (⟨#[]⟩ : ByteArray)]) ?_ 1 _ rfl; (with_reducible repeat (first | refine blk_drewN ?_ _ | refine blk_drew ?_ | refine blk_alloc ?_ _)); refine blk_put (cs := #[.string (⟨#[]⟩ : ByteArray), .int .i64 0, .string (⟨#[]⟩ : ByteArray)]) ?_ 0 _ rfl; (with_reducible repeat (first | refine blk_drewN ?_ _ | refine blk_drew ?_ | refine blk_alloc ?_ _)); exact BK368.out⟩, ⟨by repeat (first | (with_reducible first | exact HB.out | apply below_alloc | apply pw_below_drewN | apply below_drew1 | refine below_set ?_ GE365.out | refine below_set ?_ GE368.out) | exact HB.out)⟩⟩
                    · rw [if_neg c21] at H
                      exact absurd H (by simp)
                  · rw [if_neg c20] at H
                    have c20b0 : decide (0 < x6_2) = false := decide_eq_false c20
                    clear c20
                    (first | rw [c20b0] | (simp only [i64_w, i32_w]; rw [c20b0]) | skip)
                    have H' := Aside0.mk H
                    clear H
                    go_wp2
                    go_meet
                    case rel => exact ⟨_, (x5_2), (by first | rfl | (simp; done) | (simp [*]; done)), H', ⟨by have := HJ3.out; have := HK2.out; first | omega | exact Nat.le_refl _⟩, ⟨by (with_reducible repeat (first | refine blk_drewN ?_ _ | refine blk_drew ?_ | refine blk_alloc ?_ _)); refine blk_far ?_ NB365_368.out _; (with_reducible repeat (first | refine blk_drewN ?_ _ | refine blk_drew ?_ | refine blk_alloc ?_ _)); refine blk_far ?_ NB365_368.out _; (with_reducible repeat (first | refine blk_drewN ?_ _ | refine blk_drew ?_ | refine blk_alloc ?_ _)); refine blk_far ?_ NB365_368.out _; (with_reducible repeat (first | refine blk_drewN ?_ _ | refine blk_drew ?_ | refine blk_alloc ?_ _)); exact BK365.out⟩, ⟨by (with_reducible repeat (first | refine blk_drewN ?_ _ | refine blk_drew ?_ | refine blk_alloc ?_ _)); refine blk_put (cs := #[.string ((rd_T28 l0_1 x6_2).f0), .int .i64 ((rd_T28 l0_1 x6_2).f1), .string (⟨#[]⟩ : ByteArray)]) ?_ 2 _ rfl; (with_reducible repeat (first | refine blk_drewN ?_ _ | refine blk_drew ?_ | refine blk_alloc ?_ _)); refine blk_put (cs := #[.string ((rd_T28 l0_1 x6_2).f0), .int .i64 0, .string (⟨#[]⟩ : ByteArray)]) ?_ 1 _ rfl; (with_reducible repeat (first | refine blk_drewN ?_ _ | refine blk_drew ?_ | refine blk_alloc ?_ _)); refine blk_put (cs := #[.string (⟨#[]⟩ : ByteArray), .int .i64 0, .string (⟨#[]⟩ : ByteArray)]) ?_ 0 _ rfl; (with_reducible repeat (first | refine blk_drewN ?_ _ | refine blk_drew ?_ | refine blk_alloc ?_ _)); exact BK368.out⟩, ⟨by repeat (first | (with_reducible first | exact HB.out | apply below_alloc | apply pw_below_drewN | apply below_drew1 | refine below_set ?_ GE365.out | refine below_set ?_ GE368.out) | exact HB.out)⟩⟩
                case rest =>
                  clear HC15
                  try clear c1
                  try clear c2
                  try clear p2
                  try clear c3
                  try clear c3b0
                  try clear c3b1
                  try clear p3
                  try clear q3
                  try clear hx3
                  try clear c9
                  try clear c9b0
                  try clear c9b1
                  try clear c10
                  try clear c10b0
                  try clear c10b1
                  try clear c10b2
                  try clear c11
                  try clear c11b0
                  try clear c11b1
                  try clear c11b2
                  try clear c13
                  try clear c13b0
                  try clear c14
                  try clear c14b0
                  try clear c18
                  try clear c20
                  try clear c20b0
                  try clear c21
                  try clear c21b0
                  try clear c21b1
                  try clear c21b2
                  try clear hcz12_0
                  try clear hcz12_1
                  try clear hcz12_2
                  try clear hcz12_3
                  try clear hcz16_0
                  try clear hcz16_1
                  try clear hcz16_2
                  try clear hcz16_3
                  try clear hcz19_0
                  try clear hcz19_1
                  try clear hcz19_2
                  try clear hcz6_0
                  try clear hcz6_1
                  try clear hcz6_2
                  try clear hcz6_3
                  try clear hcz8_0
                  try clear hcz8_1
                  try clear hcz8_2
                  try clear hcz8_3
                  try clear hfz12_0
                  try clear hfz12_1
                  try clear hfz12_2
                  try clear hfz12_3
                  try clear hfz16_0
                  try clear hfz16_1
                  try clear hfz16_2
                  try clear hfz16_3
                  try clear hfz19_0
                  try clear hfz19_1
                  try clear hfz19_2
                  try clear hfz6_0
                  try clear hfz6_1
                  try clear hfz6_2
                  try clear hfz6_3
                  try clear hfz8_0
                  try clear hfz8_1
                  try clear hfz8_2
                  try clear hfz8_3
                  try clear hx367_0
                  try clear hx367_1
                  try clear hx367_2
                  try clear p2
                  try clear p367
                  try clear q367
                  obtain ⟨kq, x5_14, rfl, HA, HJ14, BK365, BK368, HB⟩ := hcut
                  cases kq with
                  | zero => exact absurd HA.out (by simp [millraceref21_Print.j2])
                  | succ kj14 =>
                    have H := HA.out
                    clear HA
                    simp only [millraceref21_Print.j2] at H
                    by_cases c22 : x5_14.size + ((rd_T28 l0_1 x6_2).f0).size ≤ 9223372036854775807
                    · rw [if_pos c22] at H
                      have c22b0 := eq_true c22
                      have c22b1 : decide (x5_14.size + ((rd_T28 l0_1 x6_2).f0).size ≤ 9223372036854775807) = true := decide_eq_true c22
                      try have c22b2 : (9223372036854775807 < x5_14.size + ((rd_T28 l0_1 x6_2).f0).size) = False := eq_false (Nat.not_lt.2 c22)
                      by_cases c23 : (x5_14 ++ ((rd_T28 l0_1 x6_2).f0)).size + 1 ≤ 9223372036854775807
                      · rw [if_pos c23] at H
                        have c23b0 := eq_true c23
                        have c23b1 : decide ((x5_14 ++ ((rd_T28 l0_1 x6_2).f0)).size + 1 ≤ 9223372036854775807) = true := decide_eq_true c23
                        try have c23b2 : (9223372036854775807 < (x5_14 ++ ((rd_T28 l0_1 x6_2).f0)).size + 1) = False := eq_false (Nat.not_lt.2 c23)
                        have c23b3 : (9223372036854775807 < x5_14.size + ((rd_T28 l0_1 x6_2).f0).size + 1) = False := by have e_ : (x5_14 ++ ((rd_T28 l0_1 x6_2).f0)).size + 1 = x5_14.size + ((rd_T28 l0_1 x6_2).f0).size + 1 := (by first | (simp only [ByteArray.size_append]; done) | (simp only [ByteArray.size_append]; rfl) | rfl); rw [← e_]; exact c23b2
                        have HC24 := Aside0.mk H
                        clear H
                        have hnb25 := NB368_365.out
                        have hnc25 := NB365_368.out
                        have hcz26_0 : wc.cell? ⟨gb368, 0, none⟩ = some (.string ((rd_T28 l0_1 x6_2).f0)) := (blk_cell BK368.out 0).trans rfl
                        have hcz26_1 : wc.cell? ⟨gb368, 1, none⟩ = some (.int .i64 ((rd_T28 l0_1 x6_2).f1)) := (blk_cell BK368.out 1).trans rfl
                        have hcz26_2 : wc.cell? ⟨gb368, 2, none⟩ = some (.string ((rd_T28 l0_1 x6_2).f2)) := (blk_cell BK368.out 2).trans rfl
                        have hfz26_0 := blk_frozen BK368.out 0
                        have hfz26_1 := blk_frozen BK368.out 1
                        have hfz26_2 := blk_frozen BK368.out 2
                        go_upto_region 14 with (fail)
                        go_cut [48] (fun v48 wc => ∃ (kq : Nat) (x48_23 : Bool), v48 = .bool x48_23 ∧ Aside0 (millraceref21_Print.j3 kq ((x5_14 ++ ((rd_T28 l0_1 x6_2).f0)) ++ (⟨#[32]⟩ : ByteArray)) x6_2 x48_23 a0_0 l0_1 a0_2 a0_3 ((rd_T28 l0_1 x6_2).f0) ((rd_T28 l0_1 x6_2).f1) ((rd_T28 l0_1 x6_2).f2) = some (r1, r2)) ∧ Aside0 (kq ≤ kj14) ∧ Aside0 (wc.heap[gb365]? = some (.cells #[.string a0_0, (.slice (some ad367) l0_1.length c0_1), .string a0_2, .bool a0_3] 38 (0, 0))) ∧ Aside0 (wc.heap[gb368]? = some (.cells #[.string ((rd_T28 l0_1 x6_2).f0), .int .i64 ((rd_T28 l0_1 x6_2).f1), .string ((rd_T28 l0_1 x6_2).f2)] 28 (0, 0))) ∧ Aside0 (Below w.heap.size w wc))
                        case first =>
                          have H := HC24.out
                          clear HC24
                          by_cases c27 : ((rd_T28 l0_1 x6_2).f0).toList = ([104, 101, 97, 100] : List UInt8)
                          · rw [if_pos c27] at H
                            have c27b0 : (((rd_T28 l0_1 x6_2).f0).toList == ([104, 101, 97, 100] : List UInt8)) = true := beq_iff_eq.mpr c27
                            have c27b1 : (((rd_T28 l0_1 x6_2).f0).toList != ([104, 101, 97, 100] : List UInt8)) = false := bne_eq_false_iff_eq.mpr c27
                            clear c27
                            (first | rw [c27b0] | (simp only [i64_w, i32_w]; rw [c27b0]) | skip)
                            have H' := Aside0.mk H
                            clear H
                            have hnb28 := NB368_365.out
                            have hnc28 := NB365_368.out
                            have hcz29_0 : wc.cell? ⟨gb368, 0, none⟩ = some (.string ((rd_T28 l0_1 x6_2).f0)) := (blk_cell BK368.out 0).trans rfl
                            have hcz29_1 : wc.cell? ⟨gb368, 1, none⟩ = some (.int .i64 ((rd_T28 l0_1 x6_2).f1)) := (blk_cell BK368.out 1).trans rfl
                            have hcz29_2 : wc.cell? ⟨gb368, 2, none⟩ = some (.string ((rd_T28 l0_1 x6_2).f2)) := (blk_cell BK368.out 2).trans rfl
                            have hfz29_0 := blk_frozen BK368.out 0
                            have hfz29_1 := blk_frozen BK368.out 1
                            have hfz29_2 := blk_frozen BK368.out 2
                            go_wp2
                            go_meet
                            case rel => exact ⟨_, (true), (by first | rfl | (simp; done) | (simp [*]; done)), H', ⟨by have := HJ3.out; have := HK2.out; have := HJ14.out; first | omega | exact Nat.le_refl _⟩, ⟨by (with_reducible repeat (first | refine blk_drewN ?_ _ | refine blk_drew ?_ | refine blk_alloc ?_ _)); exact BK365.out⟩, ⟨by (with_reducible repeat (first | refine blk_drewN ?_ _ | refine blk_drew ?_ | refine blk_alloc ?_ _)); exact BK368.out⟩, ⟨by repeat (first | (with_reducible first | exact HB.out | apply below_alloc | apply pw_below_drewN | apply below_drew1 | refine below_set ?_ GE365.out | refine below_set ?_ GE368.out) | exact HB.out)⟩⟩
                          · rw [if_neg c27] at H
                            have c27b0 : (((rd_T28 l0_1 x6_2).f0).toList == ([104, 101, 97, 100] : List UInt8)) = false := beq_eq_false_iff_ne.mpr c27
                            have c27b1 : (((rd_T28 l0_1 x6_2).f0).toList != ([104, 101, 97, 100] : List UInt8)) = true := bne_iff_ne.mpr c27
                            (first | rw [c27b0] | (simp only [i64_w, i32_w]; rw [c27b0]) | skip)
                            have H' := Aside0.mk H
                            clear H
                            have hnb30 := NB368_365.out
                            have hnc30 := NB365_368.out
                            have hcz31_0 : wc.cell? ⟨gb368, 0, none⟩ = some (.string ((rd_T28 l0_1 x6_2).f0)) := (blk_cell BK368.out 0).trans rfl
                            have hcz31_1 : wc.cell? ⟨gb368, 1, none⟩ = some (.int .i64 ((rd_T28 l0_1 x6_2).f1)) := (blk_cell BK368.out 1).trans rfl
                            have hcz31_2 : wc.cell? ⟨gb368, 2, none⟩ = some (.string ((rd_T28 l0_1 x6_2).f2)) := (blk_cell BK368.out 2).trans rfl
                            have hfz31_0 := blk_frozen BK368.out 0
                            have hfz31_1 := blk_frozen BK368.out 1
                            have hfz31_2 := blk_frozen BK368.out 2
                            go_wp2
                            go_meet
                            case rel => exact ⟨_, ((((rd_T28 l0_1 x6_2).f0).toList == ([115, 107, 105, 112] : List UInt8))), (by first | rfl | (simp; done) | (simp [*]; done)), H', ⟨by have := HJ3.out; have := HK2.out; have := HJ14.out; first | omega | exact Nat.le_refl _⟩, ⟨by (with_reducible repeat (first | refine blk_drewN ?_ _ | refine blk_drew ?_ | refine blk_alloc ?_ _)); exact BK365.out⟩, ⟨by (with_reducible repeat (first | refine blk_drewN ?_ _ | refine blk_drew ?_ | refine blk_alloc ?_ _)); exact BK368.out⟩, ⟨by repeat (first | (with_reducible first | exact HB.out | apply below_alloc | apply pw_below_drewN | apply below_drew1 | refine below_set ?_ GE365.out | refine below_set ?_ GE368.out) | exact HB.out)⟩⟩
                        case rest =>
                          clear HC24
                          try clear c1
                          try clear c2
                          try clear p2
                          try clear c3
                          try clear c3b0
                          try clear c3b1
                          try clear p3
                          try clear q3
                          try clear hx3
                          try clear c9
                          try clear c9b0
                          try clear c9b1
                          try clear c10
                          try clear c10b0
                          try clear c10b1
                          try clear c10b2
                          try clear c11
                          try clear c11b0
                          try clear c11b1
                          try clear c11b2
                          try clear c13
                          try clear c13b0
                          try clear c14
                          try clear c14b0
                          try clear c18
                          try clear c20
                          try clear c20b0
                          try clear c21
                          try clear c21b0
                          try clear c21b1
                          try clear c21b2
                          try clear c22
                          try clear c22b0
                          try clear c22b1
                          try clear c22b2
                          try clear c23
                          try clear c23b0
                          try clear c23b1
                          try clear c23b2
                          try clear c24
                          try clear c25
                          try clear c27
                          try clear c27b0
                          try clear c27b1
                          try clear c28
                          try clear c30
                          try clear hcz12_0
                          try clear hcz12_1
                          try clear hcz12_2
                          try clear hcz12_3
                          try clear hcz16_0
                          try clear hcz16_1
                          try clear hcz16_2
                          try clear hcz16_3
                          try clear hcz19_0
                          try clear hcz19_1
                          try clear hcz19_2
                          try clear hcz26_0
                          try clear hcz26_1
                          try clear hcz26_2
                          try clear hcz29_0
                          try clear hcz29_1
                          try clear hcz29_2
                          try clear hcz31_0
                          try clear hcz31_1
                          try clear hcz31_2
                          try clear hcz6_0
                          try clear hcz6_1
                          try clear hcz6_2
                          try clear hcz6_3
                          try clear hcz8_0
                          try clear hcz8_1
                          try clear hcz8_2
                          try clear hcz8_3
                          try clear hfz12_0
                          try clear hfz12_1
                          try clear hfz12_2
                          try clear hfz12_3
                          try clear hfz16_0
                          try clear hfz16_1
                          try clear hfz16_2
                          try clear hfz16_3
                          try clear hfz19_0
                          try clear hfz19_1
                          try clear hfz19_2
                          try clear hfz26_0
                          try clear hfz26_1
                          try clear hfz26_2
                          try clear hfz29_0
                          try clear hfz29_1
                          try clear hfz29_2
                          try clear hfz31_0
                          try clear hfz31_1
                          try clear hfz31_2
                          try clear hfz6_0
                          try clear hfz6_1
                          try clear hfz6_2
                          try clear hfz6_3
                          try clear hfz8_0
                          try clear hfz8_1
                          try clear hfz8_2
                          try clear hfz8_3
                          try clear hx367_0
                          try clear hx367_1
                          try clear hx367_2
                          try clear p2
                          try clear p3
                          try clear p367
                          try clear q3
                          try clear q367
                          obtain ⟨kq, x48_23, rfl, HA, HJ23, BK365, BK368, HB⟩ := hcut
                          cases kq with
                          | zero => exact absurd HA.out (by simp [millraceref21_Print.j3])
                          | succ kj23 =>
                            have H := HA.out
                            clear HA
                            simp only [millraceref21_Print.j3] at H
                            by_cases c32 : x48_23 = true
                            · subst c32
                              have H1 : ((millraceref01_Decimal.f kj23 ((rd_T28 l0_1 x6_2).f1)).bind fun t369 => (if ((x5_14 ++ ((rd_T28 l0_1 x6_2).f0)) ++ (⟨#[32]⟩ : ByteArray)).size + t369.size ≤ 9223372036854775807 then (if (((x5_14 ++ ((rd_T28 l0_1 x6_2).f0)) ++ (⟨#[32]⟩ : ByteArray)) ++ t369).size + 1 ≤ 9223372036854775807 then (if ((rd_T28 l0_1 x6_2).f2).toList = ([] : List UInt8) then (millraceref21_Print.l0 kj23 ((((x5_14 ++ ((rd_T28 l0_1 x6_2).f0)) ++ (⟨#[32]⟩ : ByteArray)) ++ t369) ++ (⟨#[32]⟩ : ByteArray)) (wrap64 (x6_2 + 1)) a0_0 l0_1 a0_2 a0_3) else (if ((((x5_14 ++ ((rd_T28 l0_1 x6_2).f0)) ++ (⟨#[32]⟩ : ByteArray)) ++ t369) ++ (⟨#[32]⟩ : ByteArray)).size + ((rd_T28 l0_1 x6_2).f2).size ≤ 9223372036854775807 then (if (((((x5_14 ++ ((rd_T28 l0_1 x6_2).f0)) ++ (⟨#[32]⟩ : ByteArray)) ++ t369) ++ (⟨#[32]⟩ : ByteArray)) ++ ((rd_T28 l0_1 x6_2).f2)).size + 1 ≤ 9223372036854775807 then (millraceref21_Print.l0 kj23 ((((((x5_14 ++ ((rd_T28 l0_1 x6_2).f0)) ++ (⟨#[32]⟩ : ByteArray)) ++ t369) ++ (⟨#[32]⟩ : ByteArray)) ++ ((rd_T28 l0_1 x6_2).f2)) ++ (⟨#[32]⟩ : ByteArray)) (wrap64 (x6_2 + 1)) a0_0 l0_1 a0_2 a0_3) else (none)) else (none))) else (none)) else (none))) = some (r1, r2) := by rw [if_pos rfl] at H; exact H
                              clear H
                              have H := H1
                              clear H1
                              replace H := Option.bind_eq_some_iff.mp H
                              obtain ⟨t369, A330, H⟩ := H
                              replace H : (if ((x5_14 ++ ((rd_T28 l0_1 x6_2).f0)) ++ (⟨#[32]⟩ : ByteArray)).size + t369.size ≤ 9223372036854775807 then (if (((x5_14 ++ ((rd_T28 l0_1 x6_2).f0)) ++ (⟨#[32]⟩ : ByteArray)) ++ t369).size + 1 ≤ 9223372036854775807 then (if ((rd_T28 l0_1 x6_2).f2).toList = ([] : List UInt8) then (millraceref21_Print.l0 kj23 ((((x5_14 ++ ((rd_T28 l0_1 x6_2).f0)) ++ (⟨#[32]⟩ : ByteArray)) ++ t369) ++ (⟨#[32]⟩ : ByteArray)) (wrap64 (x6_2 + 1)) a0_0 l0_1 a0_2 a0_3) else (if ((((x5_14 ++ ((rd_T28 l0_1 x6_2).f0)) ++ (⟨#[32]⟩ : ByteArray)) ++ t369) ++ (⟨#[32]⟩ : ByteArray)).size + ((rd_T28 l0_1 x6_2).f2).size ≤ 9223372036854775807 then (if (((((x5_14 ++ ((rd_T28 l0_1 x6_2).f0)) ++ (⟨#[32]⟩ : ByteArray)) ++ t369) ++ (⟨#[32]⟩ : ByteArray)) ++ ((rd_T28 l0_1 x6_2).f2)).size + 1 ≤ 9223372036854775807 then (millraceref21_Print.l0 kj23 ((((((x5_14 ++ ((rd_T28 l0_1 x6_2).f0)) ++ (⟨#[32]⟩ : ByteArray)) ++ t369) ++ (⟨#[32]⟩ : ByteArray)) ++ ((rd_T28 l0_1 x6_2).f2)) ++ (⟨#[32]⟩ : ByteArray)) (wrap64 (x6_2 + 1)) a0_0 l0_1 a0_2 a0_3) else (none)) else (none))) else (none)) else (none)) = some (r1, r2) := H
                              have A33 := Aside0.mk A330
                              clear A330
                              by_cases c34 : ((x5_14 ++ ((rd_T28 l0_1 x6_2).f0)) ++ (⟨#[32]⟩ : ByteArray)).size + t369.size ≤ 9223372036854775807
                              · rw [if_pos c34] at H
                                have c34b0 := eq_true c34
                                have c34b1 : decide (((x5_14 ++ ((rd_T28 l0_1 x6_2).f0)) ++ (⟨#[32]⟩ : ByteArray)).size + t369.size ≤ 9223372036854775807) = true := decide_eq_true c34
                                try have c34b2 : (9223372036854775807 < ((x5_14 ++ ((rd_T28 l0_1 x6_2).f0)) ++ (⟨#[32]⟩ : ByteArray)).size + t369.size) = False := eq_false (Nat.not_lt.2 c34)
                                have c34b3 : (9223372036854775807 < x5_14.size + ((rd_T28 l0_1 x6_2).f0).size + 1 + t369.size) = False := by have e_ : ((x5_14 ++ ((rd_T28 l0_1 x6_2).f0)) ++ (⟨#[32]⟩ : ByteArray)).size + t369.size = x5_14.size + ((rd_T28 l0_1 x6_2).f0).size + 1 + t369.size := (by first | (simp only [ByteArray.size_append]; done) | (simp only [ByteArray.size_append]; rfl) | rfl); rw [← e_]; exact c34b2
                                by_cases c35 : (((x5_14 ++ ((rd_T28 l0_1 x6_2).f0)) ++ (⟨#[32]⟩ : ByteArray)) ++ t369).size + 1 ≤ 9223372036854775807
                                · rw [if_pos c35] at H
                                  have c35b0 := eq_true c35
                                  have c35b1 : decide ((((x5_14 ++ ((rd_T28 l0_1 x6_2).f0)) ++ (⟨#[32]⟩ : ByteArray)) ++ t369).size + 1 ≤ 9223372036854775807) = true := decide_eq_true c35
                                  try have c35b2 : (9223372036854775807 < (((x5_14 ++ ((rd_T28 l0_1 x6_2).f0)) ++ (⟨#[32]⟩ : ByteArray)) ++ t369).size + 1) = False := eq_false (Nat.not_lt.2 c35)
                                  have c35b3 : (9223372036854775807 < x5_14.size + ((rd_T28 l0_1 x6_2).f0).size + 1 + t369.size + 1) = False := by have e_ : (((x5_14 ++ ((rd_T28 l0_1 x6_2).f0)) ++ (⟨#[32]⟩ : ByteArray)) ++ t369).size + 1 = x5_14.size + ((rd_T28 l0_1 x6_2).f0).size + 1 + t369.size + 1 := (by first | (simp only [ByteArray.size_append]; done) | (simp only [ByteArray.size_append]; rfl) | rfl); rw [← e_]; exact c35b2
                                  by_cases c36 : ((rd_T28 l0_1 x6_2).f2).toList = ([] : List UInt8)
                                  · rw [if_pos c36] at H
                                    have c36b0 : (((rd_T28 l0_1 x6_2).f2).toList == ([] : List UInt8)) = true := beq_iff_eq.mpr c36
                                    have c36b1 : (((rd_T28 l0_1 x6_2).f2).toList != ([] : List UInt8)) = false := bne_eq_false_iff_eq.mpr c36
                                    clear c36
                                    have H' := Aside0.mk H
                                    clear H
                                    have hnb37 := NB368_365.out
                                    have hnc37 := NB365_368.out
                                    have hcz38_0 : wc.cell? ⟨gb368, 0, none⟩ = some (.string ((rd_T28 l0_1 x6_2).f0)) := (blk_cell BK368.out 0).trans rfl
                                    have hcz38_1 : wc.cell? ⟨gb368, 1, none⟩ = some (.int .i64 ((rd_T28 l0_1 x6_2).f1)) := (blk_cell BK368.out 1).trans rfl
                                    have hcz38_2 : wc.cell? ⟨gb368, 2, none⟩ = some (.string ((rd_T28 l0_1 x6_2).f2)) := (blk_cell BK368.out 2).trans rfl
                                    have hfz38_0 := blk_frozen BK368.out 0
                                    have hfz38_1 := blk_frozen BK368.out 1
                                    have hfz38_2 := blk_frozen BK368.out 2
                                    go_wp2_with (first | ((with_reducible refine gate_callee (f := 40) rfl ?_); refine goesL_ (some 52) rfl rfl Tryz.func40 (by kernel_rfl) rfl #[.int .i64 ((rd_T28 l0_1 x6_2).f1)] rfl (by (try simp only [List.map_toArray, List.map_cons, List.map_nil]); first | done | rfl | (simp only [List.length_drop, List.length_take]; rfl)) ?_; (with_reducible refine (millraceref01_Decimal.calls kj23 ((rd_T28 l0_1 x6_2).f1) t369 _ A33.out).mono ?_); rintro e w39 ⟨rfl, hb⟩; refine ⟨_, rfl, ?_⟩; have n0_ := Aside0.mk (blk_below (g := gb365) (o := .cells #[.string a0_0, .slice (some ad367) l0_1.length c0_1, .string a0_2, .bool a0_3] 38 (0, 0)) (by (with_reducible repeat (first | refine blk_drewN ?_ _ | refine blk_drew ?_ | refine blk_alloc ?_ _)); exact BK365.out) hb); have n1_ := Aside0.mk (blk_below (g := gb368) (o := .cells #[.string ((rd_T28 l0_1 x6_2).f0), .int .i64 ((rd_T28 l0_1 x6_2).f1), .string ((rd_T28 l0_1 x6_2).f2)] 28 (0, 0)) (by (with_reducible repeat (first | refine blk_drewN ?_ _ | refine blk_drew ?_ | refine blk_alloc ?_ _)); exact BK368.out) hb); have n2_ := Aside0.mk (below_step (by repeat (first | (with_reducible first | exact HB.out | apply below_alloc | apply pw_below_drewN | apply below_drew1 | refine below_set ?_ GE365.out | refine below_set ?_ GE368.out) | exact HB.out)) hb); clear BK365; clear BK368; clear HB; have BK365 := n0_; have BK368 := n1_; have HB := n2_; clear n0_ n1_ n2_; (try clear hb); (try clear hb2); (try clear hk); (try clear hi); have hcz40_0 : w39.cell? ⟨gb368, 0, none⟩ = some (.string ((rd_T28 l0_1 x6_2).f0)) := (blk_cell BK368.out 0).trans rfl; have hcz40_1 : w39.cell? ⟨gb368, 1, none⟩ = some (.int .i64 ((rd_T28 l0_1 x6_2).f1)) := (blk_cell BK368.out 1).trans rfl; have hcz40_2 : w39.cell? ⟨gb368, 2, none⟩ = some (.string ((rd_T28 l0_1 x6_2).f2)) := (blk_cell BK368.out 2).trans rfl; have hfz40_0 := blk_frozen BK368.out 0; have hfz40_1 := blk_frozen BK368.out 1; have hfz40_2 := blk_frozen BK368.out 2))
                                    go_roundg kj23
                                    case measure => have := HJ3.out; have := HK2.out; have := HJ14.out; have := HJ23.out; omega
                                    case rel => exact ⟨((((x5_14 ++ ((rd_T28 l0_1 x6_2).f0)) ++ (⟨#[32]⟩ : ByteArray)) ++ t369) ++ (⟨#[32]⟩ : ByteArray)), (wrap64 (x6_2 + 1)), (by first | rfl | (simp; done) | (simp [*]; done)), (by first | rfl | (simp; done) | (simp [*]; done)), H', ⟨by have := HJ3.out; have := HK2.out; have := HJ14.out; have := HJ23.out; omega⟩, ⟨by (with_reducible repeat (first | refine blk_drewN ?_ _ | refine blk_drew ?_ | refine blk_alloc ?_ _)); exact BK365.out⟩, ⟨by repeat (first | (with_reducible first | exact HB.out | apply below_alloc | apply pw_below_drewN | apply below_drew1 | refine below_set ?_ GE365.out | refine below_set ?_ GE368.out) | exact HB.out)⟩⟩
                                  · rw [if_neg c36] at H
                                    have c36b0 : (((rd_T28 l0_1 x6_2).f2).toList == ([] : List UInt8)) = false := beq_eq_false_iff_ne.mpr c36
                                    have c36b1 : (((rd_T28 l0_1 x6_2).f2).toList != ([] : List UInt8)) = true := bne_iff_ne.mpr c36
                                    by_cases c41 : ((((x5_14 ++ ((rd_T28 l0_1 x6_2).f0)) ++ (⟨#[32]⟩ : ByteArray)) ++ t369) ++ (⟨#[32]⟩ : ByteArray)).size + ((rd_T28 l0_1 x6_2).f2).size ≤ 9223372036854775807
                                    · rw [if_pos c41] at H
                                      have c41b0 := eq_true c41
                                      have c41b1 : decide (((((x5_14 ++ ((rd_T28 l0_1 x6_2).f0)) ++ (⟨#[32]⟩ : ByteArray)) ++ t369) ++ (⟨#[32]⟩ : ByteArray)).size + ((rd_T28 l0_1 x6_2).f2).size ≤ 9223372036854775807) = true := decide_eq_true c41
                                      try have c41b2 : (9223372036854775807 < ((((x5_14 ++ ((rd_T28 l0_1 x6_2).f0)) ++ (⟨#[32]⟩ : ByteArray)) ++ t369) ++ (⟨#[32]⟩ : ByteArray)).size + ((rd_T28 l0_1 x6_2).f2).size) = False := eq_false (Nat.not_lt.2 c41)
                                      have c41b3 : (9223372036854775807 < x5_14.size + ((rd_T28 l0_1 x6_2).f0).size + 1 + t369.size + 1 + ((rd_T28 l0_1 x6_2).f2).size) = False := by have e_ : ((((x5_14 ++ ((rd_T28 l0_1 x6_2).f0)) ++ (⟨#[32]⟩ : ByteArray)) ++ t369) ++ (⟨#[32]⟩ : ByteArray)).size + ((rd_T28 l0_1 x6_2).f2).size = x5_14.size + ((rd_T28 l0_1 x6_2).f0).size + 1 + t369.size + 1 + ((rd_T28 l0_1 x6_2).f2).size := (by first | (simp only [ByteArray.size_append]; done) | (simp only [ByteArray.size_append]; rfl) | rfl); rw [← e_]; exact c41b2
                                      by_cases c42 : (((((x5_14 ++ ((rd_T28 l0_1 x6_2).f0)) ++ (⟨#[32]⟩ : ByteArray)) ++ t369) ++ (⟨#[32]⟩ : ByteArray)) ++ ((rd_T28 l0_1 x6_2).f2)).size + 1 ≤ 9223372036854775807
                                      · rw [if_pos c42] at H
                                        have c42b0 := eq_true c42
                                        have c42b1 : decide ((((((x5_14 ++ ((rd_T28 l0_1 x6_2).f0)) ++ (⟨#[32]⟩ : ByteArray)) ++ t369) ++ (⟨#[32]⟩ : ByteArray)) ++ ((rd_T28 l0_1 x6_2).f2)).size + 1 ≤ 9223372036854775807) = true := decide_eq_true c42
                                        try have c42b2 : (9223372036854775807 < (((((x5_14 ++ ((rd_T28 l0_1 x6_2).f0)) ++ (⟨#[32]⟩ : ByteArray)) ++ t369) ++ (⟨#[32]⟩ : ByteArray)) ++ ((rd_T28 l0_1 x6_2).f2)).size + 1) = False := eq_false (Nat.not_lt.2 c42)
                                        have c42b3 : (9223372036854775807 < x5_14.size + ((rd_T28 l0_1 x6_2).f0).size + 1 + t369.size + 1 + ((rd_T28 l0_1 x6_2).f2).size + 1) = False := by have e_ : (((((x5_14 ++ ((rd_T28 l0_1 x6_2).f0)) ++ (⟨#[32]⟩ : ByteArray)) ++ t369) ++ (⟨#[32]⟩ : ByteArray)) ++ ((rd_T28 l0_1 x6_2).f2)).size + 1 = x5_14.size + ((rd_T28 l0_1 x6_2).f0).size + 1 + t369.size + 1 + ((rd_T28 l0_1 x6_2).f2).size + 1 := (by first | (simp only [ByteArray.size_append]; done) | (simp only [ByteArray.size_append]; rfl) | rfl); rw [← e_]; exact c42b2
                                        have H' := Aside0.mk H
                                        clear H
                                        have hnb43 := NB368_365.out
                                        have hnc43 := NB365_368.out
                                        have hcz44_0 : wc.cell? ⟨gb368, 0, none⟩ = some (.string ((rd_T28 l0_1 x6_2).f0)) := (blk_cell BK368.out 0).trans rfl
                                        have hcz44_1 : wc.cell? ⟨gb368, 1, none⟩ = some (.int .i64 ((rd_T28 l0_1 x6_2).f1)) := (blk_cell BK368.out 1).trans rfl
                                        have hcz44_2 : wc.cell? ⟨gb368, 2, none⟩ = some (.string ((rd_T28 l0_1 x6_2).f2)) := (blk_cell BK368.out 2).trans rfl
                                        have hfz44_0 := blk_frozen BK368.out 0
                                        have hfz44_1 := blk_frozen BK368.out 1
                                        have hfz44_2 := blk_frozen BK368.out 2
                                        go_wp2_with (first | ((with_reducible refine gate_callee (f := 40) rfl ?_); refine goesL_ (some 52) rfl rfl Tryz.func40 (by kernel_rfl) rfl #[.int .i64 ((rd_T28 l0_1 x6_2).f1)] rfl (by (try simp only [List.map_toArray, List.map_cons, List.map_nil]); first | done | rfl | (simp only [List.length_drop, List.length_take]; rfl)) ?_; (with_reducible refine (millraceref01_Decimal.calls kj23 ((rd_T28 l0_1 x6_2).f1) t369 _ A33.out).mono ?_); rintro e w45 ⟨rfl, hb⟩; refine ⟨_, rfl, ?_⟩; have n0_ := Aside0.mk (blk_below (g := gb365) (o := .cells #[.string a0_0, .slice (some ad367) l0_1.length c0_1, .string a0_2, .bool a0_3] 38 (0, 0)) (by (with_reducible repeat (first | refine blk_drewN ?_ _ | refine blk_drew ?_ | refine blk_alloc ?_ _)); exact BK365.out) hb); have n1_ := Aside0.mk (blk_below (g := gb368) (o := .cells #[.string ((rd_T28 l0_1 x6_2).f0), .int .i64 ((rd_T28 l0_1 x6_2).f1), .string ((rd_T28 l0_1 x6_2).f2)] 28 (0, 0)) (by (with_reducible repeat (first | refine blk_drewN ?_ _ | refine blk_drew ?_ | refine blk_alloc ?_ _)); exact BK368.out) hb); have n2_ := Aside0.mk (below_step (by repeat (first | (with_reducible first | exact HB.out | apply below_alloc | apply pw_below_drewN | apply below_drew1 | refine below_set ?_ GE365.out | refine below_set ?_ GE368.out) | exact HB.out)) hb); clear BK365; clear BK368; clear HB; have BK365 := n0_; have BK368 := n1_; have HB := n2_; clear n0_ n1_ n2_; (try clear hb); (try clear hb2); (try clear hk); (try clear hi); have hcz46_0 : w45.cell? ⟨gb368, 0, none⟩ = some (.string ((rd_T28 l0_1 x6_2).f0)) := (blk_cell BK368.out 0).trans rfl; have hcz46_1 : w45.cell? ⟨gb368, 1, none⟩ = some (.int .i64 ((rd_T28 l0_1 x6_2).f1)) := (blk_cell BK368.out 1).trans rfl; have hcz46_2 : w45.cell? ⟨gb368, 2, none⟩ = some (.string ((rd_T28 l0_1 x6_2).f2)) := (blk_cell BK368.out 2).trans rfl; have hfz46_0 := blk_frozen BK368.out 0; have hfz46_1 := blk_frozen BK368.out 1; have hfz46_2 := blk_frozen BK368.out 2))
                                        go_roundg kj23
                                        case measure => have := HJ3.out; have := HK2.out; have := HJ14.out; have := HJ23.out; omega
                                        case rel => exact ⟨((((((x5_14 ++ ((rd_T28 l0_1 x6_2).f0)) ++ (⟨#[32]⟩ : ByteArray)) ++ t369) ++ (⟨#[32]⟩ : ByteArray)) ++ ((rd_T28 l0_1 x6_2).f2)) ++ (⟨#[32]⟩ : ByteArray)), (wrap64 (x6_2 + 1)), (by first | rfl | (simp; done) | (simp [*]; done)), (by first | rfl | (simp; done) | (simp [*]; done)), H', ⟨by have := HJ3.out; have := HK2.out; have := HJ14.out; have := HJ23.out; omega⟩, ⟨by (with_reducible repeat (first | refine blk_drewN ?_ _ | refine blk_drew ?_ | refine blk_alloc ?_ _)); exact BK365.out⟩, ⟨by repeat (first | (with_reducible first | exact HB.out | apply below_alloc | apply pw_below_drewN | apply below_drew1 | refine below_set ?_ GE365.out | refine below_set ?_ GE368.out) | exact HB.out)⟩⟩
                                      · rw [if_neg c42] at H
                                        exact absurd H (by simp)
                                    · rw [if_neg c41] at H
                                      exact absurd H (by simp)
                                · rw [if_neg c35] at H
                                  exact absurd H (by simp)
                              · rw [if_neg c34] at H
                                exact absurd H (by simp)
                            · replace c32 := Bool.eq_false_iff.mpr c32
                              subst c32
                              have H1 : (if ((rd_T28 l0_1 x6_2).f2).toList = ([] : List UInt8) then (millraceref21_Print.l0 kj23 ((x5_14 ++ ((rd_T28 l0_1 x6_2).f0)) ++ (⟨#[32]⟩ : ByteArray)) (wrap64 (x6_2 + 1)) a0_0 l0_1 a0_2 a0_3) else (if ((x5_14 ++ ((rd_T28 l0_1 x6_2).f0)) ++ (⟨#[32]⟩ : ByteArray)).size + ((rd_T28 l0_1 x6_2).f2).size ≤ 9223372036854775807 then (if (((x5_14 ++ ((rd_T28 l0_1 x6_2).f0)) ++ (⟨#[32]⟩ : ByteArray)) ++ ((rd_T28 l0_1 x6_2).f2)).size + 1 ≤ 9223372036854775807 then (millraceref21_Print.l0 kj23 ((((x5_14 ++ ((rd_T28 l0_1 x6_2).f0)) ++ (⟨#[32]⟩ : ByteArray)) ++ ((rd_T28 l0_1 x6_2).f2)) ++ (⟨#[32]⟩ : ByteArray)) (wrap64 (x6_2 + 1)) a0_0 l0_1 a0_2 a0_3) else (none)) else (none))) = some (r1, r2) := by rw [if_neg (show ¬ (false = true) by decide)] at H; exact H
                              clear H
                              have H := H1
                              clear H1
                              by_cases c47 : ((rd_T28 l0_1 x6_2).f2).toList = ([] : List UInt8)
                              · rw [if_pos c47] at H
                                have c47b0 : (((rd_T28 l0_1 x6_2).f2).toList == ([] : List UInt8)) = true := beq_iff_eq.mpr c47
                                have c47b1 : (((rd_T28 l0_1 x6_2).f2).toList != ([] : List UInt8)) = false := bne_eq_false_iff_eq.mpr c47
                                clear c47
                                have H' := Aside0.mk H
                                clear H
                                have hnb48 := NB368_365.out
                                have hnc48 := NB365_368.out
                                have hcz49_0 : wc.cell? ⟨gb368, 0, none⟩ = some (.string ((rd_T28 l0_1 x6_2).f0)) := (blk_cell BK368.out 0).trans rfl
                                have hcz49_1 : wc.cell? ⟨gb368, 1, none⟩ = some (.int .i64 ((rd_T28 l0_1 x6_2).f1)) := (blk_cell BK368.out 1).trans rfl
                                have hcz49_2 : wc.cell? ⟨gb368, 2, none⟩ = some (.string ((rd_T28 l0_1 x6_2).f2)) := (blk_cell BK368.out 2).trans rfl
                                have hfz49_0 := blk_frozen BK368.out 0
                                have hfz49_1 := blk_frozen BK368.out 1
                                have hfz49_2 := blk_frozen BK368.out 2
                                go_wp2
                                go_roundg kj23
                                case measure => have := HJ3.out; have := HK2.out; have := HJ14.out; have := HJ23.out; omega
                                case rel => exact ⟨(((x5_14 ++ ((rd_T28 l0_1 x6_2).f0)) ++ (⟨#[32]⟩ : ByteArray))), (wrap64 (x6_2 + 1)), (by first | rfl | (simp; done) | (simp [*]; done)), (by first | rfl | (simp; done) | (simp [*]; done)), H', ⟨by have := HJ3.out; have := HK2.out; have := HJ14.out; have := HJ23.out; omega⟩, ⟨by (with_reducible repeat (first | refine blk_drewN ?_ _ | refine blk_drew ?_ | refine blk_alloc ?_ _)); exact BK365.out⟩, ⟨by repeat (first | (with_reducible first | exact HB.out | apply below_alloc | apply pw_below_drewN | apply below_drew1 | refine below_set ?_ GE365.out | refine below_set ?_ GE368.out) | exact HB.out)⟩⟩
                              · rw [if_neg c47] at H
                                have c47b0 : (((rd_T28 l0_1 x6_2).f2).toList == ([] : List UInt8)) = false := beq_eq_false_iff_ne.mpr c47
                                have c47b1 : (((rd_T28 l0_1 x6_2).f2).toList != ([] : List UInt8)) = true := bne_iff_ne.mpr c47
                                by_cases c50 : ((x5_14 ++ ((rd_T28 l0_1 x6_2).f0)) ++ (⟨#[32]⟩ : ByteArray)).size + ((rd_T28 l0_1 x6_2).f2).size ≤ 9223372036854775807
                                · rw [if_pos c50] at H
                                  have c50b0 := eq_true c50
                                  have c50b1 : decide (((x5_14 ++ ((rd_T28 l0_1 x6_2).f0)) ++ (⟨#[32]⟩ : ByteArray)).size + ((rd_T28 l0_1 x6_2).f2).size ≤ 9223372036854775807) = true := decide_eq_true c50
                                  try have c50b2 : (9223372036854775807 < ((x5_14 ++ ((rd_T28 l0_1 x6_2).f0)) ++ (⟨#[32]⟩ : ByteArray)).size + ((rd_T28 l0_1 x6_2).f2).size) = False := eq_false (Nat.not_lt.2 c50)
                                  have c50b3 : (9223372036854775807 < x5_14.size + ((rd_T28 l0_1 x6_2).f0).size + 1 + ((rd_T28 l0_1 x6_2).f2).size) = False := by have e_ : ((x5_14 ++ ((rd_T28 l0_1 x6_2).f0)) ++ (⟨#[32]⟩ : ByteArray)).size + ((rd_T28 l0_1 x6_2).f2).size = x5_14.size + ((rd_T28 l0_1 x6_2).f0).size + 1 + ((rd_T28 l0_1 x6_2).f2).size := (by first | (simp only [ByteArray.size_append]; done) | (simp only [ByteArray.size_append]; rfl) | rfl); rw [← e_]; exact c50b2
                                  by_cases c51 : (((x5_14 ++ ((rd_T28 l0_1 x6_2).f0)) ++ (⟨#[32]⟩ : ByteArray)) ++ ((rd_T28 l0_1 x6_2).f2)).size + 1 ≤ 9223372036854775807
                                  · rw [if_pos c51] at H
                                    have c51b0 := eq_true c51
                                    have c51b1 : decide ((((x5_14 ++ ((rd_T28 l0_1 x6_2).f0)) ++ (⟨#[32]⟩ : ByteArray)) ++ ((rd_T28 l0_1 x6_2).f2)).size + 1 ≤ 9223372036854775807) = true := decide_eq_true c51
                                    try have c51b2 : (9223372036854775807 < (((x5_14 ++ ((rd_T28 l0_1 x6_2).f0)) ++ (⟨#[32]⟩ : ByteArray)) ++ ((rd_T28 l0_1 x6_2).f2)).size + 1) = False := eq_false (Nat.not_lt.2 c51)
                                    have c51b3 : (9223372036854775807 < x5_14.size + ((rd_T28 l0_1 x6_2).f0).size + 1 + ((rd_T28 l0_1 x6_2).f2).size + 1) = False := by have e_ : (((x5_14 ++ ((rd_T28 l0_1 x6_2).f0)) ++ (⟨#[32]⟩ : ByteArray)) ++ ((rd_T28 l0_1 x6_2).f2)).size + 1 = x5_14.size + ((rd_T28 l0_1 x6_2).f0).size + 1 + ((rd_T28 l0_1 x6_2).f2).size + 1 := (by first | (simp only [ByteArray.size_append]; done) | (simp only [ByteArray.size_append]; rfl) | rfl); rw [← e_]; exact c51b2
                                    have H' := Aside0.mk H
                                    clear H
                                    have hnb52 := NB368_365.out
                                    have hnc52 := NB365_368.out
                                    have hcz53_0 : wc.cell? ⟨gb368, 0, none⟩ = some (.string ((rd_T28 l0_1 x6_2).f0)) := (blk_cell BK368.out 0).trans rfl
                                    have hcz53_1 : wc.cell? ⟨gb368, 1, none⟩ = some (.int .i64 ((rd_T28 l0_1 x6_2).f1)) := (blk_cell BK368.out 1).trans rfl
                                    have hcz53_2 : wc.cell? ⟨gb368, 2, none⟩ = some (.string ((rd_T28 l0_1 x6_2).f2)) := (blk_cell BK368.out 2).trans rfl
                                    have hfz53_0 := blk_frozen BK368.out 0
                                    have hfz53_1 := blk_frozen BK368.out 1
                                    have hfz53_2 := blk_frozen BK368.out 2
                                    go_wp2
                                    go_roundg kj23
                                    case measure => have := HJ3.out; have := HK2.out; have := HJ14.out; have := HJ23.out; omega
                                    case rel => exact ⟨((((x5_14 ++ ((rd_T28 l0_1 x6_2).f0)) ++ (⟨#[32]⟩ : ByteArray)) ++ ((rd_T28 l0_1 x6_2).f2)) ++ (⟨#[32]⟩ : ByteArray)), (wrap64 (x6_2 + 1)), (by first | rfl | (simp; done) | (simp [*]; done)), (by first | rfl | (simp; done) | (simp [*]; done)), H', ⟨by have := HJ3.out; have := HK2.out; have := HJ14.out; have := HJ23.out; omega⟩, ⟨by (with_reducible repeat (first | refine blk_drewN ?_ _ | refine blk_drew ?_ | refine blk_alloc ?_ _)); exact BK365.out⟩, ⟨by repeat (first | (with_reducible first | exact HB.out | apply below_alloc | apply pw_below_drewN | apply below_drew1 | refine below_set ?_ GE365.out | refine below_set ?_ GE368.out) | exact HB.out)⟩⟩
                                  · rw [if_neg c51] at H
                                    exact absurd H (by simp)
                                · rw [if_neg c50] at H
                                  exact absurd H (by simp)
                      · rw [if_neg c23] at H
                        exact absurd H (by simp)
                    · rw [if_neg c22] at H
                      exact absurd H (by simp)
              · rw [if_neg c14] at H
                exact absurd H (by simp)
            · rw [if_neg c13] at H
              have c13b0 : decide (x6_2 < (l0_1.length : Int)) = false := decide_eq_false c13
              clear c13
              by_cases c54 : a0_3 = true
              · subst c54
                have H1 : (if x5_2.size + 3 ≤ 9223372036854775807 then (if (x5_2 ++ (⟨#[62, 62, 32]⟩ : ByteArray)).size + a0_2.size ≤ 9223372036854775807 then (some ((x5_2 ++ (⟨#[62, 62, 32]⟩ : ByteArray)) ++ a0_2, 0)) else (none)) else (none)) = some (r1, r2) := by rw [if_pos rfl] at H; exact H
                clear H
                have H := H1
                clear H1
                by_cases c55 : x5_2.size + 3 ≤ 9223372036854775807
                · rw [if_pos c55] at H
                  have c55b0 := eq_true c55
                  have c55b1 : decide (x5_2.size + 3 ≤ 9223372036854775807) = true := decide_eq_true c55
                  try have c55b2 : (9223372036854775807 < x5_2.size + 3) = False := eq_false (Nat.not_lt.2 c55)
                  by_cases c56 : (x5_2 ++ (⟨#[62, 62, 32]⟩ : ByteArray)).size + a0_2.size ≤ 9223372036854775807
                  · rw [if_pos c56] at H
                    have c56b0 := eq_true c56
                    have c56b1 : decide ((x5_2 ++ (⟨#[62, 62, 32]⟩ : ByteArray)).size + a0_2.size ≤ 9223372036854775807) = true := decide_eq_true c56
                    try have c56b2 : (9223372036854775807 < (x5_2 ++ (⟨#[62, 62, 32]⟩ : ByteArray)).size + a0_2.size) = False := eq_false (Nat.not_lt.2 c56)
                    have c56b3 : (9223372036854775807 < x5_2.size + 3 + a0_2.size) = False := by have e_ : (x5_2 ++ (⟨#[62, 62, 32]⟩ : ByteArray)).size + a0_2.size = x5_2.size + 3 + a0_2.size := (by first | (simp only [ByteArray.size_append]; done) | (simp only [ByteArray.size_append]; rfl) | rfl); rw [← e_]; exact c56b2
                    simp only [Option.some.injEq, Prod.mk.injEq] at H
                    obtain ⟨rfl, rfl⟩ := H
                    have hcz57_0 : wr.cell? ⟨gb365, 0, none⟩ = some (.string a0_0) := (blk_cell BK365.out 0).trans rfl
                    have hcz57_1 : wr.cell? ⟨gb365, 1, none⟩ = some (.slice A0_1 l0_1.length c0_1) := (blk_cell BK365.out 1).trans rfl
                    have hcz57_2 : wr.cell? ⟨gb365, 2, none⟩ = some (.string a0_2) := (blk_cell BK365.out 2).trans rfl
                    have hcz57_3 : wr.cell? ⟨gb365, 3, none⟩ = some (.bool true) := (blk_cell BK365.out 3).trans rfl
                    have hfz57_0 := blk_frozen BK365.out 0
                    have hfz57_1 := blk_frozen BK365.out 1
                    have hfz57_2 := blk_frozen BK365.out 2
                    have hfz57_3 := blk_frozen BK365.out 3
                    go_wp2
                    go_ret2
                    exact ⟨by first | rfl | (simp [errW_none, errW_some] <;> rfl) | (simp [*, errW_none, errW_some] <;> rfl), by repeat (first | (with_reducible first | exact HB.out | apply below_alloc | apply pw_below_drewN | apply below_drew1 | refine below_set ?_ GE365.out) | exact HB.out)⟩
                  · rw [if_neg c56] at H
                    exact absurd H (by simp)
                · rw [if_neg c55] at H
                  exact absurd H (by simp)
              · replace c54 := Bool.eq_false_iff.mpr c54
                subst c54
                have H1 : (if x5_2.size + 2 ≤ 9223372036854775807 then (if (x5_2 ++ (⟨#[62, 32]⟩ : ByteArray)).size + a0_2.size ≤ 9223372036854775807 then (some ((x5_2 ++ (⟨#[62, 32]⟩ : ByteArray)) ++ a0_2, 0)) else (none)) else (none)) = some (r1, r2) := by rw [if_neg (show ¬ (false = true) by decide)] at H; exact H
                clear H
                have H := H1
                clear H1
                by_cases c58 : x5_2.size + 2 ≤ 9223372036854775807
                · rw [if_pos c58] at H
                  have c58b0 := eq_true c58
                  have c58b1 : decide (x5_2.size + 2 ≤ 9223372036854775807) = true := decide_eq_true c58
                  try have c58b2 : (9223372036854775807 < x5_2.size + 2) = False := eq_false (Nat.not_lt.2 c58)
                  by_cases c59 : (x5_2 ++ (⟨#[62, 32]⟩ : ByteArray)).size + a0_2.size ≤ 9223372036854775807
                  · rw [if_pos c59] at H
                    have c59b0 := eq_true c59
                    have c59b1 : decide ((x5_2 ++ (⟨#[62, 32]⟩ : ByteArray)).size + a0_2.size ≤ 9223372036854775807) = true := decide_eq_true c59
                    try have c59b2 : (9223372036854775807 < (x5_2 ++ (⟨#[62, 32]⟩ : ByteArray)).size + a0_2.size) = False := eq_false (Nat.not_lt.2 c59)
                    have c59b3 : (9223372036854775807 < x5_2.size + 2 + a0_2.size) = False := by have e_ : (x5_2 ++ (⟨#[62, 32]⟩ : ByteArray)).size + a0_2.size = x5_2.size + 2 + a0_2.size := (by first | (simp only [ByteArray.size_append]; done) | (simp only [ByteArray.size_append]; rfl) | rfl); rw [← e_]; exact c59b2
                    simp only [Option.some.injEq, Prod.mk.injEq] at H
                    obtain ⟨rfl, rfl⟩ := H
                    have hcz60_0 : wr.cell? ⟨gb365, 0, none⟩ = some (.string a0_0) := (blk_cell BK365.out 0).trans rfl
                    have hcz60_1 : wr.cell? ⟨gb365, 1, none⟩ = some (.slice A0_1 l0_1.length c0_1) := (blk_cell BK365.out 1).trans rfl
                    have hcz60_2 : wr.cell? ⟨gb365, 2, none⟩ = some (.string a0_2) := (blk_cell BK365.out 2).trans rfl
                    have hcz60_3 : wr.cell? ⟨gb365, 3, none⟩ = some (.bool false) := (blk_cell BK365.out 3).trans rfl
                    have hfz60_0 := blk_frozen BK365.out 0
                    have hfz60_1 := blk_frozen BK365.out 1
                    have hfz60_2 := blk_frozen BK365.out 2
                    have hfz60_3 := blk_frozen BK365.out 3
                    go_wp2
                    go_ret2
                    exact ⟨by first | rfl | (simp [errW_none, errW_some] <;> rfl) | (simp [*, errW_none, errW_some] <;> rfl), by repeat (first | (with_reducible first | exact HB.out | apply below_alloc | apply pw_below_drewN | apply below_drew1 | refine below_set ?_ GE365.out) | exact HB.out)⟩
                  · rw [if_neg c59] at H
                    exact absurd H (by simp)
                · rw [if_neg c58] at H
                  exact absurd H (by simp)
  · rw [if_neg c3] at H
    have c3b0 : (t366 == 0) = false := beq_eq_false_iff_ne.mpr c3
    have c3b1 : (t366 != 0) = true := bne_iff_ne.mpr c3
    simp only [Option.some.injEq, Prod.mk.injEq] at H
    obtain ⟨rfl, rfl⟩ := H
    go_enter Tryz.func21, Tryz.ntmps21
    go_wp2_with (first | ((with_reducible refine gate_dst (N := 1) rfl ?_); refine box_event ?hg (N := 1) ?hd (cs := #[.string a0_0, .slice A0_1 l0_1.length c0_1, .string a0_2, .bool a0_3]) (t := 38) ?hr ?_; (case hd => rfl); (case hg => rfl); (case hr => first | (go_simp; done) | (go_simp; rfl)); intro gb365 hg w61 hbox hb; have n0_ := Aside0.mk (below_step (by repeat (first | (with_reducible first | exact HB.out | apply below_alloc | apply pw_below_drewN | apply below_drew1) | exact HB.out)) hb); have n1_ := Aside0.mk (hbox); have n2_ := Aside0.mk ((by rw [hg]; exact (below_size (by repeat (first | (with_reducible first | exact HB.out | apply below_alloc | apply pw_below_drewN | apply below_drew1) | exact HB.out))) : w.heap.size ≤ gb365)); have n3_ := Aside0.mk ((by rw [hg]; exact (below_size (by repeat (first | (with_reducible first | exact HB.out | apply below_alloc | apply pw_below_drewN | apply below_drew1) | exact HB.out))) : w.heap.size ≤ gb365)); clear HB; have HB := n0_; have BK365 := n1_; have GW365 := n2_; have GE365 := n3_; clear n0_ n1_ n2_ n3_; clear hb hbox hg; have hcz62_0 : w61.cell? ⟨gb365, 0, none⟩ = some (.string a0_0) := (blk_cell BK365.out 0).trans rfl; have hcz62_1 : w61.cell? ⟨gb365, 1, none⟩ = some (.slice A0_1 l0_1.length c0_1) := (blk_cell BK365.out 1).trans rfl; have hcz62_2 : w61.cell? ⟨gb365, 2, none⟩ = some (.string a0_2) := (blk_cell BK365.out 2).trans rfl; have hcz62_3 : w61.cell? ⟨gb365, 3, none⟩ = some (.bool a0_3) := (blk_cell BK365.out 3).trans rfl; have hfz62_0 := blk_frozen BK365.out 0; have hfz62_1 := blk_frozen BK365.out 1; have hfz62_2 := blk_frozen BK365.out 2; have hfz62_3 := blk_frozen BK365.out 3) | ((with_reducible refine gate_callee (f := 24) rfl ?_); refine goesL_ (some 9) rfl rfl Tryz.func24 (by kernel_rfl) rfl #[.agg #[.string a0_0, .slice A0_1 l0_1.length c0_1, .string a0_2, .bool a0_3]] rfl (by (try simp only [List.map_toArray, List.map_cons, List.map_nil]); first | done | rfl | (simp only [List.length_drop, List.length_take]; rfl)) ?_; (with_reducible refine (millraceref21_Check.calls k a0_0 _ _ l0_1 a0_2 a0_3 t366 _ ?side1 ?side2 A2.out).mono ?_); (case side1 => repeat (first | exact (Kd.C_below HR0_1.out HB.out) | (with_reducible refine Kd.C_alloc ?_ _) | (with_reducible refine Kd.C_drewN ?_ _) | (with_reducible refine Kd.C_drew ?_))); (case side2 => exact HC0_1.out); rintro e w63 ⟨rfl, hb⟩; refine ⟨_, rfl, ?_⟩; have n0_ := Aside0.mk (blk_below (g := gb365) (o := .cells #[.string a0_0, .slice A0_1 l0_1.length c0_1, .string a0_2, .bool a0_3] 38 (0, 0)) (by (with_reducible repeat (first | refine blk_drewN ?_ _ | refine blk_drew ?_ | refine blk_alloc ?_ _)); exact BK365.out) hb); have n1_ := Aside0.mk (below_step (by repeat (first | (with_reducible first | exact HB.out | apply below_alloc | apply pw_below_drewN | apply below_drew1 | refine below_set ?_ GE365.out) | exact HB.out)) hb); clear BK365; clear HB; have BK365 := n0_; have HB := n1_; clear n0_ n1_; (try clear hb); (try clear hb2); (try clear hk); (try clear hi)))
    go_ret2
    exact ⟨by first | rfl | (simp [errW_none, errW_some] <;> rfl) | (simp [*, errW_none, errW_some] <;> rfl), by repeat (first | (with_reducible first | exact HB.out | apply below_alloc | apply pw_below_drewN | apply below_drew1 | refine below_set ?_ GE365.out) | exact HB.out)⟩
end Go.Proofs.YthmijenlndnmcaaGreatDoor.Sh
