/-
  Hand-made contracts of functions of the program: PrintsWalk.
-/
import Derived.Test.YthmijenlndnmcaaGreatDoorHY
import Derived.Test.YthmijenlndnmcaaGreatDoorHG
import Derived.Test.YthmijenlndnmcaaGreatDoorShx11
import Derived.Test.YthmijenlndnmcaaGreatDoorShx12
import Derived.Test.YthmijenlndnmcaaGreatDoorShx13
import Derived.Test.YthmijenlndnmcaaGreatDoorShx14
import Derived.Test.YthmijenlndnmcaaGreatDoorShx5
import Derived.Test.YthmijenlndnmcaaGreatDoorShx6
import Derived.Test.YthmijenlndnmcaaGreatDoorShx0
namespace Go.Proofs.YthmijenlndnmcaaGreatDoor.Sh
open Go.RowKit Go.Proofs.YthmijenlndnmcaaGreatDoorW.PrintWords Go.Proofs.YthmijenlndnmcaaGreatDoorW.PrintLast Go.Proofs.YthmijenlndnmcaaGreatDoorW.PrintMore
attribute [local go_sem] max2_int min2_int max_two min_two max_three min_three max_four min_four
set_option linter.unusedVariables false
set_option linter.unusedSimpArgs false
set_option maxHeartbeats 8000000 in
set_option maxRecDepth 100000 in
theorem millracelaw21_ShellPrints.calls (fr : ByteArray) (A : Option Addr) (c : Nat) (l : List S28) (tp : ByteArray) (ap : Bool) (r : Bool) (w : World) (hr : Kd.C k28 w A l.length l) (hc : l.length ≤ c) (h : r = true ∧ MaxCell w ∧ l.length < 3518437208883) :
    Calls Tryz.prog 7 #[.agg #[.string fr, .slice A l.length c, .string tp, .bool ap]] w fun e w' => e = .returned (.bool r) ∧ Below w.heap.size w w' := by
  obtain ⟨rfl, hml, hl⟩ := h
  have hu := Tryz.underlying38
  have hu2 := Tryz.underlying46
  obtain ⟨k, hk⟩ := Of_is fr tp ap l hl
  have HR := Lib.hid (fun W (hB : Below w.heap.size w W) => Kd.C_below hr hB)
  have HO := Lib.hid (fun W (hB : Below w.heap.size w W) => millracelaw21_Of.calls k fr A c l tp ap _ _ _ _ W (HR.out W hB) hc hk)
  have hpp := prog_print fr (l.map tOf) tp ap
  have hrp := ref_print fr l tp ap
  have hrc := check_line fr l tp ap 100 (by omega)
  have hsm := same_of fr l tp ap hl
  generalize printOf fr (l.map tOf) tp ap = P at hpp hrp
  obtain ⟨ps, pe⟩ := P
  have HLM : (l.map tOf).length = l.length := List.length_map ..
  have HPP := Lib.hid (fun W A2 c2 h1 h2 => shell_Print.calls 100 fr A2 c2 (l.map tOf) tp ap ps pe W h1 h2 hpp)
  have HRP := Lib.hid (fun W (hB : Below w.heap.size w W) => millraceref21_Print.calls 200 fr A c l tp ap ps pe W (HR.out W hB) hc hrp)
  have HCK0 := Lib.hid (fun W A2 c2 h1 h2 => shell_CheckH.calls fr tp ap A2 c2 (l.map tOf) W h1 h2)
  have HRC := Lib.hid (fun W (hB : Below w.heap.size w W) => millraceref21_Check.calls 100 fr A c l tp ap _ W (HR.out W hB) hc hrc)
  have HSM0 := Lib.hid (fun W (hB : Below w.heap.size w W) A2 c2 h1 h2 => millracelaw21_same.calls (l.length + 2) fr A2 c2 (l.map tOf) tp ap fr A c l tp ap true W h1 h2 (HR.out W hB) hc hsm)
  have HN := Lib.hid (fun (a : Int) (W : World) => millracelaw21_num.calls a a W rfl)
  have HAL := Lib.hid (fun W (hB : Below w.heap.size w W) => law_alive.calls W (hml.below hB))
  simp only [HLM] at HPP HCK0 HSM0
  generalize checkOf fr (l.map tOf) tp = ck at HCK0 HRC
  have e1 : (ps.toList == ps.toList) = true := by simp
  clear hr hc hk hpp hrp hrc hsm hml hl
  go_enter Tryz.func7, Tryz.ntmps7
  go_wp2_with fail
  refine (HO.out _ (below_alloc (Below.refl _ _) _)).mono ?_
  rintro e w2 ⟨v1, rfl, h1, q1⟩
  obtain ⟨A2, c2, rfl⟩ := Kd.R_slice h1
  simp only [List.length_map] at h1 ⊢
  have kp := blk_below (blk_new w (.cells #[.string fr, .slice A l.length c, .string tp, .bool ap] 38)) q1
  have b2 := Lib.hid (below_step (below_alloc (Below.refl w.heap.size w) (.cells #[.string fr, .slice A l.length c, .string tp, .bool ap] 38)) q1)
  have hRd := (Kd.R_reads' h1).2
  have R1 := Lib.hid hRd
  simp only [List.length_map] at R1
  have HPP2 := Lib.hid (fun W (hB : Below w2.heap.size w2 W) => HPP.out W A2 c2 (Kd.C_below R1.out.2 hB) R1.out.1)
  have HCK := Lib.hid (fun W (hB : Below w2.heap.size w2 W) => HCK0.out W A2 c2 (Kd.C_below R1.out.2 hB) R1.out.1)
  have HSM1 := Lib.hid (fun W (hB : Below w2.heap.size w2 W) => HSM0.out W (below_step b2.out hB) A2 c2 (Kd.C_below R1.out.2 hB) R1.out.1)
  have g0 := blk_cell kp 0
  have g1 := blk_cell kp 1
  have g2 := blk_cell kp 2
  have g3 := blk_cell kp 3
  clear hRd h1 q1 kp
  go_at_K
  go_wp2_with fail
  refine (HPP2.out _ (below_alloc (Below.refl _ _) _)).mono ?_
  rintro e w3 ⟨rfl, q3⟩
  have k3 := blk_below (blk_new w2 (.cells #[.string fr, .slice A2 l.length c2, .string tp, .bool ap] 46)) q3
  have b3 := Lib.hid (below_step (below_alloc (Below.refl w2.heap.size w2) (.cells #[.string fr, .slice A2 l.length c2, .string tp, .bool ap] 46)) q3)
  have g0' := pw_cell_below b3.out g0
  have g1' := pw_cell_below b3.out g1
  have g2' := pw_cell_below b3.out g2
  have g3' := pw_cell_below b3.out g3
  clear g0 g1 g2 g3
  simp only []
  go_at_K
  go_wp2_with fail
  refine (HRP.out _ (below_step b2.out b3.out)).mono ?_
  rintro e w4 ⟨rfl, q4⟩
  have k4 := blk_below k3 q4
  have b4 := Lib.hid (below_step b3.out q4)
  have o0 := blk_cell k4 0
  have o1 := blk_cell k4 1
  have o2 := blk_cell k4 2
  have o3 := blk_cell k4 3
  have p0 := pw_cell_below q4 g0'
  have p1 := pw_cell_below q4 g1'
  have p2 := pw_cell_below q4 g2'
  have p3 := pw_cell_below q4 g3'
  clear g0' g1' g2' g3' k3 k4 q3 q4
  simp only []
  go_at_K
  go_wp2_with fail
  refine start_ (n := 26) (S := fun w' => w'.cell? ⟨w2.heap.size, 0, none⟩ = some (.string fr) ∧ w'.cell? ⟨w2.heap.size, 1, none⟩ = some (.slice A2 l.length c2) ∧ w'.cell? ⟨w2.heap.size, 2, none⟩ = some (.string tp) ∧ w'.cell? ⟨w2.heap.size, 3, none⟩ = some (.bool ap) ∧ w'.cell? ⟨w.heap.size, 0, none⟩ = some (.string fr) ∧ w'.cell? ⟨w.heap.size, 1, none⟩ = some (.slice A l.length c) ∧ w'.cell? ⟨w.heap.size, 2, none⟩ = some (.string tp) ∧ w'.cell? ⟨w.heap.size, 3, none⟩ = some (.bool ap)) (ds := []) #[false, false, false, false, false, false, false, false, false, false, false, false, false, false, false, false, false, false, false, false, false, false, false, false, false, false] (by kernel_rfl) rfl rfl ⟨o0, o1, o2, o3, p0, p1, p2, p3⟩ (fun hHeld => ?_)
  refine take_ (i := 0) (N := some 20) (v := ?_) (a' := ?_) #[true, false, false, false, false, false, false, false, false, false, false, false, false, false, false, false, false, false, false, false, false, false, false, false, false, false] rfl rfl (by kernel_rfl) (fun _ _ _ h => h) (Or.inl ⟨by rfl, ?_⟩) hHeld ?_ ?_
  rotate_left
  · rintro w' ⟨s0, s1, s2, s3, s4, s5, s6, s7⟩
    go_simp
    with_reducible rfl
  rotate_left
  · simp only [Act.put, List.setIfInBounds_toArray, List.set_cons_zero, List.set_cons_succ, i64_w, i32_w]
    rfl
  refine take_ (i := 3) (N := some 23) (v := ?_) (a' := ?_) #[true, false, false, true, false, false, false, false, false, false, false, false, false, false, false, false, false, false, false, false, false, false, false, false, false, false] rfl rfl (by kernel_rfl) (fun _ _ _ h => h) (Or.inl ⟨by rfl, ?_⟩) hHeld ?_ ?_
  rotate_left
  · rintro w' ⟨s0, s1, s2, s3, s4, s5, s6, s7⟩
    go_simp
    with_reducible rfl
  rotate_left
  · simp only [Act.put, List.setIfInBounds_toArray, List.set_cons_zero, List.set_cons_succ, i64_w, i32_w]
    rfl
  refine one_ (i := 1) (N := some 21) #[true, true, false, true, false, false, false, false, false, false, false, false, false, false, false, false, false, false, false, false, false, false, false, false, false, false] rfl rfl (by kernel_rfl) (by decide) (fun K hK => ?_)
  refine goes_ Tryz.func23 (by kernel_rfl) rfl #[.agg #[.string fr, .slice A2 l.length c2, .string tp, .bool ap]] (by rfl) rfl rfl (by simp only [List.map_toArray, List.map_cons, List.map_nil]; rfl) ?_
  with_reducible refine (HCK.out _ (below_step b4.out (below_drew1 (Below.refl _ _)))).mono ?_
  rintro e w5 ⟨rfl, q5⟩
  refine ⟨_, rfl, ?_⟩
  have q5' := below_then (Below.drew (Below.refl w4.heap.size w4)) (Nat.le_refl _) q5
  have b5 := Lib.hid (below_step b4.out q5')
  refine hK.out _ _ ⟨(pw_cell_below q5' o0), (pw_cell_below q5' o1), (pw_cell_below q5' o2), (pw_cell_below q5' o3), (pw_cell_below q5' p0), (pw_cell_below q5' p1), (pw_cell_below q5' p2), (pw_cell_below q5' p3)⟩ (fun hHeld => ?_)
  clear hK K
  refine norm_ (a' := ?_) ?_ ?_
  rotate_left
  · show Act.put _ (some 21) _ = _
    simp only [Act.put, List.setIfInBounds_toArray, List.set_cons_zero, List.set_cons_succ, i64_w, i32_w]
    rfl
  refine one_ (i := 2) (N := some 22) #[true, true, true, true, false, false, false, false, false, false, false, false, false, false, false, false, false, false, false, false, false, false, false, false, false, false] rfl rfl (by kernel_rfl) (by decide) (fun K hK => ?_)
  refine goes_ Tryz.func22 (by kernel_rfl) rfl #[.int .i64 ck] (by rfl) rfl rfl (by simp only [List.map_toArray, List.map_cons, List.map_nil]; rfl) ?_
  with_reducible refine (HN.out _ _).mono ?_
  rintro e w6 ⟨rfl, hd6⟩
  refine ⟨_, rfl, ?_⟩
  have q6 : Below w5.heap.size w5 w6 := by obtain ⟨nd, rfl⟩ := hd6; exact pw_below_drewN (Below.refl _ _) _
  have q6' := below_then q5' q5'.size q6
  have b6 := Lib.hid (below_step b4.out q6')
  refine hK.out _ _ ⟨(pw_cell_below q6' o0), (pw_cell_below q6' o1), (pw_cell_below q6' o2), (pw_cell_below q6' o3), (pw_cell_below q6' p0), (pw_cell_below q6' p1), (pw_cell_below q6' p2), (pw_cell_below q6' p3)⟩ (fun hHeld => ?_)
  clear hK K
  refine norm_ (a' := ?_) ?_ ?_
  rotate_left
  · show Act.put _ (some 22) _ = _
    simp only [Act.put, List.setIfInBounds_toArray, List.set_cons_zero, List.set_cons_succ, i64_w, i32_w]
    rfl
  refine one_ (i := 4) (N := some 24) #[true, true, true, true, true, false, false, false, false, false, false, false, false, false, false, false, false, false, false, false, false, false, false, false, false, false] rfl rfl (by kernel_rfl) (by decide) (fun K hK => ?_)
  refine goes_ Tryz.func24 (by kernel_rfl) rfl #[.agg #[.string fr, .slice A l.length c, .string tp, .bool ap]] (by rfl) rfl rfl (by simp only [List.map_toArray, List.map_cons, List.map_nil]; rfl) ?_
  with_reducible refine (HRC.out _ (below_step b2.out b6.out)).mono ?_
  rintro e w7 ⟨rfl, q7⟩
  refine ⟨_, rfl, ?_⟩
  have q7' := below_then q6' q6'.size q7
  have b7 := Lib.hid (below_step b4.out q7')
  refine hK.out _ _ ⟨(pw_cell_below q7' o0), (pw_cell_below q7' o1), (pw_cell_below q7' o2), (pw_cell_below q7' o3), (pw_cell_below q7' p0), (pw_cell_below q7' p1), (pw_cell_below q7' p2), (pw_cell_below q7' p3)⟩ (fun hHeld => ?_)
  clear hK K
  refine norm_ (a' := ?_) ?_ ?_
  rotate_left
  · show Act.put _ (some 24) _ = _
    simp only [Act.put, List.setIfInBounds_toArray, List.set_cons_zero, List.set_cons_succ, i64_w, i32_w]
    rfl
  refine pure_ (i := 5) (N := some 25) (v := ?_) (a' := ?_) #[true, true, true, true, true, true, false, false, false, false, false, false, false, false, false, false, false, false, false, false, false, false, false, false, false, false] rfl rfl (by kernel_rfl) (fun _ _ _ h => h) (Or.inl ⟨by rfl, ?_⟩) ?_ ?_
  rotate_left
  · intro w'
    go_simp
    with_reducible rfl
  rotate_left
  · simp only [Act.put, List.setIfInBounds_toArray, List.set_cons_zero, List.set_cons_succ, i64_w, i32_w]
    rfl
  refine pure_ (i := 6) (N := some 26) (v := ?_) (a' := ?_) #[true, true, true, true, true, true, true, false, false, false, false, false, false, false, false, false, false, false, false, false, false, false, false, false, false, false] rfl rfl (by kernel_rfl) (fun _ _ _ h => h) (Or.inl ⟨by rfl, ?_⟩) ?_ ?_
  rotate_left
  · intro w'
    go_simp
    with_reducible rfl
  rotate_left
  · simp only [Act.put, List.setIfInBounds_toArray, List.set_cons_zero, List.set_cons_succ, i64_w, i32_w]
    rfl
  refine pure_ (i := 7) (N := some 27) (v := ?_) (a' := ?_) #[true, true, true, true, true, true, true, true, false, false, false, false, false, false, false, false, false, false, false, false, false, false, false, false, false, false] rfl rfl (by kernel_rfl) (fun _ _ _ h => h) (Or.inl ⟨by rfl, ?_⟩) ?_ ?_
  rotate_left
  · intro w'
    go_simp
    with_reducible rfl
  rotate_left
  · simp only [Act.put, List.setIfInBounds_toArray, List.set_cons_zero, List.set_cons_succ, i64_w, i32_w]
    rfl
  refine pure_ (i := 8) (N := some 28) (v := ?_) (a' := ?_) #[true, true, true, true, true, true, true, true, true, false, false, false, false, false, false, false, false, false, false, false, false, false, false, false, false, false] rfl rfl (by kernel_rfl) (fun _ _ _ h => h) (Or.inl ⟨by rfl, ?_⟩) ?_ ?_
  rotate_left
  · intro w'
    go_simp
    with_reducible rfl
  rotate_left
  · simp only [Act.put, List.setIfInBounds_toArray, List.set_cons_zero, List.set_cons_succ, i64_w, i32_w]
    rfl
  refine pure_ (i := 9) (N := some 29) (v := ?_) (a' := ?_) #[true, true, true, true, true, true, true, true, true, true, false, false, false, false, false, false, false, false, false, false, false, false, false, false, false, false] rfl rfl (by kernel_rfl) (fun _ _ _ h => h) (Or.inl ⟨by rfl, ?_⟩) ?_ ?_
  rotate_left
  · intro w'
    go_simp
    with_reducible rfl
  rotate_left
  · simp only [Act.put, List.setIfInBounds_toArray, List.set_cons_zero, List.set_cons_succ, i64_w, i32_w]
    rfl
  refine pure_ (i := 10) (N := some 30) (v := ?_) (a' := ?_) #[true, true, true, true, true, true, true, true, true, true, true, false, false, false, false, false, false, false, false, false, false, false, false, false, false, false] rfl rfl (by kernel_rfl) (fun _ _ _ h => h) (Or.inl ⟨by rfl, ?_⟩) ?_ ?_
  rotate_left
  · intro w'
    go_simp
    with_reducible rfl
  rotate_left
  · simp only [Act.put, List.setIfInBounds_toArray, List.set_cons_zero, List.set_cons_succ, i64_w, i32_w]
    rfl
  refine pure_ (i := 11) (N := some 31) (v := ?_) (a' := ?_) #[true, true, true, true, true, true, true, true, true, true, true, true, false, false, false, false, false, false, false, false, false, false, false, false, false, false] rfl rfl (by kernel_rfl) (fun _ _ _ h => h) (Or.inl ⟨by rfl, ?_⟩) ?_ ?_
  rotate_left
  · intro w'
    go_simp
    with_reducible rfl
  rotate_left
  · simp only [Act.put, List.setIfInBounds_toArray, List.set_cons_zero, List.set_cons_succ, i64_w, i32_w]
    rfl
  refine pure_ (i := 12) (N := some 32) (v := ?_) (a' := ?_) #[true, true, true, true, true, true, true, true, true, true, true, true, true, false, false, false, false, false, false, false, false, false, false, false, false, false] rfl rfl (by kernel_rfl) (fun _ _ _ h => h) (Or.inl ⟨by rfl, ?_⟩) ?_ ?_
  rotate_left
  · intro w'
    go_simp
    with_reducible rfl
  rotate_left
  · simp only [Act.put, List.setIfInBounds_toArray, List.set_cons_zero, List.set_cons_succ, i64_w, i32_w]
    rfl
  refine pure_ (i := 14) (N := some 34) (v := ?_) (a' := ?_) #[true, true, true, true, true, true, true, true, true, true, true, true, true, false, true, false, false, false, false, false, false, false, false, false, false, false] rfl rfl (by kernel_rfl) (fun _ _ _ h => h) (Or.inl ⟨by rfl, ?_⟩) ?_ ?_
  rotate_left
  · intro w'
    go_simp
    with_reducible rfl
  rotate_left
  · simp only [Act.put, List.setIfInBounds_toArray, List.set_cons_zero, List.set_cons_succ, i64_w, i32_w]
    rfl
  refine one_ (i := 13) (N := some 33) #[true, true, true, true, true, true, true, true, true, true, true, true, true, true, true, false, false, false, false, false, false, false, false, false, false, false] rfl rfl (by kernel_rfl) (by decide) (fun K hK => ?_)
  refine goes_ Tryz.func22 (by kernel_rfl) rfl #[.int .i64 pe] (by rfl) rfl rfl (by simp only [List.map_toArray, List.map_cons, List.map_nil]; rfl) ?_
  with_reducible refine (HN.out _ _).mono ?_
  rintro e w8 ⟨rfl, hd8⟩
  refine ⟨_, rfl, ?_⟩
  have q8 : Below w7.heap.size w7 w8 := by obtain ⟨nd, rfl⟩ := hd8; exact pw_below_drewN (Below.refl _ _) _
  have q8' := below_then q7' q7'.size q8
  have b8 := Lib.hid (below_step b4.out q8')
  refine hK.out _ _ ⟨(pw_cell_below q8' o0), (pw_cell_below q8' o1), (pw_cell_below q8' o2), (pw_cell_below q8' o3), (pw_cell_below q8' p0), (pw_cell_below q8' p1), (pw_cell_below q8' p2), (pw_cell_below q8' p3)⟩ (fun hHeld => ?_)
  clear hK K
  refine norm_ (a' := ?_) ?_ ?_
  rotate_left
  · show Act.put _ (some 33) _ = _
    simp only [Act.put, List.setIfInBounds_toArray, List.set_cons_zero, List.set_cons_succ, i64_w, i32_w]
    rfl
  refine pure_ (i := 15) (N := some 35) (v := ?_) (a' := ?_) #[true, true, true, true, true, true, true, true, true, true, true, true, true, true, true, true, false, false, false, false, false, false, false, false, false, false] rfl rfl (by kernel_rfl) (fun _ _ _ h => h) (Or.inl ⟨by rfl, ?_⟩) ?_ ?_
  rotate_left
  · intro w'
    go_simp
    with_reducible rfl
  rotate_left
  · simp only [Act.put, List.setIfInBounds_toArray, List.set_cons_zero, List.set_cons_succ, i64_w, i32_w]
    rfl
  refine pure_ (i := 16) (N := some 36) (v := ?_) (a' := ?_) #[true, true, true, true, true, true, true, true, true, true, true, true, true, true, true, true, true, false, false, false, false, false, false, false, false, false] rfl rfl (by kernel_rfl) (fun _ _ _ h => h) (Or.inl ⟨by rfl, ?_⟩) ?_ ?_
  rotate_left
  · intro w'
    go_simp
    with_reducible rfl
  rotate_left
  · simp only [Act.put, List.setIfInBounds_toArray, List.set_cons_zero, List.set_cons_succ, i64_w, i32_w]
    rfl
  refine pure_ (i := 17) (N := some 37) (v := ?_) (a' := ?_) #[true, true, true, true, true, true, true, true, true, true, true, true, true, true, true, true, true, true, false, false, false, false, false, false, false, false] rfl rfl (by kernel_rfl) (fun _ _ _ h => h) (Or.inl ⟨by rfl, ?_⟩) ?_ ?_
  rotate_left
  · intro w'
    go_simp
    with_reducible rfl
  rotate_left
  · simp only [Act.put, List.setIfInBounds_toArray, List.set_cons_zero, List.set_cons_succ, i64_w, i32_w]
    rfl
  refine take_ (i := 18) (N := some 38) (v := ?_) (a' := ?_) #[true, true, true, true, true, true, true, true, true, true, true, true, true, true, true, true, true, true, true, false, false, false, false, false, false, false] rfl rfl (by kernel_rfl) (fun _ _ _ h => h) (Or.inl ⟨by rfl, ?_⟩) hHeld ?_ ?_
  rotate_left
  · rintro w' ⟨s0, s1, s2, s3, s4, s5, s6, s7⟩
    go_simp
    with_reducible rfl
  rotate_left
  · simp only [Act.put, List.setIfInBounds_toArray, List.set_cons_zero, List.set_cons_succ, i64_w, i32_w]
    rfl
  refine take_ (i := 19) (N := some 39) (v := ?_) (a' := ?_) #[true, true, true, true, true, true, true, true, true, true, true, true, true, true, true, true, true, true, true, true, false, false, false, false, false, false] rfl rfl (by kernel_rfl) (fun _ _ _ h => h) (Or.inl ⟨by rfl, ?_⟩) hHeld ?_ ?_
  rotate_left
  · rintro w' ⟨s0, s1, s2, s3, s4, s5, s6, s7⟩
    go_simp
    with_reducible rfl
  rotate_left
  · simp only [Act.put, List.setIfInBounds_toArray, List.set_cons_zero, List.set_cons_succ, i64_w, i32_w]
    rfl
  refine one_ (i := 20) (N := some 40) #[true, true, true, true, true, true, true, true, true, true, true, true, true, true, true, true, true, true, true, true, true, false, false, false, false, false] rfl rfl (by kernel_rfl) (by decide) (fun K hK => ?_)
  refine goes_ Tryz.func25 (by kernel_rfl) rfl #[.agg #[.string fr, .slice A2 l.length c2, .string tp, .bool ap], .agg #[.string fr, .slice A l.length c, .string tp, .bool ap]] (by rfl) rfl rfl (by simp only [List.map_toArray, List.map_cons, List.map_nil]; rfl) ?_
  with_reducible refine (HSM1.out _ b8.out).mono ?_
  rintro e w9 ⟨rfl, q9⟩
  refine ⟨_, rfl, ?_⟩
  have q9' := below_then q8' q8'.size q9
  have b9 := Lib.hid (below_step b4.out q9')
  refine hK.out _ _ ⟨(pw_cell_below q9' o0), (pw_cell_below q9' o1), (pw_cell_below q9' o2), (pw_cell_below q9' o3), (pw_cell_below q9' p0), (pw_cell_below q9' p1), (pw_cell_below q9' p2), (pw_cell_below q9' p3)⟩ (fun hHeld => ?_)
  clear hK K
  refine norm_ (a' := ?_) ?_ ?_
  rotate_left
  · show Act.put _ (some 40) _ = _
    simp only [Act.put, List.setIfInBounds_toArray, List.set_cons_zero, List.set_cons_succ, i64_w, i32_w]
    rfl
  refine pure_ (i := 21) (N := some 41) (v := ?_) (a' := ?_) #[true, true, true, true, true, true, true, true, true, true, true, true, true, true, true, true, true, true, true, true, true, true, false, false, false, false] rfl rfl (by kernel_rfl) (fun _ _ _ h => h) (Or.inl ⟨by rfl, ?_⟩) ?_ ?_
  rotate_left
  · intro w'
    go_simp
    with_reducible rfl
  rotate_left
  · simp only [Act.put, List.setIfInBounds_toArray, List.set_cons_zero, List.set_cons_succ, i64_w, i32_w]
    rfl
  refine pure_ (i := 22) (N := some 42) (v := ?_) (a' := ?_) #[true, true, true, true, true, true, true, true, true, true, true, true, true, true, true, true, true, true, true, true, true, true, true, false, false, false] rfl rfl (by kernel_rfl) (fun _ _ _ h => h) (Or.inl ⟨by rfl, ?_⟩) ?_ ?_
  rotate_left
  · intro w'
    go_simp
    with_reducible rfl
  rotate_left
  · simp only [Act.put, List.setIfInBounds_toArray, List.set_cons_zero, List.set_cons_succ, i64_w, i32_w]
    rfl
  refine one_ (i := 23) (N := some 43) #[true, true, true, true, true, true, true, true, true, true, true, true, true, true, true, true, true, true, true, true, true, true, true, true, false, false] rfl rfl (by kernel_rfl) (by decide) (fun K hK => ?_)
  refine goes_ Tryz.func9 (by kernel_rfl) rfl #[] (by rfl) rfl rfl (by first | rfl | simp only [List.map_toArray, List.map_nil]) ?_
  with_reducible refine (HAL.out _ (below_step b2.out b9.out)).mono ?_
  rintro e w10 ⟨rfl, q10⟩
  refine ⟨_, rfl, ?_⟩
  have q10' := below_then q9' q9'.size q10
  have b10 := Lib.hid (below_step b4.out q10')
  refine hK.out _ _ ⟨(pw_cell_below q10' o0), (pw_cell_below q10' o1), (pw_cell_below q10' o2), (pw_cell_below q10' o3), (pw_cell_below q10' p0), (pw_cell_below q10' p1), (pw_cell_below q10' p2), (pw_cell_below q10' p3)⟩ (fun hHeld => ?_)
  clear hK K
  refine norm_ (a' := ?_) ?_ ?_
  rotate_left
  · show Act.put _ (some 43) _ = _
    simp only [Act.put, List.setIfInBounds_toArray, List.set_cons_zero, List.set_cons_succ, i64_w, i32_w]
    rfl
  refine pure_ (i := 24) (N := some 44) (v := ?_) (a' := ?_) #[true, true, true, true, true, true, true, true, true, true, true, true, true, true, true, true, true, true, true, true, true, true, true, true, true, false] rfl rfl (by kernel_rfl) (fun _ _ _ h => h) (Or.inl ⟨by rfl, ?_⟩) ?_ ?_
  rotate_left
  · intro w'
    go_simp
    with_reducible rfl
  rotate_left
  · simp only [Act.put, List.setIfInBounds_toArray, List.set_cons_zero, List.set_cons_succ, i64_w, i32_w]
    rfl
  refine pure_ (i := 25) (N := some 2) (v := ?_) (a' := ?_) #[true, true, true, true, true, true, true, true, true, true, true, true, true, true, true, true, true, true, true, true, true, true, true, true, true, true] rfl rfl (by kernel_rfl) (fun _ _ _ h => h) (Or.inl ⟨by rfl, ?_⟩) ?_ ?_
  rotate_left
  · intro w'
    go_simp
    with_reducible rfl
  rotate_left
  · simp only [Act.put, List.setIfInBounds_toArray, List.set_cons_zero, List.set_cons_succ, i64_w, i32_w]
    rfl
  refine done_ (by kernel_rfl) ?_
  go_wp2
  go_ret
  exact ⟨rfl, below_step b2.out b10.out⟩
end Go.Proofs.YthmijenlndnmcaaGreatDoor.Sh
