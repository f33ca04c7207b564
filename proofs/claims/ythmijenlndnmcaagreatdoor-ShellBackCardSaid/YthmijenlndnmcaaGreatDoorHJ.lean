/-
  Hand-made contracts of functions of the program: BackWalk.
-/
import Derived.Test.YthmijenlndnmcaaGreatDoorHI
import Derived.Test.YthmijenlndnmcaaGreatDoorHG
import Derived.Test.YthmijenlndnmcaaGreatDoorShx11
import Derived.Test.YthmijenlndnmcaaGreatDoorShx14
import Derived.Test.YthmijenlndnmcaaGreatDoorShx5
import Derived.Test.YthmijenlndnmcaaGreatDoorShx6
import Derived.Test.YthmijenlndnmcaaGreatDoorShx0
namespace Go.Proofs.YthmijenlndnmcaaGreatDoor.Sh
open Go.RowKit Go.Proofs.YthmijenlndnmcaaGreatDoorW.PrintWords Go.Proofs.YthmijenlndnmcaaGreatDoorW.PrintLast Go.Proofs.YthmijenlndnmcaaGreatDoorW.PrintMore
attribute [local go_sem] max2_int min2_int max_two min_two max_three min_three max_four min_four
set_option linter.unusedVariables false
set_option linter.unusedSimpArgs false
theorem parse_text {fr : ByteArray} {xs : List S74} {tp : ByteArray} (h : checkOf fr xs tp = 0) (ap : Bool) (n : Nat) (hn : n = xs.length) (W : World) :
    Calls Tryz.prog 26 #[.string (textOf fr xs tp ap)] W fun e w' => ∃ A2 c2, e = .returned (.tuple #[.agg #[.string fr, .slice A2 n c2, .string tp, .bool ap], .int .i64 0]) ∧ Kd.C k74 w' A2 n xs ∧ n ≤ c2 ∧ Below W.heap.size W w' := by
  subst hn
  obtain ⟨hs, hsp⟩ := split_text h ap
  have hg := words_good h ap
  obtain ⟨_, hl, _⟩ := line_size h ap
  refine (Parse.calls _ 5000 _ W hs hsp (fun x hx => (hg x hx).1) (by simp) (by simp; omega)).mono ?_
  rintro e w' ⟨fr', v, tp', ap', xs', rfl, hB, hR, hq⟩
  rw [line_words h ap] at hq ⊢
  have hc : codeOf (some (fr, xs, tp, ap)) = 0 := h
  have := hq hc
  cases this
  rw [hc]
  obtain ⟨A2, c2, rfl⟩ := Kd.R_slice hR
  have hrd := (Kd.R_reads' hR).2
  exact ⟨A2, c2, rfl, hrd.2, hrd.1, hB⟩
set_option maxHeartbeats 8000000 in
set_option maxRecDepth 100000 in
theorem millracelaw21_ShellBack.calls (fr : ByteArray) (A : Option Addr) (c : Nat) (l : List S28) (tp : ByteArray) (ap : Bool) (r : Bool) (w : World) (hr : Kd.C k28 w A l.length l) (hc : l.length ≤ c) (h : r = true ∧ MaxCell w ∧ l.length < 3518437208883) :
    Calls Tryz.prog 8 #[.agg #[.string fr, .slice A l.length c, .string tp, .bool ap]] w fun e w' => e = .returned (.bool r) ∧ Below w.heap.size w w' := by
  obtain ⟨rfl, hml, hl⟩ := h
  have hu := Tryz.underlying38
  have hu2 := Tryz.underlying46
  obtain ⟨k, hk⟩ := Of_is fr tp ap l hl
  have HR := Lib.hid (fun W (hB : Below w.heap.size w W) => Kd.C_below hr hB)
  have HO := Lib.hid (fun W (hB : Below w.heap.size w W) => millracelaw21_Of.calls k fr A c l tp ap _ _ _ _ W (HR.out W hB) hc hk)
  have hpp := prog_print fr (l.map tOf) tp ap
  have hsm := same_of fr l tp ap hl
  have HLM : (l.map tOf).length = l.length := List.length_map ..
  have HSM := Lib.hid (fun W (hB : Below w.heap.size w W) A2 c2 h1 h2 => millracelaw21_same.calls (l.length + 2) fr A2 c2 (l.map tOf) tp ap fr A c l tp ap true W h1 h2 (HR.out W hB) hc hsm)
  have HN := Lib.hid (fun (a : Int) (W : World) => millracelaw21_num.calls a a W rfl)
  have HAL := Lib.hid (fun W (hB : Below w.heap.size w W) => law_alive.calls W (hml.below hB))
  by_cases hck : checkOf fr (l.map tOf) tp = 0
  · have HPA := Lib.hid (fun W => parse_text hck ap l.length HLM.symm W)
    obtain ⟨hts, _⟩ := split_text hck ap
    have hpp0 : shell_Print.f 100 fr (l.map tOf) tp ap = some (textOf fr (l.map tOf) tp ap, 0) := by rw [hpp, printOf, if_pos hck]
    generalize textOf fr (l.map tOf) tp ap = ps at hts hpp0 HPA
    have HPP := Lib.hid (fun W A2 c2 h1 h2 => shell_Print.calls 100 fr A2 c2 (l.map tOf) tp ap ps 0 W h1 h2 hpp0)
    simp only [HLM] at HPP HSM
    have g1 : decide ((ps.size : Int) > 4096) = false := by simp; omega
    have g2 : ¬ 4096 < ps.size := by omega
    clear hr hc hk hpp hpp0 hsm hml hl hck hts
    go_enter Tryz.func8, Tryz.ntmps8
    go_wp2_with fail
    refine (HAL.out _ (below_alloc (Below.refl _ _) _)).mono ?_
    rintro e w1 ⟨rfl, q1⟩
    have kp := blk_below (blk_new w (.cells #[.string fr, .slice A l.length c, .string tp, .bool ap] 38)) q1
    have b1 := Lib.hid (below_step (below_alloc (Below.refl w.heap.size w) (.cells #[.string fr, .slice A l.length c, .string tp, .bool ap] 38)) q1)
    have p0 := blk_cell kp 0
    have p1 := blk_cell kp 1
    have p2 := blk_cell kp 2
    have p3 := blk_cell kp 3
    clear q1
    simp only []
    go_at_K
    go_wp2_with fail
    refine (HO.out _ b1.out).mono ?_
    rintro e w2 ⟨v1, rfl, h1, q2⟩
    obtain ⟨A2, c2, rfl⟩ := Kd.R_slice h1
    simp only [List.length_map] at h1 ⊢
    have hRd := (Kd.R_reads' h1).2
    have R1 := Lib.hid hRd
    simp only [List.length_map] at R1
    have b2 := Lib.hid (below_step b1.out q2)
    have kp := blk_below kp q2
    clear hRd h1 q2 p0 p1 p2 p3
    go_at_K
    go_wp2_with fail
    refine (HPP.out _ A2 c2 R1.out.2 R1.out.1).mono ?_
    rintro e w3 ⟨rfl, q3⟩
    have b3 := Lib.hid (below_step b2.out q3)
    have kp := blk_below kp q3
    clear q3
    simp only []
    go_at_K
    go_wp2_with fail
    refine (HN.out _ _).mono ?_
    rintro e w4 ⟨rfl, hd⟩
    have q4 : Below w3.heap.size w3 w4 := by obtain ⟨nd, rfl⟩ := hd; exact pw_below_drewN (Below.refl _ _) _
    have b4 := Lib.hid (below_step b3.out q4)
    have kp := blk_below kp q4
    clear hd q4
    simp only []
    go_at_K
    go_wp2_with fail
    refine (HPA.out _).mono ?_
    rintro e w5 ⟨A5, c5, rfl, hC5, hc5, q5⟩
    have b5 := Lib.hid (below_step b4.out q5)
    have kp := blk_below kp q5
    have F5 := Lib.hid (And.intro hC5 hc5)
    clear hC5 hc5 q5
    simp only []
    go_at_K
    go_wp2_with fail
    refine (HN.out _ _).mono ?_
    rintro e w6 ⟨rfl, hd⟩
    have kn := blk_new w5 (.cells #[.string fr, .slice A5 l.length c5, .string tp, .bool ap] 46)
    have q6 : Below (w5.alloc (.cells #[.string fr, .slice A5 l.length c5, .string tp, .bool ap] 46)).heap.size (w5.alloc (.cells #[.string fr, .slice A5 l.length c5, .string tp, .bool ap] 46)) w6 := by obtain ⟨nd, rfl⟩ := hd; exact pw_below_drewN (Below.refl _ _) _
    have ko := blk_below kn q6
    have k6 := blk_below (blk_alloc kp (.cells #[.string fr, .slice A5 l.length c5, .string tp, .bool ap] 46)) q6
    have q6b := below_step (below_alloc (Below.refl w5.heap.size w5) (.cells #[.string fr, .slice A5 l.length c5, .string tp, .bool ap] 46)) q6
    have b6 := Lib.hid (below_step b5.out q6b)
    have F6 := Lib.hid (And.intro (Kd.C_below F5.out.1 q6b) F5.out.2)
    have o0 := blk_cell ko 0
    have o1 := blk_cell ko 1
    have o2 := blk_cell ko 2
    have o3 := blk_cell ko 3
    have p0 := blk_cell k6 0
    have p1 := blk_cell k6 1
    have p2 := blk_cell k6 2
    have p3 := blk_cell k6 3
    clear hd q6 q6b ko k6 kn kp
    simp only []
    go_at_K
    go_wp2_with fail
    refine (HSM.out _ b6.out A5 c5 F6.out.1 F6.out.2).mono ?_
    rintro e w7 ⟨rfl, q7⟩
    simp only []
    go_at_K
    go_wp2
    go_ret
    exact ⟨rfl, below_step b6.out q7⟩
  · have hpp0 : shell_Print.f 100 fr (l.map tOf) tp ap = some ((⟨#[]⟩ : ByteArray), checkOf fr (l.map tOf) tp) := by rw [hpp, printOf, if_neg hck]
    generalize checkOf fr (l.map tOf) tp = ck at hpp0 hck
    have HPP := Lib.hid (fun W A2 c2 h1 h2 => shell_Print.calls 100 fr A2 c2 (l.map tOf) tp ap (⟨#[]⟩ : ByteArray) ck W h1 h2 hpp0)
    simp only [HLM] at HPP
    have g1 : (ck != 0) = true := by simpa using hck
    have g2 : (ck == 0) = false := by simpa using hck
    clear hr hc hk hpp hpp0 hsm hml hl hck HSM
    go_enter Tryz.func8, Tryz.ntmps8
    go_wp2_with fail
    refine (HAL.out _ (below_alloc (Below.refl _ _) _)).mono ?_
    rintro e w1 ⟨rfl, q1⟩
    have kp := blk_below (blk_new w (.cells #[.string fr, .slice A l.length c, .string tp, .bool ap] 38)) q1
    have b1 := Lib.hid (below_step (below_alloc (Below.refl w.heap.size w) (.cells #[.string fr, .slice A l.length c, .string tp, .bool ap] 38)) q1)
    have p0 := blk_cell kp 0
    have p1 := blk_cell kp 1
    have p2 := blk_cell kp 2
    have p3 := blk_cell kp 3
    clear q1
    simp only []
    go_at_K
    go_wp2_with fail
    refine (HO.out _ b1.out).mono ?_
    rintro e w2 ⟨v1, rfl, h1, q2⟩
    obtain ⟨A2, c2, rfl⟩ := Kd.R_slice h1
    simp only [List.length_map] at h1 ⊢
    have hRd := (Kd.R_reads' h1).2
    have R1 := Lib.hid hRd
    simp only [List.length_map] at R1
    have b2 := Lib.hid (below_step b1.out q2)
    clear hRd h1 q2 p0 p1 p2 p3
    go_at_K
    go_wp2_with fail
    refine (HPP.out _ A2 c2 R1.out.2 R1.out.1).mono ?_
    rintro e w3 ⟨rfl, q3⟩
    have b3 := Lib.hid (below_step b2.out q3)
    clear q3
    simp only []
    go_at_K
    go_wp2_with fail
    refine (HN.out _ _).mono ?_
    rintro e w4 ⟨rfl, hd⟩
    have q4 : Below w3.heap.size w3 w4 := by obtain ⟨nd, rfl⟩ := hd; exact pw_below_drewN (Below.refl _ _) _
    have b4 := Lib.hid (below_step b3.out q4)
    clear hd q4
    simp only []
    go_at_K
    go_wp2
    go_ret
    exact ⟨by first | rfl | simp, b4.out⟩
end Go.Proofs.YthmijenlndnmcaaGreatDoor.Sh
