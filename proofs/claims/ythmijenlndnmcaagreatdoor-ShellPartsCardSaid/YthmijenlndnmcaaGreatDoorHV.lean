/-
  Hand-made contracts of functions of the program: LawParts, LawPartsWalk.
-/
import Derived.Test.YthmijenlndnmcaaGreatDoorHU
import Derived.Test.YthmijenlndnmcaaGreatDoorHN
import Derived.Test.YthmijenlndnmcaaGreatDoorShx3
import Derived.Test.YthmijenlndnmcaaGreatDoorShx6
import Derived.Test.YthmijenlndnmcaaGreatDoorShx7
import Derived.Test.YthmijenlndnmcaaGreatDoorShx9
import Derived.Test.YthmijenlndnmcaaGreatDoorShx0
namespace Go.Proofs.YthmijenlndnmcaaGreatDoor.Sh
open Go.RowKit Go.Proofs.YthmijenlndnmcaaGreatDoorW.PrintWords Go.Proofs.YthmijenlndnmcaaGreatDoorW.PrintLast Go.Proofs.YthmijenlndnmcaaGreatDoorW.PrintMore
attribute [local go_sem] max2_int min2_int max_two min_two max_three min_three max_four min_four
set_option linter.unusedVariables false
set_option linter.unusedSimpArgs false

/-! ### ShellParts: head, skip, grep -/
abbrev rHead (m : Nat) : S28 := ⟨(⟨#[104, 101, 97, 100]⟩ : ByteArray), (m : Int), (⟨#[]⟩ : ByteArray)⟩
abbrev rSkip (m : Nat) : S28 := ⟨(⟨#[115, 107, 105, 112]⟩ : ByteArray), (m : Int), (⟨#[]⟩ : ByteArray)⟩
abbrev rGrep (X : ByteArray) : S28 := ⟨(⟨#[103, 114, 101, 112]⟩ : ByteArray), 0, X⟩
theorem gHead (m : Nat) : gOf (tOf (rHead m)) = thrOf 3 m (fun _ => false) := by kernel_rfl
theorem gSkip (m : Nat) : gOf (tOf (rSkip m)) = thrOf 4 m (fun _ => false) := by kernel_rfl
theorem gGrep (X : ByteArray) : gOf (tOf (rGrep X)) = thrOf 5 0 (conOf X) := by kernel_rfl
theorem cHead : ∀ m : Fin 30, checkOf (⟨#[97]⟩ : ByteArray) ([rHead m].map tOf) (⟨#[98]⟩ : ByteArray) = 0 := by decide +kernel
theorem cSkip : ∀ m : Fin 30, checkOf (⟨#[97]⟩ : ByteArray) ([rSkip m].map tOf) (⟨#[98]⟩ : ByteArray) = 0 := by decide +kernel
theorem may_grep (X : ByteArray) : mayB (tOf (rGrep X)) = nameB X := by
  have hw : shell_wants.f 9 (⟨#[103, 114, 101, 112]⟩ : ByteArray) = some 2 := by decide +kernel
  unfold mayB
  show (shell_Tool_may.f 9 (⟨#[103, 114, 101, 112]⟩ : ByteArray) 0 X).getD false = _
  unfold shell_Tool_may.f
  rw [hw]
  simp only [Option.bind_some]
  rw [if_neg (by omega), if_neg (by omega), if_pos (by trivial), named_is]
  simp
theorem head_law {t : List Int} (hb : byteL t) (ht : t.length ≤ 1048576) (hs : shortL t) (m : Nat) (hm : m < 30) : lawOf [rHead m] t = (0, ((ln t).take m).flatten) := by
  rw [law_eq (cHead ⟨m, hm⟩), if_neg (by omega)]
  show chainOf [gOf (tOf (rHead m))] t = _
  rw [gHead]
  exact chain_one _ _ _ (head_is hb ht hs m rfl)
theorem skip_law {t : List Int} (hb : byteL t) (ht : t.length ≤ 1048576) (hs : shortL t) (m : Nat) (hm : m < 30) : lawOf [rSkip m] t = (0, ((ln t).drop m).flatten) := by
  rw [law_eq (cSkip ⟨m, hm⟩), if_neg (by omega)]
  show chainOf [gOf (tOf (rSkip m))] t = _
  rw [gSkip]
  exact chain_one _ _ _ (skip_is hb ht hs m rfl)
theorem skip_bad {t : List Int} (hb : byteL t) (h : ¬ (t.length ≤ 1048576 ∧ shortL t)) (m : Nat) (hm : m < 30) : (lawOf [rSkip m] t).1 ≠ 0 := by
  rw [law_eq (cSkip ⟨m, hm⟩)]
  split
  · simp
  · show (chainOf (gOf (tOf (rSkip m)) :: _) t).1 ≠ 0
    refine chain_bad _ _ _ fun h0 => h ⟨by omega, ?_⟩
    rw [gSkip] at h0
    exact thr_zero hb (fun _ _ _ => rfl) (by omega) h0
theorem cGrep (X : ByteArray) (l : List S28) (h1 : 1 ≤ l.length) (h2 : l.length ≤ 16) (hl : ∀ x ∈ l, x = rGrep X) (h : nameB X = true) : checkOf (⟨#[97]⟩ : ByteArray) (l.map tOf) (⟨#[98]⟩ : ByteArray) = 0 := by
  rw [check_ab, if_neg (by rw [List.length_map]; omega), if_neg]
  simp only [List.any_eq_true, Bool.not_eq_true', not_exists, not_and, Bool.not_eq_false]
  intro x hx
  obtain ⟨y, hy, rfl⟩ := List.mem_map.1 hx
  rw [hl y hy, may_grep, h]
theorem grep_bad (X : ByteArray) (h : nameB X = false) (t : List Int) : (lawOf [rGrep X] t).1 ≠ 0 := by
  have hc : checkOf (⟨#[97]⟩ : ByteArray) ([rGrep X].map tOf) (⟨#[98]⟩ : ByteArray) = 211 := by
    rw [check_ab, if_neg (by simp), if_pos]
    simp only [List.map_cons, List.map_nil, List.any_cons, List.any_nil, may_grep, h]
    rfl
  unfold lawOf evalAB
  rw [if_pos (by rw [hc]; decide), hc]
  decide
theorem grep_law (X : ByteArray) (h : nameB X = true) {t : List Int} (hb : byteL t) (ht : t.length ≤ 1048576) (hs : shortL t) :
    lawOf [rGrep X] t = (0, ((ln t).filter (conOf X)).flatten) ∧ lawOf [rGrep X, rGrep X] t = (0, ((ln t).filter (conOf X)).flatten) := by
  refine ⟨?_, ?_⟩
  · rw [law_eq (cGrep X _ (by simp) (by simp) (by simp) h), if_neg (by omega)]
    show chainOf [gOf (tOf (rGrep X))] t = _
    rw [gGrep]
    exact chain_one _ _ _ (grep_is hb ht hs)
  · rw [law_eq (cGrep X _ (by simp) (by simp) (by simp) h), if_neg (by omega)]
    show chainOf [gOf (tOf (rGrep X)), gOf (tOf (rGrep X))] t = _
    rw [gGrep]
    exact chain_two _ _ _ _ _ (grep_is hb ht hs) (grep_grep hb ht hs)
theorem parts_app (t : List Int) (m : Nat) : ((ln t).take m).flatten ++ ((ln t).drop m).flatten = t := by
  rw [← List.flatten_append, List.take_append_drop, ln_flat]
theorem mod_is (x : Int) : ∃ m : Nat, m < 30 ∧ wrap64 (x.tmod 30 + 30) = x.tmod 30 + 30 ∧ (x.tmod 30 + 30).tmod 30 = (m : Int) := by
  have e30 : ((30 : Nat) : Int) = 30 := rfl
  obtain ⟨a1, a2⟩ := tmod_lt x 30 (by omega)
  rw [e30] at a1 a2
  have h3 : 0 ≤ (x.tmod 30 + 30).tmod 30 := Int.tmod_nonneg _ (by omega)
  obtain ⟨b1, b2⟩ := tmod_lt (x.tmod 30 + 30) 30 (by omega)
  rw [e30] at b1 b2
  refine ⟨((x.tmod 30 + 30).tmod 30).toNat, by omega, by unfold wrap64; omega, by omega⟩


/-! ### ShellParts, walked -/
set_option maxHeartbeats 8000000 in
set_option maxRecDepth 100000 in
theorem millracelaw21_ShellParts.calls (A : Option Addr) (c : Nat) (t : List Int) (n : Int) (X : ByteArray) (r : Bool) (w : World) (hr : Kd.C (Kd.int .u8) w A t.length t) (hc : t.length ≤ c) (h : r = true ∧ byteL t ∧ MaxCell w) :
    Calls Tryz.prog 4 #[.slice A t.length c, .int .i64 n, .string X] w fun e w' => e = .returned (.bool r) ∧ Below w.heap.size w w' := by
  obtain ⟨rfl, hb, hml⟩ := h
  have hmx := hr.2.1
  have HA := Lib.hid (law_alive.calls w hml)
  have HR := Lib.hid (fun W (hB : Below w.heap.size w W) => Kd.C_below hr hB)
  have HCL := Lib.hid hc
  obtain ⟨m, hm, M1, M2⟩ := mod_is n
  have E : (wrap64 (n.tmod 30 + 30)).tmod 30 = (m : Int) := by rw [M1, M2]
  clear M1 M2
  by_cases hgood : t.length ≤ 1048576 ∧ shortL t
  · obtain ⟨ht, hs⟩ := hgood
    have e1 := head_law hb ht hs m hm
    have e2 := skip_law hb ht hs m hm
    have hab := parts_app t m
    obtain ⟨aa, haa⟩ : ∃ aa, aa = ((ln t).take m).flatten := ⟨_, rfl⟩
    obtain ⟨bb, hbb⟩ : ∃ bb, bb = ((ln t).drop m).flatten := ⟨_, rfl⟩
    rw [← haa] at e1 hab
    rw [← hbb] at e2 hab
    have hlen : aa.length + bb.length = t.length := by rw [← hab, List.length_append]
    have T1 := Lib.hid (fun W hB => thr1 (rHead m) A c t w hr hc hb hml _ e1 W hB)
    have T2 := Lib.hid (fun W hB => thr1 (rSkip m) A c t w hr hc hb hml _ e2 W hB)
    simp only [if_true] at T1 T2
    have CB := Lib.hid (fun A1 c1 W h1 g1 => millraceplain_CopyBytes.calls A1 c1 aa aa W h1 g1 (by unfold millraceplain_CopyBytes.f; rw [if_pos (by simp; omega), List.nil_append]))
    have HLN := Lib.hid (show aa.length + bb.length ≤ 100000000 by omega)
    have HAB := Lib.hid hab
    obtain ⟨k1, hk1⟩ := same_is t (by omega)
    have S1 := Lib.hid (fun A1 c1 W h1 g1 h2 g2 => millraceplain_SameBytes.calls k1 A1 c1 t A c t true W h1 g1 h2 g2 hk1)
    cases hX : nameB X with
    | true =>
      obtain ⟨e3, e4⟩ := grep_law X hX hb ht hs
      obtain ⟨cc, hcc⟩ : ∃ cc, cc = ((ln t).filter (conOf X)).flatten := ⟨_, rfl⟩
      have hcl : cc.length ≤ t.length := by rw [hcc]; have := flat_sub (List.filter_sublist (p := conOf X) (l := ln t)); rwa [ln_flat] at this
      rw [← hcc] at e3 e4
      have T3 := Lib.hid (fun W hB => thr1 (rGrep X) A c t w hr hc hb hml _ e3 W hB)
      have T4 := Lib.hid (fun W hB => thr2 (rGrep X) (rGrep X) A c t w hr hc hb hml _ e4 W hB)
      simp only [if_true] at T3 T4
      obtain ⟨k2, hk2⟩ := same_is cc (by omega)
      have S2 := Lib.hid (fun A1 c1 A2 c2 W h1 g1 h2 g2 => millraceplain_SameBytes.calls k2 A1 c1 cc A2 c2 cc true W h1 g1 h2 g2 hk2)
      have hle : decide ((cc.length : Int) ≤ (t.length : Int)) = true := by simp; omega
      clear hr hc hb hml hmx ht hs e1 e2 e3 e4 hab haa hbb hlen hcc hk1 hk2 hX hm
      go_enter Tryz.func4, Tryz.ntmps4
      go_wp2_with fail
      refine (HA.out).mono ?_
      rintro e w1 ⟨rfl, q1⟩
      simp only []
      go_at_K
      go_wp2_with fail
      refine (T1.out w1 q1).mono ?_
      rintro e w2 ⟨v2, rfl, ⟨A2, c2, rfl, hc2, hC2, _⟩, q2⟩
      have b2 := Lib.hid (below_step q1 q2)
      have F2 := Lib.hid (And.intro hC2 hc2)
      clear hC2 hc2 q2
      simp only []
      go_at_K
      go_wp2_with fail
      refine (T2.out w2 b2.out).mono ?_
      rintro e w3 ⟨v3, rfl, ⟨A3, c3, rfl, hc3, hC3, _⟩, q3⟩
      have b3 := Lib.hid (below_step b2.out q3)
      have F2 := Lib.hid (And.intro (Kd.C_below F2.out.1 q3) F2.out.2)
      have F3 := Lib.hid (And.intro hC3 hc3)
      clear hC3 hc3 q3
      simp only []
      go_at_K
      go_wp2_with fail
      refine (CB.out A2 c2 w3 F2.out.1 F2.out.2).mono ?_
      rintro e w4 ⟨v4, rfl, h4, q4⟩
      have b4 := Lib.hid (below_step b3.out q4)
      obtain ⟨A4, n4, c4, hn4, rfl⟩ := slice_var h4
      obtain ⟨v5, w5, hrun, hR5, hg5, hat5⟩ := run_R_append (c := c3) h4 (Kd.C_below F3.out.1 q4) q4.size (HLN.out)
      obtain ⟨A5, n5, c5, hn5, rfl⟩ := slice_var hR5
      have b5 := Lib.hid (show Below w.heap.size w w5 from b4.out.grown hg5 (by have := b3.out.size; have := q4.size; omega) (fun k e => by obtain ⟨inner, ho⟩ := Kd.R_own h4; have := own_base ho k e; have := b3.out.size; omega))
      obtain rfl : n5 = t.length := by rw [hn5, HAB.out]
      have F5 := Lib.hid (And.intro (Kd.R_reads' hR5).2.2 (Kd.R_reads' hR5).2.1)
      rw [HAB.out] at F5
      have hrun5 := Lib.hid hrun
      clear h4 hR5 hg5 hat5 hn5 q4 hrun
      simp only []
      go_at_K
      go_wp2_with (at_builtin; refine wpList_append_run w4 rfl (.tmp 57) (.tmp 58) 23 rfl (.slice A4 n4 c4) rfl (.slice A3 bb.length c3) rfl (.slice A5 t.length c5) w5 hrun5.out ?_)
      refine (S1.out A5 c5 w5 F5.out.1 F5.out.2 (HR.out w5 b5.out) HCL.out).mono ?_
      rintro e w6 ⟨rfl, hd⟩
      have q6 : Below w5.heap.size w5 w6 := by obtain ⟨nd, rfl⟩ := hd; exact pw_below_drewN (Below.refl _ _) _
      have b6 := Lib.hid (below_step b5.out q6)
      clear hd
      simp only []
      go_at_K
      go_wp2_with fail
      refine (T3.out w6 b6.out).mono ?_
      rintro e w7 ⟨v7, rfl, ⟨A7, c7, rfl, hc7, hC7, _⟩, q7⟩
      have b7 := Lib.hid (below_step b6.out q7)
      have F7 := Lib.hid (And.intro hC7 hc7)
      clear hC7 hc7 q7
      simp only []
      go_at_K
      go_wp2_with fail
      refine (T4.out w7 b7.out).mono ?_
      rintro e w8 ⟨v8, rfl, ⟨A8, c8, rfl, hc8, hC8, _⟩, q8⟩
      have b8 := Lib.hid (below_step b7.out q8)
      have F7 := Lib.hid (And.intro (Kd.C_below F7.out.1 q8) F7.out.2)
      have F8 := Lib.hid (And.intro hC8 hc8)
      clear hC8 hc8 q8
      simp only []
      go_at_K
      go_wp2_with fail
      refine (S2.out A7 c7 A8 c8 w8 F7.out.1 F7.out.2 F8.out.1 F8.out.2).mono ?_
      rintro e w9 ⟨rfl, hd⟩
      have q9 : Below w8.heap.size w8 w9 := by obtain ⟨nd, rfl⟩ := hd; exact pw_below_drewN (Below.refl _ _) _
      have b9 := Lib.hid (below_step b8.out q9)
      clear hd
      simp only []
      go_at_K
      go_wp2_with fail
      go_ret
      exact ⟨rfl, b9.out⟩
    | false =>
      have hg3 := grep_bad X hX t
      have T3 := Lib.hid (fun W hB => thr1 (rGrep X) A c t w hr hc hb hml _ rfl W hB)
      have z : ∀ x : Int, x ≠ 0 → (x == 0) = false := fun x h => by simpa using h
      simp only [z _ hg3, if_neg hg3] at T3
      obtain ⟨k2, r2, hk2, hr2⟩ := check_grep X
      have g2 : (r2 != 0) = true := by
        have : r2 ≠ 0 := fun e => by have := hr2 e; rw [hX] at this; cases this
        simpa using this
      have CT := Lib.hid (fun W => millraceref21_CheckTool.calls k2 _ _ X r2 W hk2)
      clear hr hc hb hml hmx ht hs e1 e2 hab haa hbb hlen hk1 hk2 hX hm hg3 z hr2
      go_enter Tryz.func4, Tryz.ntmps4
      go_wp2_with fail
      refine (HA.out).mono ?_
      rintro e w1 ⟨rfl, q1⟩
      simp only []
      go_at_K
      go_wp2_with fail
      refine (T1.out w1 q1).mono ?_
      rintro e w2 ⟨v2, rfl, ⟨A2, c2, rfl, hc2, hC2, _⟩, q2⟩
      have b2 := Lib.hid (below_step q1 q2)
      have F2 := Lib.hid (And.intro hC2 hc2)
      clear hC2 hc2 q2
      simp only []
      go_at_K
      go_wp2_with fail
      refine (T2.out w2 b2.out).mono ?_
      rintro e w3 ⟨v3, rfl, ⟨A3, c3, rfl, hc3, hC3, _⟩, q3⟩
      have b3 := Lib.hid (below_step b2.out q3)
      have F2 := Lib.hid (And.intro (Kd.C_below F2.out.1 q3) F2.out.2)
      have F3 := Lib.hid (And.intro hC3 hc3)
      clear hC3 hc3 q3
      simp only []
      go_at_K
      go_wp2_with fail
      refine (CB.out A2 c2 w3 F2.out.1 F2.out.2).mono ?_
      rintro e w4 ⟨v4, rfl, h4, q4⟩
      have b4 := Lib.hid (below_step b3.out q4)
      obtain ⟨A4, n4, c4, hn4, rfl⟩ := slice_var h4
      obtain ⟨v5, w5, hrun, hR5, hg5, hat5⟩ := run_R_append (c := c3) h4 (Kd.C_below F3.out.1 q4) q4.size (HLN.out)
      obtain ⟨A5, n5, c5, hn5, rfl⟩ := slice_var hR5
      have b5 := Lib.hid (show Below w.heap.size w w5 from b4.out.grown hg5 (by have := b3.out.size; have := q4.size; omega) (fun k e => by obtain ⟨inner, ho⟩ := Kd.R_own h4; have := own_base ho k e; have := b3.out.size; omega))
      obtain rfl : n5 = t.length := by rw [hn5, HAB.out]
      have F5 := Lib.hid (And.intro (Kd.R_reads' hR5).2.2 (Kd.R_reads' hR5).2.1)
      rw [HAB.out] at F5
      have hrun5 := Lib.hid hrun
      clear h4 hR5 hg5 hat5 hn5 q4 hrun
      simp only []
      go_at_K
      go_wp2_with (at_builtin; refine wpList_append_run w4 rfl (.tmp 57) (.tmp 58) 23 rfl (.slice A4 n4 c4) rfl (.slice A3 bb.length c3) rfl (.slice A5 t.length c5) w5 hrun5.out ?_)
      refine (S1.out A5 c5 w5 F5.out.1 F5.out.2 (HR.out w5 b5.out) HCL.out).mono ?_
      rintro e w6 ⟨rfl, hd⟩
      have q6 : Below w5.heap.size w5 w6 := by obtain ⟨nd, rfl⟩ := hd; exact pw_below_drewN (Below.refl _ _) _
      have b6 := Lib.hid (below_step b5.out q6)
      clear hd
      simp only []
      go_at_K
      go_wp2_with fail
      refine (T3.out w6 b6.out).mono ?_
      rintro e w7 ⟨v7, rfl, ⟨A7, c7, rfl, _, _, _⟩, q7⟩
      have b7 := Lib.hid (below_step b6.out q7)
      simp only []
      go_at_K
      go_wp2_with fail
      refine (CT.out w7).mono ?_
      rintro e w8 ⟨rfl, q8⟩
      simp only []
      go_at_K
      go_wp2_with fail
      go_ret
      exact ⟨rfl, below_step b7.out q8⟩
  · have hg2 := skip_bad hb hgood m hm
    have T0 := Lib.hid (fun W hB => thr1 (rHead m) A c t w hr hc hb hml _ rfl W hB)
    obtain ⟨ok, hok⟩ : ∃ ok, ok = ((lawOf [rHead m] t).1 == 0) := ⟨_, rfl⟩
    rw [← hok] at T0
    have T1 : Hid (∀ (W : World), Below w.heap.size w W → Calls Tryz.prog 10 #[.slice (some ⟨W.heap.size, 0, none⟩) 1 1, .slice A t.length c] (W.alloc (.cells #[.string (⟨#[104, 101, 97, 100]⟩ : ByteArray), .int .i64 (m : Int), .string (⟨#[]⟩ : ByteArray)] 28)) fun e w' => (∃ A n c, e = .returned (.tuple #[.slice A n c, .bool ok])) ∧ Below W.heap.size W w') :=
      Lib.hid (fun W hB => (T0.out W hB).mono (by rintro e w' ⟨v, rfl, ⟨A', c', rfl, _⟩, q⟩; exact ⟨⟨_, _, _, rfl⟩, q⟩))
    have T2 := Lib.hid (fun W hB => thr1 (rSkip m) A c t w hr hc hb hml _ rfl W hB)
    have z : ∀ x : Int, x ≠ 0 → (x == 0) = false := fun x h => by simpa using h
    simp only [z _ hg2, if_neg hg2] at T2
    have RT := Lib.hid (fun W (hB : Below w.heap.size w W) => ref_through.calls A c t W (HR.out W hB) hc)
    have HGD := Lib.hid hgood
    clear hr hc hb hml hg2 hgood z hmx T0 hok hm
    by_cases hbig : 1048576 < t.length
    · have g : decide ((t.length : Int) > 1048576) = true := by simp; omega
      clear hbig
      cases ok
      all_goals (
        go_enter Tryz.func4, Tryz.ntmps4
        go_wp2_with fail
        refine (HA.out).mono ?_
        rintro e w1 ⟨rfl, q1⟩
        simp only []
        go_at_K
        go_wp2_with fail
        refine (T1.out w1 q1).mono ?_
        rintro e w2 ⟨⟨A2, n2, c2, rfl⟩, q2⟩
        have b2 := Lib.hid (below_step q1 q2)
        clear q2
        simp only []
        go_at_K
        go_wp2_with fail
        refine (T2.out w2 b2.out).mono ?_
        rintro e w3 ⟨v3, rfl, ⟨A3, c3, rfl, _, _, _⟩, q3⟩
        have b3 := Lib.hid (below_step b2.out q3)
        clear q3
        simp only []
        go_at_K
        go_wp2_with fail
        refine (RT.out w3 b3.out).mono ?_
        rintro e w7 ⟨v7, r7, rfl, q7, hrr⟩
        have q7b := below_step b3.out q7
        simp only []
        go_at_K
        go_wp2
        all_goals go_ret
        all_goals exact ⟨by first | rfl | (simp [*]; done), q7b⟩)
    · have hr0 : ∀ r : Int, (t.length ≤ 1048576 → ¬ shortL t → r ≠ 0) → (r != 0) = true := fun r h => by
        have := h (by omega) (fun hs => HGD.out ⟨by omega, hs⟩)
        simpa using this
      have HZ := Lib.hid hr0
      clear hr0 hbig
      cases ok
      all_goals (
        go_enter Tryz.func4, Tryz.ntmps4
        go_wp2_with fail
        refine (HA.out).mono ?_
        rintro e w1 ⟨rfl, q1⟩
        simp only []
        go_at_K
        go_wp2_with fail
        refine (T1.out w1 q1).mono ?_
        rintro e w2 ⟨⟨A2, n2, c2, rfl⟩, q2⟩
        have b2 := Lib.hid (below_step q1 q2)
        clear q2
        simp only []
        go_at_K
        go_wp2_with fail
        refine (T2.out w2 b2.out).mono ?_
        rintro e w3 ⟨v3, rfl, ⟨A3, c3, rfl, _, _, _⟩, q3⟩
        have b3 := Lib.hid (below_step b2.out q3)
        clear q3
        simp only []
        go_at_K
        go_wp2_with fail
        refine (RT.out w3 b3.out).mono ?_
        rintro e w7 ⟨v7, r7, rfl, q7, hrr⟩
        have q7b := below_step b3.out q7
        simp only []
        go_at_K
        have g := HZ.out _ hrr
        clear hrr
        go_wp2
        all_goals go_ret
        all_goals exact ⟨by first | rfl | (simp [*]; done), q7b⟩)

end Go.Proofs.YthmijenlndnmcaaGreatDoor.Sh
