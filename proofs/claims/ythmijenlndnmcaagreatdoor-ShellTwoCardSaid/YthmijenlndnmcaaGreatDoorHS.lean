/-
  Hand-made contracts of functions of the program: LawTurns, LawTurnsWalk.
-/
import Derived.Test.YthmijenlndnmcaaGreatDoorHG
import Derived.Test.YthmijenlndnmcaaGreatDoorShx5
import Derived.Test.YthmijenlndnmcaaGreatDoorShx0
namespace Go.Proofs.YthmijenlndnmcaaGreatDoor.Sh
open Go.RowKit Go.Proofs.YthmijenlndnmcaaGreatDoorW.PrintWords Go.Proofs.YthmijenlndnmcaaGreatDoorW.PrintLast Go.Proofs.YthmijenlndnmcaaGreatDoorW.PrintMore
attribute [local go_sem] max2_int min2_int max_two min_two max_three min_three max_four min_four
set_option linter.unusedVariables false
set_option linter.unusedSimpArgs false

/-! ### ShellTurns -/
theorem tools1 (W : World) (x : S28) : Kd.C k28 (W.alloc (.cells #[.string x.f0, .int .i64 x.f1, .string x.f2] 28)) (some ⟨W.heap.size, 0, none⟩) 1 [x] := by
  refine ⟨rfl, by decide, fun _ => ⟨_, rfl, fun j p hj => ?_⟩⟩
  match j with
  | 0 =>
    cases hj
    refine ⟨_, rfl, k28_mk _ _, fun i u hu => ?_⟩
    rw [add_plain]
    exact (blk_cell (blk_new W _) (0 * k28.sz + i)).trans (by rw [Nat.zero_mul, Nat.zero_add, ← hu]; simp)
  | j + 1 => simp at hj
theorem tools2 (W : World) (x y : S28) : Kd.C k28 (W.alloc (.cells #[.string x.f0, .int .i64 x.f1, .string x.f2, .string y.f0, .int .i64 y.f1, .string y.f2] 28)) (some ⟨W.heap.size, 0, none⟩) 2 [x, y] := by
  refine ⟨rfl, by decide, fun _ => ⟨_, rfl, fun j p hj => ?_⟩⟩
  match j with
  | 0 =>
    cases hj
    refine ⟨_, rfl, k28_mk _ _, fun i u hu => ?_⟩
    rw [add_plain]
    refine (blk_cell (blk_new W _) (0 * k28.sz + i)).trans ?_
    rw [Nat.zero_mul, Nat.zero_add, ← hu]
    have hi : i < 3 := (List.getElem?_eq_some_iff.1 hu).1
    match i, hi with
    | 0, _ => rfl
    | 1, _ => rfl
    | 2, _ => rfl
  | 1 =>
    cases hj
    refine ⟨_, rfl, k28_mk _ _, fun i u hu => ?_⟩
    rw [add_plain]
    refine (blk_cell (blk_new W _) (1 * k28.sz + i)).trans ?_
    rw [← hu]
    have hi : i < 3 := (List.getElem?_eq_some_iff.1 hu).1
    match i, hi with
    | 0, _ => rfl
    | 1, _ => rfl
    | 2, _ => rfl
  | j + 2 => simp at hj
/-- One tool over a text, in a law. -/
theorem thr1 (x : S28) (A : Option Addr) (c : Nat) (t : List Int) (w : World) (hr : Kd.C (Kd.int .u8) w A t.length t) (hc : t.length ≤ c) (hbt : byteL t) (hml : MaxCell w) (R : Int × List Int) (hR : lawOf [x] t = R) (W : World) (hB : Below w.heap.size w W) :
    Calls Tryz.prog 10 #[.slice (some ⟨W.heap.size, 0, none⟩) 1 1, .slice A t.length c] (W.alloc (.cells #[.string x.f0, .int .i64 x.f1, .string x.f2] 28)) fun e w' =>
      ∃ v, e = .returned (.tuple #[v, .bool (R.1 == 0)]) ∧ Fresh w' W.heap.size v (if R.1 = 0 then R.2 else []) ∧ Below W.heap.size W w' := by
  have hb2 := below_alloc hB (.cells #[.string x.f0, .int .i64 x.f1, .string x.f2] 28)
  refine (law_through.calls _ 1 [x] A c t _ (tools1 W x) (Nat.le_refl _) (by simp) (Kd.C_below hr hb2) hc hbt (fun x _ _ _ => con_ok (hml.below hb2) _)).mono ?_
  rintro e w' ⟨v, rfl, hf, hb⟩
  rw [hR] at hf ⊢
  exact ⟨v, rfl, hf.mono (by simp), below_step (below_alloc (Below.refl _ _) _) hb⟩
theorem thr2 (x y : S28) (A : Option Addr) (c : Nat) (t : List Int) (w : World) (hr : Kd.C (Kd.int .u8) w A t.length t) (hc : t.length ≤ c) (hbt : byteL t) (hml : MaxCell w) (R : Int × List Int) (hR : lawOf [x, y] t = R) (W : World) (hB : Below w.heap.size w W) :
    Calls Tryz.prog 10 #[.slice (some ⟨W.heap.size, 0, none⟩) 2 2, .slice A t.length c] (W.alloc (.cells #[.string x.f0, .int .i64 x.f1, .string x.f2, .string y.f0, .int .i64 y.f1, .string y.f2] 28)) fun e w' =>
      ∃ v, e = .returned (.tuple #[v, .bool (R.1 == 0)]) ∧ Fresh w' W.heap.size v (if R.1 = 0 then R.2 else []) ∧ Below W.heap.size W w' := by
  have hb2 := below_alloc hB (.cells #[.string x.f0, .int .i64 x.f1, .string x.f2, .string y.f0, .int .i64 y.f1, .string y.f2] 28)
  refine (law_through.calls _ 2 [x, y] A c t _ (tools2 W x y) (Nat.le_refl _) (by simp) (Kd.C_below hr hb2) hc hbt (fun x _ _ _ => con_ok (hml.below hb2) _)).mono ?_
  rintro e w' ⟨v, rfl, hf, hb⟩
  rw [hR] at hf ⊢
  exact ⟨v, rfl, hf.mono (by simp), below_step (below_alloc (Below.refl _ _) _) hb⟩
theorem same_is (a : List Int) (ha : a.length ≤ 4611686018427387904) : ∃ k, millraceplain_SameBytes.f k a a = some true := by
  refine ⟨a.length + 1, ?_⟩
  unfold millraceplain_SameBytes.f
  rw [if_pos rfl]
  have : ∀ (m i : Nat), i + m = a.length → millraceplain_SameBytes.l0 (m + 1) a a (i : Int) = some true := by
    intro m
    induction m with
    | zero => intro i hi; rw [millraceplain_SameBytes.l0, if_neg (by omega)]
    | succ m ih =>
      intro i hi
      rw [millraceplain_SameBytes.l0, if_pos (by omega), if_pos (by omega), if_pos (by omega), if_pos rfl]
      have e : wrap64 ((i : Int) + 1) = ((i + 1 : Nat) : Int) := by unfold wrap64; omega
      rw [e]
      exact ih (i + 1) (by omega)
  exact this a.length 0 (by omega)
def rRev : S28 := ⟨⟨#[114, 101, 118]⟩, 0, ⟨#[]⟩⟩
def rUp : S28 := ⟨⟨#[117, 112, 112, 101, 114]⟩, 0, ⟨#[]⟩⟩
def rUniq : S28 := ⟨⟨#[117, 110, 105, 113]⟩, 0, ⟨#[]⟩⟩
theorem law_eq {l : List S28} (h : checkOf (⟨#[97]⟩ : ByteArray) (l.map tOf) (⟨#[98]⟩ : ByteArray) = 0) (t : List Int) : lawOf l t = if 1048576 < t.length then (5, []) else chainOf ((l.map tOf).map gOf) t := by
  unfold lawOf evalAB
  rw [if_neg (by rw [h]; simp)]
theorem chain_one (G : List Int → Int × List Int) (t r : List Int) (h : G t = (0, r)) : chainOf [G] t = (0, r) := by
  simp [chainOf, h]
theorem chain_two (G H : List Int → Int × List Int) (t r s : List Int) (h : G t = (0, r)) (h2 : H r = (0, s)) : chainOf [G, H] t = (0, s) := by
  simp [chainOf, h, h2]
theorem chain_bad (G : List Int → Int × List Int) (r : List (List Int → Int × List Int)) (t : List Int) (h : (G t).1 ≠ 0) : (chainOf (G :: r) t).1 ≠ 0 := by
  rw [chainOf, if_pos h]; exact h
theorem gRev : gOf (tOf rRev) = thrOf 2 0 (fun _ => false) := by kernel_rfl
theorem gUp : gOf (tOf rUp) = thrOf 1 0 (fun _ => false) := by kernel_rfl
theorem gUniq : gOf (tOf rUniq) = thrOf 7 0 (fun _ => false) := by kernel_rfl
theorem cRev2 : checkOf (⟨#[97]⟩ : ByteArray) ([rRev, rRev].map tOf) (⟨#[98]⟩ : ByteArray) = 0 := by decide +kernel
theorem cUp : checkOf (⟨#[97]⟩ : ByteArray) ([rUp].map tOf) (⟨#[98]⟩ : ByteArray) = 0 := by decide +kernel
theorem cUp2 : checkOf (⟨#[97]⟩ : ByteArray) ([rUp, rUp].map tOf) (⟨#[98]⟩ : ByteArray) = 0 := by decide +kernel
theorem cUniq : checkOf (⟨#[97]⟩ : ByteArray) ([rUniq].map tOf) (⟨#[98]⟩ : ByteArray) = 0 := by decide +kernel
theorem cUniq2 : checkOf (⟨#[97]⟩ : ByteArray) ([rUniq, rUniq].map tOf) (⟨#[98]⟩ : ByteArray) = 0 := by decide +kernel
theorem big_up {t : List Int} (hb : byteL t) (hs : shortL t) : byteL (t.map bigOf) ∧ shortL (t.map bigOf) := by
  refine ⟨fun x hx => ?_, fun l hl => ?_⟩
  · obtain ⟨y, hy, rfl⟩ := List.mem_map.1 hx
    exact bigOf_byte (hb y hy)
  · rw [ln_big] at hl
    obtain ⟨l0, h0, rfl⟩ := List.mem_map.1 hl
    rw [List.length_map]; exact hs l0 h0
/-- All five, where no line is too long. -/
theorem turns_good {t : List Int} (hb : byteL t) (ht : t.length ≤ 1048576) (hs : shortL t) : lawOf [rRev, rRev] t = (0, t) ∧ lawOf [rUp] t = (0, t.map bigOf) ∧ lawOf [rUp, rUp] t = (0, t.map bigOf) ∧
    lawOf [rUniq, rUniq] t = (0, (uniqL sameB (ln t) none).flatten) ∧ lawOf [rUniq] t = (0, (uniqL sameB (ln t) none).flatten) := by
  have hu := big_up hb hs
  have e2 : (t.map bigOf).map bigOf = t.map bigOf := by rw [List.map_map]; exact List.map_congr_left fun x _ => bigOf_twice x
  refine ⟨?_, ?_, ?_, ?_, ?_⟩
  · rw [law_eq cRev2, if_neg (by omega)]
    show chainOf [gOf (tOf rRev), gOf (tOf rRev)] t = _
    rw [gRev]
    exact chain_two _ _ _ _ _ (rev_is hb ht hs) (rev_rev hb ht hs)
  · rw [law_eq cUp, if_neg (by omega)]
    show chainOf [gOf (tOf rUp)] t = _
    rw [gUp]
    exact chain_one _ _ _ (upper_is hb ht hs)
  · rw [law_eq cUp2, if_neg (by omega)]
    show chainOf [gOf (tOf rUp), gOf (tOf rUp)] t = _
    rw [gUp]
    refine chain_two _ _ _ _ _ (upper_is hb ht hs) ?_
    rw [upper_is hu.1 (by rw [List.length_map]; exact ht) hu.2, e2]
  · rw [law_eq cUniq2, if_neg (by omega)]
    show chainOf [gOf (tOf rUniq), gOf (tOf rUniq)] t = _
    rw [gUniq]
    exact chain_two _ _ _ _ _ (uniq_is hb ht hs) (uniq_uniq hb ht hs)
  · rw [law_eq cUniq, if_neg (by omega)]
    show chainOf [gOf (tOf rUniq)] t = _
    rw [gUniq]
    exact chain_one _ _ _ (uniq_is hb ht hs)
theorem bad_law {t : List Int} (l : List S28) (x : S28) (i : Nat) (hi : i ≠ 3) (hck : checkOf (⟨#[97]⟩ : ByteArray) ((x :: l).map tOf) (⟨#[98]⟩ : ByteArray) = 0) (hg : gOf (tOf x) = thrOf i 0 (fun _ => false)) (hm : ∀ st n li, (feedOf i 0 (fun _ => false) st n li).2.2.2 = true)
    (hb : byteL t) (h : ¬ (t.length ≤ 1048576 ∧ shortL t)) : (lawOf (x :: l) t).1 ≠ 0 := by
  rw [law_eq hck]
  split
  · simp
  · show (chainOf (gOf (tOf x) :: _) t).1 ≠ 0
    refine chain_bad _ _ _ fun h0 => h ⟨by omega, ?_⟩
    rw [hg] at h0
    exact thr_zero hb hm hi h0
theorem byteL_wf {l : List Int} (h : ∀ n ∈ l, (Lit.int .u8 n).wf = true) : byteL l := fun x hx => byte_of_wf (h x hx)
theorem maxCell {W : World} (h : W.ShapedOpen Tryz.prog) : MaxCell W := Tryz.laysM186.s1_3 W h

set_option maxHeartbeats 8000000 in
set_option maxRecDepth 100000 in
theorem millracelaw21_ShellTurns.calls (A : Option Addr) (c : Nat) (t : List Int) (r : Bool) (w : World) (hr : Kd.C (Kd.int .u8) w A t.length t) (hc : t.length ≤ c) (h : r = true ∧ byteL t ∧ MaxCell w) :
    Calls Tryz.prog 5 #[.slice A t.length c] w fun e w' => e = .returned (.bool r) ∧ Below w.heap.size w w' := by
  obtain ⟨rfl, hb, hml⟩ := h
  have hmx := hr.2.1
  have HA := Lib.hid (law_alive.calls w hml)
  have HR := Lib.hid (fun W (hB : Below w.heap.size w W) => Kd.C_below hr hB)
  have HCL := Lib.hid hc
  by_cases hgood : t.length ≤ 1048576 ∧ shortL t
  · obtain ⟨ht, hs⟩ := hgood
    obtain ⟨e1, e2, e3, e4, e5⟩ := turns_good hb ht hs
    obtain ⟨bb, hbb⟩ : ∃ bb, bb = t.map bigOf := ⟨_, rfl⟩
    obtain ⟨uu, huu⟩ : ∃ uu, uu = (uniqL sameB (ln t) none).flatten := ⟨_, rfl⟩
    have hbl : bb.length = t.length := by rw [hbb, List.length_map]
    have hul : uu.length ≤ t.length := by rw [huu]; have := flat_sub (uniqL_sub sameB (ln t) none); rwa [ln_flat] at this
    rw [← hbb] at e2 e3
    rw [← huu] at e4 e5
    have T1 := Lib.hid (fun W hB => thr2 rRev rRev A c t w hr hc hb hml _ e1 W hB)
    have T2 := Lib.hid (fun W hB => thr1 rUp A c t w hr hc hb hml _ e2 W hB)
    have T3 := Lib.hid (fun W hB => thr2 rUp rUp A c t w hr hc hb hml _ e3 W hB)
    have T4 := Lib.hid (fun W hB => thr2 rUniq rUniq A c t w hr hc hb hml _ e4 W hB)
    have T5 := Lib.hid (fun W hB => thr1 rUniq A c t w hr hc hb hml _ e5 W hB)
    simp only [if_true] at T1 T2 T3 T4 T5
    obtain ⟨k1, hk1⟩ := same_is t (by omega)
    obtain ⟨k2, hk2⟩ := same_is bb (by omega)
    obtain ⟨k3, hk3⟩ := same_is uu (by omega)
    have S1 := Lib.hid (fun A1 c1 W h1 g1 h2 g2 => millraceplain_SameBytes.calls k1 A1 c1 t A c t true W h1 g1 h2 g2 hk1)
    have S2 := Lib.hid (fun A1 c1 A2 c2 W h1 g1 h2 g2 => millraceplain_SameBytes.calls k2 A1 c1 bb A2 c2 bb true W h1 g1 h2 g2 hk2)
    have S3 := Lib.hid (fun A1 c1 A2 c2 W h1 g1 h2 g2 => millraceplain_SameBytes.calls k3 A1 c1 uu A2 c2 uu true W h1 g1 h2 g2 hk3)
    have hle : ((bb.length : Int) == (t.length : Int)) = true := by rw [hbl]; simp
    clear hr hc hb hml hmx ht hs e1 e2 e3 e4 e5 hbb huu hbl hul hk1 hk2 hk3
    go_enter Tryz.func5, Tryz.ntmps5
    go_wp2_with fail
    refine HA.out.mono ?_
    rintro e w1 ⟨rfl, q1⟩
    simp only []
    go_at_K
    go_wp2_with fail
    refine (T1.out w1 q1).mono ?_
    rintro e w2 ⟨v1, rfl, ⟨A1, c1, rfl, hc1, hC1, _⟩, q2⟩
    have b2 := Lib.hid (below_step q1 q2)
    have F1 := Lib.hid (And.intro hC1 hc1)
    clear hC1 hc1 q2
    simp only []
    go_at_K
    go_wp2_with fail
    refine (T2.out w2 b2.out).mono ?_
    rintro e w3 ⟨v2, rfl, ⟨A2, c2, rfl, hc2, hC2, _⟩, q3⟩
    have b3 := Lib.hid (below_step b2.out q3)
    have F1 := Lib.hid (And.intro (Kd.C_below F1.out.1 q3) F1.out.2)
    have F2 := Lib.hid (And.intro hC2 hc2)
    clear hC2 hc2 q3
    simp only []
    go_at_K
    go_wp2_with fail
    refine (T3.out w3 b3.out).mono ?_
    rintro e w4 ⟨v3, rfl, ⟨A3, c3, rfl, hc3, hC3, _⟩, q4⟩
    have b4 := Lib.hid (below_step b3.out q4)
    have F1 := Lib.hid (And.intro (Kd.C_below F1.out.1 q4) F1.out.2)
    have F2 := Lib.hid (And.intro (Kd.C_below F2.out.1 q4) F2.out.2)
    have F3 := Lib.hid (And.intro hC3 hc3)
    clear hC3 hc3 q4
    simp only []
    go_at_K
    go_wp2_with fail
    refine (T4.out w4 b4.out).mono ?_
    rintro e w5 ⟨v4, rfl, ⟨A4, c4, rfl, hc4, hC4, _⟩, q5⟩
    have b5 := Lib.hid (below_step b4.out q5)
    have F1 := Lib.hid (And.intro (Kd.C_below F1.out.1 q5) F1.out.2)
    have F2 := Lib.hid (And.intro (Kd.C_below F2.out.1 q5) F2.out.2)
    have F3 := Lib.hid (And.intro (Kd.C_below F3.out.1 q5) F3.out.2)
    have F4 := Lib.hid (And.intro hC4 hc4)
    clear hC4 hc4 q5
    simp only []
    go_at_K
    go_wp2_with fail
    refine (T5.out w5 b5.out).mono ?_
    rintro e w6 ⟨v5, rfl, ⟨A5, c5, rfl, hc5, hC5, _⟩, q6⟩
    have b6 := Lib.hid (below_step b5.out q6)
    have F1 := Lib.hid (And.intro (Kd.C_below F1.out.1 q6) F1.out.2)
    have F2 := Lib.hid (And.intro (Kd.C_below F2.out.1 q6) F2.out.2)
    have F3 := Lib.hid (And.intro (Kd.C_below F3.out.1 q6) F3.out.2)
    have F4 := Lib.hid (And.intro (Kd.C_below F4.out.1 q6) F4.out.2)
    have F5 := Lib.hid (And.intro hC5 hc5)
    clear hC5 hc5 q6
    simp only []
    go_at_K
    go_wp2_with fail
    refine (S1.out A1 c1 w6 F1.out.1 F1.out.2 (HR.out w6 b6.out) HCL.out).mono ?_
    rintro e w7 ⟨rfl, hd⟩
    have q7 : Below w6.heap.size w6 w7 := by obtain ⟨nd, rfl⟩ := hd; exact pw_below_drewN (Below.refl _ _) _
    simp only []
    go_at_K
    go_wp2_with fail
    refine (S2.out A2 c2 A3 c3 w7 (Kd.C_below F2.out.1 q7) F2.out.2 (Kd.C_below F3.out.1 q7) F3.out.2).mono ?_
    rintro e w8 ⟨rfl, hd2⟩
    have q8 : Below w7.heap.size w7 w8 := by obtain ⟨nd, rfl⟩ := hd2; exact pw_below_drewN (Below.refl _ _) _
    simp only []
    go_at_K
    go_wp2_with fail
    refine (S3.out A4 c4 A5 c5 w8 (Kd.C_below F4.out.1 (below_step q7 q8)) F4.out.2 (Kd.C_below F5.out.1 (below_step q7 q8)) F5.out.2).mono ?_
    rintro e w9 ⟨rfl, hd3⟩
    have q9 : Below w8.heap.size w8 w9 := by obtain ⟨nd, rfl⟩ := hd3; exact pw_below_drewN (Below.refl _ _) _
    simp only []
    go_at_K
    go_wp2_with fail
    go_ret
    exact ⟨rfl, below_step (below_step (below_step b6.out q7) q8) q9⟩
  · have hg1 : (lawOf [rRev, rRev] t).1 ≠ 0 := bad_law [rRev] rRev 2 (by omega) cRev2 gRev (fun _ _ _ => rfl) hb hgood
    have hg2 : (lawOf [rUp] t).1 ≠ 0 := bad_law [] rUp 1 (by omega) cUp gUp (fun _ _ _ => rfl) hb hgood
    have hg3 : (lawOf [rUp, rUp] t).1 ≠ 0 := bad_law [rUp] rUp 1 (by omega) cUp2 gUp (fun _ _ _ => rfl) hb hgood
    have hg4 : (lawOf [rUniq, rUniq] t).1 ≠ 0 := bad_law [rUniq] rUniq 7 (by omega) cUniq2 gUniq (fun _ _ _ => rfl) hb hgood
    have hg5 : (lawOf [rUniq] t).1 ≠ 0 := bad_law [] rUniq 7 (by omega) cUniq gUniq (fun _ _ _ => rfl) hb hgood
    have T1 := Lib.hid (fun W hB => thr2 rRev rRev A c t w hr hc hb hml _ rfl W hB)
    have T2 := Lib.hid (fun W hB => thr1 rUp A c t w hr hc hb hml _ rfl W hB)
    have T3 := Lib.hid (fun W hB => thr2 rUp rUp A c t w hr hc hb hml _ rfl W hB)
    have T4 := Lib.hid (fun W hB => thr2 rUniq rUniq A c t w hr hc hb hml _ rfl W hB)
    have T5 := Lib.hid (fun W hB => thr1 rUniq A c t w hr hc hb hml _ rfl W hB)
    have z : ∀ x : Int, x ≠ 0 → (x == 0) = false := fun x h => by simpa using h
    simp only [z _ hg1, if_neg hg1] at T1
    simp only [z _ hg2, if_neg hg2] at T2
    simp only [z _ hg3, if_neg hg3] at T3
    simp only [z _ hg4, if_neg hg4] at T4
    simp only [z _ hg5, if_neg hg5] at T5
    have RT := Lib.hid (fun W (hB : Below w.heap.size w W) => ref_through.calls A c t W (HR.out W hB) hc)
    have HGD := Lib.hid hgood
    clear hr hc hb hml hg1 hg2 hg3 hg4 hg5 hgood z hmx
    by_cases hbig : 1048576 < t.length
    · have g : decide ((t.length : Int) > 1048576) = true := by simp; omega
      clear hbig
      go_enter Tryz.func5, Tryz.ntmps5
      go_wp2_with fail
      refine HA.out.mono ?_
      rintro e w1 ⟨rfl, q1⟩
      simp only []
      go_at_K
      go_wp2_with fail
      refine (T1.out w1 q1).mono ?_
      rintro e w2 ⟨v1, rfl, ⟨A1, c1, rfl, _, _, _⟩, q2⟩
      have b2 := Lib.hid (below_step q1 q2)
      clear q2
      simp only []
      go_at_K
      go_wp2_with fail
      refine (T2.out w2 b2.out).mono ?_
      rintro e w3 ⟨v2, rfl, ⟨A2, c2, rfl, _, _, _⟩, q3⟩
      have b3 := Lib.hid (below_step b2.out q3)
      clear q3
      simp only []
      go_at_K
      go_wp2_with fail
      refine (T3.out w3 b3.out).mono ?_
      rintro e w4 ⟨v3, rfl, ⟨A3, c3, rfl, _, _, _⟩, q4⟩
      have b4 := Lib.hid (below_step b3.out q4)
      clear q4
      simp only []
      go_at_K
      go_wp2_with fail
      refine (T4.out w4 b4.out).mono ?_
      rintro e w5 ⟨v4, rfl, ⟨A4, c4, rfl, _, _, _⟩, q5⟩
      have b5 := Lib.hid (below_step b4.out q5)
      clear q5
      simp only []
      go_at_K
      go_wp2_with fail
      refine (T5.out w5 b5.out).mono ?_
      rintro e w6 ⟨v5, rfl, ⟨A5, c5, rfl, _, _, _⟩, q6⟩
      have b6 := Lib.hid (below_step b5.out q6)
      clear q6
      simp only []
      go_at_K
      go_wp2_with fail
      refine (RT.out w6 b6.out).mono ?_
      rintro e w7 ⟨v7, r7, rfl, q7, hrr⟩
      have q7b := below_step b6.out q7
      simp only []
      go_at_K
      go_wp2
      all_goals go_ret
      all_goals exact ⟨by first | rfl | (simp [*]; done), q7b⟩
    · have hr0 : ∀ r : Int, (t.length ≤ 1048576 → ¬ shortL t → r ≠ 0) → (r != 0) = true := fun r h => by
        have := h (by omega) (fun hs => HGD.out ⟨by omega, hs⟩)
        simpa using this
      have HZ := Lib.hid hr0
      clear hr0 hbig
      go_enter Tryz.func5, Tryz.ntmps5
      go_wp2_with fail
      refine HA.out.mono ?_
      rintro e w1 ⟨rfl, q1⟩
      simp only []
      go_at_K
      go_wp2_with fail
      refine (T1.out w1 q1).mono ?_
      rintro e w2 ⟨v1, rfl, ⟨A1, c1, rfl, _, _, _⟩, q2⟩
      have b2 := Lib.hid (below_step q1 q2)
      clear q2
      simp only []
      go_at_K
      go_wp2_with fail
      refine (T2.out w2 b2.out).mono ?_
      rintro e w3 ⟨v2, rfl, ⟨A2, c2, rfl, _, _, _⟩, q3⟩
      have b3 := Lib.hid (below_step b2.out q3)
      clear q3
      simp only []
      go_at_K
      go_wp2_with fail
      refine (T3.out w3 b3.out).mono ?_
      rintro e w4 ⟨v3, rfl, ⟨A3, c3, rfl, _, _, _⟩, q4⟩
      have b4 := Lib.hid (below_step b3.out q4)
      clear q4
      simp only []
      go_at_K
      go_wp2_with fail
      refine (T4.out w4 b4.out).mono ?_
      rintro e w5 ⟨v4, rfl, ⟨A4, c4, rfl, _, _, _⟩, q5⟩
      have b5 := Lib.hid (below_step b4.out q5)
      clear q5
      simp only []
      go_at_K
      go_wp2_with fail
      refine (T5.out w5 b5.out).mono ?_
      rintro e w6 ⟨v5, rfl, ⟨A5, c5, rfl, _, _, _⟩, q6⟩
      have b6 := Lib.hid (below_step b5.out q6)
      clear q6
      simp only []
      go_at_K
      go_wp2_with fail
      refine (RT.out w6 b6.out).mono ?_
      rintro e w7 ⟨v7, r7, rfl, q7, hrr⟩
      have q7b := below_step b6.out q7
      simp only []
      go_at_K
      have g := HZ.out _ hrr
      clear hrr
      go_wp2
      all_goals go_ret
      all_goals exact ⟨by first | rfl | (simp [*]; done), q7b⟩

end Go.Proofs.YthmijenlndnmcaaGreatDoor.Sh
