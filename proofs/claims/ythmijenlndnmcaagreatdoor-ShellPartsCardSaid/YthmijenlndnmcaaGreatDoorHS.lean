/-
  Hand-made contracts of functions of the program: LawTurns, LawTurnsWalk.
-/
import Derived.Test.YthmijenlndnmcaaGreatDoorHG
import Derived.Test.YthmijenlndnmcaaGreatDoorShx6
import Derived.Test.YthmijenlndnmcaaGreatDoorShx0
namespace Go.Proofs.YthmijenlndnmcaaGreatDoor.Sh
open Go.RowKit Go.Proofs.YthmijenlndnmcaaGreatDoorW.PrintWords Go.Proofs.YthmijenlndnmcaaGreatDoorW.PrintLast Go.Proofs.YthmijenlndnmcaaGreatDoorW.PrintMore
attribute [local go_sem] max2_int min2_int max_two min_two max_three min_three max_four min_four
set_option linter.unusedVariables false
set_option linter.unusedSimpArgs false

/-! ### ShellTurns -/
theorem tools1 (W : World) (x : S28) : Kd.C k28 (W.alloc (.cells #[.string x.f0, .int .i64 x.f1, .string x.f2] 28)) (some ⟨W.heap.size, 0, none⟩) 1 [x] := by
  refine ⟨rfl, by decide, fun _ => ⟨_, rfl, fun j p hj => ?_⟩⟩
  match j with
  | 0 =>
    cases hj
    refine ⟨_, rfl, k28_mk _ _, fun i u hu => ?_⟩
    rw [add_plain]
    exact (blk_cell (blk_new W _) (0 * k28.sz + i)).trans (by rw [Nat.zero_mul, Nat.zero_add, ← hu]; simp)
  | j + 1 => simp at hj
theorem tools2 (W : World) (x y : S28) : Kd.C k28 (W.alloc (.cells #[.string x.f0, .int .i64 x.f1, .string x.f2, .string y.f0, .int .i64 y.f1, .string y.f2] 28)) (some ⟨W.heap.size, 0, none⟩) 2 [x, y] := by
  refine ⟨rfl, by decide, fun _ => ⟨_, rfl, fun j p hj => ?_⟩⟩
  match j with
  | 0 =>
    cases hj
    refine ⟨_, rfl, k28_mk _ _, fun i u hu => ?_⟩
    rw [add_plain]
    refine (blk_cell (blk_new W _) (0 * k28.sz + i)).trans ?_
    rw [Nat.zero_mul, Nat.zero_add, ← hu]
    have hi : i < 3 := (List.getElem?_eq_some_iff.1 hu).1
    match i, hi with
    | 0, _ => rfl
    | 1, _ => rfl
    | 2, _ => rfl
  | 1 =>
    cases hj
    refine ⟨_, rfl, k28_mk _ _, fun i u hu => ?_⟩
    rw [add_plain]
    refine (blk_cell (blk_new W _) (1 * k28.sz + i)).trans ?_
    rw [← hu]
    have hi : i < 3 := (List.getElem?_eq_some_iff.1 hu).1
    match i, hi with
    | 0, _ => rfl
    | 1, _ => rfl
    | 2, _ => rfl
  | j + 2 => simp at hj
/-- One tool over a text, in a law. -/
theorem thr1 (x : S28) (A : Option Addr) (c : Nat) (t : List Int) (w : World) (hr : Kd.C (Kd.int .u8) w A t.length t) (hc : t.length ≤ c) (hbt : byteL t) (hml : MaxCell w) (R : Int × List Int) (hR : lawOf [x] t = R) (W : World) (hB : Below w.heap.size w W) :
    Calls Tryz.prog 10 #[.slice (some ⟨W.heap.size, 0, none⟩) 1 1, .slice A t.length c] (W.alloc (.cells #[.string x.f0, .int .i64 x.f1, .string x.f2] 28)) fun e w' =>
      ∃ v, e = .returned (.tuple #[v, .bool (R.1 == 0)]) ∧ Fresh w' W.heap.size v (if R.1 = 0 then R.2 else []) ∧ Below W.heap.size W w' := by
  have hb2 := below_alloc hB (.cells #[.string x.f0, .int .i64 x.f1, .string x.f2] 28)
  refine (law_through.calls _ 1 [x] A c t _ (tools1 W x) (Nat.le_refl _) (by simp) (Kd.C_below hr hb2) hc hbt (fun x _ _ _ => con_ok (hml.below hb2) _)).mono ?_
  rintro e w' ⟨v, rfl, hf, hb⟩
  rw [hR] at hf ⊢
  exact ⟨v, rfl, hf.mono (by simp), below_step (below_alloc (Below.refl _ _) _) hb⟩
theorem thr2 (x y : S28) (A : Option Addr) (c : Nat) (t : List Int) (w : World) (hr : Kd.C (Kd.int .u8) w A t.length t) (hc : t.length ≤ c) (hbt : byteL t) (hml : MaxCell w) (R : Int × List Int) (hR : lawOf [x, y] t = R) (W : World) (hB : Below w.heap.size w W) :
    Calls Tryz.prog 10 #[.slice (some ⟨W.heap.size, 0, none⟩) 2 2, .slice A t.length c] (W.alloc (.cells #[.string x.f0, .int .i64 x.f1, .string x.f2, .string y.f0, .int .i64 y.f1, .string y.f2] 28)) fun e w' =>
      ∃ v, e = .returned (.tuple #[v, .bool (R.1 == 0)]) ∧ Fresh w' W.heap.size v (if R.1 = 0 then R.2 else []) ∧ Below W.heap.size W w' := by
  have hb2 := below_alloc hB (.cells #[.string x.f0, .int .i64 x.f1, .string x.f2, .string y.f0, .int .i64 y.f1, .string y.f2] 28)
  refine (law_through.calls _ 2 [x, y] A c t _ (tools2 W x y) (Nat.le_refl _) (by simp) (Kd.C_below hr hb2) hc hbt (fun x _ _ _ => con_ok (hml.below hb2) _)).mono ?_
  rintro e w' ⟨v, rfl, hf, hb⟩
  rw [hR] at hf ⊢
  exact ⟨v, rfl, hf.mono (by simp), below_step (below_alloc (Below.refl _ _) _) hb⟩
theorem same_is (a : List Int) (ha : a.length ≤ 4611686018427387904) : ∃ k, millraceplain_SameBytes.f k a a = some true := by
  refine ⟨a.length + 1, ?_⟩
  unfold millraceplain_SameBytes.f
  rw [if_pos rfl]
  have : ∀ (m i : Nat), i + m = a.length → millraceplain_SameBytes.l0 (m + 1) a a (i : Int) = some true := by
    intro m
    induction m with
    | zero => intro i hi; rw [millraceplain_SameBytes.l0, if_neg (by omega)]
    | succ m ih =>
      intro i hi
      rw [millraceplain_SameBytes.l0, if_pos (by omega), if_pos (by omega), if_pos (by omega), if_pos rfl]
      have e : wrap64 ((i : Int) + 1) = ((i + 1 : Nat) : Int) := by unfold wrap64; omega
      rw [e]
      exact ih (i + 1) (by omega)
  exact this a.length 0 (by omega)
theorem law_eq {l : List S28} (h : checkOf (⟨#[97]⟩ : ByteArray) (l.map tOf) (⟨#[98]⟩ : ByteArray) = 0) (t : List Int) : lawOf l t = if 1048576 < t.length then (5, []) else chainOf ((l.map tOf).map gOf) t := by
  unfold lawOf evalAB
  rw [if_neg (by rw [h]; simp)]
theorem chain_one (G : List Int → Int × List Int) (t r : List Int) (h : G t = (0, r)) : chainOf [G] t = (0, r) := by
  simp [chainOf, h]
theorem chain_two (G H : List Int → Int × List Int) (t r s : List Int) (h : G t = (0, r)) (h2 : H r = (0, s)) : chainOf [G, H] t = (0, s) := by
  simp [chainOf, h, h2]
theorem chain_bad (G : List Int → Int × List Int) (r : List (List Int → Int × List Int)) (t : List Int) (h : (G t).1 ≠ 0) : (chainOf (G :: r) t).1 ≠ 0 := by
  rw [chainOf, if_pos h]; exact h
theorem byteL_wf {l : List Int} (h : ∀ n ∈ l, (Lit.int .u8 n).wf = true) : byteL l := fun x hx => byte_of_wf (h x hx)
theorem maxCell {W : World} (h : W.ShapedOpen Tryz.prog) : MaxCell W := Tryz.laysM186.s1_3 W h

end Go.Proofs.YthmijenlndnmcaaGreatDoor.Sh
