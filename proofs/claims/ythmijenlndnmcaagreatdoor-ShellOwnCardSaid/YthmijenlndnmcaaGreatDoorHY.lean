/-
  Hand-made contracts of functions of the program: PrintA, PrintB.
-/
import Derived.Test.YthmijenlndnmcaaGreatDoorHP
import Derived.Test.YthmijenlndnmcaaGreatDoorHD
import Derived.Test.YthmijenlndnmcaaGreatDoorShx0
import Derived.Test.YthmijenlndnmcaaGreatDoorHF
import Derived.Test.YthmijenlndnmcaaGreatDoorPureA
import Derived.Laws.RangeString
import Derived.Laws.RangeAny
import Derived.Test.YthmijenlndnmcaaGreatDoorShx3
import Derived.Test.YthmijenlndnmcaaGreatDoorShx6
import Derived.Test.YthmijenlndnmcaaGreatDoorHK
import Derived.Test.YthmijenlndnmcaaGreatDoorShx9
import Derived.Test.YthmijenlndnmcaaGreatDoorShx14
namespace Go.Proofs.YthmijenlndnmcaaGreatDoor.Sh
open Go.RowKit Go.Proofs.YthmijenlndnmcaaGreatDoorW.PrintWords Go.Proofs.YthmijenlndnmcaaGreatDoorW.PrintLast Go.Proofs.YthmijenlndnmcaaGreatDoorW.PrintMore
attribute [local go_sem] max2_int min2_int max_two min_two max_three min_three max_four min_four
set_option linter.unusedVariables false
set_option linter.unusedSimpArgs false
theorem nameB_size {s : ByteArray} (h : nameB s = true) : s.size ≤ 64 ∧ s.size ≠ 0 := by
  unfold nameB kernNamed at h
  simp only [Bool.and_eq_true, decide_eq_true_eq] at h
  exact ⟨h.1.2.1, h.1.1⟩
theorem may_eq (x : S74) : mayB x = if wantsOf x.f0 = 0 then decide (x.f1 = 0) && (x.f2.toList == ([] : List UInt8)) else if wantsOf x.f0 = 1 then decide (0 ≤ x.f1) && (decide (x.f1 ≤ 999999) && (x.f2.toList == ([] : List UInt8))) else if wantsOf x.f0 = 2 then decide (x.f1 = 0) && nameB x.f2 else false := by
  have h := may_is x
  unfold shell_Tool_may.f at h
  rw [wants_is] at h
  simp only [Option.bind_some, named_is] at h
  symm
  repeat' split
  all_goals (repeat' split at h) <;> simp_all
  all_goals (intros; omega)
theorem wants_val (s : ByteArray) : wantsOf s = if s.toList = ([104, 101, 97, 100] : List UInt8) ∨ s.toList = ([115, 107, 105, 112] : List UInt8) then 1 else if s.toList = ([103, 114, 101, 112] : List UInt8) then 2 else if knownB s = true then 0 else 3 := by
  have hw := wants_is s
  generalize wantsOf s = x at hw ⊢
  by_cases h0 : s.toList = ([99, 97, 116] : List UInt8)
  · simp [shell_wants.f, shell_wants.j0, h0] at hw; simp [h0, knownB, ← hw]
  by_cases h1 : s.toList = ([117, 112, 112, 101, 114] : List UInt8)
  · simp [shell_wants.f, shell_wants.j0, h1] at hw; simp [h1, knownB, ← hw]
  by_cases h2 : s.toList = ([114, 101, 118] : List UInt8)
  · simp [shell_wants.f, shell_wants.j0, h2] at hw; simp [h2, knownB, ← hw]
  by_cases h3 : s.toList = ([110, 117, 109] : List UInt8)
  · simp [shell_wants.f, shell_wants.j0, h3] at hw; simp [h3, knownB, ← hw]
  by_cases h4 : s.toList = ([117, 110, 105, 113] : List UInt8)
  · simp [shell_wants.f, shell_wants.j0, h4] at hw; simp [h4, knownB, ← hw]
  by_cases h5 : s.toList = ([119, 99] : List UInt8)
  · simp [shell_wants.f, shell_wants.j0, h5] at hw; simp [h5, knownB, ← hw]
  by_cases h6 : s.toList = ([104, 101, 97, 100] : List UInt8)
  · simp [shell_wants.f, shell_wants.j0, shell_wants.j1, h6] at hw; simp [h6, ← hw]
  by_cases h7 : s.toList = ([115, 107, 105, 112] : List UInt8)
  · simp [shell_wants.f, shell_wants.j0, shell_wants.j1, h7] at hw; simp [h7, ← hw]
  by_cases h8 : s.toList = ([103, 114, 101, 112] : List UInt8)
  · simp [shell_wants.f, shell_wants.j0, shell_wants.j1, h8] at hw; simp [h8, ← hw]
  have e : knownB s = false := by
    unfold knownB
    simp only [Bool.or_eq_false_iff, beq_eq_false_iff_ne, ne_eq]
    exact ⟨⟨⟨⟨⟨⟨⟨⟨Ne.symm h0, Ne.symm h1⟩, Ne.symm h2⟩, Ne.symm h6⟩, Ne.symm h7⟩, Ne.symm h8⟩, Ne.symm h3⟩, Ne.symm h4⟩, Ne.symm h5⟩
  simp [shell_wants.f, shell_wants.j0, shell_wants.j1, h0, h1, h2, h3, h4, h5, h6, h7, h8] at hw
  simp [h6, h7, h8, e, ← hw]
theorem known_of {s : ByteArray} (h : s.toList = ([104, 101, 97, 100] : List UInt8) ∨ s.toList = ([115, 107, 105, 112] : List UInt8) ∨ s.toList = ([103, 114, 101, 112] : List UInt8)) : knownB s = true := by
  rcases h with h | h | h <;> simp [knownB, h]
theorem rd74 (l : List S74) (i : Nat) (hi : i < l.length) : rd_T74 l (i : Int) = l[i] := by simp [rd_T74, List.getD_eq_getElem?_getD, hi]
def twOf (x : S74) : List ByteArray := if wantsOf x.f0 = 1 then [x.f0, Pure.decOf x.f1] else if wantsOf x.f0 = 2 then [x.f0, x.f2] else [x.f0]
def tws : Bool → List S74 → List ByteArray
  | _, [] => []
  | b, x :: r => (if b then [(⟨#[124]⟩ : ByteArray)] else []) ++ (twOf x ++ tws true r)
def arrowOf (ap : Bool) : ByteArray := if ap then (⟨#[62, 62]⟩ : ByteArray) else (⟨#[62]⟩ : ByteArray)
def spw : List ByteArray → ByteArray
  | [] => ⟨#[]⟩
  | w :: r => (w ++ (⟨#[32]⟩ : ByteArray)) ++ spw r
theorem sz0 : (⟨#[]⟩ : ByteArray).size = 0 := rfl
theorem sz32 : (⟨#[32]⟩ : ByteArray).size = 1 := rfl
theorem sz60 : (⟨#[60]⟩ : ByteArray).size = 1 := rfl
theorem sz124 : (⟨#[124]⟩ : ByteArray).size = 1 := rfl
theorem spw_append : ∀ a b : List ByteArray, spw (a ++ b) = spw a ++ spw b := by
  intro a b
  induction a with
  | nil => apply Pure.str_eq_of; simp [spw]
  | cons w r ih => apply Pure.str_eq_of; simp [spw, ih]
def headWords (fr : ByteArray) : List ByteArray := if fr.toList = ([] : List UInt8) then [] else [(⟨#[60]⟩ : ByteArray), fr]
def lineWords (fr : ByteArray) (xs : List S74) (ap : Bool) : List ByteArray := headWords fr ++ (tws false xs ++ [arrowOf ap])
theorem decOf_size {a : Int} (h : 0 ≤ a) : (Pure.decOf a).size ≤ 64 := by
  rw [Pure.decOf, if_neg (by omega)]; exact Pure.digs_size _ _
theorem list_size {s : ByteArray} {l : List UInt8} (h : s.toList = l) : s.size = l.length := by rw [← h, ByteArray.toList_eq]; rfl
theorem known_size {s : ByteArray} (h : knownB s = true) : s.size ≤ 5 := by
  unfold knownB at h
  simp only [Bool.or_eq_true, beq_iff_eq] at h
  rcases h with ((((((((h | h) | h) | h) | h) | h) | h) | h) | h) <;> (rw [list_size h.symm]; decide)
theorem may_parts {x : S74} (h : mayB x = true) : x.f0.size ≤ 5 ∧ x.f0.size ≠ 0 ∧
    ((wantsOf x.f0 = 0 ∧ x.f1 = 0 ∧ x.f2.toList = ([] : List UInt8)) ∨ (wantsOf x.f0 = 1 ∧ 0 ≤ x.f1 ∧ x.f1 ≤ 999999 ∧ x.f2.toList = ([] : List UInt8)) ∨ (wantsOf x.f0 = 2 ∧ x.f1 = 0 ∧ nameB x.f2 = true)) := by
  rw [may_eq] at h
  have hw := wants_val x.f0
  have hk : knownB x.f0 = true := by
    cases hk : knownB x.f0 with
    | true => rfl
    | false =>
      rw [hk] at hw
      have n6 : ¬ x.f0.toList = ([104, 101, 97, 100] : List UInt8) := fun e => by have := known_of (.inl e); rw [hk] at this; cases this
      have n7 : ¬ x.f0.toList = ([115, 107, 105, 112] : List UInt8) := fun e => by have := known_of (.inr (.inl e)); rw [hk] at this; cases this
      have n8 : ¬ x.f0.toList = ([103, 114, 101, 112] : List UInt8) := fun e => by have := known_of (.inr (.inr e)); rw [hk] at this; cases this
      simp only [n6, n7, n8, or_false, if_false] at hw
      rw [hw] at h
      simp at h
  refine ⟨known_size hk, ?_, ?_⟩
  · intro hz
    have he : x.f0.toList = ([] : List UInt8) := by rw [ByteArray.toList_eq]; exact List.eq_nil_of_length_eq_zero (by simpa using hz)
    rw [knownB, he] at hk
    revert hk; decide
  · by_cases h0 : wantsOf x.f0 = 0
    · rw [if_pos h0] at h; simp at h; exact .inl ⟨h0, h.1, h.2⟩
    rw [if_neg h0] at h
    by_cases h1 : wantsOf x.f0 = 1
    · rw [if_pos h1] at h; simp at h; exact .inr (.inl ⟨h1, h.1, h.2.1, h.2.2⟩)
    rw [if_neg h1] at h
    by_cases h2 : wantsOf x.f0 = 2
    · rw [if_pos h2] at h; simp at h; exact .inr (.inr ⟨h2, h.1, h.2⟩)
    rw [if_neg h2] at h; cases h
theorem tw_size {x : S74} (h : mayB x = true) : (spw (twOf x)).size ≤ 72 ∧ (twOf x).length ≤ 2 := by
  obtain ⟨hs, _, h⟩ := may_parts h
  unfold twOf
  rcases h with ⟨h0, _⟩ | ⟨h0, h1, h2, _⟩ | ⟨h0, _, h1⟩
  · rw [if_neg (by omega), if_neg (by omega)]; simp [spw, sz0, sz32, sz60, sz124]; omega
  · rw [if_pos h0]; have := decOf_size h1; simp [spw, sz0, sz32, sz60, sz124]; omega
  · rw [if_neg (by omega), if_pos h0]; have := (nameB_size h1).1; simp [spw, sz0, sz32, sz60, sz124]; omega
theorem tws_size : ∀ (xs : List S74) (b : Bool), (∀ x ∈ xs, mayB x = true) → (spw (tws b xs)).size ≤ 74 * xs.length ∧ (tws b xs).length ≤ 3 * xs.length := by
  intro xs
  induction xs with
  | nil => intro b _; exact ⟨Nat.le_refl 0, Nat.le_refl 0⟩
  | cons x r ih =>
    intro b h
    have h1 := tw_size (h x (by simp))
    have h2 := ih true (fun y hy => h y (by simp [hy]))
    rw [tws, spw_append, spw_append]
    cases b <;> simp [spw, sz0, sz32, sz60, sz124] <;> omega
theorem line_size {fr : ByteArray} {xs : List S74} {tp : ByteArray} (h : checkOf fr xs tp = 0) (ap : Bool) : (spw (lineWords fr xs ap)).size ≤ 1300 ∧ (lineWords fr xs ap).length ≤ 60 ∧ tp.size ≤ 64 ∧ (fr.size ≤ 64) ∧ xs.length ≤ 16 ∧ 1 ≤ xs.length ∧ tp.size ≠ 0 := by
  have hm := mayB_all h
  have h2 := tws_size xs false hm
  unfold checkOf at h
  split at h
  · omega
  rename_i hn
  split at h
  · omega
  rename_i hl
  simp only [not_or, not_and] at hn hl
  have ht : nameB tp = true := by simpa using hn.2
  have hf : fr.size ≤ 64 := by
    by_cases h0 : (fr.toList == ([] : List UInt8)) = false
    · exact (nameB_size (by simpa using hn.1 h0)).1
    · rw [list_size (show fr.toList = [] by simpa using h0)]; simp
  have hh : (spw (headWords fr)).size ≤ 67 ∧ (headWords fr).length ≤ 2 := by
    unfold headWords
    split
    · exact ⟨by decide, by decide⟩
    · simp [spw, sz0, sz32, sz60, sz124]; omega
  unfold lineWords
  rw [spw_append, spw_append]
  have ha : (spw [arrowOf ap]).size ≤ 3 := by cases ap <;> decide
  simp only [ByteArray.size_append, List.length_append, List.length_singleton]
  have := nameB_size ht
  refine ⟨by omega, by omega, by omega, hf, by omega, by omega, by omega⟩
end Go.Proofs.YthmijenlndnmcaaGreatDoor.Sh
