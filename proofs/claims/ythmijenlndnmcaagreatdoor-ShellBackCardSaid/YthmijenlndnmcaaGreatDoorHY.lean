/-
  Hand-made contracts of functions of the program: PrintA, PrintB.
-/
import Derived.Test.YthmijenlndnmcaaGreatDoorHP
import Derived.Test.YthmijenlndnmcaaGreatDoorHX
import Derived.Test.YthmijenlndnmcaaGreatDoorHF
import Derived.Test.YthmijenlndnmcaaGreatDoorPureA
import Derived.Laws.RangeString
import Derived.Laws.RangeAny
import Derived.Test.YthmijenlndnmcaaGreatDoorShx10
import Derived.Test.YthmijenlndnmcaaGreatDoorShx11
import Derived.Test.YthmijenlndnmcaaGreatDoorShx12
import Derived.Test.YthmijenlndnmcaaGreatDoorShx13
import Derived.Test.YthmijenlndnmcaaGreatDoorShx14
import Derived.Test.YthmijenlndnmcaaGreatDoorShx3
import Derived.Test.YthmijenlndnmcaaGreatDoorShx6
import Derived.Test.YthmijenlndnmcaaGreatDoorShx7
import Derived.Test.YthmijenlndnmcaaGreatDoorShx0
namespace Go.Proofs.YthmijenlndnmcaaGreatDoor.Sh
open Go.RowKit Go.Proofs.YthmijenlndnmcaaGreatDoorW.PrintWords Go.Proofs.YthmijenlndnmcaaGreatDoorW.PrintLast Go.Proofs.YthmijenlndnmcaaGreatDoorW.PrintMore
attribute [local go_sem] max2_int min2_int max_two min_two max_three min_three max_four min_four
set_option linter.unusedVariables false
set_option linter.unusedSimpArgs false
theorem nameB_size {s : ByteArray} (h : nameB s = true) : s.size ≤ 64 ∧ s.size ≠ 0 := by
  unfold nameB kernNamed at h
  simp only [Bool.and_eq_true, decide_eq_true_eq] at h
  exact ⟨h.1.2.1, h.1.1⟩
theorem may_eq (x : S74) : mayB x = if wantsOf x.f0 = 0 then decide (x.f1 = 0) && (x.f2.toList == ([] : List UInt8)) else if wantsOf x.f0 = 1 then decide (0 ≤ x.f1) && (decide (x.f1 ≤ 999999) && (x.f2.toList == ([] : List UInt8))) else if wantsOf x.f0 = 2 then decide (x.f1 = 0) && nameB x.f2 else false := by
  have h := may_is x
  unfold shell_Tool_may.f at h
  rw [wants_is] at h
  simp only [Option.bind_some, named_is] at h
  symm
  repeat' split
  all_goals (repeat' split at h) <;> simp_all
  all_goals (intros; omega)
theorem wants_val (s : ByteArray) : wantsOf s = if s.toList = ([104, 101, 97, 100] : List UInt8) ∨ s.toList = ([115, 107, 105, 112] : List UInt8) then 1 else if s.toList = ([103, 114, 101, 112] : List UInt8) then 2 else if knownB s = true then 0 else 3 := by
  have hw := wants_is s
  generalize wantsOf s = x at hw ⊢
  by_cases h0 : s.toList = ([99, 97, 116] : List UInt8)
  · simp [shell_wants.f, shell_wants.j0, h0] at hw; simp [h0, knownB, ← hw]
  by_cases h1 : s.toList = ([117, 112, 112, 101, 114] : List UInt8)
  · simp [shell_wants.f, shell_wants.j0, h1] at hw; simp [h1, knownB, ← hw]
  by_cases h2 : s.toList = ([114, 101, 118] : List UInt8)
  · simp [shell_wants.f, shell_wants.j0, h2] at hw; simp [h2, knownB, ← hw]
  by_cases h3 : s.toList = ([110, 117, 109] : List UInt8)
  · simp [shell_wants.f, shell_wants.j0, h3] at hw; simp [h3, knownB, ← hw]
  by_cases h4 : s.toList = ([117, 110, 105, 113] : List UInt8)
  · simp [shell_wants.f, shell_wants.j0, h4] at hw; simp [h4, knownB, ← hw]
  by_cases h5 : s.toList = ([119, 99] : List UInt8)
  · simp [shell_wants.f, shell_wants.j0, h5] at hw; simp [h5, knownB, ← hw]
  by_cases h6 : s.toList = ([104, 101, 97, 100] : List UInt8)
  · simp [shell_wants.f, shell_wants.j0, shell_wants.j1, h6] at hw; simp [h6, ← hw]
  by_cases h7 : s.toList = ([115, 107, 105, 112] : List UInt8)
  · simp [shell_wants.f, shell_wants.j0, shell_wants.j1, h7] at hw; simp [h7, ← hw]
  by_cases h8 : s.toList = ([103, 114, 101, 112] : List UInt8)
  · simp [shell_wants.f, shell_wants.j0, shell_wants.j1, h8] at hw; simp [h8, ← hw]
  have e : knownB s = false := by
    unfold knownB
    simp only [Bool.or_eq_false_iff, beq_eq_false_iff_ne, ne_eq]
    exact ⟨⟨⟨⟨⟨⟨⟨⟨Ne.symm h0, Ne.symm h1⟩, Ne.symm h2⟩, Ne.symm h6⟩, Ne.symm h7⟩, Ne.symm h8⟩, Ne.symm h3⟩, Ne.symm h4⟩, Ne.symm h5⟩
  simp [shell_wants.f, shell_wants.j0, shell_wants.j1, h0, h1, h2, h3, h4, h5, h6, h7, h8] at hw
  simp [h6, h7, h8, e, ← hw]
theorem known_of {s : ByteArray} (h : s.toList = ([104, 101, 97, 100] : List UInt8) ∨ s.toList = ([115, 107, 105, 112] : List UInt8) ∨ s.toList = ([103, 114, 101, 112] : List UInt8)) : knownB s = true := by
  rcases h with h | h | h <;> simp [knownB, h]
theorem rd28 (l : List S28) (i : Nat) (hi : i < l.length) : rd_T28 l (i : Int) = l[i] := by simp [rd_T28, List.getD_eq_getElem?_getD, hi]
theorem rd74 (l : List S74) (i : Nat) (hi : i < l.length) : rd_T74 l (i : Int) = l[i] := by simp [rd_T74, List.getD_eq_getElem?_getD, hi]
def twOf (x : S74) : List ByteArray := if wantsOf x.f0 = 1 then [x.f0, Pure.decOf x.f1] else if wantsOf x.f0 = 2 then [x.f0, x.f2] else [x.f0]
def tws : Bool → List S74 → List ByteArray
  | _, [] => []
  | b, x :: r => (if b then [(⟨#[124]⟩ : ByteArray)] else []) ++ (twOf x ++ tws true r)
def arrowOf (ap : Bool) : ByteArray := if ap then (⟨#[62, 62]⟩ : ByteArray) else (⟨#[62]⟩ : ByteArray)
def spw : List ByteArray → ByteArray
  | [] => ⟨#[]⟩
  | w :: r => (w ++ (⟨#[32]⟩ : ByteArray)) ++ spw r
theorem sz0 : (⟨#[]⟩ : ByteArray).size = 0 := rfl
theorem sz32 : (⟨#[32]⟩ : ByteArray).size = 1 := rfl
theorem sz60 : (⟨#[60]⟩ : ByteArray).size = 1 := rfl
theorem sz124 : (⟨#[124]⟩ : ByteArray).size = 1 := rfl
theorem spw_append : ∀ a b : List ByteArray, spw (a ++ b) = spw a ++ spw b := by
  intro a b
  induction a with
  | nil => apply Pure.str_eq_of; simp [spw]
  | cons w r ih => apply Pure.str_eq_of; simp [spw, ih]
def headWords (fr : ByteArray) : List ByteArray := if fr.toList = ([] : List UInt8) then [] else [(⟨#[60]⟩ : ByteArray), fr]
def lineWords (fr : ByteArray) (xs : List S74) (ap : Bool) : List ByteArray := headWords fr ++ (tws false xs ++ [arrowOf ap])
def textOf (fr : ByteArray) (xs : List S74) (tp : ByteArray) (ap : Bool) : ByteArray := spw (lineWords fr xs ap) ++ tp
theorem decOf_size {a : Int} (h : 0 ≤ a) : (Pure.decOf a).size ≤ 64 := by
  rw [Pure.decOf, if_neg (by omega)]; exact Pure.digs_size _ _
theorem list_size {s : ByteArray} {l : List UInt8} (h : s.toList = l) : s.size = l.length := by rw [← h, ByteArray.toList_eq]; rfl
theorem known_size {s : ByteArray} (h : knownB s = true) : s.size ≤ 5 := by
  unfold knownB at h
  simp only [Bool.or_eq_true, beq_iff_eq] at h
  rcases h with ((((((((h | h) | h) | h) | h) | h) | h) | h) | h) <;> (rw [list_size h.symm]; decide)
theorem may_parts {x : S74} (h : mayB x = true) : x.f0.size ≤ 5 ∧ x.f0.size ≠ 0 ∧
    ((wantsOf x.f0 = 0 ∧ x.f1 = 0 ∧ x.f2.toList = ([] : List UInt8)) ∨ (wantsOf x.f0 = 1 ∧ 0 ≤ x.f1 ∧ x.f1 ≤ 999999 ∧ x.f2.toList = ([] : List UInt8)) ∨ (wantsOf x.f0 = 2 ∧ x.f1 = 0 ∧ nameB x.f2 = true)) := by
  rw [may_eq] at h
  have hw := wants_val x.f0
  have hk : knownB x.f0 = true := by
    cases hk : knownB x.f0 with
    | true => rfl
    | false =>
      rw [hk] at hw
      have n6 : ¬ x.f0.toList = ([104, 101, 97, 100] : List UInt8) := fun e => by have := known_of (.inl e); rw [hk] at this; cases this
      have n7 : ¬ x.f0.toList = ([115, 107, 105, 112] : List UInt8) := fun e => by have := known_of (.inr (.inl e)); rw [hk] at this; cases this
      have n8 : ¬ x.f0.toList = ([103, 114, 101, 112] : List UInt8) := fun e => by have := known_of (.inr (.inr e)); rw [hk] at this; cases this
      simp only [n6, n7, n8, or_false, if_false] at hw
      rw [hw] at h
      simp at h
  refine ⟨known_size hk, ?_, ?_⟩
  · intro hz
    have he : x.f0.toList = ([] : List UInt8) := by rw [ByteArray.toList_eq]; exact List.eq_nil_of_length_eq_zero (by simpa using hz)
    rw [knownB, he] at hk
    revert hk; decide
  · by_cases h0 : wantsOf x.f0 = 0
    · rw [if_pos h0] at h; simp at h; exact .inl ⟨h0, h.1, h.2⟩
    rw [if_neg h0] at h
    by_cases h1 : wantsOf x.f0 = 1
    · rw [if_pos h1] at h; simp at h; exact .inr (.inl ⟨h1, h.1, h.2.1, h.2.2⟩)
    rw [if_neg h1] at h
    by_cases h2 : wantsOf x.f0 = 2
    · rw [if_pos h2] at h; simp at h; exact .inr (.inr ⟨h2, h.1, h.2⟩)
    rw [if_neg h2] at h; cases h
theorem tw_size {x : S74} (h : mayB x = true) : (spw (twOf x)).size ≤ 72 ∧ (twOf x).length ≤ 2 := by
  obtain ⟨hs, _, h⟩ := may_parts h
  unfold twOf
  rcases h with ⟨h0, _⟩ | ⟨h0, h1, h2, _⟩ | ⟨h0, _, h1⟩
  · rw [if_neg (by omega), if_neg (by omega)]; simp [spw, sz0, sz32, sz60, sz124]; omega
  · rw [if_pos h0]; have := decOf_size h1; simp [spw, sz0, sz32, sz60, sz124]; omega
  · rw [if_neg (by omega), if_pos h0]; have := (nameB_size h1).1; simp [spw, sz0, sz32, sz60, sz124]; omega
theorem tws_size : ∀ (xs : List S74) (b : Bool), (∀ x ∈ xs, mayB x = true) → (spw (tws b xs)).size ≤ 74 * xs.length ∧ (tws b xs).length ≤ 3 * xs.length := by
  intro xs
  induction xs with
  | nil => intro b _; exact ⟨Nat.le_refl 0, Nat.le_refl 0⟩
  | cons x r ih =>
    intro b h
    have h1 := tw_size (h x (by simp))
    have h2 := ih true (fun y hy => h y (by simp [hy]))
    rw [tws, spw_append, spw_append]
    cases b <;> simp [spw, sz0, sz32, sz60, sz124] <;> omega
theorem line_size {fr : ByteArray} {xs : List S74} {tp : ByteArray} (h : checkOf fr xs tp = 0) (ap : Bool) : (spw (lineWords fr xs ap)).size ≤ 1300 ∧ (lineWords fr xs ap).length ≤ 60 ∧ tp.size ≤ 64 ∧ (fr.size ≤ 64) ∧ xs.length ≤ 16 ∧ 1 ≤ xs.length ∧ tp.size ≠ 0 := by
  have hm := mayB_all h
  have h2 := tws_size xs false hm
  unfold checkOf at h
  split at h
  · omega
  rename_i hn
  split at h
  · omega
  rename_i hl
  simp only [not_or, not_and] at hn hl
  have ht : nameB tp = true := by simpa using hn.2
  have hf : fr.size ≤ 64 := by
    by_cases h0 : (fr.toList == ([] : List UInt8)) = false
    · exact (nameB_size (by simpa using hn.1 h0)).1
    · rw [list_size (show fr.toList = [] by simpa using h0)]; simp
  have hh : (spw (headWords fr)).size ≤ 67 ∧ (headWords fr).length ≤ 2 := by
    unfold headWords
    split
    · exact ⟨by decide, by decide⟩
    · simp [spw, sz0, sz32, sz60, sz124]; omega
  unfold lineWords
  rw [spw_append, spw_append]
  have ha : (spw [arrowOf ap]).size ≤ 3 := by cases ap <;> decide
  simp only [ByteArray.size_append, List.length_append, List.length_singleton]
  have := nameB_size ht
  refine ⟨by omega, by omega, by omega, hf, by omega, by omega, by omega⟩
theorem words_is {x : S74} (h : mayB x = true) (k : Nat) (hk : 9 ≤ k) : shell_Tool_words.f k x.f0 x.f1 x.f2 = some (twOf x) := by
  have hw : shell_wants.f k x.f0 = some (wantsOf x.f0) := Pure.up (fun k => shell_wants.f k x.f0) (fun k => shell_wants.mono x.f0 k) (wants_is x.f0) hk
  obtain ⟨_, _, h⟩ := may_parts h
  unfold shell_Tool_words.f twOf
  rw [hw]
  simp only [Option.bind_some]
  rcases h with ⟨h0, _⟩ | ⟨h0, h1, h2, _⟩ | ⟨h0, _, h1⟩
  · rw [if_neg (by omega), if_neg (by omega), if_neg (by omega), if_neg (by omega)]
  · rw [if_pos h0, if_pos h0, Pure.num_Decimal_is _ (by omega) (by omega)]; rfl
  · rw [if_neg (by omega), if_pos h0, if_neg (by omega), if_pos h0]
theorem join_last : ∀ (W : List ByteArray) (tp : ByteArray), joinOf (W ++ [tp]) (⟨#[32]⟩ : ByteArray) = (spw W).data.toList ++ tp.data.toList := by
  intro W tp
  unfold joinOf Lib.join
  induction W with
  | nil => simp [spw, List.intercalate]
  | cons w r ih =>
    obtain ⟨y, ys, e⟩ : ∃ y ys, r ++ [tp] = y :: ys := by cases r <;> simp
    rw [List.cons_append, List.map_cons, e, List.map_cons]
    rw [e, List.map_cons] at ih
    have e2 : ([32] : List UInt8).intercalate (w.data.toList :: y.data.toList :: ys.map (·.data.toList)) = w.data.toList ++ ([32] ++ ([32] : List UInt8).intercalate (y.data.toList :: ys.map (·.data.toList))) := by
      simp [List.intercalate, List.intersperse]
    show ([32] : List UInt8).intercalate _ = _
    rw [e2, show ([32] : List UInt8).intercalate (y.data.toList :: ys.map (·.data.toList)) = _ from ih]
    simp [spw]
theorem prog_loop (fr : ByteArray) (xs : List S74) (tp : ByteArray) (ap : Bool) (hm : ∀ x ∈ xs, mayB x = true) (h16 : xs.length ≤ 16) : ∀ (m i : Nat) (acc : List ByteArray), i + m = xs.length → acc.length + 3 * m ≤ 1000 →
    (joinOf (acc ++ (tws (decide (0 < i)) (xs.drop i) ++ [arrowOf ap, tp])) (⟨#[32]⟩ : ByteArray)).length ≤ 100000 →
    shell_Print.l0 (m + 20) acc xs (xs.length : Int) (i : Int) fr xs tp ap = some (⟨(joinOf (acc ++ (tws (decide (0 < i)) (xs.drop i) ++ [arrowOf ap, tp])) (⟨#[32]⟩ : ByteArray)).toArray⟩, 0) := by
  intro m
  induction m with
  | zero =>
    intro i acc hi ha hj
    rw [List.drop_eq_nil_of_le (show xs.length ≤ i by omega)] at hj ⊢
    rw [shell_Print.l0, if_neg (by omega)]
    simp only [tws, List.nil_append] at hj ⊢
    cases ap with
    | true =>
      rw [if_pos rfl]
      simp only [Option.bind_some, arrowOf, if_true] at hj ⊢
      rw [if_pos (by simp; omega), strings_Join.f, if_pos ⟨by simp; omega, by omega⟩]
      rfl
    | false =>
      rw [if_neg (by simp)]
      simp only [Option.bind_some, arrowOf, Bool.false_eq_true, if_false] at hj ⊢
      rw [if_pos (by simp; omega), strings_Join.f, if_pos ⟨by simp; omega, by omega⟩]
      rfl
  | succ m ih =>
    intro i acc hi ha hj
    have hil : i < xs.length := by omega
    have hmx := hm xs[i] (List.getElem_mem hil)
    have hw := words_is hmx (m + 20) (by omega)
    have hws := (tw_size hmx).2
    have hn : wrap64 ((i : Int) + 1) = ((i + 1 : Nat) : Int) := by unfold wrap64; omega
    rw [List.drop_eq_getElem_cons hil, tws] at hj ⊢
    rw [shell_Print.l0, if_pos (by omega), if_pos (by omega), if_pos (by omega), rd74 xs i hil, show m + 1 + 19 = m + 20 by omega, hw, hn]
    simp only [Option.bind_some]
    have ih2 := fun acc' => ih (i + 1) acc' (by omega)
    rw [show decide (0 < i + 1) = true by simp] at ih2
    by_cases h0 : 0 < i
    · rw [if_pos (by omega), if_pos (by omega), if_pos (by simp; omega)]
      simp only [h0, decide_true, if_true] at hj ⊢
      have e : acc ++ ([(⟨#[124]⟩ : ByteArray)] ++ (twOf xs[i] ++ tws true (xs.drop (i + 1))) ++ [arrowOf ap, tp]) = (acc ++ [(⟨#[124]⟩ : ByteArray)] ++ twOf xs[i]) ++ (tws true (xs.drop (i + 1)) ++ [arrowOf ap, tp]) := by simp
      rw [e] at hj ⊢
      exact ih2 _ (by simp; omega) hj
    · rw [if_neg (by omega), if_pos (by omega)]
      simp only [h0, decide_false, Bool.false_eq_true, if_false, List.nil_append] at hj ⊢
      have e : acc ++ (twOf xs[i] ++ tws true (xs.drop (i + 1)) ++ [arrowOf ap, tp]) = (acc ++ twOf xs[i]) ++ (tws true (xs.drop (i + 1)) ++ [arrowOf ap, tp]) := by simp
      rw [e] at hj ⊢
      exact ih2 _ (by simp; omega) hj
def printOf (fr : ByteArray) (xs : List S74) (tp : ByteArray) (ap : Bool) : ByteArray × Int := if checkOf fr xs tp = 0 then (textOf fr xs tp ap, 0) else ((⟨#[]⟩ : ByteArray), checkOf fr xs tp)
theorem prog_print (fr : ByteArray) (xs : List S74) (tp : ByteArray) (ap : Bool) : shell_Print.f 100 fr xs tp ap = some (printOf fr xs tp ap) := by
  unfold shell_Print.f printOf
  rw [show shell_Check.f fr xs tp ap = some (checkOf fr xs tp) from rfl]
  simp only [Option.bind_some]
  by_cases hc : checkOf fr xs tp = 0
  · rw [if_pos hc, if_pos hc]
    obtain ⟨hs, hl, ht, hf, h16, _⟩ := line_size hc ap
    have hm := mayB_all hc
    have main : ∀ acc, acc = headWords fr → shell_Print.j0 100 acc fr xs tp ap = some (textOf fr xs tp ap, 0) := by
      rintro acc rfl
      rw [shell_Print.j0]
      have e : headWords fr ++ (tws (decide (0 < 0)) (xs.drop 0) ++ [arrowOf ap, tp]) = lineWords fr xs ap ++ [tp] := by simp [lineWords]
      have hj := join_last (lineWords fr xs ap) tp
      have hh : (headWords fr).length ≤ 2 := by unfold headWords; split <;> simp
      have := prog_loop fr xs tp ap hm h16 xs.length 0 (headWords fr) (by omega) (by omega) (by
        rw [e, hj, List.length_append]
        have : (spw (lineWords fr xs ap)).data.toList.length = (spw (lineWords fr xs ap)).size := rfl
        have : tp.data.toList.length = tp.size := rfl
        omega)
      rw [e, hj] at this
      have h2 := Pure.up (fun k => shell_Print.l0 k (headWords fr) xs (xs.length : Int) 0 fr xs tp ap) (fun k => (shell_Print.mono_l k).2 _ _ _ _ _ _ _ _) this (show xs.length + 20 ≤ 99 by omega)
      refine h2.trans ?_
      have : (⟨((spw (lineWords fr xs ap)).data.toList ++ tp.data.toList).toArray⟩ : ByteArray) = textOf fr xs tp ap := by
        apply Pure.str_eq_of; simp [textOf]
      rw [this]
    by_cases h0 : fr.toList = ([] : List UInt8)
    · rw [if_pos h0]; exact main _ (by rw [headWords, if_pos h0])
    · rw [if_neg h0]
      show (if ([] : List ByteArray).length + [(⟨#[60]⟩ : ByteArray), fr].length < 8796093022208 then shell_Print.j0 100 (([] : List ByteArray) ++ [(⟨#[60]⟩ : ByteArray), fr]) fr xs tp ap else none) = _
      rw [if_pos (by simp)]
      exact main _ (by rw [headWords, if_neg h0]; rfl)
  · rw [if_neg hc, if_neg hc]
theorem same_loop (l : List S28) (hl : l.length < 3518437208883) (a0 a2 b0 b2 : ByteArray) (a3 b3 : Bool) : ∀ m i : Nat, i + m = l.length → millracelaw21_same.l0 (m + 1) (i : Int) a0 (l.map tOf) a2 a3 b0 l b2 b3 = some true := by
  intro m
  induction m with
  | zero => intro i hi; rw [millracelaw21_same.l0, if_neg (by simp; omega)]
  | succ m ih =>
    intro i hi
    have hil : i < l.length := by omega
    have hn : wrap64 ((i : Int) + 1) = ((i + 1 : Nat) : Int) := by unfold wrap64; omega
    rw [millracelaw21_same.l0, if_pos (by simp; omega), if_pos (by omega), if_pos (by omega), rd28 l i hil, rd74 (l.map tOf) i (by simpa using hil), List.getElem_map, hn, ih (i + 1) (by omega), if_neg (by simp [tOf])]
theorem same_of (fr : ByteArray) (l : List S28) (tp : ByteArray) (ap : Bool) (hl : l.length < 3518437208883) : millracelaw21_same.f (l.length + 2) fr (l.map tOf) tp ap fr l tp ap = some true := by
  unfold millracelaw21_same.f
  rw [if_pos rfl, if_pos rfl, if_neg (by simp), millracelaw21_same.j0, if_neg (by simp)]
  exact same_loop l hl fr tp fr tp ap ap l.length 0 (by omega)
end Go.Proofs.YthmijenlndnmcaaGreatDoor.Sh
