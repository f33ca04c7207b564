/-
  Hand-made contracts of functions of the program: PrintA, PrintB.
-/
import Derived.Test.YthmijenlndnmcaaGreatDoorHP
import Derived.Test.YthmijenlndnmcaaGreatDoorHX
import Derived.Test.YthmijenlndnmcaaGreatDoorHF
import Derived.Test.YthmijenlndnmcaaGreatDoorPureA
import Derived.Laws.RangeString
import Derived.Laws.RangeAny
import Derived.Test.YthmijenlndnmcaaGreatDoorShx10
import Derived.Test.YthmijenlndnmcaaGreatDoorShx11
import Derived.Test.YthmijenlndnmcaaGreatDoorShx12
import Derived.Test.YthmijenlndnmcaaGreatDoorShx13
import Derived.Test.YthmijenlndnmcaaGreatDoorShx14
import Derived.Test.YthmijenlndnmcaaGreatDoorShx3
import Derived.Test.YthmijenlndnmcaaGreatDoorShx6
import Derived.Test.YthmijenlndnmcaaGreatDoorShx7
import Derived.Test.YthmijenlndnmcaaGreatDoorShx0
namespace Go.Proofs.YthmijenlndnmcaaGreatDoor.Sh
open Go.RowKit Go.Proofs.YthmijenlndnmcaaGreatDoorW.PrintWords Go.Proofs.YthmijenlndnmcaaGreatDoorW.PrintLast Go.Proofs.YthmijenlndnmcaaGreatDoorW.PrintMore
attribute [local go_sem] max2_int min2_int max_two min_two max_three min_three max_four min_four
set_option linter.unusedVariables false
set_option linter.unusedSimpArgs false
theorem idx_found {s : ByteArray} {i f : Nat} (hi : i < s.size) (h : kernBad (Utf8.decode s i).1 = true) : Lib.idxFuncFrom kernBad true s (f + 1) i = (i : Int) := by
  rw [Lib.idxFuncFrom, if_pos hi, if_pos h]
theorem named_loop2 (s : ByteArray) (hs : s.size ≤ 64) : ∀ (m i : Nat), i + m = s.size → ∀ f, m ≤ f → ∃ b, millraceref06_Named.l0 (m + 1) s (i : Int) = some b ∧ (b = true ↔ Lib.idxFuncFrom kernBad true s f i = -1)
  | 0, i, h, f, _ => ⟨true, by rw [millraceref06_Named.l0, if_neg (by omega)], by simp; exact Lib.idxFuncFrom_end _ _ _ _ _ (by omega)⟩
  | m + 1, i, h, f, hf => by
    have hi : i < s.size := by omega
    obtain ⟨f, rfl⟩ : ∃ g, f = g + 1 := ⟨f - 1, by omega⟩
    rw [millraceref06_Named.l0, if_pos (by omega), if_pos (by omega)]
    have hb : bt s (i : Int) = ((s[i]'hi).toNat : Int) := by simp [bt, hi]
    rw [hb]
    by_cases h1 : ((s[i]'hi).toNat : Int) < 33
    · refine ⟨false, by rw [if_pos h1], ?_⟩
      rw [idx_found hi (by rw [decode_ascii s i hi (by omega)]; simp [kernBad]; omega)]
      simp
    · rw [if_neg h1]
      by_cases h2 : ((s[i]'hi).toNat : Int) > 126
      · refine ⟨false, by rw [if_pos h2], ?_⟩
        have hk : kernBad (Utf8.decode s i).1 = true := by
          by_cases h3 : (s[i]'hi).toNat < 128
          · rw [decode_ascii s i hi h3]; simp [kernBad]; omega
          · have := (decode_high s i hi (by omega)).1; simp [kernBad]; omega
        rw [idx_found hi hk]
        simp
      · rw [if_neg h2]
        obtain ⟨b, hb, hx⟩ := named_loop2 s hs m (i + 1) (by omega) f (by omega)
        have hw : wrap64 ((i : Int) + 1) = ((i + 1 : Nat) : Int) := by unfold wrap64; omega
        rw [hw]
        refine ⟨b, hb, ?_⟩
        rw [hx, Lib.idxFuncFrom, if_pos hi, decode_ascii s i hi (by omega)]
        have hk : kernBad (s[i]'hi).toNat = false := by simp [kernBad]; omega
        simp only [hk]
        simp
theorem named6_fix (s : ByteArray) (k : Nat) (hk : 67 ≤ k) : millraceref06_Named.f k s = some (kernNamed s) := by
  refine Pure.up (fun k => millraceref06_Named.f k s) (fun k => millraceref06_Named.mono s k) (k := 67) ?_ hk
  show millraceref06_Named.f 67 s = _
  by_cases h0 : s.toList = ([] : List UInt8)
  · have hz : s.size = 0 := by rw [ByteArray.toList_eq] at h0; have := congrArg List.length h0; simpa using this
    rw [millraceref06_Named.f, if_pos h0]
    simp [millraceref06_Named.j0, kernNamed, hz]
  have hn : s.size ≠ 0 := fun h => h0 (by rw [ByteArray.toList_eq]; exact List.eq_nil_of_length_eq_zero (by simpa using h))
  by_cases h1 : (s.size : Int) > 64
  · rw [millraceref06_Named.f, if_neg h0]
    have : ¬ s.size ≤ 64 := by omega
    simp [millraceref06_Named.j0, kernNamed, this, hn]
    omega
  obtain ⟨b, hb, hx⟩ := named_loop2 s (by omega) s.size 0 (by omega) s.size (Nat.le_refl _)
  rw [millraceref06_Named.f, if_neg h0, millraceref06_Named.j0, if_neg (by simpa using h1)]
  have e : millraceref06_Named.l0 66 s 0 = some b := Pure.up (fun k => millraceref06_Named.l0 k s 0) (fun k => (millraceref06_Named.mono_l k).2 s 0) hb (by omega)
  rw [e]
  have hr := Lib.idxFuncFrom_range kernBad true s s.size 0
  have e2 : kernNamed s = !decide (0 ≤ Lib.idxFunc kernBad true s) := by
    unfold kernNamed
    rw [decide_eq_true hn, decide_eq_true (show s.size ≤ 64 by omega)]
    rfl
  rw [e2]
  unfold Lib.idxFunc
  congr 1
  cases b with
  | true => rw [hx.1 rfl]; rfl
  | false =>
    have : Lib.idxFuncFrom kernBad true s s.size 0 ≠ -1 := fun h => by have := hx.2 h; cases this
    have h2 : 0 ≤ Lib.idxFuncFrom kernBad true s s.size 0 := by
      rcases hr with h | ⟨h, _⟩
      · exact absurd h this
      · omega
    simp [h2]
theorem named_fix (s : ByteArray) (k : Nat) (hk : 67 ≤ k) : millraceref21_named.f k s = some (nameB s) := by
  have hg : millraceref21_sign.f s = some (signB s) := shell_sign_is s
  rw [millraceref21_named.f, named6_fix s k hk, hg]
  unfold nameB
  cases kernNamed s <;> simp
theorem nameB_size {s : ByteArray} (h : nameB s = true) : s.size ≤ 64 ∧ s.size ≠ 0 := by
  unfold nameB kernNamed at h
  simp only [Bool.and_eq_true, decide_eq_true_eq] at h
  exact ⟨h.1.2.1, h.1.1⟩
theorem may_eq (x : S74) : mayB x = if wantsOf x.f0 = 0 then decide (x.f1 = 0) && (x.f2.toList == ([] : List UInt8)) else if wantsOf x.f0 = 1 then decide (0 ≤ x.f1) && (decide (x.f1 ≤ 999999) && (x.f2.toList == ([] : List UInt8))) else if wantsOf x.f0 = 2 then decide (x.f1 = 0) && nameB x.f2 else false := by
  have h := may_is x
  unfold shell_Tool_may.f at h
  rw [wants_is] at h
  simp only [Option.bind_some, named_is] at h
  symm
  repeat' split
  all_goals (repeat' split at h) <;> simp_all
  all_goals (intros; omega)
theorem wants_val (s : ByteArray) : wantsOf s = if s.toList = ([104, 101, 97, 100] : List UInt8) ∨ s.toList = ([115, 107, 105, 112] : List UInt8) then 1 else if s.toList = ([103, 114, 101, 112] : List UInt8) then 2 else if knownB s = true then 0 else 3 := by
  have hw := wants_is s
  generalize wantsOf s = x at hw ⊢
  by_cases h0 : s.toList = ([99, 97, 116] : List UInt8)
  · simp [shell_wants.f, shell_wants.j0, h0] at hw; simp [h0, knownB, ← hw]
  by_cases h1 : s.toList = ([117, 112, 112, 101, 114] : List UInt8)
  · simp [shell_wants.f, shell_wants.j0, h1] at hw; simp [h1, knownB, ← hw]
  by_cases h2 : s.toList = ([114, 101, 118] : List UInt8)
  · simp [shell_wants.f, shell_wants.j0, h2] at hw; simp [h2, knownB, ← hw]
  by_cases h3 : s.toList = ([110, 117, 109] : List UInt8)
  · simp [shell_wants.f, shell_wants.j0, h3] at hw; simp [h3, knownB, ← hw]
  by_cases h4 : s.toList = ([117, 110, 105, 113] : List UInt8)
  · simp [shell_wants.f, shell_wants.j0, h4] at hw; simp [h4, knownB, ← hw]
  by_cases h5 : s.toList = ([119, 99] : List UInt8)
  · simp [shell_wants.f, shell_wants.j0, h5] at hw; simp [h5, knownB, ← hw]
  by_cases h6 : s.toList = ([104, 101, 97, 100] : List UInt8)
  · simp [shell_wants.f, shell_wants.j0, shell_wants.j1, h6] at hw; simp [h6, ← hw]
  by_cases h7 : s.toList = ([115, 107, 105, 112] : List UInt8)
  · simp [shell_wants.f, shell_wants.j0, shell_wants.j1, h7] at hw; simp [h7, ← hw]
  by_cases h8 : s.toList = ([103, 114, 101, 112] : List UInt8)
  · simp [shell_wants.f, shell_wants.j0, shell_wants.j1, h8] at hw; simp [h8, ← hw]
  have e : knownB s = false := by
    unfold knownB
    simp only [Bool.or_eq_false_iff, beq_eq_false_iff_ne, ne_eq]
    exact ⟨⟨⟨⟨⟨⟨⟨⟨Ne.symm h0, Ne.symm h1⟩, Ne.symm h2⟩, Ne.symm h6⟩, Ne.symm h7⟩, Ne.symm h8⟩, Ne.symm h3⟩, Ne.symm h4⟩, Ne.symm h5⟩
  simp [shell_wants.f, shell_wants.j0, shell_wants.j1, h0, h1, h2, h3, h4, h5, h6, h7, h8] at hw
  simp [h6, h7, h8, e, ← hw]
theorem known_of {s : ByteArray} (h : s.toList = ([104, 101, 97, 100] : List UInt8) ∨ s.toList = ([115, 107, 105, 112] : List UInt8) ∨ s.toList = ([103, 114, 101, 112] : List UInt8)) : knownB s = true := by
  rcases h with h | h | h <;> simp [knownB, h]
theorem check_tool (x : S74) (k : Nat) (hk : 70 ≤ k) : millraceref21_CheckTool.f k x.f0 x.f1 x.f2 = some (if mayB x = true then 0 else 211) := by
  obtain ⟨k, rfl⟩ : ∃ j, k = j + 1 := ⟨k - 1, by omega⟩
  have hn := named_fix x.f2 k (by omega)
  have hwv := wants_val x.f0
  rw [may_eq]
  unfold millraceref21_CheckTool.f
  have hkn : millraceref21_known.f k x.f0 = some (knownB x.f0) := rfl
  simp only [millraceref21_CheckTool.j0, hn, hkn, Option.bind_some]
  by_cases h6 : x.f0.toList = ([104, 101, 97, 100] : List UInt8)
  · have hg : ¬ x.f0.toList = ([103, 114, 101, 112] : List UInt8) := by rw [h6]; decide
    rw [if_pos (.inl h6)] at hwv
    simp only [h6, hwv, known_of (.inl h6), if_true, hg]
    by_cases a : x.f1 < 0
    · simp [a]; omega
    · by_cases b : x.f1 > 999999
      · simp [a, b]; omega
      · have b2 : x.f1 ≤ 999999 := by omega
        have a2 : 0 ≤ x.f1 := by omega
        by_cases c : x.f2.toList = ([] : List UInt8) <;> simp [a, b, b2, a2, c]
  by_cases h7 : x.f0.toList = ([115, 107, 105, 112] : List UInt8)
  · have hg : ¬ x.f0.toList = ([103, 114, 101, 112] : List UInt8) := by rw [h7]; decide
    rw [if_pos (.inr h7)] at hwv
    simp only [h7, hwv, known_of (.inr (.inl h7)), if_true, hg, h6]
    by_cases a : x.f1 < 0
    · simp [a]; omega
    · by_cases b : x.f1 > 999999
      · simp [a, b]; omega
      · have b2 : x.f1 ≤ 999999 := by omega
        have a2 : 0 ≤ x.f1 := by omega
        by_cases c : x.f2.toList = ([] : List UInt8) <;> simp [a, b, b2, a2, c]
  rw [if_neg (by rintro (h | h); exact h6 h; exact h7 h)] at hwv
  have e7 : (x.f0.toList == ([115, 107, 105, 112] : List UInt8)) = false := by simpa using h7
  by_cases h8 : x.f0.toList = ([103, 114, 101, 112] : List UInt8)
  · rw [if_pos h8] at hwv
    simp only [h6, e7, hwv, known_of (.inr (.inr h8)), h8, if_true, if_false]
    by_cases a : x.f1 = 0
    · cases hN : nameB x.f2 <;> simp [a]
    · by_cases b : x.f1 < 0
      · simp [a, b]
      · by_cases c : x.f1 > 999999 <;> simp [a, b, c]
  rw [if_neg h8] at hwv
  cases hK : knownB x.f0 with
  | false =>
    rw [hK, if_neg (by simp)] at hwv
    simp [h6, hwv]
  | true =>
    rw [hK, if_pos rfl] at hwv
    simp only [h6, e7, hwv, h8, if_true, if_false]
    by_cases a : x.f1 = 0
    · by_cases c : x.f2.toList = ([] : List UInt8) <;> simp [a, c]
    · by_cases b : x.f1 < 0
      · simp [a, b]
      · by_cases c : x.f1 > 999999 <;> simp [a, b, c]
theorem rd28 (l : List S28) (i : Nat) (hi : i < l.length) : rd_T28 l (i : Int) = l[i] := by simp [rd_T28, List.getD_eq_getElem?_getD, hi]
theorem rd74 (l : List S74) (i : Nat) (hi : i < l.length) : rd_T74 l (i : Int) = l[i] := by simp [rd_T74, List.getD_eq_getElem?_getD, hi]
theorem check_loop (fr : ByteArray) (l : List S28) (tp : ByteArray) (ap : Bool) (hl : 1 ≤ l.length) (h16 : l.length ≤ 16) : ∀ m i : Nat, i + m = l.length →
    millraceref21_Check.l0 (m + 72) (i : Int) fr l tp ap = some (if (l.drop i).any (fun x => !mayB (tOf x)) = true then 211 else if (fr.toList == ([] : List UInt8)) = true ∧ headB (rd_T74 (l.map tOf) 0).f0 = false then 211 else 0) := by
  intro m
  induction m with
  | zero =>
    intro i hi
    rw [millraceref21_Check.l0, if_neg (by omega), if_pos (by omega), List.drop_eq_nil_of_le (by omega)]
    have e : (rd_T74 (l.map tOf) 0).f0 = (rd_T28 l 0).f0 := by
      have a := rd74 (l.map tOf) 0 (by simp; omega)
      have b := rd28 l 0 (by omega)
      rw [Int.natCast_zero] at a b
      rw [a, b, List.getElem_map]; rfl
    rw [e]
    unfold headB
    generalize (rd_T28 l 0).f0 = n
    by_cases h0 : fr.toList = ([] : List UInt8)
    · simp only [h0, if_true, List.any_nil]
      by_cases h1 : n.toList = ([99, 97, 116] : List UInt8)
      · simp [h1]
      by_cases h2 : n.toList = ([104, 101, 97, 100] : List UInt8)
      · simp [h2]
      by_cases h3 : n.toList = ([119, 99] : List UInt8)
      · simp [h3]
      simp [h1, h2, h3]
    · simp [h0]
  | succ m ih =>
    intro i hi
    have hil : i < l.length := by omega
    rw [millraceref21_Check.l0, if_pos (by omega), if_pos (by omega), rd28 l i hil, List.drop_eq_getElem_cons hil, List.any_cons]
    have hc := check_tool (tOf l[i]) (m + 72) (by omega)
    have hc2 : millraceref21_CheckTool.f (m + 72) l[i].f0 l[i].f1 l[i].f2 = some (if mayB (tOf l[i]) = true then 0 else 211) := hc
    have hw : wrap64 ((i : Int) + 1) = ((i + 1 : Nat) : Int) := by unfold wrap64; omega
    rw [show m + 1 + 71 = m + 72 by omega, hc2, hw]
    simp only [Option.bind_some]
    cases hm : mayB (tOf l[i]) with
    | false => simp
    | true =>
      rw [if_pos rfl, if_pos rfl, ih (i + 1) (by omega)]
      simp
theorem check_line (fr : ByteArray) (l : List S28) (tp : ByteArray) (ap : Bool) (k : Nat) (hk : 100 ≤ k) : millraceref21_Check.f k fr l tp ap = some (checkOf fr (l.map tOf) tp) := by
  have j0 : ∀ b : Bool, millraceref21_Check.j0 100 b fr l tp ap = some (if b = true then 61 else if l.length < 1 ∨ 16 < l.length then 3 else if l.any (fun x => !mayB (tOf x)) = true then 211 else if (fr.toList == ([] : List UInt8)) = true ∧ headB (rd_T74 (l.map tOf) 0).f0 = false then 211 else 0) := by
    intro b
    rw [millraceref21_Check.j0]
    cases b with
    | true => rfl
    | false =>
      simp only [Bool.false_eq_true, if_false]
      by_cases h1 : l.length < 1
      · rw [if_pos (by omega), if_pos (.inl h1)]
      by_cases h2 : 16 < l.length
      · rw [if_neg (by omega), if_pos (by omega), if_pos (.inr h2)]
      rw [if_neg (by omega), if_neg (by omega), if_neg (by omega)]
      have := check_loop fr l tp ap (by omega) (by omega) l.length 0 (by omega)
      exact Pure.up (fun k => millraceref21_Check.l0 k 0 fr l tp ap) (fun k => (millraceref21_Check.mono_l k).2 0 fr l tp ap) this (by omega)
  refine Pure.up (fun k => millraceref21_Check.f k fr l tp ap) (fun k => millraceref21_Check.mono fr l tp ap k) (k := 100) ?_ hk
  show millraceref21_Check.f 100 fr l tp ap = _
  unfold millraceref21_Check.f checkOf
  rw [named_fix fr 100 (by omega), named_fix tp 100 (by omega)]
  simp only [Option.bind_some, j0, List.length_map, List.any_map, Function.comp_def]
  by_cases h0 : fr.toList = ([] : List UInt8)
  · simp only [h0, if_true]
    cases nameB tp <;> simp
  · have h0' : (fr.toList == ([] : List UInt8)) = false := by simpa using h0
    simp only [h0, h0', if_false]
    cases nameB fr <;> cases nameB tp <;> simp
def twOf (x : S74) : List ByteArray := if wantsOf x.f0 = 1 then [x.f0, Pure.decOf x.f1] else if wantsOf x.f0 = 2 then [x.f0, x.f2] else [x.f0]
def tws : Bool → List S74 → List ByteArray
  | _, [] => []
  | b, x :: r => (if b then [(⟨#[124]⟩ : ByteArray)] else []) ++ (twOf x ++ tws true r)
def arrowOf (ap : Bool) : ByteArray := if ap then (⟨#[62, 62]⟩ : ByteArray) else (⟨#[62]⟩ : ByteArray)
def spw : List ByteArray → ByteArray
  | [] => ⟨#[]⟩
  | w :: r => (w ++ (⟨#[32]⟩ : ByteArray)) ++ spw r
theorem sz0 : (⟨#[]⟩ : ByteArray).size = 0 := rfl
theorem sz32 : (⟨#[32]⟩ : ByteArray).size = 1 := rfl
theorem sz60 : (⟨#[60]⟩ : ByteArray).size = 1 := rfl
theorem sz124 : (⟨#[124]⟩ : ByteArray).size = 1 := rfl
theorem spw_append : ∀ a b : List ByteArray, spw (a ++ b) = spw a ++ spw b := by
  intro a b
  induction a with
  | nil => apply Pure.str_eq_of; simp [spw]
  | cons w r ih => apply Pure.str_eq_of; simp [spw, ih]
def headWords (fr : ByteArray) : List ByteArray := if fr.toList = ([] : List UInt8) then [] else [(⟨#[60]⟩ : ByteArray), fr]
def lineWords (fr : ByteArray) (xs : List S74) (ap : Bool) : List ByteArray := headWords fr ++ (tws false xs ++ [arrowOf ap])
def textOf (fr : ByteArray) (xs : List S74) (tp : ByteArray) (ap : Bool) : ByteArray := spw (lineWords fr xs ap) ++ tp
theorem decOf_size {a : Int} (h : 0 ≤ a) : (Pure.decOf a).size ≤ 64 := by
  rw [Pure.decOf, if_neg (by omega)]; exact Pure.digs_size _ _
theorem list_size {s : ByteArray} {l : List UInt8} (h : s.toList = l) : s.size = l.length := by rw [← h, ByteArray.toList_eq]; rfl
theorem known_size {s : ByteArray} (h : knownB s = true) : s.size ≤ 5 := by
  unfold knownB at h
  simp only [Bool.or_eq_true, beq_iff_eq] at h
  rcases h with ((((((((h | h) | h) | h) | h) | h) | h) | h) | h) <;> (rw [list_size h.symm]; decide)
theorem may_parts {x : S74} (h : mayB x = true) : x.f0.size ≤ 5 ∧ x.f0.size ≠ 0 ∧
    ((wantsOf x.f0 = 0 ∧ x.f1 = 0 ∧ x.f2.toList = ([] : List UInt8)) ∨ (wantsOf x.f0 = 1 ∧ 0 ≤ x.f1 ∧ x.f1 ≤ 999999 ∧ x.f2.toList = ([] : List UInt8)) ∨ (wantsOf x.f0 = 2 ∧ x.f1 = 0 ∧ nameB x.f2 = true)) := by
  rw [may_eq] at h
  have hw := wants_val x.f0
  have hk : knownB x.f0 = true := by
    cases hk : knownB x.f0 with
    | true => rfl
    | false =>
      rw [hk] at hw
      have n6 : ¬ x.f0.toList = ([104, 101, 97, 100] : List UInt8) := fun e => by have := known_of (.inl e); rw [hk] at this; cases this
      have n7 : ¬ x.f0.toList = ([115, 107, 105, 112] : List UInt8) := fun e => by have := known_of (.inr (.inl e)); rw [hk] at this; cases this
      have n8 : ¬ x.f0.toList = ([103, 114, 101, 112] : List UInt8) := fun e => by have := known_of (.inr (.inr e)); rw [hk] at this; cases this
      simp only [n6, n7, n8, or_false, if_false] at hw
      rw [hw] at h
      simp at h
  refine ⟨known_size hk, ?_, ?_⟩
  · intro hz
    have he : x.f0.toList = ([] : List UInt8) := by rw [ByteArray.toList_eq]; exact List.eq_nil_of_length_eq_zero (by simpa using hz)
    rw [knownB, he] at hk
    revert hk; decide
  · by_cases h0 : wantsOf x.f0 = 0
    · rw [if_pos h0] at h; simp at h; exact .inl ⟨h0, h.1, h.2⟩
    rw [if_neg h0] at h
    by_cases h1 : wantsOf x.f0 = 1
    · rw [if_pos h1] at h; simp at h; exact .inr (.inl ⟨h1, h.1, h.2.1, h.2.2⟩)
    rw [if_neg h1] at h
    by_cases h2 : wantsOf x.f0 = 2
    · rw [if_pos h2] at h; simp at h; exact .inr (.inr ⟨h2, h.1, h.2⟩)
    rw [if_neg h2] at h; cases h
theorem tw_size {x : S74} (h : mayB x = true) : (spw (twOf x)).size ≤ 72 ∧ (twOf x).length ≤ 2 := by
  obtain ⟨hs, _, h⟩ := may_parts h
  unfold twOf
  rcases h with ⟨h0, _⟩ | ⟨h0, h1, h2, _⟩ | ⟨h0, _, h1⟩
  · rw [if_neg (by omega), if_neg (by omega)]; simp [spw, sz0, sz32, sz60, sz124]; omega
  · rw [if_pos h0]; have := decOf_size h1; simp [spw, sz0, sz32, sz60, sz124]; omega
  · rw [if_neg (by omega), if_pos h0]; have := (nameB_size h1).1; simp [spw, sz0, sz32, sz60, sz124]; omega
theorem tws_size : ∀ (xs : List S74) (b : Bool), (∀ x ∈ xs, mayB x = true) → (spw (tws b xs)).size ≤ 74 * xs.length ∧ (tws b xs).length ≤ 3 * xs.length := by
  intro xs
  induction xs with
  | nil => intro b _; exact ⟨Nat.le_refl 0, Nat.le_refl 0⟩
  | cons x r ih =>
    intro b h
    have h1 := tw_size (h x (by simp))
    have h2 := ih true (fun y hy => h y (by simp [hy]))
    rw [tws, spw_append, spw_append]
    cases b <;> simp [spw, sz0, sz32, sz60, sz124] <;> omega
theorem line_size {fr : ByteArray} {xs : List S74} {tp : ByteArray} (h : checkOf fr xs tp = 0) (ap : Bool) : (spw (lineWords fr xs ap)).size ≤ 1300 ∧ (lineWords fr xs ap).length ≤ 60 ∧ tp.size ≤ 64 ∧ (fr.size ≤ 64) ∧ xs.length ≤ 16 ∧ 1 ≤ xs.length ∧ tp.size ≠ 0 := by
  have hm := mayB_all h
  have h2 := tws_size xs false hm
  unfold checkOf at h
  split at h
  · omega
  rename_i hn
  split at h
  · omega
  rename_i hl
  simp only [not_or, not_and] at hn hl
  have ht : nameB tp = true := by simpa using hn.2
  have hf : fr.size ≤ 64 := by
    by_cases h0 : (fr.toList == ([] : List UInt8)) = false
    · exact (nameB_size (by simpa using hn.1 h0)).1
    · rw [list_size (show fr.toList = [] by simpa using h0)]; simp
  have hh : (spw (headWords fr)).size ≤ 67 ∧ (headWords fr).length ≤ 2 := by
    unfold headWords
    split
    · exact ⟨by decide, by decide⟩
    · simp [spw, sz0, sz32, sz60, sz124]; omega
  unfold lineWords
  rw [spw_append, spw_append]
  have ha : (spw [arrowOf ap]).size ≤ 3 := by cases ap <;> decide
  simp only [ByteArray.size_append, List.length_append, List.length_singleton]
  have := nameB_size ht
  refine ⟨by omega, by omega, by omega, hf, by omega, by omega, by omega⟩
theorem words_is {x : S74} (h : mayB x = true) (k : Nat) (hk : 9 ≤ k) : shell_Tool_words.f k x.f0 x.f1 x.f2 = some (twOf x) := by
  have hw : shell_wants.f k x.f0 = some (wantsOf x.f0) := Pure.up (fun k => shell_wants.f k x.f0) (fun k => shell_wants.mono x.f0 k) (wants_is x.f0) hk
  obtain ⟨_, _, h⟩ := may_parts h
  unfold shell_Tool_words.f twOf
  rw [hw]
  simp only [Option.bind_some]
  rcases h with ⟨h0, _⟩ | ⟨h0, h1, h2, _⟩ | ⟨h0, _, h1⟩
  · rw [if_neg (by omega), if_neg (by omega), if_neg (by omega), if_neg (by omega)]
  · rw [if_pos h0, if_pos h0, Pure.num_Decimal_is _ (by omega) (by omega)]; rfl
  · rw [if_neg (by omega), if_pos h0, if_neg (by omega), if_pos h0]
theorem join_last : ∀ (W : List ByteArray) (tp : ByteArray), joinOf (W ++ [tp]) (⟨#[32]⟩ : ByteArray) = (spw W).data.toList ++ tp.data.toList := by
  intro W tp
  unfold joinOf Lib.join
  induction W with
  | nil => simp [spw, List.intercalate]
  | cons w r ih =>
    obtain ⟨y, ys, e⟩ : ∃ y ys, r ++ [tp] = y :: ys := by cases r <;> simp
    rw [List.cons_append, List.map_cons, e, List.map_cons]
    rw [e, List.map_cons] at ih
    have e2 : ([32] : List UInt8).intercalate (w.data.toList :: y.data.toList :: ys.map (·.data.toList)) = w.data.toList ++ ([32] ++ ([32] : List UInt8).intercalate (y.data.toList :: ys.map (·.data.toList))) := by
      simp [List.intercalate, List.intersperse]
    show ([32] : List UInt8).intercalate _ = _
    rw [e2, show ([32] : List UInt8).intercalate (y.data.toList :: ys.map (·.data.toList)) = _ from ih]
    simp [spw]
theorem prog_loop (fr : ByteArray) (xs : List S74) (tp : ByteArray) (ap : Bool) (hm : ∀ x ∈ xs, mayB x = true) (h16 : xs.length ≤ 16) : ∀ (m i : Nat) (acc : List ByteArray), i + m = xs.length → acc.length + 3 * m ≤ 1000 →
    (joinOf (acc ++ (tws (decide (0 < i)) (xs.drop i) ++ [arrowOf ap, tp])) (⟨#[32]⟩ : ByteArray)).length ≤ 100000 →
    shell_Print.l0 (m + 20) acc xs (xs.length : Int) (i : Int) fr xs tp ap = some (⟨(joinOf (acc ++ (tws (decide (0 < i)) (xs.drop i) ++ [arrowOf ap, tp])) (⟨#[32]⟩ : ByteArray)).toArray⟩, 0) := by
  intro m
  induction m with
  | zero =>
    intro i acc hi ha hj
    rw [List.drop_eq_nil_of_le (show xs.length ≤ i by omega)] at hj ⊢
    rw [shell_Print.l0, if_neg (by omega)]
    simp only [tws, List.nil_append] at hj ⊢
    cases ap with
    | true =>
      rw [if_pos rfl]
      simp only [Option.bind_some, arrowOf, if_true] at hj ⊢
      rw [if_pos (by simp; omega), strings_Join.f, if_pos ⟨by simp; omega, by omega⟩]
      rfl
    | false =>
      rw [if_neg (by simp)]
      simp only [Option.bind_some, arrowOf, Bool.false_eq_true, if_false] at hj ⊢
      rw [if_pos (by simp; omega), strings_Join.f, if_pos ⟨by simp; omega, by omega⟩]
      rfl
  | succ m ih =>
    intro i acc hi ha hj
    have hil : i < xs.length := by omega
    have hmx := hm xs[i] (List.getElem_mem hil)
    have hw := words_is hmx (m + 20) (by omega)
    have hws := (tw_size hmx).2
    have hn : wrap64 ((i : Int) + 1) = ((i + 1 : Nat) : Int) := by unfold wrap64; omega
    rw [List.drop_eq_getElem_cons hil, tws] at hj ⊢
    rw [shell_Print.l0, if_pos (by omega), if_pos (by omega), if_pos (by omega), rd74 xs i hil, show m + 1 + 19 = m + 20 by omega, hw, hn]
    simp only [Option.bind_some]
    have ih2 := fun acc' => ih (i + 1) acc' (by omega)
    rw [show decide (0 < i + 1) = true by simp] at ih2
    by_cases h0 : 0 < i
    · rw [if_pos (by omega), if_pos (by omega), if_pos (by simp; omega)]
      simp only [h0, decide_true, if_true] at hj ⊢
      have e : acc ++ ([(⟨#[124]⟩ : ByteArray)] ++ (twOf xs[i] ++ tws true (xs.drop (i + 1))) ++ [arrowOf ap, tp]) = (acc ++ [(⟨#[124]⟩ : ByteArray)] ++ twOf xs[i]) ++ (tws true (xs.drop (i + 1)) ++ [arrowOf ap, tp]) := by simp
      rw [e] at hj ⊢
      exact ih2 _ (by simp; omega) hj
    · rw [if_neg (by omega), if_pos (by omega)]
      simp only [h0, decide_false, Bool.false_eq_true, if_false, List.nil_append] at hj ⊢
      have e : acc ++ (twOf xs[i] ++ tws true (xs.drop (i + 1)) ++ [arrowOf ap, tp]) = (acc ++ twOf xs[i]) ++ (tws true (xs.drop (i + 1)) ++ [arrowOf ap, tp]) := by simp
      rw [e] at hj ⊢
      exact ih2 _ (by simp; omega) hj
def printOf (fr : ByteArray) (xs : List S74) (tp : ByteArray) (ap : Bool) : ByteArray × Int := if checkOf fr xs tp = 0 then (textOf fr xs tp ap, 0) else ((⟨#[]⟩ : ByteArray), checkOf fr xs tp)
theorem prog_print (fr : ByteArray) (xs : List S74) (tp : ByteArray) (ap : Bool) : shell_Print.f 100 fr xs tp ap = some (printOf fr xs tp ap) := by
  unfold shell_Print.f printOf
  rw [show shell_Check.f fr xs tp ap = some (checkOf fr xs tp) from rfl]
  simp only [Option.bind_some]
  by_cases hc : checkOf fr xs tp = 0
  · rw [if_pos hc, if_pos hc]
    obtain ⟨hs, hl, ht, hf, h16, _⟩ := line_size hc ap
    have hm := mayB_all hc
    have main : ∀ acc, acc = headWords fr → shell_Print.j0 100 acc fr xs tp ap = some (textOf fr xs tp ap, 0) := by
      rintro acc rfl
      rw [shell_Print.j0]
      have e : headWords fr ++ (tws (decide (0 < 0)) (xs.drop 0) ++ [arrowOf ap, tp]) = lineWords fr xs ap ++ [tp] := by simp [lineWords]
      have hj := join_last (lineWords fr xs ap) tp
      have hh : (headWords fr).length ≤ 2 := by unfold headWords; split <;> simp
      have := prog_loop fr xs tp ap hm h16 xs.length 0 (headWords fr) (by omega) (by omega) (by
        rw [e, hj, List.length_append]
        have : (spw (lineWords fr xs ap)).data.toList.length = (spw (lineWords fr xs ap)).size := rfl
        have : tp.data.toList.length = tp.size := rfl
        omega)
      rw [e, hj] at this
      have h2 := Pure.up (fun k => shell_Print.l0 k (headWords fr) xs (xs.length : Int) 0 fr xs tp ap) (fun k => (shell_Print.mono_l k).2 _ _ _ _ _ _ _ _) this (show xs.length + 20 ≤ 99 by omega)
      refine h2.trans ?_
      have : (⟨((spw (lineWords fr xs ap)).data.toList ++ tp.data.toList).toArray⟩ : ByteArray) = textOf fr xs tp ap := by
        apply Pure.str_eq_of; simp [textOf]
      rw [this]
    by_cases h0 : fr.toList = ([] : List UInt8)
    · rw [if_pos h0]; exact main _ (by rw [headWords, if_pos h0])
    · rw [if_neg h0]
      show (if ([] : List ByteArray).length + [(⟨#[60]⟩ : ByteArray), fr].length < 8796093022208 then shell_Print.j0 100 (([] : List ByteArray) ++ [(⟨#[60]⟩ : ByteArray), fr]) fr xs tp ap else none) = _
      rw [if_pos (by simp)]
      exact main _ (by rw [headWords, if_neg h0]; rfl)
  · rw [if_neg hc, if_neg hc]
theorem ref_step (fr : ByteArray) (l : List S28) (tp : ByteArray) (ap : Bool) (x : S28) (hm : mayB (tOf x) = true) (acc : ByteArray) (ha : acc.size ≤ 1000000) (i : Int) (k : Nat) (hk : 64 ≤ k) :
    millraceref21_Print.j2 (k + 2) acc i fr l tp ap x.f0 x.f1 x.f2 = millraceref21_Print.l0 k (acc ++ spw (twOf (tOf x))) (wrap64 (i + 1)) fr l tp ap := by
  obtain ⟨hs, _, h⟩ := may_parts hm
  have hw := wants_val x.f0
  have hs' : x.f0.size ≤ 5 := hs
  have sa : (acc ++ x.f0).size = acc.size + x.f0.size := ByteArray.size_append
  have sb : ((acc ++ x.f0) ++ (⟨#[32]⟩ : ByteArray)).size = acc.size + x.f0.size + 1 := by rw [ByteArray.size_append, sa]; rfl
  rw [millraceref21_Print.j2, if_pos (by omega), if_pos (by omega)]
  rcases h with ⟨h0, _, h2⟩ | ⟨h0, h1, h3, h2⟩ | ⟨h0, _, h1⟩
  · have h0' : wantsOf x.f0 = 0 := h0
    have h2' : x.f2.toList = ([] : List UInt8) := h2
    rw [h0'] at hw
    have n6 : ¬ x.f0.toList = ([104, 101, 97, 100] : List UInt8) := fun e => by rw [if_pos (.inl e)] at hw; omega
    have n7 : ¬ x.f0.toList = ([115, 107, 105, 112] : List UInt8) := fun e => by rw [if_pos (.inr e)] at hw; omega
    have e7 : (x.f0.toList == ([115, 107, 105, 112] : List UInt8)) = false := by simpa using n7
    rw [if_neg n6, millraceref21_Print.j3, e7, if_neg (by simp), if_pos h2']
    have e : acc ++ spw (twOf (tOf x)) = (acc ++ x.f0) ++ (⟨#[32]⟩ : ByteArray) := by
      have : twOf (tOf x) = [x.f0] := by unfold twOf; rw [if_neg (by omega), if_neg (by omega)]; rfl
      rw [this]; apply Pure.str_eq_of; simp [spw]
    rw [e]
  · have h0' : wantsOf x.f0 = 1 := h0
    have h2' : x.f2.toList = ([] : List UInt8) := h2
    have h1' : 0 ≤ x.f1 := h1
    have h3' : x.f1 ≤ 999999 := h3
    have hd := decOf_size h1'
    have hx : ∀ b, millraceref21_Print.j3 (k + 1) ((acc ++ x.f0) ++ (⟨#[32]⟩ : ByteArray)) i true fr l tp ap b x.f1 x.f2 = millraceref21_Print.l0 k (acc ++ spw (twOf (tOf x))) (wrap64 (i + 1)) fr l tp ap := by
      intro b
      have sc : (((acc ++ x.f0) ++ (⟨#[32]⟩ : ByteArray)) ++ Pure.decOf x.f1).size = acc.size + x.f0.size + 1 + (Pure.decOf x.f1).size := by rw [ByteArray.size_append, sb]
      rw [millraceref21_Print.j3, if_pos rfl, Pure.ref_Decimal_is k hk _ (by omega) (by omega)]
      simp only [Option.bind_some]
      rw [if_pos (by omega), if_pos (by omega), if_pos h2']
      have e : acc ++ spw (twOf (tOf x)) = (((acc ++ x.f0) ++ (⟨#[32]⟩ : ByteArray)) ++ Pure.decOf x.f1) ++ (⟨#[32]⟩ : ByteArray) := by
        have : twOf (tOf x) = [x.f0, Pure.decOf x.f1] := by unfold twOf; rw [if_pos h0]; rfl
        rw [this]; apply Pure.str_eq_of; simp [spw]
      rw [e]
    rw [h0'] at hw
    by_cases n6 : x.f0.toList = ([104, 101, 97, 100] : List UInt8)
    · rw [if_pos n6]; exact hx _
    · have n7 : x.f0.toList = ([115, 107, 105, 112] : List UInt8) := by
        by_cases n7 : x.f0.toList = ([115, 107, 105, 112] : List UInt8)
        · exact n7
        · rw [if_neg (by simp [n6, n7])] at hw
          split at hw
          · omega
          · split at hw <;> omega
      rw [if_neg n6, show (x.f0.toList == ([115, 107, 105, 112] : List UInt8)) = true by simpa using n7]
      exact hx _
  · have h0' : wantsOf x.f0 = 2 := h0
    have h1' : nameB x.f2 = true := h1
    obtain ⟨hz, hz0⟩ := nameB_size h1'
    have h2' : ¬ x.f2.toList = ([] : List UInt8) := fun e => hz0 (by rw [list_size e]; rfl)
    rw [h0'] at hw
    have n6 : ¬ x.f0.toList = ([104, 101, 97, 100] : List UInt8) := fun e => by rw [if_pos (.inl e)] at hw; omega
    have n7 : ¬ x.f0.toList = ([115, 107, 105, 112] : List UInt8) := fun e => by rw [if_pos (.inr e)] at hw; omega
    have e7 : (x.f0.toList == ([115, 107, 105, 112] : List UInt8)) = false := by simpa using n7
    have sc : (((acc ++ x.f0) ++ (⟨#[32]⟩ : ByteArray)) ++ x.f2).size = acc.size + x.f0.size + 1 + x.f2.size := by rw [ByteArray.size_append, sb]
    rw [if_neg n6, millraceref21_Print.j3, e7, if_neg (by simp), if_neg h2', if_pos (by omega), if_pos (by omega)]
    have e : acc ++ spw (twOf (tOf x)) = (((acc ++ x.f0) ++ (⟨#[32]⟩ : ByteArray)) ++ x.f2) ++ (⟨#[32]⟩ : ByteArray) := by
      have : twOf (tOf x) = [x.f0, x.f2] := by unfold twOf; rw [if_neg (by omega), if_pos h0]; rfl
      rw [this]; apply Pure.str_eq_of; simp [spw]
    rw [e]
theorem ref_loop (fr : ByteArray) (l : List S28) (tp : ByteArray) (ap : Bool) (hm : ∀ x ∈ l, mayB (tOf x) = true) (h16 : l.length ≤ 16) (ht : tp.size ≤ 64) : ∀ (m i : Nat) (acc : ByteArray), i + m = l.length → acc.size + 100 * m ≤ 100000 →
    millraceref21_Print.l0 (3 * m + 80) acc (i : Int) fr l tp ap = some (acc ++ (spw (tws (decide (0 < i)) ((l.map tOf).drop i) ++ [arrowOf ap]) ++ tp), 0) := by
  intro m
  induction m with
  | zero =>
    intro i acc hi ha
    rw [List.drop_eq_nil_of_le (show (l.map tOf).length ≤ i by simp; omega), millraceref21_Print.l0, if_neg (by omega)]
    cases ap with
    | true =>
      have e : acc ++ (spw (tws (decide (0 < i)) [] ++ [arrowOf true]) ++ tp) = (acc ++ (⟨#[62, 62, 32]⟩ : ByteArray)) ++ tp := by
        apply Pure.str_eq_of; simp [spw, tws, arrowOf]
      have s1 : (acc ++ (⟨#[62, 62, 32]⟩ : ByteArray)).size = acc.size + 3 := ByteArray.size_append
      rw [if_pos rfl, if_pos (by omega), if_pos (by omega), e]
    | false =>
      have e : acc ++ (spw (tws (decide (0 < i)) [] ++ [arrowOf false]) ++ tp) = (acc ++ (⟨#[62, 32]⟩ : ByteArray)) ++ tp := by
        apply Pure.str_eq_of; simp [spw, tws, arrowOf]
      have s1 : (acc ++ (⟨#[62, 32]⟩ : ByteArray)).size = acc.size + 2 := ByteArray.size_append
      rw [if_neg (by simp), if_pos (by omega), if_pos (by omega), e]
  | succ m ih =>
    intro i acc hi ha
    have hil : i < l.length := by omega
    have hil2 : i < (l.map tOf).length := by simpa using hil
    have hmx := hm l[i] (List.getElem_mem hil)
    have hs := (tw_size hmx).1
    have hn : wrap64 ((i : Int) + 1) = ((i + 1 : Nat) : Int) := by unfold wrap64; omega
    rw [show 3 * (m + 1) + 80 = (3 * m + 80 + 2) + 1 by omega, millraceref21_Print.l0, if_pos (by omega), if_pos (by omega), rd28 l i hil]
    rw [List.drop_eq_getElem_cons hil2, List.getElem_map, tws]
    have ih2 := fun acc' => ih (i + 1) acc' (by omega)
    rw [show decide (0 < i + 1) = true by simp] at ih2
    by_cases h0 : 0 < i
    · have s1 : (acc ++ (⟨#[124, 32]⟩ : ByteArray)).size = acc.size + 2 := ByteArray.size_append
      rw [if_pos (by omega), if_pos (by omega), ref_step fr l tp ap l[i] hmx _ (by omega) _ _ (by omega), hn, ih2 _ (by rw [ByteArray.size_append]; omega)]
      simp only [h0, decide_true, if_true]
      congr 2
      apply Pure.str_eq_of
      simp [spw, spw_append]
    · rw [if_neg (by omega), ref_step fr l tp ap l[i] hmx _ (by omega) _ _ (by omega), hn, ih2 _ (by rw [ByteArray.size_append]; omega)]
      simp only [h0, decide_false, Bool.false_eq_true, if_false, List.nil_append]
      congr 2
      apply Pure.str_eq_of
      simp [spw, spw_append]
theorem ref_print (fr : ByteArray) (l : List S28) (tp : ByteArray) (ap : Bool) : millraceref21_Print.f 200 fr l tp ap = some (printOf fr (l.map tOf) tp ap) := by
  unfold millraceref21_Print.f printOf
  rw [check_line fr l tp ap 200 (by omega)]
  simp only [Option.bind_some]
  by_cases hc : checkOf fr (l.map tOf) tp = 0
  · rw [if_pos hc, if_pos hc]
    obtain ⟨hs, hl, ht, hf, h16, _⟩ := line_size hc ap
    rw [List.length_map] at h16
    have hm : ∀ x ∈ l, mayB (tOf x) = true := fun x hx => mayB_all hc _ (List.mem_map_of_mem hx)
    have main : ∀ acc, acc = spw (headWords fr) → millraceref21_Print.j0 200 acc fr l tp ap = some (textOf fr (l.map tOf) tp ap, 0) := by
      rintro acc rfl
      rw [millraceref21_Print.j0]
      have hh : (spw (headWords fr)).size ≤ 67 := by unfold headWords; split; exact (by decide : (spw []).size ≤ 67); simp [spw, sz0, sz32, sz60, sz124]; omega
      have := ref_loop fr l tp ap hm h16 ht l.length 0 (spw (headWords fr)) (by omega) (by omega)
      have h2 := Pure.up (fun k => millraceref21_Print.l0 k (spw (headWords fr)) 0 fr l tp ap) (fun k => (millraceref21_Print.mono_l k).2.1 _ _ _ _ _ _) this (show 3 * l.length + 80 ≤ 199 by omega)
      refine h2.trans ?_
      have : spw (headWords fr) ++ (spw (tws (decide (0 < 0)) ((l.map tOf).drop 0) ++ [arrowOf ap]) ++ tp) = textOf fr (l.map tOf) tp ap := by
        rw [textOf, lineWords, spw_append (headWords fr)]
        apply Pure.str_eq_of; simp
      rw [this]
    by_cases h0 : fr.toList = ([] : List UInt8)
    · rw [if_pos h0]; exact main _ (by rw [headWords, if_pos h0]; rfl)
    · rw [if_neg h0]
      have s1 : ((⟨#[60, 32]⟩ : ByteArray) ++ fr).size = 2 + fr.size := ByteArray.size_append
      rw [if_pos (by omega), if_pos (by omega)]
      exact main _ (by rw [headWords, if_neg h0]; apply Pure.str_eq_of; simp [spw])
  · rw [if_neg hc, if_neg hc]
theorem same_loop (l : List S28) (hl : l.length < 3518437208883) (a0 a2 b0 b2 : ByteArray) (a3 b3 : Bool) : ∀ m i : Nat, i + m = l.length → millracelaw21_same.l0 (m + 1) (i : Int) a0 (l.map tOf) a2 a3 b0 l b2 b3 = some true := by
  intro m
  induction m with
  | zero => intro i hi; rw [millracelaw21_same.l0, if_neg (by simp; omega)]
  | succ m ih =>
    intro i hi
    have hil : i < l.length := by omega
    have hn : wrap64 ((i : Int) + 1) = ((i + 1 : Nat) : Int) := by unfold wrap64; omega
    rw [millracelaw21_same.l0, if_pos (by simp; omega), if_pos (by omega), if_pos (by omega), rd28 l i hil, rd74 (l.map tOf) i (by simpa using hil), List.getElem_map, hn, ih (i + 1) (by omega), if_neg (by simp [tOf])]
theorem same_of (fr : ByteArray) (l : List S28) (tp : ByteArray) (ap : Bool) (hl : l.length < 3518437208883) : millracelaw21_same.f (l.length + 2) fr (l.map tOf) tp ap fr l tp ap = some true := by
  unfold millracelaw21_same.f
  rw [if_pos rfl, if_pos rfl, if_neg (by simp), millracelaw21_same.j0, if_neg (by simp)]
  exact same_loop l hl fr tp fr tp ap ap l.length 0 (by omega)
end Go.Proofs.YthmijenlndnmcaaGreatDoor.Sh
