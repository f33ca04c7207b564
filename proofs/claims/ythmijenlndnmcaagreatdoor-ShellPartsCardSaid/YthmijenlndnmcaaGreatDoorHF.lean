/-
  Hand-made contracts of functions of the program: Ln, LnTools, LawThrough.
-/
import Derived.Test.YthmijenlndnmcaaGreatDoorHE
import Derived.Test.YthmijenlndnmcaaGreatDoorShx3
import Derived.Test.YthmijenlndnmcaaGreatDoorShx5
import Derived.Test.YthmijenlndnmcaaGreatDoorShx6
import Derived.Test.YthmijenlndnmcaaGreatDoorShx0
namespace Go.Proofs.YthmijenlndnmcaaGreatDoor.Sh
open Go.RowKit Go.Proofs.YthmijenlndnmcaaGreatDoorW.PrintWords Go.Proofs.YthmijenlndnmcaaGreatDoorW.PrintLast Go.Proofs.YthmijenlndnmcaaGreatDoorW.PrintMore
attribute [local go_sem] max2_int min2_int max_two min_two max_three min_three max_four min_four
set_option linter.unusedVariables false
set_option linter.unusedSimpArgs false

/-! ### lines, plainly -/
/-- The lines of a text. -/
def ln : List Int → List (List Int)
  | [] => []
  | c :: r => if c = 10 then [c] :: ln r else match ln r with
    | [] => [[c]]
    | h :: tl => (c :: h) :: tl
theorem ln_ne : ∀ l : List Int, ln l = [] → l = [] := by
  intro l
  cases l with
  | nil => intro _; rfl
  | cons c r =>
    intro h
    simp only [ln] at h
    split at h
    · cases h
    · split at h <;> cases h
theorem ln_flat : ∀ l : List Int, (ln l).flatten = l := by
  intro l
  induction l with
  | nil => rfl
  | cons c r ih =>
    simp only [ln]
    split
    · simp [ih]
    · split
      · rename_i h
        have := ln_ne r h
        subst this; rfl
      · rename_i h tl e
        rw [e] at ih
        simp only [List.flatten_cons] at ih ⊢
        rw [List.cons_append, ih]
def full (l : List Int) : Prop := ∃ b, (10 : Int) ∉ b ∧ l = b ++ [10]
def okLns : List (List Int) → Prop
  | [] => True
  | l :: r => (full l ∧ okLns r) ∨ (l ≠ [] ∧ (10 : Int) ∉ l ∧ r = [])
theorem ln_full : ∀ (b rest : List Int), (10 : Int) ∉ b → ln (b ++ 10 :: rest) = (b ++ [10]) :: ln rest := by
  intro b
  induction b with
  | nil => intro rest _; simp [ln]
  | cons c r ih =>
    intro rest h
    simp only [List.mem_cons, not_or] at h
    rw [List.cons_append, ln, if_neg (fun e => h.1 e.symm), ih rest h.2]
    rfl
theorem ln_tail : ∀ b : List Int, (10 : Int) ∉ b → b ≠ [] → ln b = [b] := by
  intro b
  induction b with
  | nil => intro _ h; exact absurd rfl h
  | cons c r ih =>
    intro h _
    simp only [List.mem_cons, not_or] at h
    rw [ln, if_neg (fun e => h.1 e.symm)]
    cases r with
    | nil => rfl
    | cons d s => rw [ih h.2 (by simp)]
theorem ln_ok : ∀ l : List Int, okLns (ln l) := by
  intro l
  induction l with
  | nil => trivial
  | cons c r ih =>
    simp only [ln]
    split
    · rename_i h; exact .inl ⟨⟨[], by simp, by simp [h]⟩, ih⟩
    · rename_i h
      split
      · exact .inr ⟨by simp, by simp; exact fun e => h e.symm, rfl⟩
      · rename_i hd tl e
        rw [e] at ih
        rcases ih with ⟨⟨b, hb, rfl⟩, h2⟩ | ⟨h1, h2, h3⟩
        · exact .inl ⟨⟨c :: b, by simp; exact ⟨fun e => h e.symm, hb⟩, rfl⟩, h2⟩
        · exact .inr ⟨by simp, by simp; exact ⟨fun e => h e.symm, h2⟩, h3⟩
theorem ln_of_ok : ∀ ls : List (List Int), okLns ls → ln ls.flatten = ls := by
  intro ls
  induction ls with
  | nil => intro _; rfl
  | cons l r ih =>
    rintro (⟨⟨b, hb, rfl⟩, h2⟩ | ⟨h1, h2, rfl⟩)
    · rw [List.flatten_cons, List.append_assoc, List.singleton_append, ln_full b _ hb, ih h2]
    · simp only [List.flatten_cons, List.flatten_nil, List.append_nil]
      exact ln_tail l h2 h1
theorem okLns_cons {l : List Int} {r : List (List Int)} (h : okLns (l :: r)) : okLns r := by
  rcases h with ⟨_, h2⟩ | ⟨_, _, rfl⟩
  · exact h2
  · trivial
theorem okLns_sub {ls ls' : List (List Int)} (hs : ls'.Sublist ls) : okLns ls → okLns ls' := by
  induction hs with
  | slnil => exact id
  | cons a _ ih => exact fun h => ih (okLns_cons h)
  | cons_cons a hs ih =>
    rintro (⟨h1, h2⟩ | ⟨h1, h2, rfl⟩)
    · exact .inl ⟨h1, ih h2⟩
    · rw [List.sublist_nil.1 hs]; exact .inr ⟨h1, h2, rfl⟩
theorem u8_ten (c : Int) (h : 0 ≤ c ∧ c < 256) : (UInt8.ofNat c.toNat == 10) = decide (c = 10) := by
  obtain ⟨n, rfl⟩ := Int.eq_ofNat_of_zero_le h.1
  have hn : n < 256 := by omega
  by_cases e : n = 10
  · subst e; rfl
  · have : UInt8.ofNat n ≠ 10 := by
      intro h2
      have := congrArg UInt8.toNat h2
      rw [UInt8.toNat_ofNat_of_lt' (by simpa using hn)] at this
      exact e this
    rw [decide_eq_false (by omega)]
    simpa using this
theorem firstLen_cons (c : Int) (r : List Int) (h : 0 ≤ c ∧ c < 256) : firstLen (c :: r) = if c = 10 then 1 else 1 + firstLen r := by
  have hu := u8_ten c h
  have hge := Lib.indexByte_ge (Lib.bytesOf r) 10
  unfold firstLen
  have e : Lib.bytesOf (c :: r) = UInt8.ofNat c.toNat :: Lib.bytesOf r := rfl
  rw [e, Lib.indexByte]
  by_cases hc : c = 10
  · simp [hc]
  · rw [if_neg hc, hu]
    simp only [hc, decide_false, Bool.false_eq_true, if_false]
    generalize Lib.indexByte (Lib.bytesOf r) 10 = i at *
    by_cases hi : i = -1
    · subst hi
      simp
      omega
    · have hi2 : (i == -1) = false := by simpa using hi
      rw [hi2]
      simp only [Bool.false_eq_true, if_false]
      rw [if_pos (by omega), if_pos (by omega)]
      omega
theorem ln_first : ∀ l : List Int, byteL l → l ≠ [] → ln l = l.take (firstLen l) :: ln (l.drop (firstLen l)) := by
  intro l
  induction l with
  | nil => intro _ h; exact absurd rfl h
  | cons c r ih =>
    intro hb _
    have hc := hb c (by simp)
    have hr : byteL r := fun x hx => hb x (by simp [hx])
    rw [firstLen_cons c r hc, ln]
    split
    · simp
    · cases r with
      | nil => rfl
      | cons d s =>
        rw [ih hr (by simp), Nat.add_comm 1, List.take_succ_cons, List.drop_succ_cons]
theorem byteL_drop {l : List Int} (h : byteL l) (n : Nat) : byteL (l.drop n) := fun x hx => h x (List.mem_of_mem_drop hx)
theorem lines_lnF : ∀ (f o : Nat) (t : List Int), byteL t → t.length ≤ o + f → (spansF f o (t.drop o)).map (lineAt t) = ln (t.drop o) := by
  intro f
  induction f with
  | zero =>
    intro o t _ h
    rw [spansF, List.drop_eq_nil_of_le (by omega)]
    rfl
  | succ f ih =>
    intro o t hb h
    rw [spansF]
    split
    · rename_i e; rw [e]; rfl
    · rename_i e
      have hp := firstLen_pos (List.length_pos_iff.2 e)
      rw [List.map_cons, List.drop_drop, ih _ t hb (by omega), ln_first _ (byteL_drop hb o) e, List.drop_drop]
      rfl
theorem lines_ln (t : List Int) (hb : byteL t) : (spans t).map (lineAt t) = ln t := by
  have := lines_lnF t.length 0 t hb (by omega)
  rwa [List.drop_zero] at this

/-! ### a tool over lines, plainly -/
/-- What a tool makes of lines, without a bound. -/
def runL (F : List Int → Int → List Int → List Int × List Int × Int × Bool) : List (List Int) → List Int → Int → List (List Int) × List Int × Int
  | [], st, n => ([], st, n)
  | li :: r, st, n => ((F st n li).1 :: (runL F r (F st n li).2.1 (F st n li).2.2.1).1, (runL F r (F st n li).2.1 (F st n li).2.2.1).2)
theorem goL_code {F : List Int → Int → List Int → List Int × List Int × Int × Bool} (hm : ∀ st n li, (F st n li).2.2.2 = true) : ∀ (ls : List (List Int)) (out st : List Int) (n : Int), (goL F ls out st n true).1 = 0 → ∀ l ∈ ls, l.length ≤ 65536 := by
  intro ls
  induction ls with
  | nil => intro _ _ _ _ l hl; cases hl
  | cons x r ih =>
    intro out st n h l hl
    simp only [goL] at h
    split at h
    · rename_i h2; cases h2
    split at h
    · simp at h
    split at h
    · simp at h
    rw [hm] at h
    rcases List.mem_cons.1 hl with rfl | hl
    · omega
    · exact ih _ _ _ h l hl
theorem goL_run {F : List Int → Int → List Int → List Int × List Int × Int × Bool} (hm : ∀ st n li, (F st n li).2.2.2 = true) : ∀ (ls : List (List Int)) (out st : List Int) (n : Int), (∀ l ∈ ls, l.length ≤ 65536) →
    (out ++ (runL F ls st n).1.flatten).length ≤ 1048576 → goL F ls out st n true = (0, out ++ (runL F ls st n).1.flatten, (runL F ls st n).2.1, (runL F ls st n).2.2) := by
  intro ls
  induction ls with
  | nil => intro out st n _ _; simp [goL, runL]
  | cons x r ih =>
    intro out st n hl ho
    simp only [runL, List.flatten_cons] at ho ⊢
    rw [← List.append_assoc] at ho ⊢
    rw [goL, if_neg (by simp), if_neg (by have := hl x (by simp); omega), if_neg (by simp only [List.length_append] at ho ⊢; omega), hm]
    exact ih _ _ _ (fun l h => hl l (by simp [h])) ho
/-- head's steps. -/
theorem goL_head {F : List Int → Int → List Int → List Int × List Int × Int × Bool} (N : Int) (hF : ∀ st n li, F st n li = (if n + 1 ≤ N then li else [], st, n + 1, decide (n + 1 < N))) : ∀ (ls : List (List Int)) (out : List Int) (k : Nat), (∀ l ∈ ls, l.length ≤ 65536) →
    (out ++ ls.flatten).length ≤ 1048576 → ∀ st n, (k : Int) = N - n → ∃ m, goL F ls out st n (decide (n < N)) = (0, out ++ (ls.take k).flatten, st, m) := by
  intro ls
  induction ls with
  | nil => intro out k _ _ st n _; exact ⟨n, by simp [goL]⟩
  | cons x r ih =>
    intro out k hl ho st n hk
    simp only [List.flatten_cons] at ho
    rw [← List.append_assoc] at ho
    by_cases hn : n < N
    · obtain ⟨k', rfl⟩ : ∃ k', k = k' + 1 := ⟨k - 1, by omega⟩
      rw [decide_eq_true hn, goL, if_neg (by simp), if_neg (by have := hl x (by simp); omega), hF]
      simp only
      rw [if_pos (show n + 1 ≤ N by omega), if_neg (by simp only [List.length_append] at ho ⊢; omega)]
      obtain ⟨m, hm⟩ := ih (out ++ x) k' (fun l h => hl l (by simp [h])) ho st (n + 1) (by omega)
      exact ⟨m, by rw [hm]; simp⟩
    · obtain rfl : k = 0 := by omega
      rw [decide_eq_false hn, goL, if_pos rfl]
      exact ⟨n, by simp⟩
theorem runL_skip {F : List Int → Int → List Int → List Int × List Int × Int × Bool} (N : Int) (hF : ∀ st n li, F st n li = (if N < n + 1 then li else [], st, n + 1, true)) : ∀ (ls : List (List Int)) (k : Nat) st n, (N - n ≤ (k : Int)) → ((k : Int) = N - n ∨ k = 0) → (runL F ls st n).1.flatten = (ls.drop k).flatten := by
  intro ls
  induction ls with
  | nil => intro k _ _ _ _; simp [runL]
  | cons x r ih =>
    intro k st n h1 h2
    simp only [runL, hF, List.flatten_cons]
    cases k with
    | zero =>
      rw [if_pos (by omega), ih 0 st (n + 1) (by omega) (.inr rfl)]
      simp
    | succ k =>
      rw [if_neg (by omega), ih k st (n + 1) (by omega) (.inl (by omega))]
      simp
theorem runL_grep {F : List Int → Int → List Int → List Int × List Int × Int × Bool} (g : List Int → Bool) (hF : ∀ st n li, F st n li = (if g li then li else [], st, n + 1, true)) : ∀ (ls : List (List Int)) st n, (runL F ls st n).1.flatten = (ls.filter g).flatten := by
  intro ls
  induction ls with
  | nil => intro _ _; rfl
  | cons x r ih =>
    intro st n
    simp only [runL, hF, List.flatten_cons, List.filter_cons]
    split
    · rw [ih]; rfl
    · rw [ih]; rfl
theorem flat_sub {a b : List (List Int)} (h : a.Sublist b) : a.flatten.length ≤ b.flatten.length := by
  induction h with
  | slnil => exact Nat.le_refl _
  | cons x _ ih => simp only [List.flatten_cons, List.length_append]; omega
  | cons_cons x _ ih => simp only [List.flatten_cons, List.length_append]; omega


/-! ### the tools, plainly -/
theorem mem_ln {t l : List Int} (h : l ∈ ln t) : ∀ x ∈ l, x ∈ t := by
  intro x hx
  rw [← ln_flat t]
  exact List.mem_flatten.2 ⟨l, h, hx⟩
theorem byteL_ln {t l : List Int} (hb : byteL t) (h : l ∈ ln t) : byteL l := fun x hx => hb x (mem_ln h x hx)
/-- A line turned round. -/
def revL (li : List Int) : List Int := turnOf li (li.length - endLen li)
theorem revL_mem (l : List Int) : ∀ x ∈ revL l, x ∈ l := by
  intro x hx
  unfold revL turnOf at hx
  rcases List.mem_append.1 hx with h | h
  · exact List.mem_of_mem_take (List.mem_reverse.1 h)
  · exact List.mem_of_mem_drop h
theorem bigOf_byte {c : Int} (h : 0 ≤ c ∧ c < 256) : 0 ≤ bigOf c ∧ bigOf c < 256 := by
  unfold bigOf
  split <;> omega
/-- All lines are short enough. -/
def shortL (t : List Int) : Prop := ∀ l ∈ ln t, l.length ≤ 65536
theorem thr_unfold {i : Nat} {N : Int} {g : List Int → Bool} {t : List Int} (hb : byteL t) (hi : i ≠ 3) : thrOf i N g t =
    if (goL (feedOf i N g) (ln t) [] [] 0 true).1 ≠ 0 then ((goL (feedOf i N g) (ln t) [] [] 0 true).1, [])
    else if 1048576 < ((goL (feedOf i N g) (ln t) [] [] 0 true).2.1 ++ endOf i (goL (feedOf i N g) (ln t) [] [] 0 true).2.2.1 (goL (feedOf i N g) (ln t) [] [] 0 true).2.2.2).length then (31, [])
    else (0, (goL (feedOf i N g) (ln t) [] [] 0 true).2.1 ++ endOf i (goL (feedOf i N g) (ln t) [] [] 0 true).2.2.1 (goL (feedOf i N g) (ln t) [] [] 0 true).2.2.2) := by
  unfold thrOf throughOf
  rw [if_neg hi, lines_ln t hb]
theorem thr_zero {i : Nat} {N : Int} {g : List Int → Bool} {t : List Int} (hb : byteL t) (hm : ∀ st n li, (feedOf i N g st n li).2.2.2 = true) (hi : i ≠ 3) (h : (thrOf i N g t).1 = 0) : shortL t := by
  rw [thr_unfold hb hi] at h
  split at h
  · rename_i h2; exact absurd h h2
  · rename_i h2
    exact goL_code hm _ _ _ _ (by simpa using h2)
/-- A tool without an end's text, whose lines come to no more than the text. -/
theorem thr_run {i : Nat} {N : Int} {g : List Int → Bool} (hm : ∀ st n li, (feedOf i N g st n li).2.2.2 = true) (hi : i ≠ 3) (hi8 : i ≠ 8) {t : List Int} (hb : byteL t) (hs : shortL t) (ho : (runL (feedOf i N g) (ln t) [] 0).1.flatten.length ≤ 1048576) :
    thrOf i N g t = (0, (runL (feedOf i N g) (ln t) [] 0).1.flatten) := by
  have := goL_run hm (ln t) [] [] 0 hs (by simpa using ho)
  rw [thr_unfold hb hi, this]
  simp only [endOf, if_neg hi8, List.append_nil, List.nil_append]
  rw [if_neg (by simp), if_neg (by omega)]
theorem head_is {N : Int} {g : List Int → Bool} {t : List Int} (hb : byteL t) (ht : t.length ≤ 1048576) (hs : shortL t) (k : Nat) (hk : (k : Int) = N) : thrOf 3 N g t = (0, ((ln t).take k).flatten) := by
  unfold thrOf throughOf
  rw [if_pos rfl, lines_ln t hb]
  obtain ⟨m, hm⟩ := goL_head (F := feedOf 3 N g) N (fun _ _ _ => rfl) (ln t) [] k hs (by rw [List.nil_append, ln_flat]; exact ht) [] 0 (by omega)
  rw [hm]
  simp only [endOf, List.nil_append]
  have := flat_sub (List.take_sublist k (ln t))
  rw [ln_flat] at this
  rw [if_neg (by simp), if_neg (show ¬ (3 = 8) by omega), List.append_nil, if_neg (by omega)]
theorem skip_is {N : Int} {g : List Int → Bool} {t : List Int} (hb : byteL t) (ht : t.length ≤ 1048576) (hs : shortL t) (k : Nat) (hk : (k : Int) = N) : thrOf 4 N g t = (0, ((ln t).drop k).flatten) := by
  have hr := runL_skip (F := feedOf 4 N g) N (fun _ _ _ => rfl) (ln t) k [] 0 (by omega) (.inl (by omega))
  have := thr_run (N := N) (g := g) (i := 4) (fun _ _ _ => rfl) (by omega) (by omega) hb hs (by rw [hr]; have := flat_sub (List.drop_sublist k (ln t)); rw [ln_flat] at this; omega)
  rw [this, hr]
theorem grep_is {N : Int} {g : List Int → Bool} {t : List Int} (hb : byteL t) (ht : t.length ≤ 1048576) (hs : shortL t) : thrOf 5 N g t = (0, ((ln t).filter g).flatten) := by
  have hr := runL_grep (F := feedOf 5 N g) g (fun _ _ _ => rfl) (ln t) [] 0
  have := thr_run (N := N) (g := g) (i := 5) (fun _ _ _ => rfl) (by omega) (by omega) hb hs (by rw [hr]; have := flat_sub (List.filter_sublist (p := g) (l := ln t)); rw [ln_flat] at this; omega)
  rw [this, hr]
theorem grep_grep {N : Int} {g : List Int → Bool} {t : List Int} (hb : byteL t) (ht : t.length ≤ 1048576) (hs : shortL t) : thrOf 5 N g ((ln t).filter g).flatten = (0, ((ln t).filter g).flatten) := by
  have hsub := List.filter_sublist (p := g) (l := ln t)
  have hln : ln ((ln t).filter g).flatten = (ln t).filter g := ln_of_ok _ (okLns_sub hsub (ln_ok t))
  have hb2 : byteL ((ln t).filter g).flatten := by
    intro x hx
    obtain ⟨l, hl, hx⟩ := List.mem_flatten.1 hx
    exact byteL_ln hb (hsub.subset hl) x hx
  have hs2 : shortL ((ln t).filter g).flatten := by
    unfold shortL
    rw [hln]
    exact fun l hl => hs l (hsub.subset hl)
  rw [grep_is hb2 (by have := flat_sub hsub; rw [ln_flat] at this; omega) hs2, hln, List.filter_filter]
  simp
theorem byteL_bytesOf (s : ByteArray) : byteL (bytesOf s) := by
  intro x hx
  obtain ⟨b, _, rfl⟩ := List.mem_map.1 hx
  have := b.toNat_lt
  omega
theorem byteL_app {a b : List Int} (ha : byteL a) (hb : byteL b) : byteL (a ++ b) := by
  intro x hx
  rcases List.mem_append.1 hx with h | h
  · exact ha x h
  · exact hb x h
theorem byteL_nil : byteL [] := fun _ h => by cases h
theorem feedOf_bytes (i : Nat) (N : Int) (g : List Int → Bool) (st : List Int) (n : Int) (li : List Int) (h : byteL li) : byteL (feedOf i N g st n li).1 := by
  match i with
  | 0 => exact h
  | 1 =>
    intro x hx
    obtain ⟨y, hy, rfl⟩ := List.mem_map.1 hx
    exact bigOf_byte (h y hy)
  | 2 => exact fun x hx => h x (revL_mem li x hx)
  | 3 => show byteL (if _ then li else []); split; exact h; exact byteL_nil
  | 4 => show byteL (if _ then li else []); split; exact h; exact byteL_nil
  | 5 => show byteL (if _ then li else []); split; exact h; exact byteL_nil
  | 6 => exact byteL_app (byteL_app (byteL_bytesOf _) (by intro x hx; simp at hx; omega)) h
  | 7 => show byteL (if _ then li else []); split; exact h; exact byteL_nil
  | n + 8 => exact byteL_nil
theorem goL_bytes {F : List Int → Int → List Int → List Int × List Int × Int × Bool} (hF : ∀ st n li, byteL li → byteL (F st n li).1) : ∀ (ls : List (List Int)) (out st : List Int) (n : Int) (m : Bool), (∀ l ∈ ls, byteL l) → byteL out → byteL (goL F ls out st n m).2.1 := by
  intro ls
  induction ls with
  | nil => intro out st n m _ h; exact h
  | cons x r ih =>
    intro out st n m hl ho
    rw [goL]
    split
    · exact ho
    split
    · exact byteL_nil
    split
    · exact byteL_nil
    · exact ih _ _ _ _ (fun l h => hl l (by simp [h])) (byteL_app ho (hF _ _ _ (hl x (by simp))))
theorem thr_bytes (i : Nat) (N : Int) (g : List Int → Bool) (t : List Int) (hb : byteL t) (h : (thrOf i N g t).1 = 0) : (thrOf i N g t).2.length ≤ 1048576 ∧ byteL (thrOf i N g t).2 := by
  unfold thrOf throughOf at h ⊢
  rw [lines_ln t hb] at h ⊢
  generalize (if i = 3 then decide (0 < N) else true) = m at h ⊢
  simp only at h ⊢
  split
  · rename_i h2; rw [if_pos h2] at h; exact absurd h h2
  rename_i h2
  rw [if_neg h2] at h
  split
  · rename_i h3; rw [if_pos h3] at h; simp at h
  rename_i h3
  refine ⟨Nat.le_of_not_lt h3, byteL_app (goL_bytes (feedOf_bytes i N g) _ _ _ _ _ (fun l hl => byteL_ln hb hl) byteL_nil) ?_⟩
  unfold endOf
  split
  · exact byteL_bytesOf _
  · exact byteL_nil


/-! ### the law's through: any tools over a text -/
/-- Which tool. -/
def nameIx (s : ByteArray) : Nat :=
  if s = (⟨#[99, 97, 116]⟩ : ByteArray) then 0 else if s = (⟨#[117, 112, 112, 101, 114]⟩ : ByteArray) then 1 else if s = (⟨#[114, 101, 118]⟩ : ByteArray) then 2
  else if s = (⟨#[104, 101, 97, 100]⟩ : ByteArray) then 3 else if s = (⟨#[115, 107, 105, 112]⟩ : ByteArray) then 4 else if s = (⟨#[103, 114, 101, 112]⟩ : ByteArray) then 5
  else if s = (⟨#[110, 117, 109]⟩ : ByteArray) then 6 else if s = (⟨#[117, 110, 105, 113]⟩ : ByteArray) then 7 else if s = (⟨#[119, 99]⟩ : ByteArray) then 8 else 9
def conOf (X : ByteArray) (li : List Int) : Bool := Lib.contains (Lib.bytesOf li) X.data.toList
/-- What a tool makes of a text. -/
def gOf (x : S74) : List Int → Int × List Int := thrOf (nameIx x.f0) x.f1 (if nameIx x.f0 = 5 then conOf x.f2 else fun _ => false)
def tOf (x : S28) : S74 := ⟨x.f0, x.f1, x.f2⟩
theorem wants_name (s : ByteArray) (h : nameIx s = 9) : shell_wants.f 9 s = some 3 := by
  unfold nameIx at h
  have e : ∀ (l : List UInt8), s ≠ ⟨l.toArray⟩ → ¬ s.toList = l := fun l hn hl => hn (str_eq_of (by rw [← ByteArray.toList_eq, hl]))
  repeat' (split at h; · omega)
  rename_i h0 h1 h2 h3 h4 h5 h6 h7 h8
  have e0 := e [99, 97, 116] h0
  have e1 := e [117, 112, 112, 101, 114] h1
  have e2 := e [114, 101, 118] h2
  have e3 := e [104, 101, 97, 100] h3
  have e4 := e [115, 107, 105, 112] h4
  have e5 := e [103, 114, 101, 112] h5
  have e6 := e [110, 117, 109] h6
  have e7 := e [117, 110, 105, 113] h7
  have e8 := e [119, 99] h8
  simp [shell_wants.f, shell_wants.j0, shell_wants.j1, e0, e1, e2, e3, e4, e5, e6, e7, e8]
theorem may_name (x : S74) (h : mayB x = true) : nameIx x.f0 ≤ 8 := by
  have hm := may_is x
  rw [h] at hm
  have h9 : nameIx x.f0 ≤ 9 := by unfold nameIx; repeat' split
                                  all_goals omega
  by_cases h8 : nameIx x.f0 = 9
  · unfold shell_Tool_may.f at hm
    rw [wants_name _ h8] at hm
    simp at hm
  · omega
theorem Of_is (fr tp : ByteArray) (ap : Bool) (l : List S28) (hl : l.length < 3518437208883) : ∃ k, millracelaw21_Of.f k fr l tp ap = some (fr, l.map tOf, tp, ap) := by
  refine ⟨l.length + 1, ?_⟩
  unfold millracelaw21_Of.f
  have : ∀ (m i : Nat), i + m = l.length → millracelaw21_Of.l0 (m + 1) (i : Int) fr l tp ap fr ((l.take i).map tOf) tp ap = some (fr, l.map tOf, tp, ap) := by
    intro m
    induction m with
    | zero =>
      intro i hi
      rw [millracelaw21_Of.l0, if_neg (by omega), List.take_of_length_le (by omega)]
    | succ m ih =>
      intro i hi
      rw [millracelaw21_Of.l0, if_pos (by omega), if_pos (by omega), if_pos (by simp; omega)]
      have e1 : wrap64 ((i : Int) + 1) = ((i + 1 : Nat) : Int) := by unfold wrap64; omega
      have hil : i < l.length := by omega
      have e2 : rd_T28 l (i : Int) = l[i] := by simp [rd_T28, List.getD_eq_getElem?_getD, hil]
      have e3 : (l.take i).map tOf ++ [(⟨(rd_T28 l (i : Int)).f0, (rd_T28 l (i : Int)).f1, (rd_T28 l (i : Int)).f2⟩ : S74)] = (l.take (i + 1)).map tOf := by
        rw [List.take_succ_eq_append_getElem hil, List.map_append, e2]; rfl
      rw [e1, e3]
      exact ih (i + 1) (by omega)
  exact this l.length 0 (by omega)
/-- What the law's through hands back. -/
def lawOf (l : List S28) (t : List Int) : Int × List Int := evalAB (l.map tOf) ((l.map tOf).map gOf) t
theorem grep_size (N : Int) (X : ByteArray) (hm : shell_Tool_may.f 9 (⟨#[103, 114, 101, 112]⟩ : ByteArray) N X = some true) : X.size ≤ 100 := by
  have hw : shell_wants.f 9 (⟨#[103, 114, 101, 112]⟩ : ByteArray) = some 2 := by decide +kernel
  unfold shell_Tool_may.f at hm
  rw [hw] at hm
  simp only [Option.bind_some] at hm
  rw [if_neg (by omega), if_neg (by omega), if_pos (by trivial), named_is] at hm
  simp only [Option.bind_some] at hm
  split at hm
  · have h2 : nameB X = true := by simpa using hm
    unfold nameB at h2
    have h3 : kernNamed X = true := by simp only [Bool.and_eq_true] at h2; exact h2.1
    have := kernNamed_le h3
    omega
  · simp at hm
theorem gOf_ok (w0 : World) (x : S74) (h : mayB x = true) (hcon : nameIx x.f0 = 5 → ConOK w0 x.f2 (conOf x.f2)) : ThrOK w0 x (gOf x) := by
  have hm := may_is x
  rw [h] at hm
  have h8 := may_name x h
  obtain ⟨n, N, X⟩ := x
  unfold gOf
  simp only at hm hcon h8 ⊢
  unfold nameIx at hcon h8 ⊢
  by_cases e0 : n = (⟨#[99, 97, 116]⟩ : ByteArray)
  · subst e0; simp only [if_true]; exact thr_cat N X hm
  rw [if_neg e0] at hcon h8 ⊢
  by_cases e1 : n = (⟨#[117, 112, 112, 101, 114]⟩ : ByteArray)
  · subst e1; simp only [if_true]; exact thr_upper N X hm
  rw [if_neg e1] at hcon h8 ⊢
  by_cases e2 : n = (⟨#[114, 101, 118]⟩ : ByteArray)
  · subst e2; simp only [if_true]; exact thr_rev N X hm
  rw [if_neg e2] at hcon h8 ⊢
  by_cases e3 : n = (⟨#[104, 101, 97, 100]⟩ : ByteArray)
  · subst e3; simp only [if_true]; exact thr_head N X hm
  rw [if_neg e3] at hcon h8 ⊢
  by_cases e4 : n = (⟨#[115, 107, 105, 112]⟩ : ByteArray)
  · subst e4; simp only [if_true]; exact thr_skip N X hm
  rw [if_neg e4] at hcon h8 ⊢
  by_cases e5 : n = (⟨#[103, 114, 101, 112]⟩ : ByteArray)
  · subst e5; simp only [if_true] at hcon ⊢; exact thr_grep N X (conOf X) (grep_size N X hm) (hcon (by simp)) hm
  rw [if_neg e5] at hcon h8 ⊢
  by_cases e6 : n = (⟨#[110, 117, 109]⟩ : ByteArray)
  · subst e6; simp only [if_true]; exact thr_num N X hm
  rw [if_neg e6] at hcon h8 ⊢
  by_cases e7 : n = (⟨#[117, 110, 105, 113]⟩ : ByteArray)
  · subst e7; simp only [if_true]; exact thr_uniq N X hm
  rw [if_neg e7] at hcon h8 ⊢
  by_cases e8 : n = (⟨#[119, 99]⟩ : ByteArray)
  · subst e8; simp only [if_true]; exact thr_wc N X hm
  rw [if_neg e8] at h8
  omega
theorem gOf_bytes (x : S74) (u : List Int) (hb : byteL u) (h : (gOf x u).1 = 0) : (gOf x u).2.length ≤ 1048576 ∧ byteL (gOf x u).2 := thr_bytes _ _ _ u hb h
/-- Two cells in a block: a file. -/
theorem mayB_all {xs : List S74} {fr tp : ByteArray} (h : checkOf fr xs tp = 0) : ∀ x ∈ xs, mayB x = true := by
  intro x hx
  unfold checkOf at h
  repeat' (split at h; · omega)
  rename_i h1 _
  have : ¬ ∃ y ∈ xs, mayB y = false := by simpa using h1
  cases hm : mayB x with
  | true => rfl
  | false => exact absurd ⟨x, hx, hm⟩ this
set_option maxHeartbeats 4000000 in
set_option maxRecDepth 100000 in
theorem law_through.calls (A0 : Option Addr) (c0 : Nat) (l0 : List S28) (A1 : Option Addr) (c1 : Nat) (t : List Int) (w : World) (hr0 : Kd.C k28 w A0 l0.length l0) (hc0 : l0.length ≤ c0) (hl0 : l0.length < 3518437208883)
    (hr1 : Kd.C (Kd.int .u8) w A1 t.length t) (hc1 : t.length ≤ c1) (hbt : byteL t) (hcon : ∀ x ∈ l0, nameIx x.f0 = 5 → mayB (tOf x) = true → ConOK w x.f2 (conOf x.f2)) :
    Calls Tryz.prog 10 #[.slice A0 l0.length c0, .slice A1 t.length c1] w fun e w' => ∃ v, e = .returned (.tuple #[v, .bool ((lawOf l0 t).1 == 0)]) ∧ Fresh w' w.heap.size v (if (lawOf l0 t).1 = 0 then (lawOf l0 t).2 else []) ∧ Below w.heap.size w w' := by
  have hu := Tryz.underlying38
  have hu2 := Tryz.underlying50
  have hu3 := Tryz.underlying46
  obtain ⟨k, hk⟩ := Of_is (⟨#[97]⟩ : ByteArray) (⟨#[98]⟩ : ByteArray) false l0 hl0
  have HO := Lib.hid (millracelaw21_Of.calls k (⟨#[97]⟩ : ByteArray) A0 c0 l0 (⟨#[98]⟩ : ByteArray) false _ _ _ _ w hr0 hc0 hk)
  have HE := Lib.hid (fun (W : World) (hB : Below w.heap.size w W) (A : Option Addr) (c : Nat) (hr : Kd.C k74 W A (l0.map tOf).length (l0.map tOf)) (hc : (l0.map tOf).length ≤ c) (ad : Addr) (h0 : W.cell? ad = some (.string (⟨#[97]⟩ : ByteArray))) (h1 : W.cell? (ad.add 1) = some (.slice A1 t.length c1)) =>
    evalAB.calls (l0.map tOf) ((l0.map tOf).map gOf) A c w W ad 1 A1 c1 t hB hbt hr hc (by simp) (fun hch i hi => by
      have hi2 : i < (l0.map tOf).length := by simpa using hi
      have e : ((l0.map tOf).map gOf)[i] = gOf (l0.map tOf)[i] := List.getElem_map ..
      have e2 : rd_T74 (l0.map tOf) (i : Int) = (l0.map tOf)[i] := by rw [rd_T74, List.getD_eq_getElem?_getD, Int.toNat_natCast, List.getElem?_eq_getElem hi2]; rfl
      rw [e, e2]
      have hm := mayB_all hch _ (List.getElem_mem hi2)
      refine ⟨gOf_ok w _ hm (fun h5 => ?_), fun u hu h => gOf_bytes _ u hu h⟩
      have hi3 : i < l0.length := by simpa using hi2
      have e3 : (l0.map tOf)[i] = tOf l0[i] := List.getElem_map ..
      rw [e3] at hm h5 ⊢
      exact hcon l0[i] (List.getElem_mem hi3) h5 hm) h0 h1 (Kd.C_below hr1 hB) hc1)
  have HN := Lib.hid (fun (a : Int) (W : World) => millracelaw21_num.calls a a W rfl)
  have HC0 : Hid (∀ W : World, (W.alloc (.cells #[.string (⟨#[97]⟩ : ByteArray), .slice A1 t.length c1] 50)).cell? ⟨W.heap.size, 0, none⟩ = some (.string (⟨#[97]⟩ : ByteArray))) := fun W => blk_cell (blk_new W _) 0
  have HC1 : Hid (∀ W : World, (W.alloc (.cells #[.string (⟨#[97]⟩ : ByteArray), .slice A1 t.length c1] 50)).cell? ⟨W.heap.size, 1, none⟩ = some (.slice A1 t.length c1)) := fun W => blk_cell (blk_new W _) 1
  have e5 : lawOf l0 t = evalAB (l0.map tOf) ((l0.map tOf).map gOf) t := rfl
  rw [← e5] at HE
  simp only [List.length_map] at HE
  generalize lawOf l0 t = R at HE ⊢
  obtain ⟨er, out⟩ := R
  clear hr0 hr1 hcon hk e5 hbt
  have HG := Lib.hid (fun (v : Value) (xs : List S74) (W : World) (h : Kd.R k74 74 W w.heap.size (fun _ => True) v xs) => Kd.R_slice h)
  by_cases he : er = 0
  · subst he
    go_enter Tryz.func10, Tryz.ntmps10
    go_wp2_with (first
      | (go_at_call 17; go_must (refine HO.out.mono ?_); go_must (rintro e w1 ⟨v1, rfl, h1, q1⟩); obtain ⟨A, c, rfl⟩ := HG.out _ _ _ h1; have R1 := Lib.hid (Kd.R_reads' h1); simp only [List.length_map] at R1; clear h1)
      | (go_at_call 16; go_must (refine (HE.out _ ?hB A c ?hr ?hc ⟨w1.heap.size, 0, none⟩ ?h0 ?h1).mono ?_); (case hB => exact below_alloc q1 _); (case hr => exact Kd.C_below R1.out.2.2 (below_alloc (Below.refl _ _) _)); (case hc => exact R1.out.2.1); (case h0 => exact HC0.out w1); (case h1 => exact HC1.out w1); go_must (rintro e w2 ⟨qb, hp⟩); obtain ⟨g, cap, A1', c1', A2, c2, rfl, hge, g0, g1, g2, g3, f1, f2⟩ := (hp.resolve_left (fun h => h.1 rfl)).2; clear hp)
      | (go_at_call 22; go_must (refine (HN.out _ _).mono ?_); go_must (rintro e w3 ⟨rfl, hd⟩); have q3 : Below w2.heap.size w2 w3 := (by obtain ⟨nd, rfl⟩ := hd; exact pw_below_drewN (Below.refl _ _) _); have k2 := pw_cell_below q3 g2; have k3 := pw_cell_below q3 g3; clear hd))
    go_ret2
    exact ⟨_, rfl, (f2.below q3).mono (by have := q1.size; simp; omega), below_step (below_step (below_alloc q1 _) qb) q3⟩
  · have e0 : (er == 0) = false := by simpa using he
    have e1 : (er != 0) = true := by simpa using he
    rw [if_neg he]
    go_enter Tryz.func10, Tryz.ntmps10
    go_wp2_with (first
      | (go_at_call 17; go_must (refine HO.out.mono ?_); go_must (rintro e w1 ⟨v1, rfl, h1, q1⟩); obtain ⟨A, c, rfl⟩ := HG.out _ _ _ h1; have R1 := Lib.hid (Kd.R_reads' h1); simp only [List.length_map] at R1; clear h1)
      | (go_at_call 16; go_must (refine (HE.out _ ?hB A c ?hr ?hc ⟨w1.heap.size, 0, none⟩ ?h0 ?h1).mono ?_); (case hB => exact below_alloc q1 _); (case hr => exact Kd.C_below R1.out.2.2 (below_alloc (Below.refl _ _) _)); (case hc => exact R1.out.2.1); (case h0 => exact HC0.out w1); (case h1 => exact HC1.out w1); go_must (rintro e w2 ⟨qb, hp⟩); obtain rfl := (hp.resolve_right (fun h => he h.1)).2; clear hp)
      | (go_at_call 22; go_must (refine (HN.out _ _).mono ?_); go_must (rintro e w3 ⟨rfl, hd⟩); have q3 : Below w2.heap.size w2 w3 := (by obtain ⟨nd, rfl⟩ := hd; exact pw_below_drewN (Below.refl _ _) _); clear hd))
    go_ret2
    refine ⟨_, by simp only [e0]; rfl, Fresh.nil _ _, below_step (below_step (below_alloc q1 _) qb) q3⟩

end Go.Proofs.YthmijenlndnmcaaGreatDoor.Sh
