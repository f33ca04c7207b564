/-
  Hand-made contracts of functions of the program: Ln, LnTools, LawThrough.
-/
import Derived.Test.YthmijenlndnmcaaGreatDoorHE
import Derived.Test.YthmijenlndnmcaaGreatDoorShx3
import Derived.Test.YthmijenlndnmcaaGreatDoorShx5
import Derived.Test.YthmijenlndnmcaaGreatDoorShx6
import Derived.Test.YthmijenlndnmcaaGreatDoorShx0
namespace Go.Proofs.YthmijenlndnmcaaGreatDoor.Sh
open Go.RowKit Go.Proofs.YthmijenlndnmcaaGreatDoorW.PrintWords Go.Proofs.YthmijenlndnmcaaGreatDoorW.PrintLast Go.Proofs.YthmijenlndnmcaaGreatDoorW.PrintMore
attribute [local go_sem] max2_int min2_int max_two min_two max_three min_three max_four min_four
set_option linter.unusedVariables false
set_option linter.unusedSimpArgs false
def ln : List Int → List (List Int)
  | [] => []
  | c :: r => if c = 10 then [c] :: ln r else match ln r with
    | [] => [[c]]
    | h :: tl => (c :: h) :: tl
theorem ln_ne : ∀ l : List Int, ln l = [] → l = [] := by
  intro l
  cases l with
  | nil => intro _; rfl
  | cons c r =>
    intro h
    simp only [ln] at h
    split at h
    · cases h
    · split at h <;> cases h
theorem ln_flat : ∀ l : List Int, (ln l).flatten = l := by
  intro l
  induction l with
  | nil => rfl
  | cons c r ih =>
    simp only [ln]
    split
    · simp [ih]
    · split
      · rename_i h
        have := ln_ne r h
        subst this; rfl
      · rename_i h tl e
        rw [e] at ih
        simp only [List.flatten_cons] at ih ⊢
        rw [List.cons_append, ih]
def full (l : List Int) : Prop := ∃ b, (10 : Int) ∉ b ∧ l = b ++ [10]
theorem ln_full : ∀ (b rest : List Int), (10 : Int) ∉ b → ln (b ++ 10 :: rest) = (b ++ [10]) :: ln rest := by
  intro b
  induction b with
  | nil => intro rest _; simp [ln]
  | cons c r ih =>
    intro rest h
    simp only [List.mem_cons, not_or] at h
    rw [List.cons_append, ln, if_neg (fun e => h.1 e.symm), ih rest h.2]
    rfl
theorem u8_ten (c : Int) (h : 0 ≤ c ∧ c < 256) : (UInt8.ofNat c.toNat == 10) = decide (c = 10) := by
  obtain ⟨n, rfl⟩ := Int.eq_ofNat_of_zero_le h.1
  have hn : n < 256 := by omega
  by_cases e : n = 10
  · subst e; rfl
  · have : UInt8.ofNat n ≠ 10 := by
      intro h2
      have := congrArg UInt8.toNat h2
      rw [UInt8.toNat_ofNat_of_lt' (by simpa using hn)] at this
      exact e this
    rw [decide_eq_false (by omega)]
    simpa using this
theorem firstLen_cons (c : Int) (r : List Int) (h : 0 ≤ c ∧ c < 256) : firstLen (c :: r) = if c = 10 then 1 else 1 + firstLen r := by
  have hu := u8_ten c h
  have hge := Lib.indexByte_ge (Lib.bytesOf r) 10
  unfold firstLen
  have e : Lib.bytesOf (c :: r) = UInt8.ofNat c.toNat :: Lib.bytesOf r := rfl
  rw [e, Lib.indexByte]
  by_cases hc : c = 10
  · simp [hc]
  · rw [if_neg hc, hu]
    simp only [hc, decide_false, Bool.false_eq_true, if_false]
    generalize Lib.indexByte (Lib.bytesOf r) 10 = i at *
    by_cases hi : i = -1
    · subst hi
      simp
      omega
    · have hi2 : (i == -1) = false := by simpa using hi
      rw [hi2]
      simp only [Bool.false_eq_true, if_false]
      rw [if_pos (by omega), if_pos (by omega)]
      omega
theorem ln_first : ∀ l : List Int, byteL l → l ≠ [] → ln l = l.take (firstLen l) :: ln (l.drop (firstLen l)) := by
  intro l
  induction l with
  | nil => intro _ h; exact absurd rfl h
  | cons c r ih =>
    intro hb _
    have hc := hb c (by simp)
    have hr : byteL r := fun x hx => hb x (by simp [hx])
    rw [firstLen_cons c r hc, ln]
    split
    · simp
    · cases r with
      | nil => rfl
      | cons d s =>
        rw [ih hr (by simp), Nat.add_comm 1, List.take_succ_cons, List.drop_succ_cons]
theorem byteL_drop {l : List Int} (h : byteL l) (n : Nat) : byteL (l.drop n) := fun x hx => h x (List.mem_of_mem_drop hx)
theorem lines_lnF : ∀ (f o : Nat) (t : List Int), byteL t → t.length ≤ o + f → (spansF f o (t.drop o)).map (lineAt t) = ln (t.drop o) := by
  intro f
  induction f with
  | zero =>
    intro o t _ h
    rw [spansF, List.drop_eq_nil_of_le (by omega)]
    rfl
  | succ f ih =>
    intro o t hb h
    rw [spansF]
    split
    · rename_i e; rw [e]; rfl
    · rename_i e
      have hp := firstLen_pos (List.length_pos_iff.2 e)
      rw [List.map_cons, List.drop_drop, ih _ t hb (by omega), ln_first _ (byteL_drop hb o) e, List.drop_drop]
      rfl
theorem lines_ln (t : List Int) (hb : byteL t) : (spans t).map (lineAt t) = ln t := by
  have := lines_lnF t.length 0 t hb (by omega)
  rwa [List.drop_zero] at this
theorem mem_ln {t l : List Int} (h : l ∈ ln t) : ∀ x ∈ l, x ∈ t := by
  intro x hx
  rw [← ln_flat t]
  exact List.mem_flatten.2 ⟨l, h, hx⟩
theorem byteL_ln {t l : List Int} (hb : byteL t) (h : l ∈ ln t) : byteL l := fun x hx => hb x (mem_ln h x hx)
def revL (li : List Int) : List Int := turnOf li (li.length - endLen li)
theorem revL_mem (l : List Int) : ∀ x ∈ revL l, x ∈ l := by
  intro x hx
  unfold revL turnOf at hx
  rcases List.mem_append.1 hx with h | h
  · exact List.mem_of_mem_take (List.mem_reverse.1 h)
  · exact List.mem_of_mem_drop h
theorem bigOf_byte {c : Int} (h : 0 ≤ c ∧ c < 256) : 0 ≤ bigOf c ∧ bigOf c < 256 := by
  unfold bigOf
  split <;> omega
theorem byteL_bytesOf (s : ByteArray) : byteL (bytesOf s) := by
  intro x hx
  obtain ⟨b, _, rfl⟩ := List.mem_map.1 hx
  have := b.toNat_lt
  omega
theorem byteL_app {a b : List Int} (ha : byteL a) (hb : byteL b) : byteL (a ++ b) := by
  intro x hx
  rcases List.mem_append.1 hx with h | h
  · exact ha x h
  · exact hb x h
theorem byteL_nil : byteL [] := fun _ h => by cases h
theorem feedOf_bytes (i : Nat) (N : Int) (g : List Int → Bool) (st : List Int) (n : Int) (li : List Int) (h : byteL li) : byteL (feedOf i N g st n li).1 := by
  match i with
  | 0 => exact h
  | 1 =>
    intro x hx
    obtain ⟨y, hy, rfl⟩ := List.mem_map.1 hx
    exact bigOf_byte (h y hy)
  | 2 => exact fun x hx => h x (revL_mem li x hx)
  | 3 => show byteL (if _ then li else []); split; exact h; exact byteL_nil
  | 4 => show byteL (if _ then li else []); split; exact h; exact byteL_nil
  | 5 => show byteL (if _ then li else []); split; exact h; exact byteL_nil
  | 6 => exact byteL_app (byteL_app (byteL_bytesOf _) (by intro x hx; simp at hx; omega)) h
  | 7 => show byteL (if _ then li else []); split; exact h; exact byteL_nil
  | n + 8 => exact byteL_nil
theorem goL_bytes {F : List Int → Int → List Int → List Int × List Int × Int × Bool} (hF : ∀ st n li, byteL li → byteL (F st n li).1) : ∀ (ls : List (List Int)) (out st : List Int) (n : Int) (m : Bool), (∀ l ∈ ls, byteL l) → byteL out → byteL (goL F ls out st n m).2.1 := by
  intro ls
  induction ls with
  | nil => intro out st n m _ h; exact h
  | cons x r ih =>
    intro out st n m hl ho
    rw [goL]
    split
    · exact ho
    split
    · exact byteL_nil
    split
    · exact byteL_nil
    · exact ih _ _ _ _ (fun l h => hl l (by simp [h])) (byteL_app ho (hF _ _ _ (hl x (by simp))))
theorem thr_bytes (i : Nat) (N : Int) (g : List Int → Bool) (t : List Int) (hb : byteL t) (h : (thrOf i N g t).1 = 0) : (thrOf i N g t).2.length ≤ 1048576 ∧ byteL (thrOf i N g t).2 := by
  unfold thrOf throughOf at h ⊢
  rw [lines_ln t hb] at h ⊢
  generalize (if i = 3 then decide (0 < N) else true) = m at h ⊢
  simp only at h ⊢
  split
  · rename_i h2; rw [if_pos h2] at h; exact absurd h h2
  rename_i h2
  rw [if_neg h2] at h
  split
  · rename_i h3; rw [if_pos h3] at h; simp at h
  rename_i h3
  refine ⟨Nat.le_of_not_lt h3, byteL_app (goL_bytes (feedOf_bytes i N g) _ _ _ _ _ (fun l hl => byteL_ln hb hl) byteL_nil) ?_⟩
  unfold endOf
  split
  · exact byteL_bytesOf _
  · exact byteL_nil
def nameIx (s : ByteArray) : Nat :=
  if s = (⟨#[99, 97, 116]⟩ : ByteArray) then 0 else if s = (⟨#[117, 112, 112, 101, 114]⟩ : ByteArray) then 1 else if s = (⟨#[114, 101, 118]⟩ : ByteArray) then 2
  else if s = (⟨#[104, 101, 97, 100]⟩ : ByteArray) then 3 else if s = (⟨#[115, 107, 105, 112]⟩ : ByteArray) then 4 else if s = (⟨#[103, 114, 101, 112]⟩ : ByteArray) then 5
  else if s = (⟨#[110, 117, 109]⟩ : ByteArray) then 6 else if s = (⟨#[117, 110, 105, 113]⟩ : ByteArray) then 7 else if s = (⟨#[119, 99]⟩ : ByteArray) then 8 else 9
def conOf (X : ByteArray) (li : List Int) : Bool := Lib.contains (Lib.bytesOf li) X.data.toList
def gOf (x : S74) : List Int → Int × List Int := thrOf (nameIx x.f0) x.f1 (if nameIx x.f0 = 5 then conOf x.f2 else fun _ => false)
def tOf (x : S28) : S74 := ⟨x.f0, x.f1, x.f2⟩
theorem wants_name (s : ByteArray) (h : nameIx s = 9) : shell_wants.f 9 s = some 3 := by
  unfold nameIx at h
  have e : ∀ (l : List UInt8), s ≠ ⟨l.toArray⟩ → ¬ s.toList = l := fun l hn hl => hn (str_eq_of (by rw [← ByteArray.toList_eq, hl]))
  repeat' (split at h; · omega)
  rename_i h0 h1 h2 h3 h4 h5 h6 h7 h8
  have e0 := e [99, 97, 116] h0
  have e1 := e [117, 112, 112, 101, 114] h1
  have e2 := e [114, 101, 118] h2
  have e3 := e [104, 101, 97, 100] h3
  have e4 := e [115, 107, 105, 112] h4
  have e5 := e [103, 114, 101, 112] h5
  have e6 := e [110, 117, 109] h6
  have e7 := e [117, 110, 105, 113] h7
  have e8 := e [119, 99] h8
  simp [shell_wants.f, shell_wants.j0, shell_wants.j1, e0, e1, e2, e3, e4, e5, e6, e7, e8]
theorem may_name (x : S74) (h : mayB x = true) : nameIx x.f0 ≤ 8 := by
  have hm := may_is x
  rw [h] at hm
  have h9 : nameIx x.f0 ≤ 9 := by unfold nameIx; repeat' split
                                  all_goals omega
  by_cases h8 : nameIx x.f0 = 9
  · unfold shell_Tool_may.f at hm
    rw [wants_name _ h8] at hm
    simp at hm
  · omega
theorem Of_is (fr tp : ByteArray) (ap : Bool) (l : List S28) (hl : l.length < 3518437208883) : ∃ k, millracelaw21_Of.f k fr l tp ap = some (fr, l.map tOf, tp, ap) := by
  refine ⟨l.length + 1, ?_⟩
  unfold millracelaw21_Of.f
  have : ∀ (m i : Nat), i + m = l.length → millracelaw21_Of.l0 (m + 1) (i : Int) fr l tp ap fr ((l.take i).map tOf) tp ap = some (fr, l.map tOf, tp, ap) := by
    intro m
    induction m with
    | zero =>
      intro i hi
      rw [millracelaw21_Of.l0, if_neg (by omega), List.take_of_length_le (by omega)]
    | succ m ih =>
      intro i hi
      rw [millracelaw21_Of.l0, if_pos (by omega), if_pos (by omega), if_pos (by simp; omega)]
      have e1 : wrap64 ((i : Int) + 1) = ((i + 1 : Nat) : Int) := by unfold wrap64; omega
      have hil : i < l.length := by omega
      have e2 : rd_T28 l (i : Int) = l[i] := by simp [rd_T28, List.getD_eq_getElem?_getD, hil]
      have e3 : (l.take i).map tOf ++ [(⟨(rd_T28 l (i : Int)).f0, (rd_T28 l (i : Int)).f1, (rd_T28 l (i : Int)).f2⟩ : S74)] = (l.take (i + 1)).map tOf := by
        rw [List.take_succ_eq_append_getElem hil, List.map_append, e2]; rfl
      rw [e1, e3]
      exact ih (i + 1) (by omega)
  exact this l.length 0 (by omega)
theorem grep_size (N : Int) (X : ByteArray) (hm : shell_Tool_may.f 9 (⟨#[103, 114, 101, 112]⟩ : ByteArray) N X = some true) : X.size ≤ 100 := by
  have hw : shell_wants.f 9 (⟨#[103, 114, 101, 112]⟩ : ByteArray) = some 2 := by decide +kernel
  unfold shell_Tool_may.f at hm
  rw [hw] at hm
  simp only [Option.bind_some] at hm
  rw [if_neg (by omega), if_neg (by omega), if_pos (by trivial), named_is] at hm
  simp only [Option.bind_some] at hm
  split at hm
  · have h2 : nameB X = true := by simpa using hm
    unfold nameB at h2
    have h3 : kernNamed X = true := by simp only [Bool.and_eq_true] at h2; exact h2.1
    have := kernNamed_le h3
    omega
  · simp at hm
theorem gOf_ok (w0 : World) (x : S74) (h : mayB x = true) (hcon : nameIx x.f0 = 5 → ConOK w0 x.f2 (conOf x.f2)) : ThrOK w0 x (gOf x) := by
  have hm := may_is x
  rw [h] at hm
  have h8 := may_name x h
  obtain ⟨n, N, X⟩ := x
  unfold gOf
  simp only at hm hcon h8 ⊢
  unfold nameIx at hcon h8 ⊢
  by_cases e0 : n = (⟨#[99, 97, 116]⟩ : ByteArray)
  · subst e0; simp only [if_true]; exact thr_cat N X hm
  rw [if_neg e0] at hcon h8 ⊢
  by_cases e1 : n = (⟨#[117, 112, 112, 101, 114]⟩ : ByteArray)
  · subst e1; simp only [if_true]; exact thr_upper N X hm
  rw [if_neg e1] at hcon h8 ⊢
  by_cases e2 : n = (⟨#[114, 101, 118]⟩ : ByteArray)
  · subst e2; simp only [if_true]; exact thr_rev N X hm
  rw [if_neg e2] at hcon h8 ⊢
  by_cases e3 : n = (⟨#[104, 101, 97, 100]⟩ : ByteArray)
  · subst e3; simp only [if_true]; exact thr_head N X hm
  rw [if_neg e3] at hcon h8 ⊢
  by_cases e4 : n = (⟨#[115, 107, 105, 112]⟩ : ByteArray)
  · subst e4; simp only [if_true]; exact thr_skip N X hm
  rw [if_neg e4] at hcon h8 ⊢
  by_cases e5 : n = (⟨#[103, 114, 101, 112]⟩ : ByteArray)
  · subst e5; simp only [if_true] at hcon ⊢; exact thr_grep N X (conOf X) (grep_size N X hm) (hcon (by simp)) hm
  rw [if_neg e5] at hcon h8 ⊢
  by_cases e6 : n = (⟨#[110, 117, 109]⟩ : ByteArray)
  · subst e6; simp only [if_true]; exact thr_num N X hm
  rw [if_neg e6] at hcon h8 ⊢
  by_cases e7 : n = (⟨#[117, 110, 105, 113]⟩ : ByteArray)
  · subst e7; simp only [if_true]; exact thr_uniq N X hm
  rw [if_neg e7] at hcon h8 ⊢
  by_cases e8 : n = (⟨#[119, 99]⟩ : ByteArray)
  · subst e8; simp only [if_true]; exact thr_wc N X hm
  rw [if_neg e8] at h8
  omega
theorem gOf_bytes (x : S74) (u : List Int) (hb : byteL u) (h : (gOf x u).1 = 0) : (gOf x u).2.length ≤ 1048576 ∧ byteL (gOf x u).2 := thr_bytes _ _ _ u hb h
theorem mayB_all {xs : List S74} {fr tp : ByteArray} (h : checkOf fr xs tp = 0) : ∀ x ∈ xs, mayB x = true := by
  intro x hx
  unfold checkOf at h
  repeat' (split at h; · omega)
  rename_i h1 _
  have : ¬ ∃ y ∈ xs, mayB y = false := by simpa using h1
  cases hm : mayB x with
  | true => rfl
  | false => exact absurd ⟨x, hx, hm⟩ this
end Go.Proofs.YthmijenlndnmcaaGreatDoor.Sh
