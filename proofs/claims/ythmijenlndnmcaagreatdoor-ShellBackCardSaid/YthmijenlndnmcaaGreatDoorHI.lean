/-
  Hand-made contracts of functions of the program: Split, BackA.
-/
import Derived.Test.YthmijenlndnmcaaGreatDoorHY
import Derived.Test.YthmijenlndnmcaaGreatDoorHT
import Derived.Laws.RangeString
import Derived.Laws.RangeAny
import Derived.Test.YthmijenlndnmcaaGreatDoorShx5
import Derived.Test.YthmijenlndnmcaaGreatDoorShx0
namespace Go.Proofs.YthmijenlndnmcaaGreatDoor.Sh
open Go.RowKit Go.Proofs.YthmijenlndnmcaaGreatDoorW.PrintWords Go.Proofs.YthmijenlndnmcaaGreatDoorW.PrintLast Go.Proofs.YthmijenlndnmcaaGreatDoorW.PrintMore
attribute [local go_sem] max2_int min2_int max_two min_two max_three min_three max_four min_four
set_option linter.unusedVariables false
set_option linter.unusedSimpArgs false
def ofL (l : List UInt8) : ByteArray := ⟨l.toArray⟩
theorem ofL_self (s : ByteArray) : ofL s.data.toList = s := str_eq_of rfl
theorem set_at {α : Type} (x y : α) (post : List α) : ∀ pre : List α, (pre ++ x :: post).set pre.length y = pre ++ y :: post
  | [] => rfl
  | a :: r => by simp
def pieces (c : UInt8) : List UInt8 → List (List UInt8)
  | [] => [[]]
  | x :: r => if x = c then [] :: pieces c r else match pieces c r with | p :: ps => (x :: p) :: ps | [] => [[x]]
theorem pieces_cons {c x : UInt8} (h : x ≠ c) {r p : List UInt8} {ps : List (List UInt8)} (hp : pieces c r = p :: ps) : pieces c (x :: r) = (x :: p) :: ps := by
  simp only [pieces, hp, if_neg h]
theorem idx_none (c : UInt8) : ∀ l : List UInt8, l.count c = 0 → Lib.indexByte l c = -1 ∧ pieces c l = [l] := by
  intro l
  induction l with
  | nil => intro _; exact ⟨rfl, rfl⟩
  | cons x r ih =>
    intro h
    have hx : x ≠ c := by intro e; subst e; simp at h
    have hr : r.count c = 0 := by rw [List.count_cons_of_ne hx] at h; exact h
    obtain ⟨h1, h2⟩ := ih hr
    refine ⟨?_, pieces_cons hx h2⟩
    have hb : (x == c) = false := by simpa using hx
    simp [Lib.indexByte, hb, h1]
theorem idx_some (c : UInt8) : ∀ l : List UInt8, 0 < l.count c → ∃ m : Nat, Lib.indexByte l c = (m : Int) ∧ m < l.length ∧ pieces c l = l.take m :: pieces c (l.drop (m + 1)) ∧ (l.drop (m + 1)).count c + 1 = l.count c := by
  intro l
  induction l with
  | nil => intro h; simp at h
  | cons x r ih =>
    intro h
    by_cases hx : x = c
    · subst hx
      exact ⟨0, by simp [Lib.indexByte], by simp, by simp [pieces], by simp⟩
    · rw [List.count_cons_of_ne hx] at h
      obtain ⟨m, h1, h2, h3, h4⟩ := ih h
      have hb : (x == c) = false := by simpa using hx
      refine ⟨m + 1, ?_, by simp; omega, ?_, ?_⟩
      · have : ¬ ((m : Int) = -1) := by omega
        simp [Lib.indexByte, hb, h1, this]
      · rw [pieces_cons hx h3]; rfl
      · rw [List.count_cons_of_ne hx, List.drop_succ_cons]; exact h4
theorem index_of (s : ByteArray) : strings_Index.f s ⟨#[32]⟩ = some (Lib.indexByte s.data.toList 32) := rfl
theorem count_of (s : ByteArray) : strings_Count.f s ⟨#[32]⟩ = some ((s.data.toList.count 32 : Nat) : Int) := rfl
theorem split_loop : ∀ (n : Nat) (s : ByteArray) (pre : List ByteArray) (k : Nat), s.size ≤ 65536 → pre.length + n ≤ 70000 → s.data.toList.count 32 = n → n + 1 ≤ k →
    strings_genSplit.l0 k s ⟨#[32]⟩ 0 ((pre.length + n : Nat) : Int) (pre ++ List.replicate (n + 1) ⟨#[]⟩) (pre.length : Int) = some (pre ++ (pieces 32 s.data.toList).map ofL) := by
  intro n
  induction n with
  | zero =>
    intro s pre k hs hp hc hk
    obtain ⟨k, rfl⟩ : ∃ i, k = i + 1 := ⟨k - 1, by omega⟩
    have e1 : wrap64 ((pre.length : Int) + 1) = ((pre.length + 1 : Nat) : Int) := by unfold wrap64; omega
    have hl : ((pre ++ List.replicate (0 + 1) (⟨#[]⟩ : ByteArray)).length : Int) = (pre.length : Int) + 1 := by simp
    simp only [strings_genSplit.l0, e1, hl, Int.toNat_natCast]
    rw [if_neg (by omega), if_pos (by omega), if_pos (by omega), if_pos (by omega), if_pos (by omega)]
    have hset : (pre ++ List.replicate (0 + 1) (⟨#[]⟩ : ByteArray)).set pre.length s = pre ++ [s] := set_at _ _ _ _
    rw [hset, List.take_of_length_le (by simp), (idx_none 32 _ hc).2]
    simp [ofL_self]
  | succ n ih =>
    intro s pre k hs hp hc hk
    obtain ⟨k, rfl⟩ : ∃ i, k = i + 1 := ⟨k - 1, by omega⟩
    obtain ⟨m, h1, h2, h3, h4⟩ := idx_some 32 s.data.toList (by omega)
    rw [size_list] at h2
    have e1 : wrap64 ((pre.length : Int) + 1) = ((pre.length + 1 : Nat) : Int) := by unfold wrap64; omega
    have e2 : wrap64 ((m : Int) + 0) = (m : Int) := by unfold wrap64; omega
    have e3 : wrap64 ((m : Int) + (((⟨#[32]⟩ : ByteArray).size : Nat) : Int)) = ((m + 1 : Nat) : Int) := by
      have : (⟨#[32]⟩ : ByteArray).size = 1 := rfl
      rw [this]; unfold wrap64; omega
    have hl : ((pre ++ List.replicate (n + 1 + 1) (⟨#[]⟩ : ByteArray)).length : Int) = (pre.length : Int) + (n : Int) + 2 := by simp; omega
    have hset : ∀ v : ByteArray, (pre ++ List.replicate (n + 1 + 1) (⟨#[]⟩ : ByteArray)).set pre.length v = (pre ++ [v]) ++ List.replicate (n + 1) ⟨#[]⟩ := by
      intro v; rw [List.replicate_succ, set_at]; simp
    have f1 : ¬ ((m : Int) < 0) := Int.not_lt.2 (Int.natCast_nonneg m)
    have f2 : (0 : Int) ≤ (m : Int) := Int.natCast_nonneg m
    have f3 : (m : Int) ≤ (s.size : Int) := Int.ofNat_le.2 (Nat.le_of_lt h2)
    have f4 : (0 : Int) ≤ (pre.length : Int) := Int.natCast_nonneg _
    have f5 : (pre.length : Int) < (pre.length : Int) + (n : Int) + 2 := by
      have := Int.natCast_nonneg n
      clear hc h1 h2 h3 h4 e1 e2 e3 hl hset f1 f2 f3 f4 hs hp ih hk
      omega
    have f6 : (0 : Int) ≤ ((m + 1 : Nat) : Int) := Int.natCast_nonneg _
    have f7 : ((m + 1 : Nat) : Int) ≤ (s.size : Int) := Int.ofNat_le.2 h2
    rw [strings_genSplit.l0, if_pos (by omega), index_of, h1, Option.bind_some, e2, e3, e1, if_neg f1, if_pos f2, if_pos f3, if_pos f4, hl, if_pos f5, if_pos f6, if_pos f7]
    simp only [Int.toNat_natCast]
    rw [hset]
    have hd : (s.extract (m + 1) s.size).data.toList = s.data.toList.drop (m + 1) := by
      rw [ByteArray.data_extract, Array.toList_extract]
      simp only [List.extract]
      apply List.take_of_length_le
      rw [List.length_drop, size_list]; exact Nat.le_refl _
    have ht : s.extract 0 m = ofL (s.data.toList.take m) := by
      apply str_eq_of
      rw [ByteArray.data_extract, Array.toList_extract]
      simp [List.extract, ofL]
    have hsz : (s.extract (m + 1) s.size).size ≤ 65536 := by
      have e : (s.extract (m + 1) s.size).size = s.size - (m + 1) := by rw [← size_list, hd, List.length_drop, size_list]
      rw [e]; exact Nat.le_trans (Nat.sub_le _ _) hs
    have hpn : (pre ++ [s.extract 0 m]).length + n ≤ 70000 := by
      have e : (pre ++ [s.extract 0 m]).length + n = pre.length + (n + 1) := by simp; omega
      rw [e]; exact hp
    have hcn : (s.data.toList.drop (m + 1)).count 32 = n := by
      have : (s.data.toList.drop (m + 1)).count 32 + 1 = n + 1 := h4.trans hc
      exact Nat.succ.inj this
    have := ih (s.extract (m + 1) s.size) (pre ++ [s.extract 0 m]) k hsz hpn (by rw [hd]; exact hcn) (Nat.le_of_succ_le_succ hk)
    rw [hd] at this
    have en : (((pre ++ [s.extract 0 m]).length + n : Nat) : Int) = ((pre.length + (n + 1) : Nat) : Int) := by simp; omega
    have ep : (((pre ++ [s.extract 0 m]).length : Nat) : Int) = ((pre.length + 1 : Nat) : Int) := by simp
    rw [en, ep] at this
    rw [this, h3, ht]
    simp
theorem split_is (s : ByteArray) (hs : s.size ≤ 65536) (k : Nat) (hk : s.size + 5 ≤ k) : strings_Split.f k s ⟨#[32]⟩ = some ((pieces 32 s.data.toList).map ofL) := by
  obtain ⟨k, rfl⟩ : ∃ i, k = i + 1 := ⟨k - 1, by omega⟩
  have hc := List.count_le_length (a := (32 : UInt8)) (l := s.data.toList)
  rw [size_list] at hc
  obtain ⟨n, hn⟩ : ∃ n, n = s.data.toList.count 32 := ⟨_, rfl⟩
  rw [← hn] at hc
  have h0 := split_loop n s [] k hs (by rw [List.length_nil, Nat.zero_add]; exact Nat.le_trans hc (Nat.le_trans hs (by decide))) hn.symm (by clear hn; omega)
  have HN := Lib.hid hn
  clear hn
  have e1 : wrap64 (((n : Nat) : Int) + 1) = ((n + 1 : Nat) : Int) := by unfold wrap64; omega
  have e2 : wrap64 ((s.size : Int) + 1) = ((s.size + 1 : Nat) : Int) := by unfold wrap64; omega
  have e3 : mn ((n + 1 : Nat) : Int) ((s.size + 1 : Nat) : Int) = ((n + 1 : Nat) : Int) := by unfold mn; rw [if_neg (by omega)]
  have e4 : wrap64 (((n + 1 : Nat) : Int) - 1) = ((n : Nat) : Int) := by unfold wrap64; omega
  have hne : ¬ (⟨#[32]⟩ : ByteArray).toList = [] := by rw [ByteArray.toList_eq]; decide
  simp only [List.nil_append, List.length_nil, Nat.zero_add] at h0
  have h0 : strings_genSplit.l0 k s ⟨#[32]⟩ 0 ((n : Nat) : Int) (List.replicate (n + 1) ⟨#[]⟩) 0 = _ := h0
  simp only [strings_Split.f, strings_genSplit.f]
  rw [if_neg (by omega), if_neg hne, if_pos (by omega), count_of, ← HN.out]
  rw [Option.bind_some, e1, strings_genSplit.j0, e2, e3, e4]
  rw [Int.toNat_natCast]
  have g1 : (0 : Int) ≤ ((n + 1 : Nat) : Int) := Int.natCast_nonneg _
  have g2 : n + 1 ≤ 17592186044416 := Nat.le_trans (Nat.succ_le_succ hc) (Nat.le_trans (Nat.succ_le_succ hs) (by decide))
  rw [if_pos g1, if_pos g2, h0]
  simp only [Option.bind_some]
theorem pieces_none : ∀ w : List UInt8, (32 : UInt8) ∉ w → pieces 32 w = [w] := by
  intro w
  induction w with
  | nil => intro _; rfl
  | cons x r ih =>
    intro h
    simp only [List.mem_cons, not_or] at h
    exact pieces_cons (Ne.symm h.1) (ih h.2)
theorem pieces_word : ∀ (w rest : List UInt8), (32 : UInt8) ∉ w → pieces 32 (w ++ 32 :: rest) = w :: pieces 32 rest := by
  intro w rest
  induction w with
  | nil => intro _; rw [List.nil_append, pieces, if_pos rfl]
  | cons x r ih =>
    intro h
    simp only [List.mem_cons, not_or] at h
    rw [List.cons_append]
    exact pieces_cons (Ne.symm h.1) (ih h.2)
theorem pieces_words (tp : ByteArray) (ht : (32 : UInt8) ∉ tp.data.toList) : ∀ W : List ByteArray, (∀ s ∈ W, (32 : UInt8) ∉ s.data.toList) → pieces 32 ((spw W).data.toList ++ tp.data.toList) = W.map (·.data.toList) ++ [tp.data.toList] := by
  intro W
  induction W with
  | nil => intro _; exact pieces_none _ ht
  | cons w r ih =>
    intro h
    have e : (spw (w :: r)).data.toList ++ tp.data.toList = w.data.toList ++ 32 :: ((spw r).data.toList ++ tp.data.toList) := by simp [spw]
    rw [e, pieces_word _ _ (h w (by simp)), ih (fun s hs => h s (by simp [hs]))]
    rfl
theorem idx_all (s : ByteArray) : ∀ (f i : Nat), s.size ≤ i + f → Lib.idxFuncFrom kernBad true s f i = -1 → ∀ j, i ≤ j → ∀ hj : j < s.size, 33 ≤ (s[j]'hj).toNat := by
  intro f
  induction f with
  | zero => intro i hs _ j hij hj; omega
  | succ f ih =>
    intro i hs h j hij hj
    have hi : i < s.size := by omega
    rw [Lib.idxFuncFrom, if_pos hi] at h
    by_cases hk : kernBad (Utf8.decode s i).1 = true
    · rw [if_pos hk] at h; omega
    · rw [if_neg hk] at h
      have hlo : (s[i]'hi).toNat < 128 := by
        by_cases h3 : (s[i]'hi).toNat < 128
        · exact h3
        · have := (decode_high s i hi (by omega)).1
          exact absurd (by simp [kernBad]; omega) hk
      rw [decode_ascii s i hi hlo] at h hk
      by_cases e : j = i
      · subst e
        simp [kernBad] at hk
        omega
      · exact ih (i + 1) (by omega) h j (by omega) hj
theorem name_space {s : ByteArray} (h : nameB s = true) : (32 : UInt8) ∉ s.data.toList := by
  intro hm
  have hk : kernNamed s = true := by unfold nameB at h; simp only [Bool.and_eq_true] at h; exact h.1
  have hs := kernNamed_le hk
  obtain ⟨j, hj, e⟩ := List.mem_iff_getElem.1 hm
  have hj2 : j < s.size := hj
  have hx : Lib.idxFuncFrom kernBad true s s.size 0 = -1 := by
    unfold kernNamed at hk
    simp only [Bool.and_eq_true, Bool.not_eq_true', Lib.idxFunc] at hk
    rcases Lib.idxFuncFrom_range kernBad true s s.size 0 with h | ⟨h, _⟩
    · exact h
    · exact absurd (show (0 : Int) ≤ _ by simpa using h) (of_decide_eq_false hk.2.2)
  have := idx_all s s.size 0 (by omega) hx j (Nat.zero_le _) hj2
  have e2 : (s[j]'hj2) = 32 := e
  rw [e2] at this
  exact absurd this (by decide)
def goodW (s : ByteArray) : Prop := (0 < s.size ∧ s.size ≤ 4096) ∧ (32 : UInt8) ∉ s.data.toList
theorem known_good {s : ByteArray} (h : knownB s = true) : goodW s ∧ signB s = false ∧ (s.toList == ([60] : List UInt8)) = false := by
  have e : ∀ l : List UInt8, s.toList = l → s.data.toList = l := fun l h => by rw [← h, ByteArray.toList_eq]
  have key : ∀ l : List UInt8, s.toList = l → (0 < l.length ∧ l.length ≤ 4096) → (32 : UInt8) ∉ l → ((l == ([124] : List UInt8)) || ((l == ([60] : List UInt8)) || ((l == ([62] : List UInt8)) || (l == ([62, 62] : List UInt8))))) = false → goodW s ∧ signB s = false ∧ (s.toList == ([60] : List UInt8)) = false := by
    intro l hl h1 h2 h3
    refine ⟨⟨by rw [list_size hl]; exact h1, by rw [e l hl]; exact h2⟩, by unfold signB; rw [hl]; exact h3, ?_⟩
    rw [hl]
    simp only [Bool.or_eq_false_iff] at h3
    exact h3.2.1
  unfold knownB at h
  simp only [Bool.or_eq_true, beq_iff_eq] at h
  rcases h with ((((((((h | h) | h) | h) | h) | h) | h) | h) | h) <;> exact key _ h.symm (by decide) (by decide) (by decide)
theorem may_known {x : S74} (h : mayB x = true) : knownB x.f0 = true := by
  cases hk : knownB x.f0 with
  | true => rfl
  | false =>
    have hw := wants_val x.f0
    obtain ⟨_, _, hp⟩ := may_parts h
    have n6 : ¬ x.f0.toList = ([104, 101, 97, 100] : List UInt8) := fun e => by have := known_of (.inl e); rw [hk] at this; cases this
    have n7 : ¬ x.f0.toList = ([115, 107, 105, 112] : List UInt8) := fun e => by have := known_of (.inr (.inl e)); rw [hk] at this; cases this
    have n8 : ¬ x.f0.toList = ([103, 114, 101, 112] : List UInt8) := fun e => by have := known_of (.inr (.inr e)); rw [hk] at this; cases this
    rw [hk] at hw
    simp only [n6, n7, n8, or_false, if_false] at hw
    simp at hw
    omega
theorem dec_good {a : Int} (h0 : 0 ≤ a) (h1 : a ≤ 999999) : goodW (decOf a) ∧ (decOf a).size ≤ 6 ∧ numR (decOf a) = true := by
  have e : decOf a = txt 10 a.toNat := by rw [decOf, if_neg (by omega)]; rfl
  have hs : (decOf a).size ≤ 6 := by rw [e, txt_size]; exact digNums_len 5 a.toNat (by omega) 64
  have hp : 0 < (decOf a).size := by rw [e]; exact txt_pos 10 a.toNat
  refine ⟨⟨⟨hp, by omega⟩, ?_⟩, hs, ?_⟩
  · rw [decOf, if_neg (by omega), str_list]
    intro hm
    obtain ⟨c, hc, he⟩ := List.mem_map.1 hm
    obtain ⟨h2, h3⟩ := numDigs_chr 10 (by omega) (by omega) 64 a.toNat c (by simpa using hc)
    have := congrArg UInt8.toNat he
    rw [UInt8.toNat_ofNat_of_lt' (by show c.toNat < 256; omega)] at this
    have h32 : (32 : UInt8).toNat = 32 := rfl
    rw [h32] at this
    omega
  · unfold numR
    have hh := decOf_pos a h0
    have : ¬ (bt (decOf a) 0 == 45) = true := fun h => hh ((head_bt _ hp).1 h)
    rw [Bool.eq_false_iff.2 this]
    simp
    omega
theorem name_good {s : ByteArray} (h : nameB s = true) : goodW s := by
  obtain ⟨h1, h2⟩ := nameB_size h
  exact ⟨⟨by omega, by omega⟩, name_space h⟩
theorem tw_good {x : S74} (h : mayB x = true) : ∀ s ∈ twOf x, goodW s := by
  have hk := (known_good (may_known h)).1
  obtain ⟨_, _, hp⟩ := may_parts h
  intro s hs
  unfold twOf at hs
  rcases hp with ⟨h0, _⟩ | ⟨h0, h1, h2, _⟩ | ⟨h0, _, h1⟩
  · rw [if_neg (by omega), if_neg (by omega)] at hs
    rw [List.mem_singleton.1 hs]; exact hk
  · rw [if_pos h0] at hs
    simp only [List.mem_cons, List.not_mem_nil, or_false] at hs
    rcases hs with rfl | rfl
    · exact hk
    · exact (dec_good h1 h2).1
  · rw [if_neg (by omega), if_pos h0] at hs
    simp only [List.mem_cons, List.not_mem_nil, or_false] at hs
    rcases hs with rfl | rfl
    · exact hk
    · exact name_good h1
theorem tws_good : ∀ (xs : List S74) (b : Bool), (∀ x ∈ xs, mayB x = true) → ∀ s ∈ tws b xs, goodW s := by
  intro xs
  induction xs with
  | nil => intro b _ s hs; simp [tws] at hs
  | cons x r ih =>
    intro b h s hs
    rw [tws] at hs
    rcases List.mem_append.1 hs with hs | hs
    · cases b with
      | false => simp at hs
      | true =>
        rw [if_pos rfl] at hs
        rw [List.mem_singleton.1 hs]
        exact ⟨⟨by decide, by decide⟩, by decide⟩
    · rcases List.mem_append.1 hs with hs | hs
      · exact tw_good (h x (by simp)) s hs
      · exact ih true (fun y hy => h y (by simp [hy])) s hs
theorem check_names {fr : ByteArray} {xs : List S74} {tp : ByteArray} (h : checkOf fr xs tp = 0) : nameB tp = true ∧ (fr.toList ≠ ([] : List UInt8) → nameB fr = true) := by
  unfold checkOf at h
  split at h
  · omega
  rename_i hn
  simp only [not_or, not_and] at hn
  refine ⟨by simpa using hn.2, fun h0 => ?_⟩
  have := hn.1 (by simpa using h0)
  simpa using this
theorem words_good {fr : ByteArray} {xs : List S74} {tp : ByteArray} (h : checkOf fr xs tp = 0) (ap : Bool) : ∀ s ∈ lineWords fr xs ap ++ [tp], goodW s := by
  obtain ⟨ht, hf⟩ := check_names h
  intro s hs
  rcases List.mem_append.1 hs with hs | hs
  · unfold lineWords at hs
    rcases List.mem_append.1 hs with hs | hs
    · unfold headWords at hs
      split at hs
      · cases hs
      · rename_i h0
        simp only [List.mem_cons, List.not_mem_nil, or_false] at hs
        rcases hs with rfl | rfl
        · exact ⟨⟨by decide, by decide⟩, by decide⟩
        · exact name_good (hf h0)
    · rcases List.mem_append.1 hs with hs | hs
      · exact tws_good xs false (mayB_all h) s hs
      · rw [List.mem_singleton.1 hs]
        cases ap <;> exact ⟨⟨by decide, by decide⟩, by decide⟩
  · rw [List.mem_singleton.1 hs]; exact name_good ht
theorem split_text {fr : ByteArray} {xs : List S74} {tp : ByteArray} (h : checkOf fr xs tp = 0) (ap : Bool) : (textOf fr xs tp ap).size ≤ 4096 ∧ strings_Split.f 5000 (textOf fr xs tp ap) (⟨#[32]⟩ : ByteArray) = some (lineWords fr xs ap ++ [tp]) := by
  obtain ⟨hs, hl, ht, _⟩ := line_size h ap
  have hg := words_good h ap
  have e : (textOf fr xs tp ap).size = (spw (lineWords fr xs ap)).size + tp.size := ByteArray.size_append
  refine ⟨by omega, ?_⟩
  rw [split_is _ (by omega) _ (by omega)]
  have e2 : (textOf fr xs tp ap).data.toList = (spw (lineWords fr xs ap)).data.toList ++ tp.data.toList := by simp [textOf]
  rw [e2, pieces_words tp (hg tp (by simp)).2 _ (fun s hs => (hg s (by simp [hs])).2)]
  congr 1
  rw [List.map_append, List.map_map]
  have : (ofL ∘ fun x : ByteArray => x.data.toList) = id := by funext s; exact ofL_self s
  rw [this]
  simp [ofL_self]
theorem empty_of {s : ByteArray} (h : s.toList = ([] : List UInt8)) : s = (⟨#[]⟩ : ByteArray) := by
  apply str_eq_of; rw [← ByteArray.toList_eq, h]
theorem take_cons {r : ByteArray → Bool} {x : ByteArray} {ws : List ByteArray} (h : r x = true) : takeOf r (x :: ws) = (x, true, ws) := by rw [takeOf, if_pos h]
theorem tool_words {x : S74} (h : mayB x = true) (rest : List ByteArray) : toolOf (twOf x ++ rest) = (x, true, rest) := by
  have hk := known_good (may_known h)
  have hpl : plainR x.f0 = true := by unfold plainR; rw [hk.2.1]; rfl
  obtain ⟨_, _, hp⟩ := may_parts h
  obtain ⟨n, N, X⟩ := x
  simp only at hp hpl
  rcases hp with ⟨h0, h1, h2⟩ | ⟨h0, h1, h2, h3⟩ | ⟨h0, h1, h2⟩
  · have e : twOf (⟨n, N, X⟩ : S74) = [n] := by unfold twOf; rw [if_neg (by simp only; omega), if_neg (by simp only; omega)]
    rw [e, List.singleton_append, toolOf, take_cons hpl]
    simp only [Bool.true_eq_false, if_false]
    rw [if_pos h0, h1, empty_of h2]
  · have e : twOf (⟨n, N, X⟩ : S74) = [n, decOf N] := by unfold twOf; rw [if_pos h0]; rfl
    obtain ⟨_, _, hn⟩ := dec_good h1 h2
    have hpd := parsed_dec N (by omega) (by omega)
    rw [e, toolOf]
    show (if (takeOf plainR (n :: decOf N :: rest)).2.1 = false then _ else _) = _
    rw [List.cons_append, List.singleton_append, take_cons hpl]
    simp only [Bool.true_eq_false, if_false]
    rw [if_neg (by omega), if_pos h0, take_cons hn]
    simp only [hpd]
    rw [empty_of h3]
    rfl
  · have e : twOf (⟨n, N, X⟩ : S74) = [n, X] := by unfold twOf; rw [if_neg (by simp only; omega), if_pos h0]
    have hx : plainR X = true := by unfold nameB at h2; unfold plainR; simp only [Bool.and_eq_true] at h2; exact h2.2
    rw [e, toolOf]
    show (if (takeOf plainR (n :: X :: rest)).2.1 = false then _ else _) = _
    rw [List.cons_append, List.singleton_append, take_cons hpl]
    simp only [Bool.true_eq_false, if_false]
    rw [if_neg (by omega), if_neg (by omega), if_pos h0, take_cons hx, h1]
theorem tools_words (ap : Bool) (tp : ByteArray) : ∀ (xs : List S74) (acc : List S74) (f : Nat), xs ≠ [] → (∀ x ∈ xs, mayB x = true) → xs.length ≤ f →
    toolsOf f (tws false xs ++ [arrowOf ap, tp]) acc = some (acc ++ xs, [arrowOf ap, tp]) := by
  intro xs
  induction xs with
  | nil => intro _ _ h; exact absurd rfl h
  | cons x r ih =>
    intro acc f _ hm hf
    obtain ⟨f, rfl⟩ : ∃ g, f = g + 1 := ⟨f - 1, by simp at hf; omega⟩
    have e : tws false (x :: r) ++ [arrowOf ap, tp] = twOf x ++ (tws true r ++ [arrowOf ap, tp]) := by simp [tws]
    rw [e, toolsOf, tool_words (hm x (by simp))]
    simp only [Bool.true_eq_false, if_false]
    cases r with
    | nil =>
      have hb : barR (arrowOf ap) = false := by cases ap <;> decide +kernel
      have : takeOf barR (tws true [] ++ [arrowOf ap, tp]) = (⟨#[]⟩, false, [arrowOf ap, tp]) := by
        show takeOf barR [arrowOf ap, tp] = _
        rw [takeOf, if_neg (by rw [hb]; decide)]
      rw [this]
      simp [tws]
    | cons y r2 =>
      have e2 : tws true (y :: r2) ++ [arrowOf ap, tp] = (⟨#[124]⟩ : ByteArray) :: (tws false (y :: r2) ++ [arrowOf ap, tp]) := by simp [tws]
      rw [e2, take_cons (by decide +kernel)]
      simp only [if_true]
      rw [ih (acc ++ [x]) f (by simp) (fun z hz => hm z (by simp at hz ⊢; exact .inr hz)) (by simp at hf ⊢; omega)]
      simp
theorem tail_words {tp : ByteArray} (h : nameB tp = true) (ap : Bool) : tailOf [arrowOf ap, tp] = some (tp, ap) := by
  have hx : plainR tp = true := by unfold nameB at h; unfold plainR; simp only [Bool.and_eq_true] at h; exact h.2
  unfold tailOf
  cases ap with
  | false =>
    rw [show arrowOf false = (⟨#[62]⟩ : ByteArray) from rfl, take_cons (r := gtR) (by decide +kernel)]
    simp only [if_true]
    rw [take_cons hx]
    simp
  | true =>
    have hg : takeOf gtR [(⟨#[62, 62]⟩ : ByteArray), tp] = (⟨#[]⟩, false, [(⟨#[62, 62]⟩ : ByteArray), tp]) := by
      rw [takeOf, if_neg (by decide +kernel)]
    rw [show arrowOf true = (⟨#[62, 62]⟩ : ByteArray) from rfl, hg, take_cons (r := gtgtR) (by decide +kernel)]
    simp only [Bool.false_eq_true, if_false, if_true]
    rw [take_cons hx]
    simp
theorem line_words {fr : ByteArray} {xs : List S74} {tp : ByteArray} (h : checkOf fr xs tp = 0) (ap : Bool) : lineOf (lineWords fr xs ap ++ [tp]) = some (fr, xs, tp, ap) := by
  obtain ⟨ht, hf⟩ := check_names h
  obtain ⟨_, _, _, _, h16, h1, _⟩ := line_size h ap
  have hm := mayB_all h
  have hne : xs ≠ [] := fun e => by rw [e] at h1; simp at h1
  have rest : ∀ fr0, restOf fr0 (tws false xs ++ [arrowOf ap, tp]) = some (fr0, xs, tp, ap) := by
    intro fr0
    have hlen : xs.length ≤ (tws false xs ++ [arrowOf ap, tp]).length + 1 := by
      have : ∀ (l : List S74) (b : Bool), l.length ≤ (tws b l).length := by
        intro l
        induction l with
        | nil => intro b; exact Nat.zero_le _
        | cons y r ih =>
          intro b
          have := ih true
          have h2 : 1 ≤ (twOf y).length := by unfold twOf; repeat' split
                                              all_goals simp
          rw [tws]; simp only [List.length_append, List.length_cons]; omega
      have := this xs false
      simp only [List.length_append]; omega
    rw [restOf, tools_words ap tp xs [] _ hne hm hlen, packOf, tail_words ht]
    rfl
  have e : lineWords fr xs ap ++ [tp] = headWords fr ++ (tws false xs ++ [arrowOf ap, tp]) := by simp [lineWords]
  rw [e, lineOf]
  unfold headWords
  by_cases h0 : fr.toList = ([] : List UInt8)
  · rw [if_pos h0, List.nil_append]
    obtain ⟨x, r, rfl⟩ : ∃ x r, xs = x :: r := by cases xs with | nil => exact absurd rfl hne | cons x r => exact ⟨x, r, rfl⟩
    have hk := known_good (may_known (hm x (by simp)))
    obtain ⟨t, et⟩ : ∃ t, twOf x = x.f0 :: t := by unfold twOf; repeat' split
                                                   all_goals exact ⟨_, rfl⟩
    have hl : (takeOf ltR (tws false (x :: r) ++ [arrowOf ap, tp])).2.1 = false := by
      rw [tws, et]
      show (takeOf ltR (x.f0 :: _)).2.1 = false
      rw [takeOf, if_neg]
      show ¬ (x.f0.toList == (⟨#[60]⟩ : ByteArray).toList) = true
      rw [show (⟨#[60]⟩ : ByteArray).toList = [60] by rw [ByteArray.toList_eq], hk.2.2]
      decide
    rw [hl, if_neg (by simp), rest, empty_of h0]
  · have hx : plainR fr = true := by have := hf h0; unfold nameB at this; unfold plainR; simp only [Bool.and_eq_true] at this; exact this.2
    rw [if_neg h0, List.cons_append, take_cons (r := ltR) (by decide +kernel)]
    simp only [if_true]
    rw [List.singleton_append, take_cons hx]
    simp only [if_true]
    exact rest fr
end Go.Proofs.YthmijenlndnmcaaGreatDoor.Sh
