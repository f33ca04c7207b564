/- Faults read back from their text. -/
import Derived.Test.YtbggmdgeanoelaaDoorPureF3
namespace Go.Proofs.YtbggmdgeanoelaaDoor.Pure
open Go.RowKit Go.Proofs.YtbggmdgeanoelaaDoor.Ft Go.Proofs.YtbggmdgeanoelaaDoorW.PrintWords Go.Proofs.YtbggmdgeanoelaaDoorW.PrintLast Go.Proofs.YtbggmdgeanoelaaDoorW.PrintMore
set_option linter.unusedVariables false
set_option linter.unusedSimpArgs false

theorem pieces_word : ∀ w : List UInt8, (∀ c ∈ w, c ≠ 32) → pieces 32 w = [w] := by
  intro w
  induction w with
  | nil => intro _; rfl
  | cons x r ih =>
    intro h
    exact pieces_cons (h x (by simp)) (ih fun c hc => h c (by simp [hc]))
theorem pieces_app (t : List UInt8) : ∀ w : List UInt8, (∀ c ∈ w, c ≠ 32) → pieces 32 (w ++ 32 :: t) = w :: pieces 32 t := by
  intro w
  induction w with
  | nil => intro _; simp [pieces]
  | cons x r ih =>
    intro h
    exact pieces_cons (h x (by simp)) (ih fun c hc => h c (by simp [hc]))
theorem pieces_join : ∀ (r : List (List UInt8)) (x : List UInt8), (∀ w ∈ x :: r, ∀ c ∈ w, c ≠ 32) → pieces 32 (x ++ Lib.joinTail [32] r) = x :: r := by
  intro r
  induction r with
  | nil => intro x h; simp only [Lib.joinTail, List.map_nil, List.flatten_nil, List.append_nil]; exact pieces_word x (h x (by simp))
  | cons y r ih =>
    intro x h
    have e : x ++ Lib.joinTail [32] (y :: r) = x ++ 32 :: (y ++ Lib.joinTail [32] r) := by simp [Lib.joinTail]
    rw [e, pieces_app _ x (h x (by simp)), ih y (fun w hw => h w (by simp at hw ⊢; exact .inr hw))]
theorem decOf_no (a : Int) (h : 0 ≤ a) : ∀ c ∈ (decOf a).data.toList, c ≠ 32 := by
  intro c hc e
  have hd : decOf a = txt 10 a.toNat := by rw [decOf, if_neg (by omega)]; rfl
  rw [hd, txt_list] at hc
  have := digs_ok 10 (by omega) (by omega) chrByte (fun d h => (chr_worth d h).1) 64 a.toNat c hc
  rw [e] at this
  exact absurd this (by unfold okDigit; decide)
theorem decOf_short (a : Int) (h0 : 0 ≤ a) (h : a ≤ 1048576) : (decOf a).data.toList.length ≤ 7 := by
  have hd : decOf a = txt 10 a.toNat := by rw [decOf, if_neg (by omega)]; rfl
  rw [hd, size_list, txt_size]
  exact digNums_len 6 a.toNat (by omega) 64
theorem wordL_no {x : S44} (h : fMay x = true) : ∀ c ∈ wordL x, c ≠ 32 := by
  intro c hc
  unfold wordL at hc
  rcases may_cases h with ⟨h1, h2, h3⟩ | ⟨h1, h2⟩
  · rw [if_pos h1] at hc
    rcases List.mem_cons.1 hc with e | e
    · rw [e]; decide
    · exact decOf_no _ (by omega) c e
  · rw [if_neg (by omega)] at hc
    split at hc
    · simp at hc; rw [hc]; decide
    · split at hc
      · simp at hc; rw [hc]; decide
      · simp at hc; rw [hc]; decide
theorem readW_word {x : S44} (h : fMay x = true) : readW (wordL x) = (x, true) := by
  obtain ⟨a, b⟩ := x
  rcases may_cases h with ⟨h1, h2, h3⟩ | ⟨h1, h2⟩
  · simp only at h1 h2 h3
    subst h1
    have e : wordL (⟨1, b⟩ : S44) = 115 :: (decOf b).data.toList := by simp [wordL]
    have hl : letter 115 = 1 := by decide
    have hp : parsed (ofL (decOf b).data.toList) = (b, 0) := by rw [ofL_self]; exact parsed_dec b (by omega) (by omega)
    have hs := decOf_short b (by omega) h3
    rw [e, readW, readOf, if_pos hl, hp, if_pos rfl, if_neg (by omega)]
    simp [h2, h3]
  · simp only at h1 h2
    subst h2
    rcases h1 with rfl | rfl | rfl
    · rfl
    · rfl
    · rfl
theorem placed_fst : ∀ (ws : List (List UInt8)) (a : Nat), (∀ w ∈ ws, w ≠ []) → (placed a ws).map (·.1) = ws := by
  intro ws
  induction ws with
  | nil => intro a _; rfl
  | cons w r ih =>
    intro a h
    rw [placed, if_neg (h w (by simp)), List.map_cons, ih _ fun x hx => h x (by simp [hx])]
theorem badOf_none : ∀ ws : List (List UInt8 × Nat), (∀ x ∈ ws, (readW x.1).2 = true) → badOf ws = -1 := by
  intro ws
  induction ws with
  | nil => intro _; rfl
  | cons x r ih =>
    intro h
    rw [badOf, if_pos (h x (by simp)), ih fun y hy => h y (by simp [hy])]
theorem wordL_ne (x : S44) : wordL x ≠ [] := by
  unfold wordL; split
  · simp
  · split
    · simp
    · split <;> simp
theorem words_text {l : List S44} (h : ∀ x ∈ l, fMay x = true) : (wordsOf (textOf l)).map (·.1) = l.map wordL := by
  unfold wordsOf textOf
  rw [ofL_list]
  cases l with
  | nil => decide
  | cons x r =>
    rw [List.map_cons, Lib.join_cons, pieces_join _ _ (by
      intro w hw
      rw [← List.map_cons] at hw
      obtain ⟨y, hy, rfl⟩ := List.mem_map.1 hw
      exact wordL_no (h y hy))]
    exact placed_fst _ _ (by
      intro w hw
      rw [← List.map_cons] at hw
      obtain ⟨y, _, rfl⟩ := List.mem_map.1 hw
      exact wordL_ne y)
/-- FAULTS ARE READ BACK FROM THEIR TEXT. -/
theorem parsed_text {l : List S44} (hl : l.length ≤ 4096) (h : ∀ x ∈ l, fMay x = true) (hs : (textOf l).size ≤ 65536) : parsedF (textOf l) = (l, 0, ((textOf l).size : Int)) := by
  have hw := words_text h
  have hlen : (wordsOf (textOf l)).length = l.length := by
    have := congrArg List.length hw
    simpa using this
  have hok : ∀ x ∈ wordsOf (textOf l), (readW x.1).2 = true := by
    intro x hx
    have hm : x.1 ∈ l.map wordL := by rw [← hw]; exact List.mem_map.2 ⟨x, hx, rfl⟩
    obtain ⟨y, hy, e⟩ := List.mem_map.1 hm
    rw [← e, readW_word (h y hy)]
  have hb := badOf_none _ hok
  have hmap : (wordsOf (textOf l)).map (fun x => (readW x.1).1) = l := by
    have e : (wordsOf (textOf l)).map (fun x => (readW x.1).1) = ((wordsOf (textOf l)).map (·.1)).map (fun w => (readW w).1) := by rw [List.map_map]; rfl
    rw [e, hw, List.map_map]
    have : ∀ m : List S44, (∀ x ∈ m, fMay x = true) → m.map ((fun w => (readW w).1) ∘ wordL) = m := by
      intro m
      induction m with
      | nil => intro _; rfl
      | cons x r ih =>
        intro hm
        rw [List.map_cons, ih fun y hy => hm y (by simp [hy])]
        have := readW_word (hm x (by simp))
        simp [Function.comp, this]
    exact this l h
  rw [parsedF, if_neg (by omega), if_neg (by omega), if_neg (by omega), hmap]
end Go.Proofs.YtbggmdgeanoelaaDoor.Pure
