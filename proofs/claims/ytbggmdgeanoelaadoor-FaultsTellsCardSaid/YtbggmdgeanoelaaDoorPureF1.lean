/- Faults as a text: what Print and the document's Print tell. -/
import Derived.Test.YtbggmdgeanoelaaDoorPureDec
import Derived.Lib.Join
namespace Go.Proofs.YtbggmdgeanoelaaDoor.Pure
open Go.RowKit Go.Proofs.YtbggmdgeanoelaaDoor.Ft Go.Proofs.YtbggmdgeanoelaaDoorW.PrintWords Go.Proofs.YtbggmdgeanoelaaDoorW.PrintLast
set_option linter.unusedVariables false
set_option linter.unusedSimpArgs false

/-- A fault's word. -/
def wordL (x : S44) : List UInt8 := if x.f0 = 1 then 115 :: (decOf x.f1).data.toList else if x.f0 = 0 then [102] else if x.f0 = 2 then [105] else [97]
def ofL (l : List UInt8) : ByteArray := ⟨l.toArray⟩
theorem ofL_list (l : List UInt8) : (ofL l).data.toList = l := rfl
theorem ofL_size (l : List UInt8) : (ofL l).size = l.length := rfl
theorem ofL_self (s : ByteArray) : ofL s.data.toList = s := str_eq_of rfl
theorem ofL_append (a b : List UInt8) : ofL a ++ ofL b = ofL (a ++ b) := by apply str_eq_of; simp [ofL]
/-- The text of faults. -/
def textOf (l : List S44) : ByteArray := ofL (Lib.join (l.map wordL) [32])
theorem may_cases {x : S44} (h : fMay x = true) : (x.f0 = 1 ∧ 1 ≤ x.f1 ∧ x.f1 ≤ 1048576) ∨ ((x.f0 = 0 ∨ x.f0 = 2 ∨ x.f0 = 3) ∧ x.f1 = 0) := by
  unfold fMay at h
  by_cases h1 : x.f0 = 1
  · simp [h1] at h; exact .inl ⟨h1, h.1, h.2⟩
  · simp [h1] at h; exact .inr ⟨by omega, h.2⟩
theorem decOf_le (a : Int) : (decOf a).size ≤ 65 := by
  unfold decOf
  split
  · have := digs_size 10 (-a).toNat
    rw [ByteArray.size_append]
    have e : (⟨#[45]⟩ : ByteArray).size = 1 := rfl
    omega
  · have := digs_size 10 a.toNat; omega
theorem wordL_le (x : S44) : (wordL x).length ≤ 66 := by
  unfold wordL
  split
  · have := decOf_le x.f1
    rw [← size_list] at this
    simp only [List.length_cons]; omega
  · split
    · simp
    · split <;> simp
theorem set_at {α : Type} (x y : α) (post : List α) : ∀ pre : List α, (pre ++ x :: post).set pre.length y = pre ++ y :: post
  | [] => rfl
  | a :: r => by simp
theorem rdOf_at {α : Type} (d x : α) (pre post : List α) : rdOf d (pre ++ x :: post) ((pre.length : Nat) : Int) = x := by simp [rdOf]

theorem fsia (j : Nat) (h : j < 4) : (⟨#[102, 115, 105, 97]⟩ : ByteArray).extract j (j + 1) = ofL [[102, 115, 105, 97].getD j 0] := by
  have : ∀ j : Fin 4, (⟨#[102, 115, 105, 97]⟩ : ByteArray).extract j.1 (j.1 + 1) = ofL [[102, 115, 105, 97].getD j.1 0] := by decide +kernel
  exact this ⟨j, h⟩
theorem rd_fault (l : List S44) (i : Nat) (h : i < l.length) : rd_T44 l (i : Int) = l[i] := by simp [rd_T44, h]

theorem print_loop (l : List S44) (hl : l.length ≤ 4096) (hm : ∀ x ∈ l, fMay x = true) : ∀ (d i k : Nat), i + d = l.length → d + 1 ≤ k →
    faults_Print.l0 k ((l.take i).map (fun x => ofL (wordL x)) ++ List.replicate d ⟨#[]⟩) l (l.length : Int) (i : Int) = (strings_Join.f (l.map fun x => ofL (wordL x)) ⟨#[32]⟩).bind fun t => some (t, 0) := by
  intro d
  induction d with
  | zero =>
    intro i k hi hk
    obtain ⟨k, rfl⟩ : ∃ i, k = i + 1 := ⟨k - 1, by omega⟩
    simp only [faults_Print.l0]
    rw [if_neg (by omega), List.replicate_zero, List.append_nil, List.take_of_length_le (by omega)]
  | succ d ih =>
    intro i k hi hk
    obtain ⟨k, rfl⟩ : ∃ i, k = i + 1 := ⟨k - 1, by omega⟩
    have hlt : i < l.length := by omega
    have hpl : ((l.take i).map (fun x => ofL (wordL x))).length = i := by simp; omega
    have hx := rd_fault l i hlt
    have hmx := may_cases (hm l[i] (List.getElem_mem hlt))
    have e1 : wrap64 ((i : Int) + 1) = ((i + 1 : Nat) : Int) := by unfold wrap64; omega
    have htake : (l.take (i + 1)).map (fun x => ofL (wordL x)) = (l.take i).map (fun x => ofL (wordL x)) ++ [ofL (wordL l[i])] := by
      rw [List.take_succ_eq_append_getElem hlt, List.map_append]; rfl
    have hi2 := ih (i + 1) k (by omega) (by omega)
    rw [htake] at hi2
    obtain ⟨pre, hpre⟩ : ∃ pre, pre = (l.take i).map (fun x => ofL (wordL x)) := ⟨_, rfl⟩
    rw [← hpre] at hpl hi2 ⊢
    have hset : ∀ v : ByteArray, (pre ++ List.replicate (d + 1) (⟨#[]⟩ : ByteArray)).set i v = pre ++ v :: List.replicate d ⟨#[]⟩ := by
      intro v; rw [List.replicate_succ, ← hpl]; exact set_at _ _ _ _
    have hset2 : ∀ u v : ByteArray, (pre ++ u :: List.replicate d (⟨#[]⟩ : ByteArray)).set i v = pre ++ v :: List.replicate d ⟨#[]⟩ := by
      intro u v; rw [← hpl]; exact set_at _ _ _ _
    have hrd : ∀ u : ByteArray, rdOf ByteArray.empty (pre ++ u :: List.replicate d (⟨#[]⟩ : ByteArray)) (i : Int) = u := by
      intro u; rw [← hpl]; exact rdOf_at _ _ _ _
    have hlen : ((pre ++ List.replicate (d + 1) (⟨#[]⟩ : ByteArray)).length : Int) = (l.length : Int) := by simp; omega
    simp only [faults_Print.l0, hx, Int.toNat_natCast, hlen, hset, Option.bind_some, hrd, hset2, e1]
    rw [if_pos (by omega), if_pos (by omega), if_pos (by omega)]
    obtain ⟨x, hxx⟩ : ∃ x, x = l[i] := ⟨_, rfl⟩
    rw [← hxx] at hmx hi2 ⊢
    have happ : ∀ u : ByteArray, pre ++ u :: List.replicate d (⟨#[]⟩ : ByteArray) = pre ++ [u] ++ List.replicate d ⟨#[]⟩ := by intro u; simp
    rcases hmx with ⟨h1, h2, h3⟩ | ⟨h1, h2⟩
    · have e2 : wrap64 (x.f0 + 1) = 2 := by rw [h1]; decide +kernel
      rw [e2, h1, if_pos (by omega), if_pos (by omega), if_pos (by omega), if_pos (by omega), if_pos rfl, num_Decimal_is x.f1 (by omega) (by omega)]
      simp only [Option.bind_some]
      have e3 : (⟨#[102, 115, 105, 97]⟩ : ByteArray).extract (1 : Int).toNat (2 : Int).toNat = ofL [115] := fsia 1 (by decide)
      have hd := decOf_le x.f1
      rw [e3, if_pos (by rw [ofL_size]; simp; omega)]
      have e4 : ofL [115] ++ decOf x.f1 = ofL (wordL x) := by
        rw [← ofL_self (decOf x.f1), ofL_append, wordL, if_pos h1]; rfl
      rw [e4, happ, hi2]
    · have hne : ¬ x.f0 = 1 := by omega
      have e2 : wrap64 (x.f0 + 1) = x.f0 + 1 := by unfold wrap64; omega
      rw [e2, if_pos (by omega), if_pos (by omega), if_pos (by omega), if_pos (by omega), if_neg hne]
      have e3 : (⟨#[102, 115, 105, 97]⟩ : ByteArray).extract x.f0.toNat (x.f0 + 1).toNat = ofL (wordL x) := by
        rcases h1 with h | h | h
        · rw [h, wordL, h]; exact fsia 0 (by decide)
        · rw [h, wordL, h]; exact fsia 2 (by decide)
        · rw [h, wordL, h]; exact fsia 3 (by decide)
      rw [e3, happ, hi2]

theorem joinTail_le (l : List S44) : (Lib.joinTail [32] (l.map wordL)).length ≤ 67 * l.length := by
  induction l with
  | nil => simp [Lib.joinTail]
  | cons x r ih =>
    have := wordL_le x
    have e : Lib.joinTail [32] ((x :: r).map wordL) = [32] ++ wordL x ++ Lib.joinTail [32] (r.map wordL) := by simp [Lib.joinTail]
    rw [e]; simp only [List.length_append, List.length_cons, List.length_nil]; omega
theorem text_le (l : List S44) : (Lib.join (l.map wordL) [32]).length ≤ 67 * l.length := by
  cases l with
  | nil => simp [Lib.join_nil]
  | cons x r =>
    rw [List.map_cons, Lib.join_cons, List.length_append]
    have := wordL_le x; have := joinTail_le r
    simp only [List.length_cons]; omega
theorem joined (l : List S44) (hl : l.length ≤ 4096) : strings_Join.f (l.map fun x => ofL (wordL x)) ⟨#[32]⟩ = some (textOf l) := by
  have e : joinOf (l.map fun x => ofL (wordL x)) ⟨#[32]⟩ = Lib.join (l.map wordL) [32] := by
    rw [joinOf, List.map_map]; rfl
  have := text_le l
  rw [strings_Join.f, e, if_pos ⟨by simp; omega, by omega⟩]; rfl
theorem faults_may_of {l : List S44} : ∀ (i : Nat), fFirst i l = none → ∀ x ∈ l, fMay x = true := by
  induction l with
  | nil => intro i _ x h; simp at h
  | cons a r ih =>
    intro i h x hx
    simp only [fFirst] at h
    split at h
    · rename_i hm
      rcases List.mem_cons.1 hx with e | e
      · rw [e]; exact hm
      · exact ih _ h x e
    · cases h

/-- What both Prints tell. -/
def printed (l : List S44) : ByteArray × Int := if faultsOk l = 0 then (textOf l, 0) else (⟨#[]⟩, faultsOk l)
theorem okOf {l : List S44} (h : faultsOk l = 0) : l.length ≤ 4096 ∧ ∀ x ∈ l, fMay x = true := by
  unfold faultsOk at h
  split at h
  · cases h
  · rename_i hl
    cases hf : fFirst 0 l with
    | some i => rw [hf] at h; cases h
    | none => exact ⟨by omega, faults_may_of 0 hf⟩
theorem num_Print_is (l : List S44) (k : Nat) (hk : l.length + 1 ≤ k) : faults_Print.f k l = some (printed l) := by
  obtain ⟨j, hj⟩ := faults_Check.of l
  rw [faults_Print.f, hj, printed]
  simp only [Option.bind_some]
  by_cases h : faultsOk l = 0
  · obtain ⟨h1, h2⟩ := okOf h
    rw [if_pos h, if_pos (by omega), if_pos (by omega), if_pos h, Int.toNat_natCast]
    have := print_loop l h1 h2 l.length 0 k (by omega) (by omega)
    simp only [List.take_zero, List.map_nil, List.nil_append] at this
    have this : faults_Print.l0 k (List.replicate l.length ⟨#[]⟩) l (l.length : Int) 0 = _ := this
    rw [this, joined l h1]; rfl
  · rw [if_neg h, if_neg h]

theorem ref_may02F (x : S44) : millraceref02_may.f x.f0 x.f1 = some (fMay x) := by
  unfold millraceref02_may.f fMay
  by_cases h1 : x.f0 = 1
  · simp only [h1, if_true]
    by_cases h2 : 1 ≤ x.f1
    · rw [if_pos h2]; simp [h2]
    · rw [if_neg h2]; simp [h2]
  · simp only [if_neg h1]
    by_cases h2 : 0 ≤ x.f0
    · by_cases h3 : x.f0 ≤ 3
      · rw [if_pos h2, if_pos h3]
        have : x.f0 = 0 ∨ x.f0 = 2 ∨ x.f0 = 3 := by omega
        rcases this with h | h | h <;> simp [h] <;> rfl
      · rw [if_pos h2, if_neg h3]
        have : ¬ (x.f0 = 0) ∧ ¬ (x.f0 = 2) ∧ ¬ (x.f0 = 3) := by omega
        simp [this]
    · rw [if_neg h2]
      have : ¬ (x.f0 = 0) ∧ ¬ (x.f0 = 2) ∧ ¬ (x.f0 = 3) := by omega
      simp [this]
theorem ref_check_loopF (l : List S44) (hl : l.length ≤ 4096) : ∀ (d i k : Nat), i + d = l.length → d + 1 ≤ k →
    millraceref02_Check.l0 k l (i : Int) = some (match fFirst i (l.drop i) with | some j => (21, (j : Int)) | none => (0, (l.length : Int))) := by
  intro d
  induction d with
  | zero =>
    intro i k hi hk
    obtain ⟨k, rfl⟩ : ∃ i, k = i + 1 := ⟨k - 1, by omega⟩
    simp only [millraceref02_Check.l0]
    rw [if_neg (by omega), List.drop_eq_nil_of_le (by omega)]; rfl
  | succ d ih =>
    intro i k hi hk
    obtain ⟨k, rfl⟩ : ∃ i, k = i + 1 := ⟨k - 1, by omega⟩
    have hlt : i < l.length := by omega
    have hd : l.drop i = l[i] :: l.drop (i + 1) := List.drop_eq_getElem_cons hlt
    have hx : rd_T44 l (i : Int) = l[i] := by simp [rd_T44, hlt]
    have e : wrap64 ((i : Int) + 1) = ((i + 1 : Nat) : Int) := by unfold wrap64; omega
    simp only [millraceref02_Check.l0, hx, ref_may02F, Option.bind_some, e]
    rw [if_pos (by omega), if_pos (by omega), hd]
    simp only [fFirst]
    by_cases hm : fMay l[i] = true
    · rw [if_pos hm, if_pos hm]; exact ih (i + 1) k (by omega) (by omega)
    · rw [if_neg hm, if_neg hm]
theorem ref_Check02F (l : List S44) : ∃ j, millraceref02_Check.f (l.length + 1) l = some (faultsOk l, j) := by
  unfold millraceref02_Check.f faultsOk
  by_cases h : 4096 < l.length
  · rw [if_pos (by omega), if_pos h]; exact ⟨_, rfl⟩
  · rw [if_neg (by omega), if_neg h]
    have := ref_check_loopF l (by omega) l.length 0 (l.length + 1) (by omega) (Nat.le_refl _)
    have this : millraceref02_Check.l0 (l.length + 1) l 0 = _ := this
    rw [this, List.drop_zero]
    cases fFirst 0 l with
    | some j => exact ⟨_, rfl⟩
    | none => exact ⟨_, rfl⟩

theorem ref_print_word (l : List S44) (hl : l.length ≤ 4096) (i : Nat) (hlt : i < l.length) (hm : fMay l[i] = true) (t : ByteArray) (ht : t.size ≤ 1000000) (k : Nat) (hk : 64 ≤ k) :
    millraceref02_Print.j1 (k + 1) l t (i : Int) = millraceref02_Print.l0 k l (t ++ ofL (wordL l[i])) ((i + 1 : Nat) : Int) := by
  have hx := rd_fault l i hlt
  have e1 : wrap64 ((i : Int) + 1) = ((i + 1 : Nat) : Int) := by unfold wrap64; omega
  have hmx := may_cases hm
  simp only [millraceref02_Print.j1, hx, e1]
  rw [if_pos (by omega), if_pos (by omega)]
  obtain ⟨x, hxx⟩ : ∃ x, x = l[i] := ⟨_, rfl⟩
  rw [← hxx] at hmx ⊢
  rcases hmx with ⟨h1, h2, h3⟩ | ⟨h1, h2⟩
  · have hd := decOf_le x.f1
    rw [if_neg (by omega), if_pos h1, if_pos (by omega), ref_Decimal_is k hk x.f1 (by omega) (by omega)]
    simp only [Option.bind_some]
    have es : (t ++ (⟨#[115]⟩ : ByteArray)).size = t.size + 1 := ByteArray.size_append
    rw [if_pos (by omega)]
    congr 1
    have e4 : ofL [115] ++ decOf x.f1 = ofL (wordL x) := by
      rw [← ofL_self (decOf x.f1), ofL_append, wordL, if_pos h1]; rfl
    rw [← e4, ByteArray.append_assoc]; rfl
  · rcases h1 with h | h | h
    · rw [if_pos h, if_pos (by omega), wordL, if_neg (by omega), if_pos h]; rfl
    · rw [if_neg (by omega), if_neg (by omega), if_pos h, if_pos (by omega), wordL, if_neg (by omega), if_neg (by omega), if_pos h]; rfl
    · rw [if_neg (by omega), if_neg (by omega), if_neg (by omega), if_pos h, if_pos (by omega), wordL, if_neg (by omega), if_neg (by omega), if_neg (by omega)]; rfl
theorem ref_print_loop (l : List S44) (hl : l.length ≤ 4096) (hm : ∀ x ∈ l, fMay x = true) : ∀ (d i k : Nat) (t : ByteArray), 1 ≤ i → i + d = l.length → 2 * d + 70 ≤ k → t.size + 67 * d ≤ 1000000 →
    millraceref02_Print.l0 k l t (i : Int) = some (t ++ ofL (Lib.joinTail [32] ((l.drop i).map wordL)), 0) := by
  intro d
  induction d with
  | zero =>
    intro i k t h1 hi hk ht
    obtain ⟨k, rfl⟩ : ∃ i, k = i + 1 := ⟨k - 1, by omega⟩
    simp only [millraceref02_Print.l0]
    rw [if_neg (by omega), List.drop_eq_nil_of_le (by omega)]
    congr 2
    apply str_eq_of; simp [ofL, Lib.joinTail]
  | succ d ih =>
    intro i k t h1 hi hk ht
    obtain ⟨k, rfl⟩ : ∃ i, k = i + 2 := ⟨k - 2, by omega⟩
    have hlt : i < l.length := by omega
    have hw := wordL_le l[i]
    have es : (t ++ (⟨#[32]⟩ : ByteArray)).size = t.size + 1 := ByteArray.size_append
    have es2 : ((t ++ (⟨#[32]⟩ : ByteArray)) ++ ofL (wordL l[i])).size = t.size + 1 + (wordL l[i]).length := by rw [ByteArray.size_append, es, ofL_size]
    have hd : l.drop i = l[i] :: l.drop (i + 1) := List.drop_eq_getElem_cons hlt
    simp only [millraceref02_Print.l0]
    rw [if_pos (by omega), if_pos (by omega), if_pos (by omega), ref_print_word l hl i hlt (hm _ (List.getElem_mem hlt)) _ (by omega) k (by omega), ih (i + 1) k _ (by omega) (by omega) (by omega) (by omega), hd]
    have ej : Lib.joinTail [32] ((l[i] :: l.drop (i + 1)).map wordL) = [32] ++ wordL l[i] ++ Lib.joinTail [32] ((l.drop (i + 1)).map wordL) := rfl
    rw [ej]
    generalize Lib.joinTail [32] ((l.drop (i + 1)).map wordL) = jt
    congr 2
    apply str_eq_of
    simp [ofL]
theorem ref_Print_is (l : List S44) (k : Nat) (hk : 2 * l.length + 100 ≤ k) : millraceref02_Print.f k l = some (printed l) := by
  obtain ⟨j, hj⟩ : ∃ j, millraceref02_Check.f k l = some (faultsOk l, j) := by
    obtain ⟨j, hj⟩ := ref_Check02F l
    exact ⟨j, up (fun k => millraceref02_Check.f k l) (millraceref02_Check.mono l) hj (by omega)⟩
  rw [millraceref02_Print.f, hj, printed]
  simp only [Option.bind_some]
  by_cases h : faultsOk l = 0
  · obtain ⟨h1, h2⟩ := okOf h
    rw [if_pos h, if_pos h]
    obtain ⟨k, rfl⟩ : ∃ i, k = i + 2 := ⟨k - 2, by omega⟩
    cases hl : l with
    | nil =>
      simp only [millraceref02_Print.l0]
      rw [if_neg (by simp)]; rfl
    | cons x r =>
      rw [← hl]
      have hlt : 0 < l.length := by rw [hl]; simp
      have hw := wordL_le l[0]
      have e0 := ref_print_word l h1 0 hlt (h2 _ (List.getElem_mem hlt)) ⟨#[]⟩ (by decide) k (by omega)
      have e0 : millraceref02_Print.j1 (k + 1) l ⟨#[]⟩ 0 = _ := e0
      simp only [millraceref02_Print.l0]
      have es : ((⟨#[]⟩ : ByteArray) ++ ofL (wordL l[0])).size = (wordL l[0]).length := by rw [ByteArray.size_append, ofL_size]; exact Nat.zero_add _
      rw [if_pos (by omega), if_neg (by omega), e0, ref_print_loop l h1 h2 (l.length - 1) 1 k _ (Nat.le_refl _) (by omega) (by omega) (by omega)]
      congr 2
      apply str_eq_of
      simp [textOf, ofL, hl, Lib.join_cons]
  · rw [if_neg h, if_neg h]

end Go.Proofs.YtbggmdgeanoelaaDoor.Pure
