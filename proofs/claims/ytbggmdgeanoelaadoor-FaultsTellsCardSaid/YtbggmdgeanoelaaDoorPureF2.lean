/- A text cut at blanks: strings.Split, and the document's Words. -/
import Derived.Test.YtbggmdgeanoelaaDoorPureF1
import Derived.Lib.Hide
namespace Go.Proofs.YtbggmdgeanoelaaDoor.Pure
open Go.RowKit Go.Proofs.YtbggmdgeanoelaaDoor.Ft Go.Proofs.YtbggmdgeanoelaaDoorW.PrintWords Go.Proofs.YtbggmdgeanoelaaDoorW.PrintLast Go.Proofs.YtbggmdgeanoelaaDoorW.PrintMore
set_option linter.unusedVariables false
set_option linter.unusedSimpArgs false

/-- The pieces of a text between the bytes c. -/
def pieces (c : UInt8) : List UInt8 → List (List UInt8)
  | [] => [[]]
  | x :: r => if x = c then [] :: pieces c r else match pieces c r with | p :: ps => (x :: p) :: ps | [] => [[x]]
theorem pieces_ne (c : UInt8) : ∀ l, ∃ p ps, pieces c l = p :: ps := by
  intro l
  induction l with
  | nil => exact ⟨_, _, rfl⟩
  | cons x r ih =>
    obtain ⟨p, ps, h⟩ := ih
    simp only [pieces, h]
    split
    · exact ⟨_, _, rfl⟩
    · exact ⟨_, _, rfl⟩
theorem pieces_cons {c x : UInt8} (h : x ≠ c) {r p : List UInt8} {ps : List (List UInt8)} (hp : pieces c r = p :: ps) : pieces c (x :: r) = (x :: p) :: ps := by
  simp only [pieces, hp, if_neg h]
theorem idx_none (c : UInt8) : ∀ l : List UInt8, l.count c = 0 → Lib.indexByte l c = -1 ∧ pieces c l = [l] := by
  intro l
  induction l with
  | nil => intro _; exact ⟨rfl, rfl⟩
  | cons x r ih =>
    intro h
    have hx : x ≠ c := by intro e; subst e; simp at h
    have hr : r.count c = 0 := by rw [List.count_cons_of_ne hx] at h; exact h
    obtain ⟨h1, h2⟩ := ih hr
    refine ⟨?_, pieces_cons hx h2⟩
    have hb : (x == c) = false := by simpa using hx
    simp [Lib.indexByte, hb, h1]
theorem idx_some (c : UInt8) : ∀ l : List UInt8, 0 < l.count c → ∃ m : Nat, Lib.indexByte l c = (m : Int) ∧ m < l.length ∧ pieces c l = l.take m :: pieces c (l.drop (m + 1)) ∧ (l.drop (m + 1)).count c + 1 = l.count c := by
  intro l
  induction l with
  | nil => intro h; simp at h
  | cons x r ih =>
    intro h
    by_cases hx : x = c
    · subst hx
      exact ⟨0, by simp [Lib.indexByte], by simp, by simp [pieces], by simp⟩
    · rw [List.count_cons_of_ne hx] at h
      obtain ⟨m, h1, h2, h3, h4⟩ := ih h
      have hb : (x == c) = false := by simpa using hx
      refine ⟨m + 1, ?_, by simp; omega, ?_, ?_⟩
      · have : ¬ ((m : Int) = -1) := by omega
        simp [Lib.indexByte, hb, h1, this]
      · rw [pieces_cons hx h3]; rfl
      · rw [List.count_cons_of_ne hx, List.drop_succ_cons]; exact h4

theorem index_of (s : ByteArray) : strings_Index.f s ⟨#[32]⟩ = some (Lib.indexByte s.data.toList 32) := rfl
theorem count_of (s : ByteArray) : strings_Count.f s ⟨#[32]⟩ = some ((s.data.toList.count 32 : Nat) : Int) := rfl

theorem split_loop : ∀ (n : Nat) (s : ByteArray) (pre : List ByteArray) (k : Nat), s.size ≤ 65536 → pre.length + n ≤ 70000 → s.data.toList.count 32 = n → n + 1 ≤ k →
    strings_genSplit.l0 k s ⟨#[32]⟩ 0 ((pre.length + n : Nat) : Int) (pre ++ List.replicate (n + 1) ⟨#[]⟩) (pre.length : Int) = some (pre ++ (pieces 32 s.data.toList).map ofL) := by
  intro n
  induction n with
  | zero =>
    intro s pre k hs hp hc hk
    obtain ⟨k, rfl⟩ : ∃ i, k = i + 1 := ⟨k - 1, by omega⟩
    have e1 : wrap64 ((pre.length : Int) + 1) = ((pre.length + 1 : Nat) : Int) := by unfold wrap64; omega
    have hl : ((pre ++ List.replicate (0 + 1) (⟨#[]⟩ : ByteArray)).length : Int) = (pre.length : Int) + 1 := by simp
    simp only [strings_genSplit.l0, e1, hl, Int.toNat_natCast]
    rw [if_neg (by omega), if_pos (by omega), if_pos (by omega), if_pos (by omega), if_pos (by omega)]
    have hset : (pre ++ List.replicate (0 + 1) (⟨#[]⟩ : ByteArray)).set pre.length s = pre ++ [s] := set_at _ _ _ _
    rw [hset, List.take_of_length_le (by simp), (idx_none 32 _ hc).2]
    simp [ofL_self]
  | succ n ih =>
    intro s pre k hs hp hc hk
    obtain ⟨k, rfl⟩ : ∃ i, k = i + 1 := ⟨k - 1, by omega⟩
    obtain ⟨m, h1, h2, h3, h4⟩ := idx_some 32 s.data.toList (by omega)
    rw [size_list] at h2
    have e1 : wrap64 ((pre.length : Int) + 1) = ((pre.length + 1 : Nat) : Int) := by unfold wrap64; omega
    have e2 : wrap64 ((m : Int) + 0) = (m : Int) := by unfold wrap64; omega
    have e3 : wrap64 ((m : Int) + (((⟨#[32]⟩ : ByteArray).size : Nat) : Int)) = ((m + 1 : Nat) : Int) := by
      have : (⟨#[32]⟩ : ByteArray).size = 1 := rfl
      rw [this]; unfold wrap64; omega
    have hl : ((pre ++ List.replicate (n + 1 + 1) (⟨#[]⟩ : ByteArray)).length : Int) = (pre.length : Int) + (n : Int) + 2 := by simp; omega
    have hset : ∀ v : ByteArray, (pre ++ List.replicate (n + 1 + 1) (⟨#[]⟩ : ByteArray)).set pre.length v = (pre ++ [v]) ++ List.replicate (n + 1) ⟨#[]⟩ := by
      intro v; rw [List.replicate_succ, set_at]; simp
    have f1 : ¬ ((m : Int) < 0) := Int.not_lt.2 (Int.natCast_nonneg m)
    have f2 : (0 : Int) ≤ (m : Int) := Int.natCast_nonneg m
    have f3 : (m : Int) ≤ (s.size : Int) := Int.ofNat_le.2 (Nat.le_of_lt h2)
    have f4 : (0 : Int) ≤ (pre.length : Int) := Int.natCast_nonneg _
    have f5 : (pre.length : Int) < (pre.length : Int) + (n : Int) + 2 := by
      have := Int.natCast_nonneg n
      clear hc h1 h2 h3 h4 e1 e2 e3 hl hset f1 f2 f3 f4 hs hp ih hk
      omega
    have f6 : (0 : Int) ≤ ((m + 1 : Nat) : Int) := Int.natCast_nonneg _
    have f7 : ((m + 1 : Nat) : Int) ≤ (s.size : Int) := Int.ofNat_le.2 h2
    rw [strings_genSplit.l0, if_pos (by omega), index_of, h1, Option.bind_some, e2, e3, e1, if_neg f1, if_pos f2, if_pos f3, if_pos f4, hl, if_pos f5, if_pos f6, if_pos f7]
    simp only [Int.toNat_natCast]
    rw [hset]
    have hd : (s.extract (m + 1) s.size).data.toList = s.data.toList.drop (m + 1) := by
      rw [ByteArray.data_extract, Array.toList_extract]
      simp only [List.extract]
      apply List.take_of_length_le
      rw [List.length_drop, size_list]; exact Nat.le_refl _
    have ht : s.extract 0 m = ofL (s.data.toList.take m) := by
      apply str_eq_of
      rw [ByteArray.data_extract, Array.toList_extract]
      simp [List.extract, ofL]
    have hsz : (s.extract (m + 1) s.size).size ≤ 65536 := by
      have e : (s.extract (m + 1) s.size).size = s.size - (m + 1) := by rw [← size_list, hd, List.length_drop, size_list]
      rw [e]; exact Nat.le_trans (Nat.sub_le _ _) hs
    have hpn : (pre ++ [s.extract 0 m]).length + n ≤ 70000 := by
      have e : (pre ++ [s.extract 0 m]).length + n = pre.length + (n + 1) := by simp; omega
      rw [e]; exact hp
    have hcn : (s.data.toList.drop (m + 1)).count 32 = n := by
      have : (s.data.toList.drop (m + 1)).count 32 + 1 = n + 1 := h4.trans hc
      exact Nat.succ.inj this
    have := ih (s.extract (m + 1) s.size) (pre ++ [s.extract 0 m]) k hsz hpn (by rw [hd]; exact hcn) (Nat.le_of_succ_le_succ hk)
    rw [hd] at this
    have en : (((pre ++ [s.extract 0 m]).length + n : Nat) : Int) = ((pre.length + (n + 1) : Nat) : Int) := by simp; omega
    have ep : (((pre ++ [s.extract 0 m]).length : Nat) : Int) = ((pre.length + 1 : Nat) : Int) := by simp
    rw [en, ep] at this
    rw [this, h3, ht]
    simp
theorem split_is (s : ByteArray) (hs : s.size ≤ 65536) (k : Nat) (hk : s.size + 5 ≤ k) : strings_Split.f k s ⟨#[32]⟩ = some ((pieces 32 s.data.toList).map ofL) := by
  obtain ⟨k, rfl⟩ : ∃ i, k = i + 1 := ⟨k - 1, by omega⟩
  have hc := List.count_le_length (a := (32 : UInt8)) (l := s.data.toList)
  rw [size_list] at hc
  obtain ⟨n, hn⟩ : ∃ n, n = s.data.toList.count 32 := ⟨_, rfl⟩
  rw [← hn] at hc
  have h0 := split_loop n s [] k hs (by rw [List.length_nil, Nat.zero_add]; exact Nat.le_trans hc (Nat.le_trans hs (by decide))) hn.symm (by clear hn; omega)
  have HN := Lib.hid hn
  clear hn
  have e1 : wrap64 (((n : Nat) : Int) + 1) = ((n + 1 : Nat) : Int) := by unfold wrap64; omega
  have e2 : wrap64 ((s.size : Int) + 1) = ((s.size + 1 : Nat) : Int) := by unfold wrap64; omega
  have e3 : mn ((n + 1 : Nat) : Int) ((s.size + 1 : Nat) : Int) = ((n + 1 : Nat) : Int) := by unfold mn; rw [if_neg (by omega)]
  have e4 : wrap64 (((n + 1 : Nat) : Int) - 1) = ((n : Nat) : Int) := by unfold wrap64; omega
  have hne : ¬ (⟨#[32]⟩ : ByteArray).toList = [] := by rw [ByteArray.toList_eq]; decide
  simp only [List.nil_append, List.length_nil, Nat.zero_add] at h0
  have h0 : strings_genSplit.l0 k s ⟨#[32]⟩ 0 ((n : Nat) : Int) (List.replicate (n + 1) ⟨#[]⟩) 0 = _ := h0
  simp only [strings_Split.f, strings_genSplit.f]
  rw [if_neg (by omega), if_neg hne, if_pos (by omega), count_of, ← HN.out]
  rw [Option.bind_some, e1, strings_genSplit.j0, e2, e3, e4]
  rw [Int.toNat_natCast]
  have g1 : (0 : Int) ≤ ((n + 1 : Nat) : Int) := Int.natCast_nonneg _
  have g2 : n + 1 ≤ 17592186044416 := Nat.le_trans (Nat.succ_le_succ hc) (Nat.le_trans (Nat.succ_le_succ hs) (by decide))
  rw [if_pos g1, if_pos g2, h0]
  simp only [Option.bind_some]

/-- The words that are not empty, and where each begins. -/
def placed : Nat → List (List UInt8) → List (List UInt8 × Nat)
  | _, [] => []
  | at_, p :: r => if p = [] then placed (at_ + 1) r else (p, at_) :: placed (at_ + p.length + 1) r
def wordsOf (s : ByteArray) : List (List UInt8 × Nat) := placed 0 (pieces 32 s.data.toList)

theorem extract_mid (s : ByteArray) (pre cur rest : List UInt8) (h : s.data.toList = pre ++ cur ++ rest) : s.extract pre.length (pre.length + cur.length) = ofL cur := by
  apply str_eq_of
  rw [ByteArray.data_extract, Array.toList_extract, h]
  simp [List.extract, ofL]

theorem words_end (s : ByteArray) (hs : s.size ≤ 65536) (ws : List ByteArray) (ps : List Int) (f : Int) (k : Nat) (hk : 1 ≤ k) (i : Int) (hi : i = (s.size : Int) + 1) :
    millraceref02_Words.l0 k s ws ps f i = some (ws, ps) := by
  obtain ⟨k, rfl⟩ : ∃ i, k = i + 1 := ⟨k - 1, by omega⟩
  simp only [millraceref02_Words.l0]
  rw [if_neg (by omega)]

theorem words_loop (s : ByteArray) (hs : s.size ≤ 65536) : ∀ (rest pre : List UInt8) (ws : List ByteArray) (ps : List Int) (k : Nat), s.data.toList = pre ++ rest → ws.length ≤ pre.length → ps.length ≤ pre.length → 3 * rest.length + 10 ≤ k →
    (millraceref02_Words.l0 k s ws ps (-1) (pre.length : Int) = some (ws ++ (placed pre.length (pieces 32 rest)).map (fun x => ofL x.1), ps ++ (placed pre.length (pieces 32 rest)).map (fun x => (x.2 : Int)))) ∧
    (∀ (pre' cur : List UInt8), pre = pre' ++ cur → cur ≠ [] → ws.length ≤ pre'.length → ps.length ≤ pre'.length → ∀ p qs, pieces 32 rest = p :: qs →
      millraceref02_Words.l0 k s ws ps (pre'.length : Int) (pre.length : Int) = some (ws ++ [ofL (cur ++ p)] ++ (placed (pre.length + p.length + 1) qs).map (fun x => ofL x.1), ps ++ [(pre'.length : Int)] ++ (placed (pre.length + p.length + 1) qs).map (fun x => (x.2 : Int)))) := by
  intro rest
  induction rest with
  | nil =>
    intro pre ws ps k hl hw hp hk
    obtain ⟨k, rfl⟩ : ∃ i, k = i + 3 := ⟨k - 3, by simp at hk; omega⟩
    have hsz : s.size = pre.length := by rw [← size_list, hl]; simp
    have e1 : wrap64 ((pre.length : Int) + 1) = (s.size : Int) + 1 := by unfold wrap64; omega
    refine ⟨?_, ?_⟩
    · simp only [millraceref02_Words.l0, millraceref02_Words.j1, millraceref02_Words.j2, hsz]
      rw [if_pos (by omega), if_pos trivial]
      simp only [if_true]
      rw [if_neg (by decide), ← hsz, hsz, e1, words_end s hs ws ps (-1) k (by simp at hk; omega) _ rfl]
      simp [pieces, placed]
    · intro pre' cur hpre hcur hw' hp' p qs hpq
      simp only [pieces, List.cons.injEq] at hpq
      obtain ⟨rfl, rfl⟩ := hpq
      have hlen : pre.length = pre'.length + cur.length := by rw [hpre]; simp
      have hext : s.extract pre'.length pre.length = ofL cur := by
        rw [hlen]; exact extract_mid s pre' cur [] (by rw [hl, hpre])
      simp only [millraceref02_Words.l0, millraceref02_Words.j1, millraceref02_Words.j2, hsz]
      rw [if_pos (by omega), if_pos trivial]
      simp only [if_true]
      rw [if_pos (by simp), if_pos (by omega), if_pos (by omega), if_pos (by omega), if_pos (by omega)]
      simp only [Option.bind_some, Int.toNat_natCast]
      rw [if_pos (by omega), e1, words_end s hs _ _ (-1) k (by simp at hk; omega) _ rfl, hext]
      simp [placed]
  | cons c r ih =>
    intro pre ws ps k hl hw hp hk
    obtain ⟨k, rfl⟩ : ∃ i, k = i + 3 := ⟨k - 3, by simp at hk; omega⟩
    simp only [List.length_cons] at hk
    have hsz : s.size = pre.length + 1 + r.length := by rw [← size_list, hl]; simp; omega
    have e1 : wrap64 ((pre.length : Int) + 1) = ((pre.length + 1 : Nat) : Int) := by unfold wrap64; omega
    have hbt := bt_cons hl
    have hl2 : s.data.toList = (pre ++ [c]) ++ r := by rw [hl]; simp
    have hpl : (pre ++ [c]).length = pre.length + 1 := by simp
    have hcc := UInt8.toNat_lt c
    obtain ⟨p0, ps0, hpp⟩ := pieces_ne 32 r
    by_cases h32 : c = 32
    · have hb : ((c.toNat : Int) == 32) = true := by rw [h32]; rfl
      have hpc : pieces 32 (c :: r) = [] :: pieces 32 r := by simp [pieces, h32]
      refine ⟨?_, ?_⟩
      · have hi := (ih (pre ++ [c]) ws ps k hl2 (by omega) (by omega) (by omega)).1
        rw [hpl] at hi
        simp only [millraceref02_Words.l0, millraceref02_Words.j1, millraceref02_Words.j2, hbt, hb, if_true, e1]
        rw [if_pos (by omega), if_neg (by omega), if_pos (by omega), if_pos (by omega), if_neg (by decide), hi, hpc]
        simp [placed]
      · intro pre' cur hpre hcur hw' hp' p qs hpq
        rw [hpc] at hpq
        simp only [List.cons.injEq] at hpq
        obtain ⟨rfl, rfl⟩ := hpq
        have hlen : pre.length = pre'.length + cur.length := by rw [hpre]; simp
        have hext : s.extract pre'.length pre.length = ofL cur := by
          rw [hlen]; exact extract_mid s pre' cur (c :: r) (by rw [hl, hpre])
        have hcl : 0 < cur.length := List.length_pos_iff.2 hcur
        have hi := (ih (pre ++ [c]) (ws ++ [ofL cur]) (ps ++ [(pre'.length : Int)]) k hl2 (by simp; omega) (by simp; omega) (by omega)).1
        rw [hpl] at hi
        simp only [millraceref02_Words.l0, millraceref02_Words.j1, millraceref02_Words.j2, hbt, hb, if_true, e1]
        rw [if_pos (by omega), if_neg (by omega), if_pos (by omega), if_pos (by omega), if_pos (by simp), if_pos (by omega), if_pos (by omega), if_pos (by omega), if_pos (by omega)]
        simp only [Option.bind_some, Int.toNat_natCast]
        rw [if_pos (by omega), hext, hi]
        simp
    · have hb : ((c.toNat : Int) == 32) = false := by
        rw [beq_eq_false_iff_ne]
        intro e; apply h32
        apply UInt8.toNat_inj.1
        have : (32 : UInt8).toNat = 32 := rfl
        omega
      have hpc : pieces 32 (c :: r) = (c :: p0) :: ps0 := pieces_cons h32 hpp
      refine ⟨?_, ?_⟩
      · have hi := (ih (pre ++ [c]) ws ps k hl2 (by omega) (by omega) (by omega)).2 pre [c] rfl (by simp) hw hp p0 ps0 hpp
        rw [hpl] at hi
        simp only [millraceref02_Words.l0, millraceref02_Words.j1, millraceref02_Words.j2, hbt, hb, Bool.false_eq_true, if_false, e1]
        rw [if_pos (by omega), if_neg (by omega), if_pos (by omega), if_pos (by omega), if_pos (by decide), hi, hpc]
        simp [placed]
        have : pre.length + 1 + p0.length = pre.length + (p0.length + 1) := by omega
        rw [this]
        exact ⟨rfl, rfl⟩
      · intro pre' cur hpre hcur hw' hp' p qs hpq
        rw [hpc] at hpq
        simp only [List.cons.injEq] at hpq
        obtain ⟨rfl, rfl⟩ := hpq
        have hi := (ih (pre ++ [c]) ws ps k hl2 (by omega) (by omega) (by omega)).2 pre' (cur ++ [c]) (by rw [hpre]; simp) (by simp) hw' hp' p0 ps0 hpp
        rw [hpl] at hi
        simp only [millraceref02_Words.l0, millraceref02_Words.j1, millraceref02_Words.j2, hbt, hb, Bool.false_eq_true, if_false, e1]
        rw [if_pos (by omega), if_neg (by omega), if_pos (by omega), if_pos (by omega), if_neg (by omega), hi]
        have : pre.length + 1 + p0.length = pre.length + (p0.length + 1) := by omega
        simp [this]
theorem words_is (s : ByteArray) (hs : s.size ≤ 65536) (k : Nat) (hk : 3 * s.size + 10 ≤ k) : millraceref02_Words.f k s = some ((wordsOf s).map (fun x => ofL x.1), (wordsOf s).map (fun x => (x.2 : Int))) := by
  have := (words_loop s hs s.data.toList [] [] [] k (by simp) (by simp) (by simp) (by rw [size_list]; omega)).1
  simpa [millraceref02_Words.f, wordsOf] using this

end Go.Proofs.YtbggmdgeanoelaaDoor.Pure
