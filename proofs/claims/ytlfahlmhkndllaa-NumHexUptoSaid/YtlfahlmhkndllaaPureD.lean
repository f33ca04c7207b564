/- Laws of Hex and Unhex: two digits an octet, and back; laws of the decimal read back. -/
import Derived.Test.YtlfahlmhkndllaaPNumx7
import Derived.Test.YtlfahlmhkndllaaPureC
namespace Go.Proofs.Ytlfahlmhkndllaa.Pure
open Go.RowKit Go.Proofs.Ytlfahlmhkndllaa.PNum Go.Proofs.YtlfahlmhkndllaaW.PrintWords Go.Proofs.YtlfahlmhkndllaaW.PrintLast
set_option linter.unusedVariables false
set_option linter.unusedSimpArgs false

theorem ref_unhex_loop0 (s : ByteArray) (hs : s.size ≤ 140737488351232) : ∀ (rest pre : List UInt8) (k j : Nat), s.data.toList = pre ++ rest → 2 ≤ j → k = rest.length + 1 + j →
    millraceref01_Unhex.l0 k s (pre.length : Int) = match numBad pre.length rest with
      | some i => some ([], 11, (i : Int))
      | none => if s.size % 2 = 1 then some ([], 3, (s.size : Int)) else millraceref01_Unhex.l1 j s [] 0 := by
  intro rest
  induction rest with
  | nil =>
    intro pre k j hl hj hk
    obtain rfl : k = j + 1 := by rw [hk]; simp; omega
    have hsz : s.size = pre.length := by rw [← size_list, hl]; simp
    simp only [millraceref01_Unhex.l0, numBad]
    rw [if_neg (by omega)]
    by_cases h : s.size % 2 = 1
    · rw [if_pos h, if_pos (by omega)]
    · rw [if_neg h, if_neg (by omega)]
  | cons c r ih =>
    intro pre k j hl hj hk
    obtain ⟨k, rfl⟩ : ∃ i, k = i + 1 := ⟨k - 1, by rw [hk]; simp; omega⟩
    simp only [List.length_cons] at hk
    have hsz : s.size = pre.length + 1 + r.length := by rw [← size_list, hl]; simp; omega
    have hc := UInt8.toNat_lt c
    have hv := ref_value k (by omega) (c.toNat : Int) (by omega) (by omega)
    have hw := numWorth_range (c.toNat : Int)
    have e1 : wrap64 ((pre.length : Int) + 1) = ((pre.length + 1 : Nat) : Int) := by unfold wrap64; omega
    simp only [millraceref01_Unhex.l0, bt_cons hl, hv, Option.bind_some, numBad]
    rw [if_pos (by omega), if_pos (by omega)]
    by_cases h1 : numWorth (c.toNat : Int) < 0
    · rw [if_pos h1, if_pos rfl, if_pos h1]
    · rw [if_neg h1, if_neg (by omega), if_neg h1, e1]
      have := ih (pre ++ [c]) k j (by simp [hl]) hj (by omega)
      simp only [List.length_append, List.length_singleton] at this
      exact this

theorem wrap_add (n c : Nat) (h : n + c ≤ 9223372036854775807) : wrap64 ((n : Int) + (c : Int)) = ((n + c : Nat) : Int) := by unfold wrap64; omega
theorem or64 (a b : Int) (ha : 0 ≤ a ∧ a ≤ 15) (hb : 0 ≤ b ∧ b ≤ 15) : (Go.bits .or .i64 (wrap64 (a * 16)) b) % 256 = a * 16 + b := by
  have : ∀ x y : Fin 16, (Go.bits .or .i64 (wrap64 ((x.1 : Int) * 16)) (y.1 : Int)) % 256 = (x.1 : Int) * 16 + (y.1 : Int) := by decide +kernel
  have h := this ⟨a.toNat, by omega⟩ ⟨b.toNat, by omega⟩
  have e1 : ((a.toNat : Nat) : Int) = a := by omega
  have e2 : ((b.toNat : Nat) : Int) = b := by omega
  simpa only [e1, e2] using h

theorem numBad_none {l : List UInt8} : ∀ {i : Nat}, numBad i l = none → ∀ c ∈ l, 0 ≤ numWorth (c.toNat : Int) := by
  induction l with
  | nil => intro i _ c h; simp at h
  | cons a r ih =>
    intro i h c hc
    simp only [numBad] at h
    split at h
    · simp at h
    · rcases List.mem_cons.1 hc with e | e
      · rw [e]; omega
      · exact ih h c e
theorem numBad_of {l : List UInt8} : ∀ {i : Nat}, (∀ c ∈ l, 0 ≤ numWorth (c.toNat : Int)) → numBad i l = none := by
  induction l with
  | nil => intro i _; rfl
  | cons a r ih =>
    intro i h
    have := h a (by simp)
    simp only [numBad]
    rw [if_neg (by omega)]
    exact ih fun c hc => h c (by simp [hc])

theorem ref_unhex_loop1 (s : ByteArray) (hs : s.size ≤ 140737488351232) (hok : ∀ c ∈ s.data.toList, 0 ≤ numWorth (c.toNat : Int)) : ∀ (m : Nat) (rest pre : List UInt8) (acc : List Int) (k : Nat), s.data.toList = pre ++ rest → rest.length = 2 * m →
    acc.length + m ≤ 140737488351232 → m + 3 ≤ k → millraceref01_Unhex.l1 k s acc (pre.length : Int) = some (acc ++ numPairs (numWorths rest), 0, (s.size : Int)) := by
  intro m
  induction m with
  | zero =>
    intro rest pre acc k hl hr ha hk
    obtain ⟨k, rfl⟩ : ∃ i, k = i + 1 := ⟨k - 1, by omega⟩
    have hrn : rest = [] := List.eq_nil_of_length_eq_zero (by omega)
    subst hrn
    have hsz : s.size = pre.length := by rw [← size_list, hl]; simp
    simp only [millraceref01_Unhex.l1]
    rw [if_neg (by omega)]
    simp [numWorths, numPairs]
  | succ m ih =>
    intro rest pre acc k hl hr ha hk
    obtain ⟨k, rfl⟩ : ∃ i, k = i + 1 := ⟨k - 1, by omega⟩
    obtain ⟨c, d, r, rfl⟩ : ∃ c d r, rest = c :: d :: r := by
      match rest with
      | [] => simp at hr
      | [_] => simp at hr; omega
      | c :: d :: r => exact ⟨c, d, r, rfl⟩
    have hr' : r.length = 2 * m := by simp only [List.length_cons] at hr; omega
    clear hr
    have hsz : s.size = pre.length + 2 + r.length := by rw [← size_list, hl]; simp; omega
    have hl2 : s.data.toList = (pre ++ [c]) ++ d :: r := by rw [hl]; simp
    have hbd := bt_cons hl2
    simp only [List.length_append, List.length_singleton] at hbd
    have hc := UInt8.toNat_lt c; have hd := UInt8.toNat_lt d
    have hoc := hok c (by rw [hl]; simp); have hod := hok d (by rw [hl]; simp)
    have hrc := numWorth_range (c.toNat : Int); have hrd := numWorth_range (d.toNat : Int)
    have hv := ref_value k (by omega) (c.toNat : Int) (by omega) (by omega)
    have hv2 := ref_value k (by omega) (d.toNat : Int) (by omega) (by omega)
    rw [if_neg (by omega)] at hv hv2
    have hp2 : pre.length + 2 ≤ 140737488351232 := by rw [hsz] at hs; exact Nat.le_trans (Nat.le_add_right _ _) hs
    have e1 : wrap64 ((pre.length : Int) + 1) = ((pre.length + 1 : Nat) : Int) := wrap_add pre.length 1 (by omega)
    have e2 : wrap64 ((pre.length : Int) + 2) = ((pre.length + 2 : Nat) : Int) := wrap_add pre.length 2 (Nat.le_trans hp2 (by decide))
    have f1 : (pre.length : Int) < (s.size : Int) := by rw [hsz]; clear hs hsz hr' ha hk e1 e2 hp2; omega
    have f2 : ((pre.length + 1 : Nat) : Int) < (s.size : Int) := by rw [hsz]; clear hs hsz hr' ha hk e1 e2 hp2; omega
    have f3 : (0 : Int) ≤ (pre.length : Int) := Int.natCast_nonneg _
    have f4 : (0 : Int) ≤ ((pre.length + 1 : Nat) : Int) := Int.natCast_nonneg _
    have f5 : acc.length < 140737488355328 := by clear hs hsz hr' hk e1 e2 hp2 f1 f2 f3 f4; omega
    simp only [millraceref01_Unhex.l1, bt_cons hl, hv, Option.bind_some, e1, e2, hbd, hv2]
    rw [if_pos f1, if_pos f3, if_pos f4, if_pos f2, if_pos f5, or64 _ _ ⟨hoc, hrc.2⟩ ⟨hod, hrd.2⟩]
    have := ih r (pre ++ [c, d]) (acc ++ [numWorth (c.toNat : Int) * 16 + numWorth (d.toNat : Int)]) k (by rw [hl]; simp) hr' (by simp; omega) (by omega)
    simp only [List.length_append, List.length_cons, List.length_nil] at this
    have e3 : ((pre.length + 2 : Nat) : Int) = ((pre.length + (0 + 1 + 1) : Nat) : Int) := rfl
    rw [e3, this]
    simp [numWorths, numPairs]

theorem ref_Unhex_is (s : ByteArray) (hs : s.size ≤ 140737488351232) (k : Nat) (hk : 2 * s.size + 10 ≤ k) : millraceref01_Unhex.f k s = some (unhexOf s) := by
  have h0 := ref_unhex_loop0 s hs s.data.toList [] k (k - 1 - s.size) (by simp) (by omega) (by rw [size_list]; omega)
  have h0' : millraceref01_Unhex.f k s = _ := h0
  rw [h0', unhexOf]
  simp only [List.length_nil]
  cases hb : numBad 0 s.data.toList with
  | some i => rfl
  | none =>
    simp only
    by_cases ho : s.size % 2 = 1
    · rw [if_pos ho, if_pos ho]
    · rw [if_neg ho, if_neg ho]
      exact ref_unhex_loop1 s hs (numBad_none hb) (s.size / 2) s.data.toList [] [] _ (by simp) (by rw [size_list]; omega) (by simp; omega) (by omega)

theorem ref_hex_loop (l : List Int) (hb : ∀ c ∈ l, 0 ≤ c ∧ c ≤ 255) : ∀ (rest pre acc : List Int) (k : Nat), l = pre ++ rest → l.length ≤ 1048576 → acc.length + 2 * rest.length ≤ 140737488355327 → rest.length + 1 ≤ k →
    millraceref01_Hex.l0 k l acc (pre.length : Int) = some (strOfNums (acc ++ numHexes rest)) := by
  intro rest
  induction rest with
  | nil =>
    intro pre acc k hl hm ha hk
    obtain ⟨k, rfl⟩ : ∃ i, k = i + 1 := ⟨k - 1, by omega⟩
    have : l.length = pre.length := by rw [hl]; simp
    simp only [millraceref01_Hex.l0]
    rw [if_neg (by omega)]; simp [numHexes]
  | cons c r ih =>
    intro pre acc k hl hm ha hk
    obtain ⟨k, rfl⟩ : ∃ i, k = i + 1 := ⟨k - 1, by omega⟩
    simp only [List.length_cons] at ha hk
    have hlen : l.length = pre.length + 1 + r.length := by rw [hl]; simp; omega
    have hc := hb c (by rw [hl]; simp)
    have hrd : rd l (pre.length : Int) = c := by rw [hl]; exact num_rd_at c pre r
    obtain ⟨cn, rfl⟩ : ∃ n : Nat, c = (n : Int) := ⟨c.toNat, by omega⟩
    have hlow := num_low cn (cn % 16) (by omega) rfl
    have hdiv : ((cn : Int) / 16) = ((cn / 16 : Nat) : Int) := by omega
    have e1 : wrap64 ((pre.length : Int) + 1) = ((pre.length + 1 : Nat) : Int) := by unfold wrap64; omega
    simp only [millraceref01_Hex.l0, hrd, hlow, hdiv, e1, Option.bind_some, List.length_cons, List.length_nil]
    rw [if_pos (by omega), if_pos (by omega), if_pos (by omega), if_pos (by omega), if_pos (by omega), if_pos (by omega), if_pos (by omega), bt_digit _ (by omega), bt_digit _ (by omega)]
    have := ih (pre ++ [(cn : Int)]) (acc ++ [numChr (cn / 16), numChr (cn % 16)]) k (by rw [hl]; simp) hm (by simp; omega) (by omega)
    simp only [List.length_append, List.length_singleton] at this
    rw [this]
    simp [numHexes]

theorem ref_Hex_is (l : List Int) (hb : ∀ c ∈ l, 0 ≤ c ∧ c ≤ 255) (h : l.length ≤ 1048576) (k : Nat) (hk : l.length + 1 ≤ k) : millraceref01_Hex.f k l = some (strOfNums (numHexes l)) := by
  have := ref_hex_loop l hb l [] [] k (by simp) h (by simp; omega) hk
  rw [List.nil_append] at this; exact this
theorem num_Hex_is (l : List Int) (hb : ∀ c ∈ l, 0 ≤ c ∧ c ≤ 255) (h : l.length ≤ 1048576) : num_Hex.f l = some (strOfNums (numHexes l)) := by
  rw [num_Hex.f, if_pos]
  refine ⟨by omega, ?_⟩
  rw [List.all_eq_true]; intro c hc
  have := hb c hc
  simp; omega

theorem hexes_worth (l : List Int) (hb : ∀ c ∈ l, 0 ≤ c ∧ c ≤ 255) : numPairs (numWorths (strOfNums (numHexes l)).data.toList) = l ∧ ∀ c ∈ (strOfNums (numHexes l)).data.toList, 0 ≤ numWorth (c.toNat : Int) := by
  rw [str_list]
  induction l with
  | nil => exact ⟨rfl, by simp [numHexes]⟩
  | cons c r ih =>
    have hc := hb c (by simp)
    obtain ⟨h1, h2⟩ := ih fun c hc => hb c (by simp [hc])
    have w1 := (chr_worth (c.toNat / 16) (by omega)).1
    have w2 := (chr_worth (c.toNat % 16) (by omega)).1
    have hw1 : numWorth (((UInt8.ofNat (numChr (c.toNat / 16)).toNat).toNat : Nat) : Int) = ((c.toNat / 16 : Nat) : Int) := w1
    have hw2 : numWorth (((UInt8.ofNat (numChr (c.toNat % 16)).toNat).toNat : Nat) : Int) = ((c.toNat % 16 : Nat) : Int) := w2
    refine ⟨?_, ?_⟩
    · simp only [numHexes, List.map_cons, numWorths, numPairs, hw1, hw2]
      simp only [numWorths] at h1
      rw [h1]
      congr 1; omega
    · intro x hx
      simp only [numHexes, List.map_cons, List.mem_cons] at hx
      rcases hx with h | h | h
      · rw [h, hw1]; omega
      · rw [h, hw2]; omega
      · exact h2 x h
theorem unhex_hex (l : List Int) (hb : ∀ c ∈ l, 0 ≤ c ∧ c ≤ 255) : unhexOf (strOfNums (numHexes l)) = (l, 0, ((2 * l.length : Nat) : Int)) := by
  obtain ⟨h1, h2⟩ := hexes_worth l hb
  have hsz : (strOfNums (numHexes l)).size = 2 * l.length := by rw [strOfNums_size, numHexes_len]
  rw [unhexOf, numBad_of h2]
  simp only [h1, hsz]
  rw [if_neg (by omega)]

theorem wf_u8 {l : List Int} (h : ∀ x ∈ l, (Lit.int .u8 x).wf = true) : ∀ c ∈ l, 0 ≤ c ∧ c ≤ 255 := by
  intro c hc
  simpa [Lit.wf, IntKind.min, IntKind.max, IntKind.signed, IntKind.bits] using h c hc

/-- NumHex, of slices and texts of bulk at most 1048576. -/
theorem NumHexUpto (l : List Int) (s : ByteArray) (hl : l.length ≤ 1048576) (hw : ∀ x ∈ l, (Lit.int .u8 x).wf = true) (hs : s.size ≤ 1048576) : ∃ k, millracelaw01_NumHex.f k l s = some true := by
  have hb := wf_u8 hw
  have hu := unhexOf_len s
  refine ⟨3000000, ?_⟩
  simp only [millracelaw01_NumHex.f, copy_is l (by omega), Option.bind_some, num_Unhex_is s (by omega), ref_Unhex_is s (by omega) 3000000 (by omega), num_Hex_is l hb hl, ref_Hex_is l hb hl 3000000 (by omega),
    same_is l (by omega) 3000000 (by omega), same_is (unhexOf s).1 (by omega) 3000000 (by omega), alive_is 3000000 (by omega), if_true]

/-- A decimal of at most 19 digits. -/
theorem digNums_len (L n : Nat) (h : n < 10 ^ (L + 1)) : ∀ f, (digNums 10 f n).length ≤ L + 1 := by
  induction L generalizing n with
  | zero =>
    intro f
    cases f with
    | zero => simp [digNums]
    | succ f => simp only [digNums]; rw [if_pos (by omega)]; simp
  | succ L ih =>
    intro f
    cases f with
    | zero => simp [digNums]
    | succ f =>
      simp only [digNums, List.length_cons]
      split
      · simp
      · have := ih (n / 10) (by rw [Nat.pow_succ] at h; omega) f
        omega
theorem txt_19 (n : Nat) (h : n < 10000000000000000000) : (txt 10 n).size ≤ 19 := by
  rw [txt_size]; exact digNums_len 18 n (by simpa using h) 64
theorem pbOf_txt (n : Nat) (h : n < 2 ^ 64) : pbOf (txt 10 n) = ((n : Int), 0, ((txt 10 n).size : Int)) := by
  have h1 := read_back 10 n (by omega) (by omega) h
  have h2 := num_pb (txt 10 n) (by have := txt_le 10 n; omega)
  have h3 : num_ParseBase.f (txt 10 n) ((10 : Nat) : Int) = some (pbOf (txt 10 n)) := h2
  rw [h1] at h3
  exact (Option.some.inj h3).symm

/-- A whole number written in decimal is read back. -/
theorem parsed_dec (a : Int) (h0 : -9223372036854775808 ≤ a) (h : a ≤ 9223372036854775807) : parsed (decOf a) = (a, 0) := by
  rw [parsed]
  by_cases hn : a < 0
  · rw [if_pos (decOf_neg a hn)]
    have hd : decOf a = ⟨#[45]⟩ ++ txt 10 (-a).toNat := by rw [decOf, if_pos hn]; rfl
    have hx : (decOf a).extract 1 (decOf a).size = txt 10 (-a).toNat := by
      have hl : (decOf a).data.toList = 45 :: (txt 10 (-a).toNat).data.toList := by rw [hd]; simp
      apply str_eq_of
      rw [ByteArray.data_extract, Array.toList_extract, hl, ← size_list, hl]
      simp only [List.extract, List.drop_one, List.tail_cons, List.length_cons, Nat.add_sub_cancel]
      exact List.take_length
    have hs := txt_19 (-a).toNat (by omega)
    rw [hx, intOf, pbOf_txt _ (by omega), if_neg (by simp; omega)]
    have e : wrap64 (IntKind.u64.wrap (-(((-a).toNat : Nat) : Int))) = a := by simp only [IntKind.wrap_u64, wrap64]; omega
    simp only [if_true, e]
  · rw [if_neg (decOf_pos a (by omega))]
    have hd : decOf a = txt 10 a.toNat := by rw [decOf, if_neg hn]; rfl
    have hs := txt_19 a.toNat (by omega)
    have hp := pbOf_txt a.toNat (by omega)
    rw [← hd] at hs hp
    rw [intOf, hp, if_neg (by simp; omega)]
    have e : wrap64 ((a.toNat : Nat) : Int) = a := by unfold wrap64; omega
    simp only [Bool.false_eq_true, if_false, e, if_true]

/-- The first digit is no zero, but for zero itself. -/
theorem digNums_last (b : Nat) (hb : 2 ≤ b) : ∀ (f n : Nat), 0 < n → n < 2 ^ f → (digNums b f n).getLast? ≠ some 0 := by
  intro f
  induction f with
  | zero => intro n h0 h; simp at h; omega
  | succ f ih =>
    intro n h0 h
    have hmn := Nat.div_add_mod n b
    simp only [digNums]
    split
    · rename_i hq
      rw [hq, Nat.mul_zero] at hmn
      simp; omega
    · rename_i hq
      have hdiv : n / b < 2 ^ f := by
        apply Nat.div_lt_of_lt_mul
        calc n < 2 ^ (f + 1) := h
          _ = 2 * 2 ^ f := by rw [Nat.pow_succ]; omega
          _ ≤ b * 2 ^ f := Nat.mul_le_mul_right _ hb
      have := ih (n / b) (Nat.pos_of_ne_zero hq) hdiv
      cases hd : digNums b f (n / b) with
      | nil => cases f with
        | zero => simp only [Nat.pow_zero] at hdiv; exact absurd (Nat.lt_one_iff.1 hdiv) hq
        | succ f => simp [digNums] at hd
      | cons x r => rw [hd] at this; simpa [List.getLast?_cons] using this
theorem chr_48 (d : Nat) (h : d < 16) : chrByte d = 48 ↔ d = 0 := by
  have : ∀ d : Fin 16, chrByte d.1 = 48 ↔ d.1 = 0 := by decide +kernel
  exact this ⟨d, h⟩
theorem txt_first (b n : Nat) (hb2 : 2 ≤ b) (hb : b ≤ 16) (hn : n < 2 ^ 64) (h : ¬ (txt b n).data.toList = [48]) : bt (txt b n) 0 ≠ 48 := by
  by_cases h0 : n = 0
  · exfalso; apply h
    subst h0; rw [txt_list]; simp [digNums]; decide
  · have hl := digNums_last b hb2 64 n (by omega) hn
    cases hd : (digNums b 64 n).reverse with
    | nil => simp [digNums] at hd
    | cons x r =>
      have hx : x ∈ digNums b 64 n := by rw [← List.mem_reverse, hd]; simp
      have hxl := digNums_lt b (by omega) 64 n x hx
      have hgl : (digNums b 64 n).getLast? = some x := by rw [← List.head?_reverse, hd]; rfl
      rw [hgl] at hl
      have hlist : (txt b n).data.toList = [] ++ chrByte x :: r.map chrByte := by rw [txt_list, hd]; rfl
      have hbt := bt_cons hlist
      have hbt : bt (txt b n) 0 = _ := hbt
      rw [hbt]
      intro he
      have hx0 : x ≠ 0 := fun e => hl (by rw [e])
      apply hx0
      rw [← chr_48 x (by omega)]
      apply UInt8.toNat_inj.1
      have : (48 : UInt8).toNat = 48 := rfl
      omega

/-- NumBack, of slices of bulk at most 1048576. -/
theorem NumBackUpto (a n b : Int) (l : List Int) (w0 : (Lit.int .i64 a).wf = true) (w1 : (Lit.int .u64 n).wf = true) (w2 : (Lit.int .i64 b).wf = true) (hl : l.length ≤ 1048576) (hw : ∀ x ∈ l, (Lit.int .u8 x).wf = true) :
    ∃ k, millracelaw01_NumBack.f k a n b l = some true := by
  have w0' : -9223372036854775808 ≤ a ∧ a ≤ 9223372036854775807 := by simpa [Lit.wf, IntKind.min, IntKind.max, IntKind.signed, IntKind.bits] using w0
  have w1' : 0 ≤ n ∧ n ≤ 18446744073709551615 := by simpa [Lit.wf, IntKind.min, IntKind.max, IntKind.signed, IntKind.bits] using w1
  have hb := wf_u8 hw
  have hdsz : (decOf a).size ≤ 100 := by
    unfold decOf
    split
    · have := digs_size 10 (-a).toNat
      rw [ByteArray.size_append]
      have : (⟨#[45]⟩ : ByteArray).size = 1 := rfl
      omega
    · have := digs_size 10 a.toNat; omega
  have hhsz : (strOfNums (numHexes l)).size ≤ 140737488351232 := by rw [strOfNums_size, numHexes_len]; omega
  refine ⟨3000000 + 1, ?_⟩
  have hz : wrap64 (0 + 0) = 0 := by decide +kernel
  simp only [millracelaw01_NumBack.f, alive_is (3000000 + 1) (by omega), Option.bind_some, if_true, num_Decimal_is a w0'.1 w0'.2, num_ParseInt_is (3000000 + 1) (by omega) (decOf a) (by omega), parsed_dec a w0'.1 w0'.2,
    num_Hex_is l hb hl, num_Unhex_is _ hhsz, unhex_hex l hb, hz, same_is l (by omega) (3000000 + 1) (by omega), Bool.not_true, millracelaw01_NumBack.j0, Bool.false_eq_true, if_false]
  by_cases h1 : b < 2
  · simp only [num_Base.f, if_pos h1, Option.bind_some]; rw [if_neg (by decide), ByteArray.toList_eq]; rfl
  by_cases h2 : b > 16
  · simp only [num_Base.f, if_neg h1, if_pos h2, Option.bind_some]; rw [if_neg (by decide), ByteArray.toList_eq]; rfl
  have hrb := read_back b.toNat n.toNat (by omega) (by omega) (by omega)
  have e1 : ((n.toNat : Nat) : Int) = n := by omega
  have e2 : ((b.toNat : Nat) : Int) = b := by omega
  rw [e1, e2] at hrb
  have hp := txt_pos b.toNat n.toNat
  simp only [num_Base_is n b (by omega) (by omega) (by omega) (by omega), Option.bind_some, hrb, if_true, ByteArray.toList_eq]
  by_cases h48 : (txt b.toNat n.toNat).data.toList = [48]
  · rw [if_pos h48]
  · rw [if_neg h48, if_pos (by omega)]
    have := txt_first b.toNat n.toNat (by omega) (by omega) (by omega) h48
    simpa using this

end Go.Proofs.Ytlfahlmhkndllaa.Pure
