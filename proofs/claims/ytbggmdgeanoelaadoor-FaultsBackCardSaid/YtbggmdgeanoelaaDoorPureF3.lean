/- Texts read as faults: read and word, Parse and the document's Parse. -/
import Derived.Test.YtbggmdgeanoelaaDoorPureF2
namespace Go.Proofs.YtbggmdgeanoelaaDoor.Pure
open Go.RowKit Go.Proofs.YtbggmdgeanoelaaDoor.Ft Go.Proofs.YtbggmdgeanoelaaDoorW.PrintWords Go.Proofs.YtbggmdgeanoelaaDoorW.PrintLast Go.Proofs.YtbggmdgeanoelaaDoorW.PrintMore
set_option linter.unusedVariables false
set_option linter.unusedSimpArgs false

/-- The place of a letter among f, s, i, a. -/
def letter (c : UInt8) : Int := if c = 102 then 0 else if c = 115 then 1 else if c = 105 then 2 else if c = 97 then 3 else -1
theorem letter_is (c : UInt8) : Lib.indexByte [102, 115, 105, 97] c = letter c := by
  have : ∀ c : Fin 256, Lib.indexByte [102, 115, 105, 97] (UInt8.ofNat c.1) = letter (UInt8.ofNat c.1) := by decide +kernel
  have h := this ⟨c.toNat, UInt8.toNat_lt c⟩
  simpa using h
/-- What read tells of a word that is not empty. -/
def readOf (c : UInt8) (r : List UInt8) : S44 × Bool :=
  if letter c = 1 then
    (if (parsed (ofL r)).2 = 0 then (if 8 < r.length + 1 then (⟨1, 0⟩, false) else (⟨1, (parsed (ofL r)).1⟩, decide (1 ≤ (parsed (ofL r)).1) && decide ((parsed (ofL r)).1 ≤ 1048576))) else (⟨1, 0⟩, false))
  else (⟨letter c, 0⟩, decide (0 ≤ letter c) && decide (r = []))
theorem read_is (c : UInt8) (r : List UInt8) (hr : r.length ≤ 70000) (k : Nat) (hk : 3 ≤ k) : faults_read.f k (ofL (c :: r)) = some ((readOf c r).1.f0, (readOf c r).1.f1, (readOf c r).2) := by
  have hsz : (ofL (c :: r)).size = r.length + 1 := by rw [ofL_size]; rfl
  have hb : bt (ofL (c :: r)) 0 = (c.toNat : Int) := bt_cons (s := ofL (c :: r)) (pre := []) (c := c) (r := r) rfl
  have hidx : strings_IndexByte.f (⟨#[102, 115, 105, 97]⟩ : ByteArray) (c.toNat : Int) = some (letter c) := by
    rw [strings_IndexByte.f, ← letter_is]
    simp
  have hx : (ofL (c :: r)).extract 1 (ofL (c :: r)).size = ofL r := by
    apply str_eq_of
    rw [ByteArray.data_extract, Array.toList_extract, hsz]
    simp [List.extract, ofL]
  have hcr : -1 ≤ letter c ∧ letter c ≤ 3 := by unfold letter; repeat' split <;> omega
  simp only [faults_read.f, hb, hidx, Option.bind_some, hx]
  rw [if_pos (by omega), readOf]
  by_cases h1 : letter c = 1
  · rw [if_pos h1, if_pos (by omega), num_ParseInt_is k hk (ofL r) (by rw [ofL_size]; omega), if_pos h1, h1]
    simp only [Option.bind_some]
    by_cases h2 : (parsed (ofL r)).2 = 0
    · rw [if_pos h2, if_pos h2]
      by_cases h3 : 8 < r.length + 1
      · rw [if_pos (by omega), if_pos h3]
      · rw [if_neg (by omega), if_neg h3]
        simp only [faults_may.f, if_true]
        by_cases h4 : 1 ≤ (parsed (ofL r)).1
        · rw [if_pos h4]; simp [h4]
        · rw [if_neg h4]; simp [h4]
    · rw [if_neg h2, if_neg h2]
  · rw [if_neg h1, if_neg h1]
    by_cases h2 : 0 ≤ letter c
    · rw [if_pos h2, hsz]
      cases r with
      | nil => simp [h2]
      | cons a b =>
        have : ¬ ((b.length : Int) + 1 + 1 = 1) := by omega
        simp [h2, this]
    · rw [if_neg h2]; simp [h2]

/-- The document's word: the same where it is one. -/
theorem word_is (c : UInt8) (r : List UInt8) (hr : r.length ≤ 65536) (k : Nat) (hk : r.length + 100 ≤ k) : ∃ f : S44, millraceref02_word.f k (ofL (c :: r)) = some (f.f0, f.f1, (readOf c r).2) ∧ ((readOf c r).2 = true → f = (readOf c r).1) := by
  have hsz : (ofL (c :: r)).size = r.length + 1 := by rw [ofL_size]; rfl
  have hb : bt (ofL (c :: r)) 0 = (c.toNat : Int) := bt_cons (s := ofL (c :: r)) (pre := []) (c := c) (r := r) rfl
  have hx : (ofL (c :: r)).extract 1 (ofL (c :: r)).size = ofL r := by
    apply str_eq_of
    rw [ByteArray.data_extract, Array.toList_extract, hsz]
    simp [List.extract, ofL]
  have hl : (ofL (c :: r)).toList = c :: r := by rw [ByteArray.toList_eq]; rfl
  simp only [millraceref02_word.f, hb, hl, hx, List.cons.injEq]
  by_cases h1 : c = 102 ∧ r = []
  · obtain ⟨rfl, rfl⟩ := h1
    rw [if_pos ⟨rfl, rfl⟩]
    exact ⟨⟨0, 0⟩, by rfl, fun _ => rfl⟩
  rw [if_neg h1]
  by_cases h2 : c = 105 ∧ r = []
  · obtain ⟨rfl, rfl⟩ := h2
    rw [if_pos ⟨rfl, rfl⟩]
    exact ⟨⟨2, 0⟩, by rfl, fun _ => rfl⟩
  rw [if_neg h2]
  by_cases h3 : c = 97 ∧ r = []
  · obtain ⟨rfl, rfl⟩ := h3
    rw [if_pos ⟨rfl, rfl⟩]
    exact ⟨⟨3, 0⟩, by rfl, fun _ => rfl⟩
  rw [if_neg h3, if_pos (by omega)]
  by_cases h4 : c = 115
  · have hl1 : letter c = 1 := by rw [h4]; rfl
    have hc : (c.toNat : Int) = 115 := by rw [h4]; rfl
    rw [if_pos hc, readOf, if_pos hl1]
    have hpr := ref_ParseInt_is k (ofL r) (by rw [ofL_size]; omega) (by rw [ofL_size]; omega)
    by_cases h5 : r = []
    · have hp : (parsed (ofL r)).2 = 11 := by rw [h5]; decide +kernel
      rw [if_pos (by rw [hsz, h5]; decide), if_neg (by omega)]
      exact ⟨⟨0, 0⟩, rfl, fun h => by cases h⟩
    · have hrl : 0 < r.length := List.length_pos_iff.2 h5
      rw [if_neg (by omega)]
      by_cases h6 : 8 < r.length + 1
      · rw [if_pos (by omega), if_pos h6]
        refine ⟨⟨0, 0⟩, ?_, ?_⟩
        · split <;> rfl
        · intro h; split at h <;> cases h
      · rw [if_neg (by omega), if_pos (by omega), hpr, if_neg h6]
        simp only [Option.bind_some]
        by_cases h7 : (parsed (ofL r)).2 = 0
        · rw [if_pos h7, if_pos h7]
          by_cases h8 : 1 ≤ (parsed (ofL r)).1
          · rw [if_pos h8]; exact ⟨⟨1, (parsed (ofL r)).1⟩, by simp [h8], fun _ => rfl⟩
          · rw [if_neg h8]; exact ⟨⟨1, (parsed (ofL r)).1⟩, by simp [h8], fun _ => rfl⟩
        · rw [if_neg h7, if_neg h7]; exact ⟨⟨1, (parsed (ofL r)).1⟩, rfl, fun h => by cases h⟩
  · have hc : ¬ (c.toNat : Int) = 115 := by
      intro e; apply h4
      apply UInt8.toNat_inj.1
      have : (115 : UInt8).toNat = 115 := rfl
      omega
    have hl1 : ¬ letter c = 1 := by unfold letter; repeat' split <;> simp_all
    rw [if_neg hc, readOf, if_neg hl1]
    have hbad : (decide (0 ≤ letter c) && decide (r = [])) = false := by
      by_cases h5 : r = []
      · have : letter c = -1 := by
          unfold letter
          rw [if_neg (fun e => h1 ⟨e, h5⟩), if_neg h4, if_neg (fun e => h2 ⟨e, h5⟩), if_neg (fun e => h3 ⟨e, h5⟩)]
        simp [this]
      · simp [h5]
    rw [hbad]
    exact ⟨⟨0, 0⟩, rfl, fun h => by cases h⟩

/-- A word's fault. -/
def readW (p : List UInt8) : S44 × Bool := match p with | c :: r => readOf c r | [] => (⟨0, 0⟩, false)
/-- The first bad word's place; -1: none. -/
def badOf : List (List UInt8 × Nat) → Int
  | [] => -1
  | x :: r => if (readW x.1).2 = true then badOf r else (x.2 : Int)
theorem badOf_ge : ∀ ws, -1 ≤ badOf ws := by
  intro ws
  induction ws with
  | nil => simp [badOf]
  | cons x r ih => simp only [badOf]; split <;> omega
theorem placed_ne : ∀ (ps : List (List UInt8)) (a : Nat), ∀ x ∈ placed a ps, x.1 ≠ [] := by
  intro ps
  induction ps with
  | nil => intro a x h; simp [placed] at h
  | cons p r ih =>
    intro a x h
    simp only [placed] at h
    split at h
    · exact ih _ x h
    · rcases List.mem_cons.1 h with e | e
      · rw [e]; assumption
      · exact ih _ x e
/-- What Parse tells. -/
def parsedF (s : ByteArray) : List S44 × Int × Int :=
  if 65536 < s.size then ([], 5, 0) else if 4096 < (wordsOf s).length then ([], 3, 0) else if 0 ≤ badOf (wordsOf s) then ([], 21, badOf (wordsOf s)) else ((wordsOf s).map (fun x => (readW x.1).1), 0, (s.size : Int))

theorem sum_pieces : ∀ l : List UInt8, ((pieces 32 l).map (fun p => p.length + 1)).sum = l.length + 1 := by
  intro l
  induction l with
  | nil => rfl
  | cons x r ih =>
    obtain ⟨p, ps, h⟩ := pieces_ne 32 r
    by_cases hx : x = 32
    · have : pieces 32 (x :: r) = [] :: pieces 32 r := by simp [pieces, hx]
      rw [this]; simp only [List.map_cons, List.sum_cons, List.length_nil, List.length_cons, ih]; omega
    · rw [pieces_cons hx h]
      rw [h] at ih
      simp only [List.map_cons, List.sum_cons, List.length_cons] at ih ⊢
      omega

theorem wadd1 (n : Nat) (h : n ≤ 1000000) : wrap64 ((n : Int) + 1) = ((n + 1 : Nat) : Int) := by unfold wrap64; omega
theorem wadd2 (a b : Nat) (ha : a ≤ 1000000) (hb : b ≤ 1000000) : wrap64 ((a : Int) + wrap64 ((b : Int) + 1)) = ((a + b + 1 : Nat) : Int) := by unfold wrap64; omega
/-- The rest's bytes and marks, behind a. -/
def Fits (rest : List (List UInt8)) (a : Nat) : Prop := (rest.map (fun p => p.length + 1)).sum + a ≤ 70000
theorem Fits.cons {p : List UInt8} {r : List (List UInt8)} {a : Nat} (h : Fits (p :: r) a) : a ≤ 70000 ∧ p.length ≤ 70000 ∧ Fits r (a + p.length + 1) := by
  unfold Fits at h ⊢
  simp only [List.map_cons, List.sum_cons] at h
  generalize (r.map (fun p => p.length + 1)).sum = t at h ⊢
  refine ⟨by omega, by omega, by omega⟩
theorem parse_loop (s : ByteArray) (ps : List (List UInt8)) (hps : ps.length ≤ 70000) : ∀ (rest pre : List (List UInt8)) (out : List S44) (bad : Int) (a n k : Nat), ps = pre ++ rest → Fits rest a → out.length = n → n ≤ pre.length → rest.length + 5 ≤ k →
    faults_Parse.l0 k s out bad (a : Int) (n : Int) (ps.map ofL) (ps.length : Int) (pre.length : Int) =
      some (if 4096 < n + (placed a rest).length then ([], 3, 0) else if 0 ≤ (if 0 ≤ bad then bad else if badOf (placed a rest) = -1 then bad else badOf (placed a rest)) then ([], 21, (if 0 ≤ bad then bad else if badOf (placed a rest) = -1 then bad else badOf (placed a rest))) else (out ++ (placed a rest).map (fun x => (readW x.1).1), 0, (s.size : Int))) := by
  intro rest
  induction rest with
  | nil =>
    intro pre out bad a n k hl ha ho hn hk
    obtain ⟨k, rfl⟩ : ∃ i, k = i + 1 := ⟨k - 1, by omega⟩
    have : ps.length = pre.length := by rw [hl]; simp
    simp only [faults_Parse.l0, placed, badOf]
    rw [if_neg (by omega)]
    by_cases h1 : 4096 < n
    · rw [if_pos (show (n : Int) > 4096 by omega)]; simp [h1]
    · rw [if_neg (show ¬ (n : Int) > 4096 by omega)]
      have h1' : n ≤ 4096 := by omega
      by_cases h2 : 0 ≤ bad
      · rw [if_pos (show bad ≥ 0 from h2)]; simp [h1', h2]
      · rw [if_neg (show ¬ bad ≥ 0 from h2)]; simp [h1', h2]
  | cons p r ih =>
    intro pre out bad a n k hl ha ho hn hk
    obtain ⟨k, rfl⟩ : ∃ i, k = i + 1 := ⟨k - 1, by omega⟩
    simp only [List.length_cons] at hk
    obtain ⟨hpa, hpp, hfit⟩ := ha.cons
    have hlen : ps.length = pre.length + 1 + r.length := by rw [hl, List.length_append, List.length_cons]; clear hl ih ha hfit; omega
    have hrd : rdOf ByteArray.empty (ps.map ofL) (pre.length : Int) = ofL p := by
      rw [hl, List.map_append, List.map_cons]
      have := rdOf_at ByteArray.empty (ofL p) (pre.map ofL) (r.map ofL)
      simpa using this
    have hpre : pre.length ≤ 70000 := by clear ih ha hfit hl; omega
    have e1 := wadd1 pre.length (Nat.le_trans hpre (by decide))
    have e2 : wrap64 ((a : Int) + (wrap64 ((((ofL p).size : Nat) : Int) + 1))) = ((a + p.length + 1 : Nat) : Int) := by
      rw [ofL_size]; exact wadd2 a p.length (Nat.le_trans hpa (by decide)) (Nat.le_trans hpp (by decide))
    have e3 := wadd1 n (Nat.le_trans hn (Nat.le_trans hpre (by decide)))
    have hpl : (pre ++ [p]).length = pre.length + 1 := by simp
    have hl2 : ps = (pre ++ [p]) ++ r := by rw [hl]; simp
    have hpll : (ofL p).toList = p := by rw [ByteArray.toList_eq]; rfl
    have hml : ((ps.map ofL).length : Int) = (ps.length : Int) := by simp
    simp only [faults_Parse.l0, hrd, e1, e2, e3, hpll, hml]
    clear e1 e2 e3 hpll hml hrd
    rw [if_pos (by omega), if_pos (by omega), if_pos (by omega)]
    by_cases hp : p = []
    · rw [if_pos hp]
      have := ih (pre ++ [p]) out bad (a + p.length + 1) n k hl2 hfit ho (by rw [hpl]; exact Nat.le_succ_of_le hn) (Nat.le_of_succ_le_succ (by omega))
      rw [hpl] at this
      rw [this]
      have : placed a (p :: r) = placed (a + p.length + 1) r := by simp [placed, hp]
      rw [this]
    · rw [if_neg hp]
      obtain ⟨c, t, rfl⟩ : ∃ c t, p = c :: t := by
        cases p with
        | nil => exact absurd rfl hp
        | cons c t => exact ⟨c, t, rfl⟩
      have hpc : placed a ((c :: t) :: r) = ((c :: t), a) :: placed (a + (c :: t).length + 1) r := by simp [placed]
      have hct : t.length ≤ 70000 := Nat.le_trans (Nat.le_succ _) hpp
      rw [read_is c t hct k (by clear ha hct ih; omega), hpc]
      simp only [Option.bind_some]
      have hih := fun bad' => ih (pre ++ [c :: t]) (out ++ [(⟨(readOf c t).1.f0, (readOf c t).1.f1⟩ : S44)]) bad' (a + (c :: t).length + 1) (n + 1) k hl2 hfit (by simp; omega) (by simp; omega) (by omega)
      simp only [hpl] at hih
      have hb := badOf_ge (placed (a + (c :: t).length + 1) r)
      have hcount : n + 1 + (placed (a + (c :: t).length + 1) r).length = n + (((c :: t), a) :: placed (a + (c :: t).length + 1) r).length := by simp; omega
      have houts : out ++ [(⟨(readOf c t).1.f0, (readOf c t).1.f1⟩ : S44)] ++ (placed (a + (c :: t).length + 1) r).map (fun x => (readW x.1).1) = out ++ (((c :: t), a) :: placed (a + (c :: t).length + 1) r).map (fun x => (readW x.1).1) := by
        simp [readW]
      rw [houts, hcount] at hih
      have hwb : badOf (((c :: t), a) :: placed (a + (c :: t).length + 1) r) = if (readOf c t).2 = true then badOf (placed (a + (c :: t).length + 1) r) else (a : Int) := rfl
      rw [hwb]
      by_cases hr : (readOf c t).2 = true
      · rw [if_pos hr, if_pos (by omega), hih, if_pos hr]
      · rw [if_neg hr, if_neg hr]
        by_cases hbd : bad < 0
        · rw [if_pos hbd, if_pos (by omega), hih]
          have g1 : (0 : Int) ≤ (a : Int) := by omega
          simp only [if_pos g1, if_neg (show ¬ 0 ≤ bad by omega), if_neg (show ¬ ((a : Int) = -1) by omega)]
        · rw [if_neg hbd, if_pos (by omega), hih]
          simp only [if_pos (show 0 ≤ bad by omega)]
theorem num_Parse_is (s : ByteArray) (k : Nat) (hk : s.size + 10 ≤ k) : faults_Parse.f k s = some (parsedF s) := by
  rw [faults_Parse.f, parsedF]
  by_cases h : 65536 < s.size
  · rw [if_pos (by omega), if_pos h]
  · rw [if_neg (by omega), if_neg h, split_is s (by omega) k (by omega)]
    simp only [Option.bind_some]
    have hsum := sum_pieces s.data.toList
    rw [size_list] at hsum
    have hlen : (pieces 32 s.data.toList).length ≤ s.size + 1 := by
      have : ∀ l : List (List UInt8), l.length ≤ (l.map (fun p => p.length + 1)).sum := by
        intro l
        induction l with
        | nil => simp
        | cons a b ih => simp only [List.length_cons, List.map_cons, List.sum_cons]; omega
      have := this (pieces 32 s.data.toList); omega
    have := parse_loop s (pieces 32 s.data.toList) (by omega) (pieces 32 s.data.toList) [] [] (-1) 0 0 k rfl (by unfold Fits; omega) rfl (by simp) (by omega)
    have hl : (((pieces 32 s.data.toList).map ofL).length : Int) = ((pieces 32 s.data.toList).length : Int) := by simp
    rw [hl]
    have this : faults_Parse.l0 k s [] (-1) 0 0 ((pieces 32 s.data.toList).map ofL) ((pieces 32 s.data.toList).length : Int) 0 = _ := this
    rw [this]
    have hb := badOf_ge (wordsOf s)
    have hw : placed 0 (pieces 32 s.data.toList) = wordsOf s := rfl
    rw [hw, Nat.zero_add]
    by_cases h1 : 4096 < (wordsOf s).length
    · rw [if_pos h1, if_pos h1]
    · rw [if_neg h1, if_neg h1]
      by_cases h2 : badOf (wordsOf s) = -1
      · simp [h2]
      · have : 0 ≤ badOf (wordsOf s) := by omega
        simp [h2, this]

theorem ref_parse_loop02 (s : ByteArray) (hs : s.size ≤ 65536) (ws : List (List UInt8 × Nat)) (hw : ws.length ≤ 4096) (hne : ∀ x ∈ ws, x.1 ≠ [] ∧ x.1.length ≤ 65536) : ∀ (rest pre : List (List UInt8 × Nat)) (out : List S44) (k : Nat), ws = pre ++ rest → out.length = pre.length → rest.length + 70000 ≤ k →
    millraceref02_Parse.l0 k s (ws.map (fun x => ofL x.1)) (ws.map (fun x => (x.2 : Int))) out (pre.length : Int) = some (if 0 ≤ badOf rest then ([], 21, badOf rest) else (out ++ rest.map (fun x => (readW x.1).1), 0, (s.size : Int))) := by
  intro rest
  induction rest with
  | nil =>
    intro pre out k hl ho hk
    obtain ⟨k, rfl⟩ : ∃ i, k = i + 1 := ⟨k - 1, by omega⟩
    have : ws.length = pre.length := by rw [hl]; simp
    have hml : ((ws.map (fun x => ofL x.1)).length : Int) = (ws.length : Int) := by simp
    simp only [millraceref02_Parse.l0, hml]
    rw [if_neg (by omega)]
    simp [badOf]
  | cons x r ih =>
    intro pre out k hl ho hk
    obtain ⟨k, rfl⟩ : ∃ i, k = i + 1 := ⟨k - 1, by omega⟩
    simp only [List.length_cons] at hk
    have hlen : ws.length = pre.length + 1 + r.length := by rw [hl]; simp; omega
    have hrd : rdOf ByteArray.empty (ws.map (fun x => ofL x.1)) (pre.length : Int) = ofL x.1 := by
      rw [hl, List.map_append, List.map_cons]
      have := rdOf_at ByteArray.empty (ofL x.1) (pre.map (fun x => ofL x.1)) (r.map (fun x => ofL x.1))
      simpa using this
    have hrd2 : rd (ws.map (fun x => (x.2 : Int))) (pre.length : Int) = (x.2 : Int) := by
      rw [hl, List.map_append, List.map_cons]
      have := num_rd_at (x.2 : Int) (pre.map (fun x => (x.2 : Int))) (r.map (fun x => (x.2 : Int)))
      simpa using this
    have e1 : wrap64 ((pre.length : Int) + 1) = ((pre.length + 1 : Nat) : Int) := by unfold wrap64; omega
    have hml : ((ws.map (fun x => ofL x.1)).length : Int) = (ws.length : Int) := by simp
    have hml2 : ((ws.map (fun x => (x.2 : Int))).length : Int) = (ws.length : Int) := by simp
    have hxm := hne x (by rw [hl]; simp)
    obtain ⟨c, t, hct⟩ : ∃ c t, x.1 = c :: t := by
      cases hx : x.1 with
      | nil => exact absurd hx hxm.1
      | cons c t => exact ⟨c, t, rfl⟩
    have htl : t.length ≤ 65536 := by have := hxm.2; rw [hct] at this; simp at this; omega
    obtain ⟨f, hf1, hf2⟩ := word_is c t htl k (by omega)
    have hrw : readW x.1 = readOf c t := by rw [hct]; rfl
    simp only [millraceref02_Parse.l0, hrd, hrd2, e1, hml, hml2, hct, hf1, Option.bind_some]
    clear e1 hml hml2 hrd hrd2
    rw [if_pos (by omega), if_pos (by omega)]
    have hwb : badOf (x :: r) = if (readOf c t).2 = true then badOf r else (x.2 : Int) := by rw [badOf, hrw]
    rw [hwb]
    by_cases hr : (readOf c t).2 = true
    · have hi := ih (pre ++ [x]) (out ++ [(⟨f.f0, f.f1⟩ : S44)]) k (by rw [hl]; simp) (by simp [ho]) (by omega)
      have hpl : (pre ++ [x]).length = pre.length + 1 := by simp
      rw [hpl] at hi
      rw [if_pos hr, if_pos (by omega), hi, if_pos hr]
      have : (⟨f.f0, f.f1⟩ : S44) = (readW x.1).1 := by rw [hrw, ← hf2 hr]
      rw [this]
      simp
    · rw [if_neg hr, if_pos (by omega), if_neg hr]
      have : (0 : Int) ≤ (x.2 : Int) := by omega
      rw [if_pos this]
theorem le_sum : ∀ (l : List (List UInt8)), ∀ p ∈ l, p.length + 1 ≤ (l.map (fun p => p.length + 1)).sum := by
  intro l
  induction l with
  | nil => intro p h; simp at h
  | cons a b ih =>
    intro p h
    simp only [List.map_cons, List.sum_cons]
    rcases List.mem_cons.1 h with e | e
    · rw [e]; omega
    · have := ih p e; omega
theorem placed_len : ∀ (ps : List (List UInt8)) (a : Nat), (∀ p ∈ ps, p.length ≤ 65536) → ∀ x ∈ placed a ps, x.1.length ≤ 65536 := by
  intro ps
  induction ps with
  | nil => intro a _ x h; simp [placed] at h
  | cons p r ih =>
    intro a hp x h
    simp only [placed] at h
    split at h
    · exact ih _ (fun q hq => hp q (by simp [hq])) x h
    · rcases List.mem_cons.1 h with e | e
      · rw [e]; exact hp p (by simp)
      · exact ih _ (fun q hq => hp q (by simp [hq])) x e
theorem ref_Parse_is (s : ByteArray) (k : Nat) (hk : 3 * s.size + 80000 ≤ k) : millraceref02_Parse.f k s = some (parsedF s) := by
  rw [millraceref02_Parse.f, parsedF]
  by_cases h : 65536 < s.size
  · rw [if_pos (by omega), if_pos h]
  · rw [if_neg (by omega), if_neg h, words_is s (by omega) k (by omega)]
    simp only [Option.bind_some]
    have hl : (((wordsOf s).map (fun x => ofL x.1)).length : Int) = ((wordsOf s).length : Int) := by simp
    rw [hl]
    by_cases h1 : 4096 < (wordsOf s).length
    · rw [if_pos (by omega), if_pos h1]
    · rw [if_neg (by omega), if_neg h1]
      have hsum := sum_pieces s.data.toList
      rw [size_list] at hsum
      have hp : ∀ p ∈ pieces 32 s.data.toList, p.length ≤ 65536 := by
        intro p hp
        have : p.length + 1 ≤ ((pieces 32 s.data.toList).map (fun p => p.length + 1)).sum := le_sum _ p hp
        omega
      have := ref_parse_loop02 s (by omega) (wordsOf s) (by omega) (fun x hx => ⟨placed_ne _ _ x hx, placed_len _ _ hp x hx⟩) (wordsOf s) [] [] k rfl rfl (by omega)
      have this : millraceref02_Parse.l0 k s ((wordsOf s).map (fun x => ofL x.1)) ((wordsOf s).map (fun x => (x.2 : Int))) [] 0 = _ := this
      rw [this]; simp

end Go.Proofs.YtbggmdgeanoelaaDoor.Pure
