/- Laws of numbers written and read back: digits to a base, with zeros ahead and in capitals, read as the number they were written from. -/
import Derived.Test.YtbggmdgeanoelaaDoorPureA
namespace Go.Proofs.YtbggmdgeanoelaaDoor.Pure
open Go.RowKit Go.Proofs.YtbggmdgeanoelaaDoor.Ft Go.Proofs.YtbggmdgeanoelaaDoorW.PrintWords Go.Proofs.YtbggmdgeanoelaaDoorW.PrintLast
set_option linter.unusedVariables false
set_option linter.unusedSimpArgs false

/-- The value of a list of digit bytes, from n on. -/
def valOf (b : Nat) : Nat → List UInt8 → Nat
  | n, [] => n
  | n, c :: r => valOf b (n * b + (numWorth c.toNat).toNat) r
def okDigit (b : Nat) (c : UInt8) : Prop := 0 ≤ numWorth c.toNat ∧ numWorth c.toNat < b
theorem valOf_le (b : Nat) (hb : 1 ≤ b) : ∀ (l : List UInt8) (n : Nat), n ≤ valOf b n l := by
  intro l
  induction l with
  | nil => intro n; exact Nat.le_refl _
  | cons c r ih =>
    intro n
    have h1 := ih (n * b + (numWorth c.toNat).toNat)
    have h2 : n * 1 ≤ n * b := Nat.mul_le_mul_left n hb
    simp only [valOf]; omega
theorem numParse_ok (b : Nat) (hb : 1 ≤ b) : ∀ (l : List UInt8) (n i : Nat), (∀ c ∈ l, okDigit b c) → valOf b n l < numTop → numParse b n i l = ((valOf b n l : Int), 0, ((i + l.length : Nat) : Int)) := by
  intro l
  induction l with
  | nil => intro n i _ _; rfl
  | cons c r ih =>
    intro n i hd hv
    have hc := hd c (by simp)
    have hle := valOf_le b hb r (n * b + (numWorth c.toNat).toNat)
    simp only [valOf] at hv
    unfold okDigit at hc
    simp only [numParse]
    rw [if_neg (by omega), if_neg (by omega), ih _ _ (fun c h => hd c (by simp [h])) hv]
    simp only [valOf, List.length_cons]
    congr 3; omega
theorem valOf_append (b : Nat) : ∀ (l l' : List UInt8) (n : Nat), valOf b n (l ++ l') = valOf b (valOf b n l) l' := by
  intro l
  induction l with
  | nil => intro l' n; rfl
  | cons c r ih => intro l' n; simp only [List.cons_append, valOf]; exact ih _ _

/-- A digit's byte, small or capital. -/
def chrByte (d : Nat) : UInt8 := UInt8.ofNat (numChr d).toNat
def capByte (d : Nat) : UInt8 := if (numChr d) ≥ 97 then UInt8.ofNat (numChr d - 32).toNat else UInt8.ofNat (numChr d).toNat
theorem chr_worth (d : Nat) (h : d < 16) : numWorth (chrByte d).toNat = d ∧ numWorth (capByte d).toNat = d := by
  have : ∀ d : Fin 16, numWorth ((chrByte d.1).toNat : Int) = (d.1 : Int) ∧ numWorth ((capByte d.1).toNat : Int) = (d.1 : Int) := by decide +kernel
  exact this ⟨d, h⟩
/-- The digits themselves, the lowest first. -/
def digNums (b : Nat) : Nat → Nat → List Nat
  | 0, _ => []
  | f + 1, n => (n % b) :: (if n / b = 0 then [] else digNums b f (n / b))
theorem digs_map (b : Nat) : ∀ f n, numDigs b f n = (digNums b f n).map numChr := by
  intro f
  induction f with
  | zero => intro n; rfl
  | succ f ih =>
    intro n
    simp only [numDigs, digNums, List.map_cons]
    split
    · rfl
    · rw [ih]
theorem digNums_lt (b : Nat) (hb : 0 < b) : ∀ f n, ∀ d ∈ digNums b f n, d < b := by
  intro f
  induction f with
  | zero => intro n d h; simp [digNums] at h
  | succ f ih =>
    intro n d h
    simp only [digNums, List.mem_cons] at h
    rcases h with h | h
    · rw [h]; exact Nat.mod_lt _ hb
    · split at h
      · simp at h
      · exact ih _ _ h
/-- The value of digits written by any way that keeps their worth. -/
theorem valOf_digs (b : Nat) (hb2 : 2 ≤ b) (hb : b ≤ 16) (g : Nat → UInt8) (hg : ∀ d, d < 16 → numWorth (g d).toNat = d) : ∀ (f n : Nat), n < 2 ^ f → valOf b 0 ((digNums b f n).reverse.map g) = n := by
  intro f
  induction f with
  | zero => intro n h; simp at h; subst h; rfl
  | succ f ih =>
    intro n h
    have hlt : n % b < b := Nat.mod_lt _ (by omega)
    have hmn := Nat.div_add_mod n b
    simp only [digNums]
    split
    · rename_i hq
      rw [hq] at hmn
      simp only [List.reverse_cons, List.reverse_nil, List.nil_append, List.map_cons, List.map_nil, valOf, hg _ (Nat.lt_of_lt_of_le hlt hb)]
      simp only [Int.toNat_natCast]; omega
    · have hdiv : n / b < 2 ^ f := by
        apply Nat.div_lt_of_lt_mul
        calc n < 2 ^ (f + 1) := h
          _ = 2 * 2 ^ f := by rw [Nat.pow_succ]; omega
          _ ≤ b * 2 ^ f := Nat.mul_le_mul_right _ hb2
      rw [List.reverse_cons, List.map_append, valOf_append, ih _ hdiv]
      simp only [List.map_cons, List.map_nil, valOf, hg _ (Nat.lt_of_lt_of_le hlt hb), Int.toNat_natCast]
      rw [Nat.mul_comm]; omega
theorem digs_ok (b : Nat) (hb2 : 2 ≤ b) (hb : b ≤ 16) (g : Nat → UInt8) (hg : ∀ d, d < 16 → numWorth (g d).toNat = d) (f n : Nat) : ∀ c ∈ (digNums b f n).reverse.map g, okDigit b c := by
  intro c hc
  simp only [List.mem_map, List.mem_reverse] at hc
  obtain ⟨d, hd, rfl⟩ := hc
  have := digNums_lt b (by omega) f n d hd
  unfold okDigit; rw [hg d (by omega)]; omega

/-- The text of a number to a base. -/
def txt (b n : Nat) : ByteArray := strOfNums (numDigs b 64 n).reverse
theorem txt_list (b n : Nat) : (txt b n).data.toList = (digNums b 64 n).reverse.map chrByte := by
  rw [txt, str_list, digs_map, ← List.map_reverse, List.map_map]; rfl
theorem txt_size (b n : Nat) : (txt b n).size = (digNums b 64 n).length := by rw [← size_list, txt_list]; simp
theorem txt_pos (b n : Nat) : 0 < (txt b n).size := by rw [txt_size]; simp [digNums]
theorem txt_le (b n : Nat) : (txt b n).size ≤ 64 := digs_size b n

/-- A number written to a base is read back. -/
theorem read_back (b n : Nat) (hb2 : 2 ≤ b) (hb : b ≤ 16) (hn : n < 2 ^ 64) : num_ParseBase.f (txt b n) (b : Int) = some ((n : Int), 0, ((txt b n).size : Int)) := by
  have h1 := txt_pos b n; have h2 := txt_le b n
  have hv := valOf_digs b hb2 hb chrByte (fun d h => (chr_worth d h).1) 64 n hn
  rw [num_ParseBase.f, if_pos (by omega), if_neg (by omega), if_neg (by omega), Int.toNat_natCast, txt_list,
    numParse_ok b (by omega) _ 0 0 (digs_ok b hb2 hb chrByte (fun d h => (chr_worth d h).1) 64 n) (by rw [hv]; exact hn), hv]
  simp [txt_size]

end Go.Proofs.YtbggmdgeanoelaaDoor.Pure
