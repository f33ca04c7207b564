/-
  Hand-made contracts of functions of the program: End, Numbers, Tools.
-/
import Derived.Test.YthmijenlndnmcaaGreatDoorHB
import Derived.Test.YthmijenlndnmcaaGreatDoorShx3
import Derived.Test.YthmijenlndnmcaaGreatDoorShx4
import Derived.Test.YthmijenlndnmcaaGreatDoorShx5
import Derived.Test.YthmijenlndnmcaaGreatDoorShx0
namespace Go.Proofs.YthmijenlndnmcaaGreatDoor.Sh
open Go.RowKit Go.Proofs.YthmijenlndnmcaaGreatDoorW.PrintWords Go.Proofs.YthmijenlndnmcaaGreatDoorW.PrintLast Go.Proofs.YthmijenlndnmcaaGreatDoorW.PrintMore
attribute [local go_sem] max2_int min2_int max_two min_two max_three min_three max_four min_four
set_option linter.unusedVariables false
set_option linter.unusedSimpArgs false
set_option maxHeartbeats 2000000 in
set_option maxRecDepth 100000 in
theorem end_other (x : S74) (hname : (x.f0.toList == ([119, 99] : List UInt8)) = false) (k : Nat) (As : Option Addr) (cs : Nat) (st : List Int) (n : Int) (w : World)
    (hs : Kd.C (Kd.int .u8) w As st.length st) (hcs : st.length ≤ cs) (ha : shell_Tool_asked.f k x.f0 x.f1 x.f2 st n [] = some 0) :
    Calls Tryz.prog 64 #[.agg #[.string x.f0, .int .i64 x.f1, .string x.f2], .slice As st.length cs, .int .i64 n] w fun e w' => ∃ v, e = .returned (.tuple #[v, .int .i64 0]) ∧ Fresh w' w.heap.size v [] ∧ Below w.heap.size w w' := by
  have hu := Tryz.underlying74
  have HA := Lib.hid (fun W (hB : Below w.heap.size w W) => shell_Tool_asked.calls k x.f0 x.f1 x.f2 As cs st n none 0 [] 0 W (Kd.C_below hs hB) hcs (Kd.C_nil _ _) (Nat.le_refl _) ha)
  clear ha hs
  go_enter Tryz.func64, Tryz.ntmps64
  go_wp2_with (first
    | (go_at_call 93; go_must (refine (HA.out _ (below_alloc (Below.refl _ _) _)).mono ?_); go_must (rintro e w1 ⟨rfl, q1⟩); have b1 := below_step (below_alloc (Below.refl _ _) _) q1; have k1 := blk_below (blk_new w _) q1; have t0 : w1.cell? ⟨w.heap.size, 0, none⟩ = some (.string _) := blk_cell k1 0)
    | go_in)
  go_ret2
  exact ⟨_, rfl, Fresh.nil _ _, b1⟩
set_option maxHeartbeats 2000000 in
set_option maxRecDepth 100000 in
theorem end_wc (k ks : Nat) (N : Int) (X : ByteArray) (As : Option Addr) (cs : Nat) (st : List Int) (n z : Int) (bz : Bool) (dn dz : ByteArray) (w : World)
    (hs : Kd.C (Kd.int .u8) w As st.length st) (hcs : st.length ≤ cs) (ha : shell_Tool_asked.f k (⟨#[119, 99]⟩ : ByteArray) N X st n [] = some 0)
    (hz : shell_sized.f ks st = some (z, bz)) (hdn : num_Decimal.f n = some dn) (hdz : num_Decimal.f z = some dz) (hn1 : dn.size ≤ 40) (hz1 : dz.size ≤ 40) :
    Calls Tryz.prog 64 #[.agg #[.string (⟨#[119, 99]⟩ : ByteArray), .int .i64 N, .string X], .slice As st.length cs, .int .i64 n] w fun e w' => ∃ v, e = .returned (.tuple #[v, .int .i64 0]) ∧ Fresh w' w.heap.size v (bytesOf (dn ++ (⟨#[32]⟩ : ByteArray) ++ dz ++ (⟨#[10]⟩ : ByteArray))) ∧ Below w.heap.size w w' := by
  have hu := Tryz.underlying74
  have HA := Lib.hid (fun W (hB : Below w.heap.size w W) => shell_Tool_asked.calls k (⟨#[119, 99]⟩ : ByteArray) N X As cs st n none 0 [] 0 W (Kd.C_below hs hB) hcs (Kd.C_nil _ _) (Nat.le_refl _) ha)
  have HZ := Lib.hid (fun W (hB : Below w.heap.size w W) => shell_sized.calls ks As cs st z bz W (Kd.C_below hs hB) hcs hz)
  have HN := Lib.hid (fun W => num_Decimal.calls n dn W hdn)
  have HD := Lib.hid (fun W => num_Decimal.calls z dz W hdz)
  have hsz : (dn ++ (⟨#[32]⟩ : ByteArray) ++ dz ++ (⟨#[10]⟩ : ByteArray)).size ≤ 100 := by simp only [ByteArray.size_append]; show dn.size + 1 + dz.size + 1 ≤ 100; omega
  have HSZ := Lib.hid hsz
  have p1 : dn.size + 1 ≤ 9223372036854775807 := by omega
  have p2 : dn.size + 1 + dz.size ≤ 9223372036854775807 := by omega
  have p3 : dn.size + 1 + dz.size + 1 ≤ 9223372036854775807 := by omega
  have hcv := fun W (s : ByteArray) => Lib.run_convert_string_bytes (P := Tryz.prog) W 9 23 5 s Tryz.underlying9 Tryz.underlying23 Tryz.underlying5
  clear ha hs hz hdn hdz hsz
  go_enter Tryz.func64, Tryz.ntmps64
  go_wp2_with (first
    | (go_at_call 93; go_must (refine (HA.out _ (below_alloc (Below.refl _ _) _)).mono ?_); go_must (rintro e w1 ⟨rfl, q1⟩); have b1 := below_step (below_alloc (Below.refl _ _) _) q1; have k1 := blk_below (blk_new w _) q1; have t0 : w1.cell? ⟨w.heap.size, 0, none⟩ = some (.string _) := blk_cell k1 0)
    | (go_at_call 99; go_must (refine (HZ.out _ b1).mono ?_); go_must (rintro e w5 ⟨rfl, q5⟩); have b5 := below_step b1 q5)
    | (go_at_call 70; first | (with_reducible refine (HN.out w5).mono ?_; go_must (rintro e w6 ⟨rfl, q6⟩); have b6 := below_step b5 q6) | (with_reducible refine (HD.out w6).mono ?_; go_must (rintro e w7 ⟨rfl, q7⟩); have b7 := below_step b6 q7))
    | go_in)
  go_ret2
  have hf := (fresh_conv w7 _ HSZ.out).mono (b7.size)
  rw [show (dn ++ (⟨#[32]⟩ : ByteArray) ++ dz ++ (⟨#[10]⟩ : ByteArray)).size = dn.size + 1 + dz.size + 1 by simp only [ByteArray.size_append]; rfl] at hf
  refine ⟨_, rfl, ?_, bytes_below b7 b7.size _ _⟩
  first | exact hf | simpa using hf
theorem up {α : Type} (f : Nat → Option α) (m : ∀ k, LeO (f k) (f (k + 1))) {k j : Nat} {r : α} (h : f k = some r) (hkj : k ≤ j) : f j = some r := by
  obtain ⟨d, rfl⟩ := Nat.le.dest hkj
  induction d with
  | zero => exact h
  | succ d ih => exact m _ _ (ih (by omega))
theorem str_list (l : List Int) : (strOfNums l).data.toList = l.map fun n => UInt8.ofNat n.toNat := rfl
theorem str_eq_of {a b : ByteArray} (h : a.data.toList = b.data.toList) : a = b := by
  apply ByteArray.ext; exact Array.ext' h
theorem u64_in (n : Int) (h0 : 0 ≤ n) (h : n < 18446744073709551616) : IntKind.u64.wrap n = n := by rw [IntKind.wrap_u64]; omega
theorem size_list (s : ByteArray) : s.data.toList.length = s.size := rfl
theorem bt_cons {s : ByteArray} {pre r : List UInt8} {c : UInt8} (h : s.data.toList = pre ++ c :: r) : bt s (pre.length : Int) = (c.toNat : Int) := by
  have hl : pre.length < s.size := by rw [← size_list, h]; simp
  have he : s[pre.length]'hl = c := by
    have : s.data.toList[pre.length]'(by rw [size_list]; exact hl) = c := by simp [h]
    rw [← this]; simp; rfl
  simp only [bt, Int.toNat_natCast]
  rw [dif_pos hl, he]
def decOf (a : Int) : ByteArray := if a < 0 then ⟨#[45]⟩ ++ strOfNums (numDigs 10 64 (-a).toNat).reverse else strOfNums (numDigs 10 64 a.toNat).reverse
theorem written_10 (n : Int) (h0 : 0 ≤ n) (h : n < 18446744073709551616) : num_written.f n 10 = some (strOfNums (numDigs 10 64 n.toNat).reverse) := by
  rw [num_written.f, if_pos ⟨by omega, by omega, h0, by omega⟩]; rfl
theorem digs_size (b n : Nat) : (strOfNums (numDigs b 64 n).reverse).size ≤ 64 := by
  rw [strOfNums_size, List.length_reverse]; exact numDigs_len b 64 n
theorem num_Decimal_is (a : Int) (h0 : -9223372036854775808 ≤ a) (h : a ≤ 9223372036854775807) : num_Decimal.f a = some (decOf a) := by
  simp only [num_Decimal.f, decOf]
  by_cases hn : a < 0
  · have e : IntKind.u64.wrap (-(IntKind.u64.wrap a)) = -a := by simp only [IntKind.wrap_u64]; omega
    rw [if_pos hn, if_pos hn, e, written_10 _ (by omega) (by omega)]
    simp only [Option.bind_some]
    have := digs_size 10 (-a).toNat
    rw [if_pos (by omega)]
  · rw [if_neg hn, if_neg hn, u64_in a (by omega) (by omega), written_10 _ (by omega) (by omega)]; rfl
theorem numDigs_chr (b : Nat) (hb : 2 ≤ b) (hb16 : b ≤ 16) : ∀ f n, ∀ c ∈ numDigs b f n, 48 ≤ c ∧ c ≤ 102 := by
  intro f
  induction f with
  | zero => intro n c hc; simp [numDigs] at hc
  | succ f ih =>
    intro n c hc
    simp only [numDigs, List.mem_cons] at hc
    rcases hc with h | h
    · have := Nat.mod_lt n (by omega : b > 0)
      subst h; unfold numChr; split <;> omega
    · split at h
      · simp at h
      · exact ih _ _ h
theorem decOf_neg (a : Int) (h : a < 0) : (decOf a).data.toList.head? = some 45 := by
  rw [decOf, if_pos h]; simp
theorem decOf_pos (a : Int) (h : 0 ≤ a) : (decOf a).data.toList.head? ≠ some 45 := by
  rw [decOf, if_neg (by omega), str_list]
  intro hh
  have hm := List.mem_of_head? hh
  simp only [List.mem_map, List.mem_reverse] at hm
  obtain ⟨c, hc, he⟩ := hm
  have := numDigs_chr 10 (by omega) (by omega) _ _ _ hc
  have h2 := congrArg UInt8.toNat he
  simp at h2
  omega
def pbOf (t : ByteArray) : Int × Int × Int := if t.size = 0 then (0, 8, 0) else numParse 10 0 0 t.data.toList
theorem num_pb (t : ByteArray) (h : t.size ≤ 140737488355327) : num_ParseBase.f t 10 = some (pbOf t) := by
  simp [num_ParseBase.f, pbOf]; omega
def intOf (s t : ByteArray) (m : Bool) : Int × Int :=
  if (pbOf t).2.1 ≠ 0 ∨ 19 < t.size then (0, 11) else
  let x := if m then wrap64 (IntKind.u64.wrap (-(pbOf t).1)) else wrap64 (pbOf t).1
  if decOf x = s then (x, 0) else (0, 11)
theorem toList_iff (a b : ByteArray) : a.toList = b.toList ↔ a = b := by
  rw [ByteArray.toList_eq, ByteArray.toList_eq]; exact ⟨str_eq_of, fun h => by rw [h]⟩
theorem wrap_lo (n : Int) : -9223372036854775808 ≤ wrap64 n := by unfold wrap64; omega
theorem wrap_hi (n : Int) : wrap64 n ≤ 9223372036854775807 := by unfold wrap64; omega
theorem num_int_j1 (k : Nat) (s t : ByteArray) (m : Bool) (ht : t.size ≤ 140737488355327) : num_ParseInt.j1 (k + 2) s t m = some (intOf s t m) := by
  simp only [num_ParseInt.j1, num_ParseInt.j2, num_pb t ht, Option.bind_some, intOf]
  by_cases h1 : (pbOf t).2.1 = 0
  · rw [if_pos h1]
    by_cases h2 : 19 < t.size
    · rw [if_pos (by simp; omega), if_pos (.inr h2)]
    · rw [if_neg (by simp; omega), if_neg (show ¬ ((pbOf t).2.1 ≠ 0 ∨ 19 < t.size) by simp [h1]; omega)]
      cases m
      · simp only [Bool.false_eq_true, if_false, num_Decimal_is _ (wrap_lo _) (wrap_hi _), Option.bind_some, toList_iff]
        split <;> rfl
      · simp only [if_true, num_Decimal_is _ (wrap_lo _) (wrap_hi _), Option.bind_some, toList_iff]
        split <;> rfl
  · rw [if_neg h1, if_pos trivial, if_pos (.inl h1)]
theorem head_bt (s : ByteArray) (h : 0 < s.size) : (bt s 0 == 45) = true ↔ s.data.toList.head? = some 45 := by
  cases hh : s.data.toList with
  | nil => rw [← size_list, hh] at h; simp at h
  | cons a l =>
    have := bt_cons (s := s) (pre := []) (c := a) (r := l) (by simp [hh])
    have this : bt s 0 = (a.toNat : Int) := this
    rw [this]
    simp
    constructor
    · intro h1; apply UInt8.toNat_inj.1; simp; omega
    · intro h1; subst h1; rfl
def parsed (s : ByteArray) : Int × Int := if s.data.toList.head? = some 45 then intOf s (s.extract 1 s.size) true else intOf s s false
theorem num_ParseInt_is (k : Nat) (hk : 3 ≤ k) (s : ByteArray) (hs : s.size ≤ 140737488355327) : num_ParseInt.f k s = some (parsed s) := by
  obtain ⟨k, rfl⟩ : ∃ i, k = i + 3 := ⟨k - 3, by omega⟩
  simp only [num_ParseInt.f, num_ParseInt.j0, parsed]
  by_cases h : 0 < s.size
  · rw [if_pos (by omega), if_pos (by omega)]
    by_cases h1 : s.data.toList.head? = some 45
    · rw [if_pos ((head_bt s h).2 h1), if_pos (by omega), if_pos h1, num_int_j1 k s _ true (by simp; omega)]
    · rw [if_neg (fun hh => h1 ((head_bt s h).1 hh)), if_neg h1, num_int_j1 k s s false hs]
  · rw [if_neg (by omega), if_neg (by simp), num_int_j1 k s s false hs, if_neg]
    have : s.data.toList = [] := List.eq_nil_of_length_eq_zero (by rw [size_list]; omega)
    simp [this]
def valOf (b : Nat) : Nat → List UInt8 → Nat
  | n, [] => n
  | n, c :: r => valOf b (n * b + (numWorth c.toNat).toNat) r
def okDigit (b : Nat) (c : UInt8) : Prop := 0 ≤ numWorth c.toNat ∧ numWorth c.toNat < b
theorem valOf_le (b : Nat) (hb : 1 ≤ b) : ∀ (l : List UInt8) (n : Nat), n ≤ valOf b n l := by
  intro l
  induction l with
  | nil => intro n; exact Nat.le_refl _
  | cons c r ih =>
    intro n
    have h1 := ih (n * b + (numWorth c.toNat).toNat)
    have h2 : n * 1 ≤ n * b := Nat.mul_le_mul_left n hb
    simp only [valOf]; omega
theorem numParse_ok (b : Nat) (hb : 1 ≤ b) : ∀ (l : List UInt8) (n i : Nat), (∀ c ∈ l, okDigit b c) → valOf b n l < numTop → numParse b n i l = ((valOf b n l : Int), 0, ((i + l.length : Nat) : Int)) := by
  intro l
  induction l with
  | nil => intro n i _ _; rfl
  | cons c r ih =>
    intro n i hd hv
    have hc := hd c (by simp)
    have hle := valOf_le b hb r (n * b + (numWorth c.toNat).toNat)
    simp only [valOf] at hv
    unfold okDigit at hc
    simp only [numParse]
    rw [if_neg (by omega), if_neg (by omega), ih _ _ (fun c h => hd c (by simp [h])) hv]
    simp only [valOf, List.length_cons]
    congr 3; omega
theorem valOf_append (b : Nat) : ∀ (l l' : List UInt8) (n : Nat), valOf b n (l ++ l') = valOf b (valOf b n l) l' := by
  intro l
  induction l with
  | nil => intro l' n; rfl
  | cons c r ih => intro l' n; simp only [List.cons_append, valOf]; exact ih _ _
def chrByte (d : Nat) : UInt8 := UInt8.ofNat (numChr d).toNat
def capByte (d : Nat) : UInt8 := if (numChr d) ≥ 97 then UInt8.ofNat (numChr d - 32).toNat else UInt8.ofNat (numChr d).toNat
theorem chr_worth (d : Nat) (h : d < 16) : numWorth (chrByte d).toNat = d ∧ numWorth (capByte d).toNat = d := by
  have : ∀ d : Fin 16, numWorth ((chrByte d.1).toNat : Int) = (d.1 : Int) ∧ numWorth ((capByte d.1).toNat : Int) = (d.1 : Int) := by decide +kernel
  exact this ⟨d, h⟩
def digNums (b : Nat) : Nat → Nat → List Nat
  | 0, _ => []
  | f + 1, n => (n % b) :: (if n / b = 0 then [] else digNums b f (n / b))
theorem digs_map (b : Nat) : ∀ f n, numDigs b f n = (digNums b f n).map numChr := by
  intro f
  induction f with
  | zero => intro n; rfl
  | succ f ih =>
    intro n
    simp only [numDigs, digNums, List.map_cons]
    split
    · rfl
    · rw [ih]
theorem digNums_lt (b : Nat) (hb : 0 < b) : ∀ f n, ∀ d ∈ digNums b f n, d < b := by
  intro f
  induction f with
  | zero => intro n d h; simp [digNums] at h
  | succ f ih =>
    intro n d h
    simp only [digNums, List.mem_cons] at h
    rcases h with h | h
    · rw [h]; exact Nat.mod_lt _ hb
    · split at h
      · simp at h
      · exact ih _ _ h
theorem valOf_digs (b : Nat) (hb2 : 2 ≤ b) (hb : b ≤ 16) (g : Nat → UInt8) (hg : ∀ d, d < 16 → numWorth (g d).toNat = d) : ∀ (f n : Nat), n < 2 ^ f → valOf b 0 ((digNums b f n).reverse.map g) = n := by
  intro f
  induction f with
  | zero => intro n h; simp at h; subst h; rfl
  | succ f ih =>
    intro n h
    have hlt : n % b < b := Nat.mod_lt _ (by omega)
    have hmn := Nat.div_add_mod n b
    simp only [digNums]
    split
    · rename_i hq
      rw [hq] at hmn
      simp only [List.reverse_cons, List.reverse_nil, List.nil_append, List.map_cons, List.map_nil, valOf, hg _ (Nat.lt_of_lt_of_le hlt hb)]
      simp only [Int.toNat_natCast]; omega
    · have hdiv : n / b < 2 ^ f := by
        apply Nat.div_lt_of_lt_mul
        calc n < 2 ^ (f + 1) := h
          _ = 2 * 2 ^ f := by rw [Nat.pow_succ]; omega
          _ ≤ b * 2 ^ f := Nat.mul_le_mul_right _ hb2
      rw [List.reverse_cons, List.map_append, valOf_append, ih _ hdiv]
      simp only [List.map_cons, List.map_nil, valOf, hg _ (Nat.lt_of_lt_of_le hlt hb), Int.toNat_natCast]
      rw [Nat.mul_comm]; omega
theorem digs_ok (b : Nat) (hb2 : 2 ≤ b) (hb : b ≤ 16) (g : Nat → UInt8) (hg : ∀ d, d < 16 → numWorth (g d).toNat = d) (f n : Nat) : ∀ c ∈ (digNums b f n).reverse.map g, okDigit b c := by
  intro c hc
  simp only [List.mem_map, List.mem_reverse] at hc
  obtain ⟨d, hd, rfl⟩ := hc
  have := digNums_lt b (by omega) f n d hd
  unfold okDigit; rw [hg d (by omega)]; omega
def txt (b n : Nat) : ByteArray := strOfNums (numDigs b 64 n).reverse
theorem txt_list (b n : Nat) : (txt b n).data.toList = (digNums b 64 n).reverse.map chrByte := by
  rw [txt, str_list, digs_map, ← List.map_reverse, List.map_map]; rfl
theorem txt_size (b n : Nat) : (txt b n).size = (digNums b 64 n).length := by rw [← size_list, txt_list]; simp
theorem txt_pos (b n : Nat) : 0 < (txt b n).size := by rw [txt_size]; simp [digNums]
theorem txt_le (b n : Nat) : (txt b n).size ≤ 64 := digs_size b n
theorem read_back (b n : Nat) (hb2 : 2 ≤ b) (hb : b ≤ 16) (hn : n < 2 ^ 64) : num_ParseBase.f (txt b n) (b : Int) = some ((n : Int), 0, ((txt b n).size : Int)) := by
  have h1 := txt_pos b n; have h2 := txt_le b n
  have hv := valOf_digs b hb2 hb chrByte (fun d h => (chr_worth d h).1) 64 n hn
  rw [num_ParseBase.f, if_pos (by omega), if_neg (by omega), if_neg (by omega), Int.toNat_natCast, txt_list,
    numParse_ok b (by omega) _ 0 0 (digs_ok b hb2 hb chrByte (fun d h => (chr_worth d h).1) 64 n) (by rw [hv]; exact hn), hv]
  simp [txt_size]
theorem digNums_len (L n : Nat) (h : n < 10 ^ (L + 1)) : ∀ f, (digNums 10 f n).length ≤ L + 1 := by
  induction L generalizing n with
  | zero =>
    intro f
    cases f with
    | zero => simp [digNums]
    | succ f => simp only [digNums]; rw [if_pos (by omega)]; simp
  | succ L ih =>
    intro f
    cases f with
    | zero => simp [digNums]
    | succ f =>
      simp only [digNums, List.length_cons]
      split
      · simp
      · have := ih (n / 10) (by rw [Nat.pow_succ] at h; omega) f
        omega
theorem txt_19 (n : Nat) (h : n < 10000000000000000000) : (txt 10 n).size ≤ 19 := by
  rw [txt_size]; exact digNums_len 18 n (by simpa using h) 64
theorem pbOf_txt (n : Nat) (h : n < 2 ^ 64) : pbOf (txt 10 n) = ((n : Int), 0, ((txt 10 n).size : Int)) := by
  have h1 := read_back 10 n (by omega) (by omega) h
  have h2 := num_pb (txt 10 n) (by have := txt_le 10 n; omega)
  have h3 : num_ParseBase.f (txt 10 n) ((10 : Nat) : Int) = some (pbOf (txt 10 n)) := h2
  rw [h1] at h3
  exact (Option.some.inj h3).symm
theorem parsed_dec (a : Int) (h0 : -9223372036854775808 ≤ a) (h : a ≤ 9223372036854775807) : parsed (decOf a) = (a, 0) := by
  rw [parsed]
  by_cases hn : a < 0
  · rw [if_pos (decOf_neg a hn)]
    have hd : decOf a = ⟨#[45]⟩ ++ txt 10 (-a).toNat := by rw [decOf, if_pos hn]; rfl
    have hx : (decOf a).extract 1 (decOf a).size = txt 10 (-a).toNat := by
      have hl : (decOf a).data.toList = 45 :: (txt 10 (-a).toNat).data.toList := by rw [hd]; simp
      apply str_eq_of
      rw [ByteArray.data_extract, Array.toList_extract, hl, ← size_list, hl]
      simp only [List.extract, List.drop_one, List.tail_cons, List.length_cons, Nat.add_sub_cancel]
      exact List.take_length
    have hs := txt_19 (-a).toNat (by omega)
    rw [hx, intOf, pbOf_txt _ (by omega), if_neg (by simp; omega)]
    have e : wrap64 (IntKind.u64.wrap (-(((-a).toNat : Nat) : Int))) = a := by simp only [IntKind.wrap_u64, wrap64]; omega
    simp only [if_true, e]
  · rw [if_neg (decOf_pos a (by omega))]
    have hd : decOf a = txt 10 a.toNat := by rw [decOf, if_neg hn]; rfl
    have hs := txt_19 a.toNat (by omega)
    have hp := pbOf_txt a.toNat (by omega)
    rw [← hd] at hs hp
    rw [intOf, hp, if_neg (by simp; omega)]
    have e : wrap64 ((a.toNat : Nat) : Int) = a := by unfold wrap64; omega
    simp only [Bool.false_eq_true, if_false, e, if_true]
def sizedOf (st : List Int) : Int × Bool := if st.length = 0 then (0, true) else if (parsed (strOfNums st)).2 = 0 then (if (parsed (strOfNums st)).1 ≥ 0 then ((parsed (strOfNums st)).1, decide ((parsed (strOfNums st)).1 ≤ 1099511627776)) else ((parsed (strOfNums st)).1, false)) else ((parsed (strOfNums st)).1, false)
theorem str_size (l : List Int) : (strOfNums l).size = l.length := by rw [← size_list, str_list]; simp
theorem sized_is (k : Nat) (hk : 3 ≤ k) (st : List Int) (h : st.length ≤ 140737488355327) : shell_sized.f k st = some (sizedOf st) := by
  unfold shell_sized.f sizedOf
  rw [num_ParseInt_is k hk _ (by rw [str_size]; exact h)]
  by_cases h0 : st.length = 0
  · rw [if_pos (by omega), if_pos h0]
  · rw [if_neg (by omega), if_neg h0]
    simp only [Option.bind_some]
    repeat' split
    all_goals rfl
theorem asked_is (k : Nat) (hk : 9 ≤ k) (f0 : ByteArray) (f1 : Int) (f2 : ByteArray) (hm : shell_Tool_may.f k f0 f1 f2 = some true) (st : List Int) (n : Int) (li : List Int) (h1 : st.length ≤ 65536) (h2 : li.length ≤ 65536) (h3 : 0 ≤ n) (h4 : n ≤ 1099511627776)
    (hw : f0.toList = [119, 99] → (sizedOf st).2 = true) : shell_Tool_asked.f k f0 f1 f2 st n li = some 0 := by
  obtain ⟨j, rfl⟩ : ∃ j, k = j + 2 := ⟨k - 2, by omega⟩
  unfold shell_Tool_asked.f
  rw [hm]
  simp only [Option.bind_some, if_true]
  rw [if_neg (by omega), shell_Tool_asked.j0, if_neg (by simp; omega), if_neg (by omega), shell_Tool_asked.j1, if_neg (by simp; omega), sized_is j (by omega) st (by omega)]
  simp only [Option.bind_some]
  split
  · rename_i h; rw [if_pos (hw h)]
  · rfl
theorem str_bytes (s : ByteArray) : strOfNums (bytesOf s) = s := by
  apply str_eq_of
  rw [str_list, bytesOf, List.map_map]
  have : ((fun n : Int => UInt8.ofNat n.toNat) ∘ fun b : UInt8 => (b.toNat : Int)) = id := by funext b; simp
  rw [this, List.map_id]
theorem dec_19 (z : Int) (h0 : 0 ≤ z) (h : z < 10000000000000000000) : (decOf z).size ≤ 19 ∧ 0 < (decOf z).size := by
  have : decOf z = txt 10 z.toNat := by unfold decOf txt; rw [if_neg (by omega)]
  rw [this]
  exact ⟨txt_19 _ (by omega), txt_pos _ _⟩
theorem sized_dec (z : Int) (h0 : 0 ≤ z) (h : z ≤ 1099511627776) : sizedOf (bytesOf (decOf z)) = (z, true) := by
  unfold sizedOf
  have h1 := dec_19 z h0 (by omega)
  rw [if_neg (by rw [bytesOf_length]; omega), str_bytes, parsed_dec z (by omega) (by omega)]
  simp [h0, h]
def zOf (st : List Int) : Int := (sizedOf st).1
def feedOf (i : Nat) (N : Int) (g : List Int → Bool) (st : List Int) (n : Int) (li : List Int) : List Int × List Int × Int × Bool :=
  match i with
  | 0 => (li, st, n + 1, true)
  | 1 => (li.map bigOf, st, n + 1, true)
  | 2 => (turnOf li (li.length - endLen li), st, n + 1, true)
  | 3 => (if n + 1 ≤ N then li else [], st, n + 1, decide (n + 1 < N))
  | 4 => (if N < n + 1 then li else [], st, n + 1, true)
  | 5 => (if g li then li else [], st, n + 1, true)
  | 6 => (bytesOf (decOf (n + 1)) ++ [32] ++ li, st, n + 1, true)
  | 7 => (if n = 0 ∨ sameB li st = false then li else [], li, n + 1, true)
  | _ => ([], bytesOf (decOf (zOf st + (li.length : Int))), n + (endLen li : Int), true)
def endOf (i : Nat) (st : List Int) (n : Int) : List Int :=
  if i = 8 then bytesOf (decOf n ++ (⟨#[32]⟩ : ByteArray) ++ decOf (zOf st) ++ (⟨#[10]⟩ : ByteArray)) else []
def thrOf (i : Nat) (N : Int) (g : List Int → Bool) (t : List Int) : Int × List Int := throughOf (feedOf i N g) (endOf i) (if i = 3 then decide (0 < N) else true) t
def byteL (l : List Int) : Prop := ∀ x ∈ l, 0 ≤ x ∧ x < 256
def ThrOK (w0 : World) (x : S74) (G : List Int → Int × List Int) : Prop :=
  ∀ (At : Option Addr) (ct : Nat) (t : List Int) (w : World), Below w0.heap.size w0 w → byteL t → Kd.C (Kd.int .u8) w At t.length t → t.length ≤ ct → t.length ≤ 1048576 →
    Calls Tryz.prog 32 #[.agg #[.string x.f0, .int .i64 x.f1, .string x.f2], .slice At t.length ct] w fun e w' => ∃ v, e = .returned (.tuple #[v, .int .i64 (G t).1]) ∧ Fresh w' w.heap.size v (G t).2 ∧ Below w.heap.size w w'
def ConOK (w0 : World) (X : ByteArray) (g : List Int → Bool) : Prop :=
  ∀ (W : World), Below w0.heap.size w0 W → ∀ (li : List Int) (Al : Option Addr) (cl B c : Nat), byteL li → 0 < li.length → li.length ≤ 65536 → Kd.C (Kd.int .u8) W Al li.length li → li.length ≤ cl → Kd.C (Kd.int .u8) W (some ⟨B, 0, none⟩) X.size (bytesOf X) → X.size ≤ c →
    Calls Tryz.prog 97 #[.slice Al li.length cl, .slice (some ⟨B, 0, none⟩) X.size c] W fun e w' => e = .returned (.bool (g li)) ∧ ∃ q, w' = W.drewN q
theorem thr_cat {w0 : World} (N : Int) (X : ByteArray) (hm : shell_Tool_may.f 9 (⟨#[99, 97, 116]⟩ : ByteArray) N X = some true) : ThrOK w0 (⟨(⟨#[99, 97, 116]⟩ : ByteArray), N, X⟩ : S74) (thrOf 0 N (fun _ => false)) := by
  intro At ct t W hB hbt ht hct hmx
  refine (through_other (⟨(⟨#[99, 97, 116]⟩ : ByteArray), N, X⟩ : S74) (by simp) (feedOf 0 N (fun _ => false)) (endOf 0) (fun j st n => st = [] ∧ n = (j : Int)) At ct t W ht hct (by omega) ⟨rfl, rfl⟩ ?_ ?_)
  · rintro j st n li W' As cs Al cl hB' hj ⟨rfl, rfl⟩ hl0 hlm hl1 hs hcs hl hcl
    exact ⟨feed_cat 9 N X As cs [] (j : Int) Al cl li W' hs hcs hl hcl (by omega) (by omega) (by simp) hl1 (asked_is 9 (Nat.le_refl _) _ N X hm [] (j : Int) li (by simp) hl1 (by omega) (by omega) (fun h => absurd h (by simp))), ⟨rfl, by show (j : Int) + 1 = ((j + 1 : Nat) : Int); omega⟩, by show li.length ≤ _; omega⟩
  · rintro j st n W' As cs hB' hj ⟨rfl, rfl⟩ hs hcs
    refine (end_other (⟨(⟨#[99, 97, 116]⟩ : ByteArray), N, X⟩ : S74) (by simp) 9 As cs [] (j : Int) W' hs hcs (asked_is 9 (Nat.le_refl _) _ N X hm [] (j : Int) [] (by simp) (by simp) (by omega) (by omega) (fun h => absurd h (by simp)))).mono ?_
    rintro e w' ⟨v, rfl, hf, hb⟩
    exact ⟨v, rfl, hf, by show ([] : List Int).length ≤ _; simp, hb⟩
theorem thr_upper {w0 : World} (N : Int) (X : ByteArray) (hm : shell_Tool_may.f 9 (⟨#[117, 112, 112, 101, 114]⟩ : ByteArray) N X = some true) : ThrOK w0 (⟨(⟨#[117, 112, 112, 101, 114]⟩ : ByteArray), N, X⟩ : S74) (thrOf 1 N (fun _ => false)) := by
  intro At ct t W hB hbt ht hct hmx
  refine (through_other (⟨(⟨#[117, 112, 112, 101, 114]⟩ : ByteArray), N, X⟩ : S74) (by simp) (feedOf 1 N (fun _ => false)) (endOf 1) (fun j st n => st = [] ∧ n = (j : Int)) At ct t W ht hct (by omega) ⟨rfl, rfl⟩ ?_ ?_)
  · rintro j st n li W' As cs Al cl hB' hj ⟨rfl, rfl⟩ hl0 hlm hl1 hs hcs hl hcl
    exact ⟨feed_upper 9 N X As cs [] (j : Int) Al cl li W' hl0 hs hcs hl hcl (by omega) (by omega) (by simp) hl1 (asked_is 9 (Nat.le_refl _) _ N X hm [] (j : Int) li (by simp) hl1 (by omega) (by omega) (fun h => absurd h (by simp))), ⟨rfl, by show (j : Int) + 1 = ((j + 1 : Nat) : Int); omega⟩, by show (li.map bigOf).length ≤ _; rw [List.length_map]; omega⟩
  · rintro j st n W' As cs hB' hj ⟨rfl, rfl⟩ hs hcs
    refine (end_other (⟨(⟨#[117, 112, 112, 101, 114]⟩ : ByteArray), N, X⟩ : S74) (by simp) 9 As cs [] (j : Int) W' hs hcs (asked_is 9 (Nat.le_refl _) _ N X hm [] (j : Int) [] (by simp) (by simp) (by omega) (by omega) (fun h => absurd h (by simp)))).mono ?_
    rintro e w' ⟨v, rfl, hf, hb⟩
    exact ⟨v, rfl, hf, by show ([] : List Int).length ≤ _; simp, hb⟩
theorem thr_rev {w0 : World} (N : Int) (X : ByteArray) (hm : shell_Tool_may.f 9 (⟨#[114, 101, 118]⟩ : ByteArray) N X = some true) : ThrOK w0 (⟨(⟨#[114, 101, 118]⟩ : ByteArray), N, X⟩ : S74) (thrOf 2 N (fun _ => false)) := by
  intro At ct t W hB hbt ht hct hmx
  refine (through_other (⟨(⟨#[114, 101, 118]⟩ : ByteArray), N, X⟩ : S74) (by simp) (feedOf 2 N (fun _ => false)) (endOf 2) (fun j st n => st = [] ∧ n = (j : Int)) At ct t W ht hct (by omega) ⟨rfl, rfl⟩ ?_ ?_)
  · rintro j st n li W' As cs Al cl hB' hj ⟨rfl, rfl⟩ hl0 hlm hl1 hs hcs hl hcl
    exact ⟨feed_rev 9 N X As cs [] (j : Int) Al cl li W' hl0 hs hcs hl hcl (by omega) (by omega) (by simp) hl1 (asked_is 9 (Nat.le_refl _) _ N X hm [] (j : Int) li (by simp) hl1 (by omega) (by omega) (fun h => absurd h (by simp))), ⟨rfl, by show (j : Int) + 1 = ((j + 1 : Nat) : Int); omega⟩, by show (turnOf li _).length ≤ _; rw [turn_len]; omega⟩
  · rintro j st n W' As cs hB' hj ⟨rfl, rfl⟩ hs hcs
    refine (end_other (⟨(⟨#[114, 101, 118]⟩ : ByteArray), N, X⟩ : S74) (by simp) 9 As cs [] (j : Int) W' hs hcs (asked_is 9 (Nat.le_refl _) _ N X hm [] (j : Int) [] (by simp) (by simp) (by omega) (by omega) (fun h => absurd h (by simp)))).mono ?_
    rintro e w' ⟨v, rfl, hf, hb⟩
    exact ⟨v, rfl, hf, by show ([] : List Int).length ≤ _; simp, hb⟩
theorem thr_head {w0 : World} (N : Int) (X : ByteArray) (hm : shell_Tool_may.f 9 (⟨#[104, 101, 97, 100]⟩ : ByteArray) N X = some true) : ThrOK w0 (⟨(⟨#[104, 101, 97, 100]⟩ : ByteArray), N, X⟩ : S74) (thrOf 3 N (fun _ => false)) := by
  intro At ct t W hB hbt ht hct hmx
  refine (through_head (⟨(⟨#[104, 101, 97, 100]⟩ : ByteArray), N, X⟩ : S74) (by simp) (feedOf 3 N (fun _ => false)) (endOf 3) (fun j st n => st = [] ∧ n = (j : Int)) At ct t W ht hct (by omega) ⟨rfl, rfl⟩ ?_ ?_)
  · rintro j st n li W' As cs Al cl hB' hj ⟨rfl, rfl⟩ hl0 hlm hl1 hs hcs hl hcl
    exact ⟨feed_head 9 N X As cs [] (j : Int) Al cl li W' hs hcs hl hcl (by omega) (by omega) (by simp) hl1 (asked_is 9 (Nat.le_refl _) _ N X hm [] (j : Int) li (by simp) hl1 (by omega) (by omega) (fun h => absurd h (by simp))), ⟨rfl, by show (j : Int) + 1 = ((j + 1 : Nat) : Int); omega⟩, by show (if _ then li else []).length ≤ _; split <;> first | omega | simp⟩
  · rintro j st n W' As cs hB' hj ⟨rfl, rfl⟩ hs hcs
    refine (end_other (⟨(⟨#[104, 101, 97, 100]⟩ : ByteArray), N, X⟩ : S74) (by simp) 9 As cs [] (j : Int) W' hs hcs (asked_is 9 (Nat.le_refl _) _ N X hm [] (j : Int) [] (by simp) (by simp) (by omega) (by omega) (fun h => absurd h (by simp)))).mono ?_
    rintro e w' ⟨v, rfl, hf, hb⟩
    exact ⟨v, rfl, hf, by show ([] : List Int).length ≤ _; simp, hb⟩
theorem thr_skip {w0 : World} (N : Int) (X : ByteArray) (hm : shell_Tool_may.f 9 (⟨#[115, 107, 105, 112]⟩ : ByteArray) N X = some true) : ThrOK w0 (⟨(⟨#[115, 107, 105, 112]⟩ : ByteArray), N, X⟩ : S74) (thrOf 4 N (fun _ => false)) := by
  intro At ct t W hB hbt ht hct hmx
  refine (through_other (⟨(⟨#[115, 107, 105, 112]⟩ : ByteArray), N, X⟩ : S74) (by simp) (feedOf 4 N (fun _ => false)) (endOf 4) (fun j st n => st = [] ∧ n = (j : Int)) At ct t W ht hct (by omega) ⟨rfl, rfl⟩ ?_ ?_)
  · rintro j st n li W' As cs Al cl hB' hj ⟨rfl, rfl⟩ hl0 hlm hl1 hs hcs hl hcl
    exact ⟨feed_skip 9 N X As cs [] (j : Int) Al cl li W' hs hcs hl hcl (by omega) (by omega) (by simp) hl1 (asked_is 9 (Nat.le_refl _) _ N X hm [] (j : Int) li (by simp) hl1 (by omega) (by omega) (fun h => absurd h (by simp))), ⟨rfl, by show (j : Int) + 1 = ((j + 1 : Nat) : Int); omega⟩, by show (if _ then li else []).length ≤ _; split <;> first | omega | simp⟩
  · rintro j st n W' As cs hB' hj ⟨rfl, rfl⟩ hs hcs
    refine (end_other (⟨(⟨#[115, 107, 105, 112]⟩ : ByteArray), N, X⟩ : S74) (by simp) 9 As cs [] (j : Int) W' hs hcs (asked_is 9 (Nat.le_refl _) _ N X hm [] (j : Int) [] (by simp) (by simp) (by omega) (by omega) (fun h => absurd h (by simp)))).mono ?_
    rintro e w' ⟨v, rfl, hf, hb⟩
    exact ⟨v, rfl, hf, by show ([] : List Int).length ≤ _; simp, hb⟩
theorem thr_grep {w0 : World} (N : Int) (X : ByteArray) (g : List Int → Bool) (hX : X.size ≤ 100)
    (hcon : ConOK w0 X g) (hm : shell_Tool_may.f 9 (⟨#[103, 114, 101, 112]⟩ : ByteArray) N X = some true) : ThrOK w0 (⟨(⟨#[103, 114, 101, 112]⟩ : ByteArray), N, X⟩ : S74) (thrOf 5 N g) := by
  intro At ct t W hB hbt ht hct hmx
  refine (through_other (⟨(⟨#[103, 114, 101, 112]⟩ : ByteArray), N, X⟩ : S74) (by simp) (feedOf 5 N g) (endOf 5) (fun j st n => st = [] ∧ n = (j : Int)) At ct t W ht hct (by omega) ⟨rfl, rfl⟩ ?_ ?_)
  · rintro j st n li W' As cs Al cl hB' hj ⟨rfl, rfl⟩ hl0 hlm hl1 hs hcs hl hcl
    exact ⟨feed_grep 9 N X As cs [] (j : Int) Al cl li W' (g li) hX hs hcs hl hcl (by omega) (by omega) (by simp) hl1 (asked_is 9 (Nat.le_refl _) _ N X hm [] (j : Int) li (by simp) hl1 (by omega) (by omega) (fun h => absurd h (by simp))) (fun W2 B c hb2 hC hc => hcon W2 (hB.trans ((hB'.trans (hb2.mono hB'.size)).mono hB.size)) li Al cl B c (fun z hz => hbt z (hlm z hz)) hl0 hl1 (Kd.C_below hl hb2) hcl hC hc), ⟨rfl, by show (j : Int) + 1 = ((j + 1 : Nat) : Int); omega⟩, by show (if _ then li else []).length ≤ _; split <;> first | omega | simp⟩
  · rintro j st n W' As cs hB' hj ⟨rfl, rfl⟩ hs hcs
    refine (end_other (⟨(⟨#[103, 114, 101, 112]⟩ : ByteArray), N, X⟩ : S74) (by simp) 9 As cs [] (j : Int) W' hs hcs (asked_is 9 (Nat.le_refl _) _ N X hm [] (j : Int) [] (by simp) (by simp) (by omega) (by omega) (fun h => absurd h (by simp)))).mono ?_
    rintro e w' ⟨v, rfl, hf, hb⟩
    exact ⟨v, rfl, hf, by show ([] : List Int).length ≤ _; simp, hb⟩
theorem thr_num {w0 : World} (N : Int) (X : ByteArray) (hm : shell_Tool_may.f 9 (⟨#[110, 117, 109]⟩ : ByteArray) N X = some true) : ThrOK w0 (⟨(⟨#[110, 117, 109]⟩ : ByteArray), N, X⟩ : S74) (thrOf 6 N (fun _ => false)) := by
  intro At ct t W hB hbt ht hct hmx
  refine (through_other (⟨(⟨#[110, 117, 109]⟩ : ByteArray), N, X⟩ : S74) (by simp) (feedOf 6 N (fun _ => false)) (endOf 6) (fun j st n => st = [] ∧ n = (j : Int)) At ct t W ht hct (by omega) ⟨rfl, rfl⟩ ?_ ?_)
  · rintro j st n li W' As cs Al cl hB' hj ⟨rfl, rfl⟩ hl0 hlm hl1 hs hcs hl hcl
    exact ⟨feed_num 9 N X As cs [] (j : Int) Al cl li W' (decOf ((j : Int) + 1)) (by have := (dec_19 ((j : Int) + 1) (by omega) (by omega)).1; omega) hs hcs hl hcl (by omega) (by omega) (by simp) hl1 (asked_is 9 (Nat.le_refl _) _ N X hm [] (j : Int) li (by simp) hl1 (by omega) (by omega) (fun h => absurd h (by simp))) (num_Decimal_is _ (by omega) (by omega)), ⟨rfl, by show (j : Int) + 1 = ((j + 1 : Nat) : Int); omega⟩, by show (bytesOf (decOf _) ++ [32] ++ li).length ≤ _; have := (dec_19 ((j : Int) + 1) (by omega) (by omega)).1; simp only [List.length_append, List.length_cons, List.length_nil, bytesOf_length]; omega⟩
  · rintro j st n W' As cs hB' hj ⟨rfl, rfl⟩ hs hcs
    refine (end_other (⟨(⟨#[110, 117, 109]⟩ : ByteArray), N, X⟩ : S74) (by simp) 9 As cs [] (j : Int) W' hs hcs (asked_is 9 (Nat.le_refl _) _ N X hm [] (j : Int) [] (by simp) (by simp) (by omega) (by omega) (fun h => absurd h (by simp)))).mono ?_
    rintro e w' ⟨v, rfl, hf, hb⟩
    exact ⟨v, rfl, hf, by show ([] : List Int).length ≤ _; simp, hb⟩
theorem thr_uniq {w0 : World} (N : Int) (X : ByteArray) (hm : shell_Tool_may.f 9 (⟨#[117, 110, 105, 113]⟩ : ByteArray) N X = some true) : ThrOK w0 (⟨(⟨#[117, 110, 105, 113]⟩ : ByteArray), N, X⟩ : S74) (thrOf 7 N (fun _ => false)) := by
  intro At ct t W hB hbt ht hct hmx
  refine (through_other (⟨(⟨#[117, 110, 105, 113]⟩ : ByteArray), N, X⟩ : S74) (by simp) (feedOf 7 N (fun _ => false)) (endOf 7) (fun j st n => st.length ≤ 65536 ∧ n = (j : Int)) At ct t W ht hct (by omega) ⟨by simp, rfl⟩ ?_ ?_)
  · rintro j st n li W' As cs Al cl hB' hj ⟨hsz, rfl⟩ hl0 hlm hl1 hs hcs hl hcl
    exact ⟨feed_uniq 9 N X As cs st (j : Int) Al cl li W' hs hcs hl hcl (by omega) (by omega) hsz hl1 (asked_is 9 (Nat.le_refl _) _ N X hm st (j : Int) li hsz hl1 (by omega) (by omega) (fun h => absurd h (by simp))), ⟨hl1, by show (j : Int) + 1 = ((j + 1 : Nat) : Int); omega⟩, by show (if _ then li else []).length ≤ _; split <;> first | omega | simp⟩
  · rintro j st n W' As cs hB' hj ⟨hsz, rfl⟩ hs hcs
    refine (end_other (⟨(⟨#[117, 110, 105, 113]⟩ : ByteArray), N, X⟩ : S74) (by simp) 9 As cs st (j : Int) W' hs hcs (asked_is 9 (Nat.le_refl _) _ N X hm st (j : Int) [] hsz (by simp) (by omega) (by omega) (fun h => absurd h (by simp)))).mono ?_
    rintro e w' ⟨v, rfl, hf, hb⟩
    exact ⟨v, rfl, hf, by show ([] : List Int).length ≤ _; simp, hb⟩
theorem thr_wc {w0 : World} (N : Int) (X : ByteArray) (hm : shell_Tool_may.f 9 (⟨#[119, 99]⟩ : ByteArray) N X = some true) : ThrOK w0 (⟨(⟨#[119, 99]⟩ : ByteArray), N, X⟩ : S74) (thrOf 8 N (fun _ => false)) := by
  intro At ct t W hB hbt ht hct hmx
  refine (through_other (⟨(⟨#[119, 99]⟩ : ByteArray), N, X⟩ : S74) (by simp) (feedOf 8 N (fun _ => false)) (endOf 8) (fun j st n => 0 ≤ n ∧ n ≤ (j : Int) ∧ st.length ≤ 65536 ∧ ∃ z : Int, 0 ≤ z ∧ z ≤ 65536 * (j : Int) ∧ sizedOf st = (z, true)) At ct t W ht hct (by omega) ⟨by omega, by simp, by simp, 0, by omega, by simp, rfl⟩ ?_ ?_)
  · rintro j st n li W' As cs Al cl hB' hj ⟨hn0, hnj, hsz, z, hz0, hzj, hz⟩ hl0 hlm hl1 hs hcs hl hcl
    have hzo : zOf st = z := by unfold zOf; rw [hz]
    have hel : endLen li ≤ 1 := by unfold endLen; split <;> omega
    have hcc := feed_wc 9 N X As cs st n Al cl li W' 9 z true (decOf (z + (li.length : Int))) hs hcs hl hcl (by omega) (by omega) hsz hl1 (asked_is 9 (Nat.le_refl _) _ N X hm st n li hsz hl1 (by omega) (by omega) (fun _ => by rw [hz])) (by rw [sized_is 9 (by omega) st (by omega), hz]) hz0 (by omega) (num_Decimal_is _ (by omega) (by omega)) (by have := (dec_19 (z + (li.length : Int)) (by omega) (by omega)).1; omega)
    rw [← hzo] at hcc
    exact ⟨hcc, ⟨by show 0 ≤ n + (endLen li : Int); omega, by show n + (endLen li : Int) ≤ ((j + 1 : Nat) : Int); omega, by show (bytesOf _).length ≤ _; rw [bytesOf_length]; have := (dec_19 (zOf st + (li.length : Int)) (by rw [hzo]; omega) (by rw [hzo]; omega)).1; omega, z + (li.length : Int), by omega, by omega, by show sizedOf (bytesOf (decOf (zOf st + (li.length : Int)))) = _; rw [hzo]; exact sized_dec _ (by omega) (by omega)⟩, by show ([] : List Int).length ≤ _; simp⟩
  · rintro j st n W' As cs hB' hj ⟨hn0, hnj, hsz, z, hz0, hzj, hz⟩ hs hcs
    have hzo : zOf st = z := by unfold zOf; rw [hz]
    have hcc := end_wc 9 9 N X As cs st n z true (decOf n) (decOf z) W' hs hcs (asked_is 9 (Nat.le_refl _) _ N X hm st n [] hsz (by simp) (by omega) (by omega) (fun _ => by rw [hz])) (by rw [sized_is 9 (by omega) st (by omega), hz]) (num_Decimal_is _ (by omega) (by omega)) (num_Decimal_is _ (by omega) (by omega)) (by have := (dec_19 n (by omega) (by omega)).1; omega) (by have := (dec_19 z (by omega) (by omega)).1; omega)
    rw [← hzo] at hcc
    refine (hcc).mono ?_
    rintro e w' ⟨v, rfl, hf, hb⟩
    exact ⟨v, rfl, hf, by show (bytesOf _).length ≤ _; have h1 := (dec_19 n (by omega) (by omega)).1; have h2 := (dec_19 (zOf st) (by omega) (by omega)).1; simp only [bytesOf_length, ByteArray.size_append]; show (decOf n).size + 1 + (decOf (zOf st)).size + 1 ≤ _; omega, hb⟩
end Go.Proofs.YthmijenlndnmcaaGreatDoor.Sh
