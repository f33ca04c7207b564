-- Written by wip/tools/xprint.py of this work (the kit's print with contracts of its own).
import Derived.Test.YtbggmdgeanoelaaDoorFtx0
import Derived.Test.YtbggmdgeanoelaaDoorFtx2
namespace Go.Proofs.YtbggmdgeanoelaaDoor.Ft
open Go.RowKit Go.Proofs.YtbggmdgeanoelaaDoorW.PrintWords Go.Proofs.YtbggmdgeanoelaaDoorW.PrintLast Go.Proofs.YtbggmdgeanoelaaDoorW.PrintMore
attribute [local go_sem] max2_int min2_int max_two min_two max_three min_three max_four min_four   -- for this text's walks alone
set_option linter.unusedVariables false
set_option linter.unusedSimpArgs false

/-! ### num_written: function 28 -/
-- STUB millrace/num.written | u64 i64 | str | 0 | 1 | num_written
/-- A digit's sign. -/
def numChr (d : Nat) : Int := if d < 10 then 48 + (d : Int) else 87 + (d : Int)
/-- The digits of n to base b, the lowest first, in at most f digits. -/
def numDigs (b : Nat) : Nat → Nat → List Int
  | 0, _ => []
  | f + 1, n => numChr (n % b) :: (if n / b = 0 then [] else numDigs b f (n / b))
theorem numDigs_len (b : Nat) : ∀ f n, (numDigs b f n).length ≤ f
  | 0, _ => by simp [numDigs]
  | f + 1, n => by
    have := numDigs_len b f (n / b)
    simp only [numDigs, List.length_cons]
    split
    · simp
    · omega
theorem numDigs_zero {b f n : Nat} (h : n / b = 0) : numDigs b (f + 1) n = [numChr (n % b)] := by simp [numDigs, h]
theorem numDigs_more {b f n : Nat} (h : ¬ n / b = 0) : numDigs b (f + 1) n = numChr (n % b) :: numDigs b f (n / b) := by simp [numDigs, h]
def numBound (n : Nat) : Prop := n < 2 ^ 64
theorem numChr_at (d : Nat) (h : d < 16) : ((⟨#[48, 49, 50, 51, 52, 53, 54, 55, 56, 57, 97, 98, 99, 100, 101, 102]⟩ : ByteArray)[d]'h).toNat = numChr d := by
  have : ∀ e : Fin 16, (((⟨#[48, 49, 50, 51, 52, 53, 54, 55, 56, 57, 97, 98, 99, 100, 101, 102]⟩ : ByteArray)[e.1]'e.2).toNat : Int) = numChr e.1 := by decide +kernel
  exact this ⟨d, h⟩

theorem num_wrap (n b q : Nat) (h : n < 2 ^ 64) (hq : q = n / b) : IntKind.u64.wrap ((n : Int) / (b : Int)) = (q : Int) := by
  have h1 : n / b ≤ n := Nat.div_le_self n b
  have h2 : ((n / b : Nat) : Int) = (n : Int) / (b : Int) := Int.natCast_ediv n b
  subst hq
  rw [← h2]
  have h3 : n / b < 2 ^ 64 := Nat.lt_of_le_of_lt h1 h
  generalize n / b = x at h3 ⊢
  simp only [IntKind.wrap, IntKind.signed, IntKind.bits, Bool.false_and, Bool.false_eq_true, if_false]
  omega
set_option maxHeartbeats 1000000 in
set_option maxRecDepth 100000 in
/-- places' closure: the digits, lowest first, handed out one by one; its own box B1 is turned, B2 read. -/
theorem num_places1 (l B1 B2 : Nat) (hne : B1 ≠ B2) (b : Nat) (hb : 2 ≤ b) (hb16 : b ≤ 16) (f0 n0 : Nat) (hf0 : f0 ≤ 63) (hn0 : n0 < 2 ^ (f0 + 1)) (J : List Int → World → Prop) (Jx : List Int → World → Prop)
    (hJ : ∀ pre W v, J pre W → J pre (W.setCell ⟨B1, 0, none⟩ v))
    (hY : ∀ pre x W, J pre W → (pre ++ [x]).length ≤ f0 + 1 → Rng.YieldW Tryd.prog l #[.int .u8 x] W fun e W' =>
      (e = .returned (.bool true) ∧ J (pre ++ [x]) W' ∧ W'.heap[B1]? = W.heap[B1]? ∧ W'.heap[B2]? = W.heap[B2]?) ∨ (e = .returned (.bool false) ∧ Jx (pre ++ [x]) W'))
    (W : World) (h1 : Boxed W B1 61 (.int .u64 n0)) (h2 : Boxed W B2 61 (.int .u64 b)) (h0 : J [] W) :
    Calls Tryd.prog 48 #[.func (.yield l) #[] #[], .pointer (some ⟨B1, 0, none⟩), .pointer (some ⟨B2, 0, none⟩)] W fun e W' => (∃ v, e = .returned v) ∧
      (J (numDigs b (f0 + 1) n0) W' ∨ ∃ pre, pre.length ≤ f0 + 1 ∧ Jx pre W') := by
  refine (callsIn_wide (n := 1)).1 ?_
  refine callsIn_of_wp Tryd.func48 rfl trivial ?_ rfl
  simp only [Tryd.ntmps48, List.size_toArray, List.length_cons, List.length_nil, Nat.reduceAdd, Nat.reduceSub, Array.replicate_succ, Array.replicate_zero, List.push_toArray, List.append_toArray, List.nil_append, List.cons_append]
  gi_wp2
  gi_loopg [4] (f0 + 1) (fun k v wr => (∃ (f n : Nat) (pre : List Int), k = f + 1 ∧ v = .bool true ∧ n < 2 ^ (f + 1) ∧ f ≤ f0 ∧ pre.length + (f + 1) ≤ f0 + 1 ∧ numDigs b (f0 + 1) n0 = pre ++ numDigs b (f + 1) n ∧ Boxed wr B1 61 (.int .u64 n) ∧ Boxed wr B2 61 (.int .u64 b) ∧ J pre wr) ∨ (k = 0 ∧ v = .bool false ∧ J (numDigs b (f0 + 1) n0) wr))
  case atStart => exact .inl ⟨f0, n0, [], rfl, rfl, hn0, Nat.le_refl _, by simp, by simp, h1, h2, h0⟩
  case round =>
    rcases hrel with ⟨f, n, pre, rfl, rfl, hn, hf, hpl, hx, hb1, hb2, hj⟩ | ⟨rfl, rfl, hj⟩
    · have c1 := hb1.cell
      have f1 := hb1.frozen
      have c2 := hb2.cell
      have d0 : (0 : Int) ≤ (n : Int) := by omega
      have d1 : (1 : Int) ≤ (b : Int) := by omega
      have hlt : n < 2 ^ 64 := Nat.lt_of_lt_of_le hn (Nat.pow_le_pow_right (by omega) (by omega))
      have hqb : n / b < 2 ^ (f + 1) := Nat.lt_of_le_of_lt (Nat.div_le_self _ _) hn
      have hqf : n / b < 2 ^ f := by
        have : n / b ≤ n / 2 := Nat.div_le_div_left hb (by omega)
        rw [Nat.pow_succ] at hn
        omega
      obtain ⟨q, hq⟩ : ∃ q, q = n / b := ⟨_, rfl⟩
      obtain ⟨m, hm⟩ : ∃ m, m = n % b := ⟨_, rfl⟩
      have eq1 : IntKind.u64.wrap ((n : Int) / (b : Int)) = (q : Int) := num_wrap n b q hlt hq
      have em1 : (n : Int) % (b : Int) = (m : Int) := by rw [hm]; omega
      have hm16 : m < 16 := by have := Nat.mod_lt n (show b > 0 by omega); omega
      have hch := numChr_at m hm16
      rw [← hq] at hqf
      have hx' : Hid (numDigs b (f0 + 1) n0 = pre ++ (numChr m :: (if q = 0 then [] else numDigs b f q))) := by
        show _ = _
        rw [hx, hm, hq]
        rfl
      clear hx hn hlt hqb hq hm
      have hj1 := hJ pre wr (.int .u64 q) hj
      have B1' : Boxed (wr.setCell ⟨B1, 0, none⟩ (.int .u64 q)) B1 61 (.int .u64 q) := hb1.set _
      have B2' : Boxed (wr.setCell ⟨B1, 0, none⟩ (.int .u64 q)) B2 61 (.int .u64 b) := (Below.heap_setCell wr ⟨B1, 0, none⟩ _ B2 (Ne.symm hne)).trans hb2
      obtain ⟨fn, tmps, assign, body, hy, hR⟩ := hY pre (numChr m) _ hj1 (by simp; omega) 0
      have HR := Lib.hid hR
      clear hR
      gi_wp2
      refine HR.out.mono ?_
      rintro e W3 (⟨rfl, hJ3, hk1, hk2⟩ | ⟨rfl, hJx3⟩)
      · have B1x : Boxed W3 B1 61 (.int .u64 q) := hk1.trans B1'
        have B2x : Boxed W3 B2 61 (.int .u64 b) := hk2.trans B2'
        have c3 := B1x.cell
        by_cases hz : q = 0
        · subst hz
          gi_wp2
          go_roundg 0
          case measure => omega
          case rel => exact .inr ⟨rfl, rfl, by rw [hx'.out]; simpa using hJ3⟩
        · have hz' : decide ((0 : Int) < (q : Int)) = true := by simp; omega
          cases f with
          | zero => simp at hqf; exact absurd hqf hz
          | succ f =>
            gi_wp2
            go_roundg (f + 1)
            case measure => omega
            case rel => exact .inl ⟨f, q, pre ++ [numChr m], rfl, (by simp; omega), hqf, by omega, by simp; omega, by rw [hx'.out, if_neg hz]; simp, B1x, B2x, hJ3⟩
      · gi_wp2
        refine bodyPost_ret (results_none rfl _ _ _) rfl ?_
        exact ⟨⟨_, rfl⟩, .inr ⟨pre ++ [numChr m], by simp; omega, hJx3⟩⟩
    · gi_wp2
      go_end0
      exact ⟨⟨_, rfl⟩, .inl hj⟩

/-- written, of numbers that a uint64 holds, to bases from 2 to 16. -/
def num_written.f (a0 : Int) (a1 : Int) : Option ByteArray :=
  if 2 ≤ a1 ∧ a1 ≤ 16 ∧ 0 ≤ a0 ∧ a0.toNat < 2 ^ 64 then some (strOfNums (numDigs a1.toNat 64 a0.toNat).reverse) else none

theorem num_set_at (x y : Int) (post : List Int) : ∀ pre : List Int, (pre ++ x :: post).set pre.length y = pre ++ y :: post
  | [] => rfl
  | a :: pre => by simp [num_set_at x y post pre]
theorem num_rd_at (x : Int) (pre post : List Int) : rd (pre ++ x :: post) ((pre.length : Nat) : Int) = x := by simp [rd]
/-- slices.Reverse, as the print tells it. -/
theorem num_rev : ∀ (k : Nat) (pre mid post : List Int), mid.length ≤ 2 * k + 1 → (pre ++ mid ++ post).length ≤ 9223372036854775807 → ∀ (i j : Int), i = (pre.length : Int) → j = (pre.length : Int) + (mid.length : Int) - 1 →
    slices_Reverse_byte_byte.l0 (k + 1) (pre ++ mid ++ post) i j = some (pre ++ mid.reverse ++ post) := by
  intro k
  induction k with
  | zero =>
    intro pre mid post hm hl i j hi hj
    simp only [slices_Reverse_byte_byte.l0]
    rw [if_neg (by omega)]
    match mid, hm with
    | [], _ => rfl
    | [x], _ => rfl
  | succ k ih =>
    intro pre mid post hm hl i j hi hj
    by_cases h1 : mid.length ≤ 1
    · simp only [slices_Reverse_byte_byte.l0]
      rw [if_neg (by omega)]
      match mid, h1 with
      | [], _ => rfl
      | [x], _ => rfl
    · obtain ⟨a, m, z, rfl⟩ : ∃ a m z, mid = a :: (m ++ [z]) := by
        match mid, h1 with
        | [], h => exact absurd (by simp) h
        | a :: r, h =>
          have hr : r ≠ [] := by rintro rfl; simp at h
          exact ⟨a, r.dropLast, r.getLast hr, by rw [List.dropLast_concat_getLast]⟩
      have hlen : (a :: (m ++ [z])).length = m.length + 2 := by simp
      have hll : (pre ++ a :: (m ++ [z]) ++ post).length = pre.length + (m.length + 2) + post.length := by simp; omega
      rw [hlen] at hm hj
      rw [hll] at hl
      have e1 : pre ++ a :: (m ++ [z]) ++ post = (pre ++ a :: m) ++ z :: post := by simp
      have e2 : pre ++ a :: (m ++ [z]) ++ post = pre ++ a :: (m ++ z :: post) := by simp
      have hj' : j = ((pre ++ a :: m).length : Nat) := by simp; omega
      have hjr : rd (pre ++ a :: (m ++ [z]) ++ post) j = z := by rw [e1, hj']; exact num_rd_at _ _ _
      have hir : rd (pre ++ a :: (m ++ [z]) ++ post) i = a := by rw [e2, hi]; exact num_rd_at _ _ _
      have hs1 : (pre ++ a :: (m ++ [z]) ++ post).set i.toNat z = (pre ++ z :: m) ++ z :: post := by
        rw [e2, hi, Int.toNat_natCast, num_set_at]; simp
      have hs2 : ((pre ++ z :: m) ++ z :: post).set j.toNat a = (pre ++ [z]) ++ m ++ (a :: post) := by
        rw [show j.toNat = (pre ++ z :: m).length by simp; omega, num_set_at]; simp
      have hlt : ((pre ++ a :: (m ++ [z]) ++ post).length : Int) = (pre.length : Int) + (m.length : Int) + 2 + (post.length : Int) := by rw [hll]; omega
      rw [slices_Reverse_byte_byte.l0, if_pos (by omega), if_pos (by omega), if_pos (by omega), if_pos (by omega), if_pos (by omega), hjr, hir, hs1, hs2]
      have w1 : wrap64 (i + 1) = ((pre ++ [z]).length : Int) := by unfold wrap64; simp; omega
      have w2 : wrap64 (j - 1) = ((pre ++ [z]).length : Int) + (m.length : Int) - 1 := by unfold wrap64; simp; omega
      rw [ih (pre ++ [z]) m (a :: post) (by omega) (by simp; omega) _ _ w1 w2]
      simp
theorem num_reverse (l : List Int) (hl : l.length ≤ 9223372036854775807) : slices_Reverse_byte_byte.f (l.length + 1) l = some l.reverse := by
  have := num_rev l.length [] l [] (by omega) (by simpa using hl) 0 (wrap64 ((l.length : Int) - 1)) rfl (by unfold wrap64; simp; omega)
  simpa [slices_Reverse_byte_byte.f] using this

set_option maxHeartbeats 1000000 in
theorem num_places (n b : Int) (w : World) :
    Calls Tryd.prog 38 #[.int .u64 n, .int .u64 b] w fun e w' => e = .returned (.func (.func 48) #[] #[.pointer (some ⟨w.heap.size, 0, none⟩), .pointer (some ⟨w.heap.size + 1, 0, none⟩)]) ∧
      w' = (w.alloc (.cells #[.int .u64 n] 61)).alloc (.cells #[.int .u64 b] 61) := by
  go_enter Tryd.func38, Tryd.ntmps38
  go_wp2
  go_ret
  exact ⟨rfl, rfl⟩

theorem num_places_seq (B1 B2 : Nat) (hne : B1 ≠ B2) (b : Nat) (hb : 2 ≤ b) (hb16 : b ≤ 16) (n : Nat) (hn : n < 2 ^ 64) (w : World) (h1 : Boxed w B1 61 (.int .u64 n)) (h2 : Boxed w B2 61 (.int .u64 b)) :
    Rng.SeqW Tryd.prog 48 #[.pointer (some ⟨B1, 0, none⟩), .pointer (some ⟨B2, 0, none⟩)] (fun x : Int => #[Value.int .u8 x]) (fun r => r = B1) (fun k => k = B1 ∨ k = B2) (fun xs => xs = numDigs b 64 n) (fun pre => pre.length ≤ 64) w := by
  intro l J Jx W hW hJ hJx hY h0
  have g1 : Boxed W B1 61 (.int .u64 n) := (hW.block B1 h1.lt).trans h1
  have g2 : Boxed W B2 61 (.int .u64 b) := (hW.block B2 h2.lt).trans h2
  refine (num_places1 l B1 B2 hne b hb hb16 63 n (by omega) hn (fun pre W => J pre W ∧ B1 < W.heap.size ∧ B2 < W.heap.size) Jx ?_ ?_ W g1 g2 ⟨h0, g1.lt, g2.lt⟩).mono ?_
  · rintro pre W v ⟨hj, hl1, hl2⟩
    exact ⟨hJ pre W _ (some B1) hj (grownBy_setCell' W B1 v) (fun r e => .inl (by cases e; rfl)), by simpa [World.setCell] using hl1, by simpa [World.setCell] using hl2⟩
  · rintro pre x W ⟨hj, hl1, hl2⟩ hlen m
    obtain ⟨fn, tmps, assign, body, hy, hR⟩ := hY pre x W hj hlen m
    refine ⟨fn, tmps, assign, body, hy, hR.mono ?_⟩
    rintro e W' (⟨rfl, hj', hk, hs⟩ | ⟨rfl, hx⟩)
    · exact .inl ⟨rfl, ⟨hj', Nat.lt_of_lt_of_le hl1 hs.size, Nat.lt_of_lt_of_le hl2 hs.size⟩, hs.same _ (.inl rfl) hl1, hs.same _ (.inr rfl) hl2⟩
    · exact .inr ⟨rfl, hx⟩
  · rintro e W' ⟨hv, ⟨hj, _⟩ | ⟨pre, hp, hx⟩⟩
    · exact ⟨hv, .inl ⟨_, rfl, hj⟩⟩
    · exact ⟨hv, .inr ⟨pre, hp, hx⟩⟩

theorem num_appended {w W w1 : World} {v v' : Value} {k m : Nat} {xs ys : List Value} {tmp : Obj} (hv : Boxed W w.heap.size 63 v) (hrow : W.ownsRow (w.heap.size + 3) 5 1 v k xs) (hn : w.heap.size ≤ W.heap.size)
    (hown' : w1.ownsRow (w.heap.size + 3) 5 1 v' m ys) (hgrow : (W.alloc tmp).grownBy w1 v.ownBlock) :
    Boxed w1 w.heap.size 63 v ∧ Boxed (w1.setCell ⟨w.heap.size, 0, none⟩ v') w.heap.size 63 v' ∧ (w1.setCell ⟨w.heap.size, 0, none⟩ v').ownsRow (w.heap.size + 3) 5 1 v' m ys ∧ KeepsOthers W (w1.setCell ⟨w.heap.size, 0, none⟩ v') ∧ Below w.heap.size W (w1.setCell ⟨w.heap.size, 0, none⟩ v') ∧ Rng.Same (fun k => k = w.heap.size + 1 ∨ k = w.heap.size + 1 + 1) W (w1.setCell ⟨w.heap.size, 0, none⟩ v') := by
  obtain ⟨h1, h2, h3, h4, h5⟩ := hv.appended (show (63 : TypeId) ≠ 5 by decide) (Joins.ownsRow_le hrow (show w.heap.size ≤ w.heap.size + 3 by omega)) hn (Nat.le_refl _) (Joins.ownsRow_le hown' (show w.heap.size ≤ w.heap.size + 3 by omega)) hgrow
  exact ⟨h1, h2, hown'.kept (grownBy_setCell' w1 w.heap.size v') (.inr (h1.not_row (by decide) hown').symm), h4, h5, ((Rng.Same.alloc _ W tmp).trans (Rng.Same.grown hgrow (fun r e h => by have := (hrow.lt r e).1; rcases h with h | h <;> omega))).trans (Rng.Same.setCell w1 (by simp; omega) v')⟩

attribute [local go_sem] Oper.semAt_some Rng.wide_fn Rng.wide_depth Rng.wide_alive

set_option maxHeartbeats 2000000 in
set_option maxRecDepth 100000 in
theorem num_written.calls (a0 a1 : Int) (r : ByteArray) (w : World) (h : num_written.f a0 a1 = some r) :
    Calls Tryd.prog 28 #[.int .u64 a0, .int .i64 a1] w fun e w' => e = .returned (.string r) ∧ Below w.heap.size w w' := by
  unfold num_written.f at h
  split at h
  case isFalse => cases h
  case isTrue hr =>
    obtain ⟨hr1, hr2, hr3, hr4⟩ := hr
    obtain rfl := Option.some.inj h
    clear h
    obtain ⟨n, rfl⟩ := Int.eq_ofNat_of_zero_le hr3
    obtain ⟨b, rfl⟩ := Int.eq_ofNat_of_zero_le (show 0 ≤ a1 by omega)
    rw [Int.toNat_natCast, Int.toNat_natCast] at *
    have hb2 : 2 ≤ b := by omega
    have hb16 : b ≤ 16 := by omega
    have hwb : IntKind.u64.wrap (b : Int) = (b : Int) := by
      simp only [IntKind.wrap, IntKind.signed, IntKind.bits, Bool.false_and, Bool.false_eq_true, if_false]
      omega
    have hwb' := Lib.hid hr4
    obtain ⟨xs, hxs⟩ : ∃ xs, xs = numDigs b 64 n := ⟨_, rfl⟩
    have hxl : xs.length ≤ 64 := by rw [hxs]; exact numDigs_len b 64 n
    rw [← hxs]
    have HX := Lib.hid hxs
    clear hxs
    clear hr1 hr2 hr3 hr4
    obtain ⟨i0, hi, hz0, hz1, hz2⟩ := info_parts (show (Tryd.prog.info? 5).map (fun i => (i.zero, i.size, i.bytes)) = some (some (.int .u8 0), 1, 1) by kernel_rfl)
    refine (callsIn_wide (n := 5)).1 ?_
    refine callsIn_of_wp_marks Tryd.func28 rfl trivial ?_ rfl
    simp only [Tryd.ntmps28, List.size_toArray, List.length_cons, List.length_nil, Nat.reduceAdd, Nat.reduceSub, Array.replicate_succ, Array.replicate_zero, List.push_toArray, List.append_toArray, List.nil_append, List.cons_append]
    gi_wp2_with (gi_at_call 38; refine (callsIn_wide.2 (num_places _ _ _)).mono ?_; rintro e w' ⟨rfl, rfl⟩)
    have b0 := Boxed.new w 63 (.slice none 0 0)
    have b1 := Boxed.new (w.alloc (.cells #[.slice none 0 0] 63)) 61 (.int .u64 (n : Int))
    have b2 := Boxed.new ((w.alloc (.cells #[.slice none 0 0] 63)).alloc (.cells #[.int .u64 (n : Int)] 61)) 61 (.int .u64 (b : Int))
    rw [World.size_alloc] at b1
    rw [World.size_alloc, World.size_alloc] at b2
    have hB0 : Below w.heap.size w (((w.alloc (.cells #[.slice none 0 0] 63)).alloc (.cells #[.int .u64 (n : Int)] 61)).alloc (.cells #[.int .u64 (b : Int)] 61)) := (((Below.refl _ w).alloc (Nat.le_refl _) _).alloc (by simp) _).alloc (by simp; omega) _
    refine Rng.rangeW (gf := 48) (lb := #[.pointer (some ⟨w.heap.size + 1, 0, none⟩), .pointer (some ⟨w.heap.size + 1 + 1, 0, none⟩)]) rfl (enters_of Tryd.func48 (by kernel_rfl) rfl)
      (num_places_seq (w.heap.size + 1) (w.heap.size + 1 + 1) (by omega) b hb2 hb16 n hwb'.out _ (b1.alloc _) b2) (Below.refl _ _) (fun r h => by subst h; simp) (fun r h => by rcases h with rfl | rfl <;> simp) (fun _ => rfl)
      (fun pre W => (∃ v, Boxed W w.heap.size 63 v ∧ W.ownsRow (w.heap.size + 3) 5 1 v pre.length (pre.map (Value.int .u8)) ∧ True) ∧ Below w.heap.size w W)
      (fun _ _ _ => False)
      (Rng.Owns.and (Rng.Owns.holds (w.heap.size + 3) w.heap.size 63 5 1 (fun pre : List Int => pre.length) (fun pre => pre.map (Value.int .u8)) (fun _ _ => True) (by omega) (fun r h => by omega)) (Rng.Owns.below (Nat.le_refl _) (by simp; omega) (fun r h => by omega)))
      (fun _ => Rng.Owns.never)
      ⟨⟨_, (b0.alloc _).alloc _, World.ownsRow_nil _ _ _ _, trivial⟩, hB0⟩
      (fun x => { tmps := #[.int .u64 n, .int .i64 b, undef, undef, .string ⟨#[]⟩, .pointer (some ⟨w.heap.size, 0, none⟩), .int .u8 x, .int .u64 n, .int .i64 b, .int .u64 b, .func (.func 48) #[] #[.pointer (some ⟨w.heap.size + 1, 0, none⟩), .pointer (some ⟨w.heap.size + 1 + 1, 0, none⟩)], .int .u8 x, undef, undef, undef, undef, undef, undef, undef, undef], defers := [] }) ?assign ?body ?done ?stop
    case assign =>
      intro l x W K hK
      gi_wp2
      exact hK
    case body =>
      rintro l pre x W ⟨⟨v, hv, hrow, _⟩, hB⟩ hlen hsz
      have hc := hv.cell
      simp only [World.size_alloc] at hsz
      have hlen' : pre.length + 1 ≤ 64 := by simpa using hlen
      have hrow2 : (W.alloc (.cells #[.int .u8 x] 5)).ownsRow (w.heap.size + 3) 5 1 v pre.length (pre.map (Value.int .u8)) := hrow.alloc _
      have q1 : pre.length + 1 ≤ maxLen := by unfold maxLen; omega
      have q2 : (pre.length + 1) * 1 ≤ 140737488355328 := by omega
      have q3 : w.heap.size + 3 ≤ (W.alloc (.cells #[.int .u8 x] 5)).heap.size := by simp; omega
      have q4 : ∀ u ∈ [Value.int .u8 x], u.oneCell' = true := by simp [Value.oneCell']
      have hn2 : w.heap.size ≤ W.heap.size := hB.size
      have Q := Lib.hid (And.intro q1 (And.intro q2 q3))
      clear q1 q2 q3 hlen hlen' hsz
      gi_wp2_with (gi_at_builtin; go_must (refine wpListIn_append_own _ rfl _ _ 63 rfl (w.heap.size + 3) 5 i0 (.int .u8 0) 1 1 Tryd.underlying63 hi hz0 hz1 hz2 rfl (by decide) _ _ _ rfl hrow2 ⟨W.heap.size, 0, none⟩ 1 1 [.int .u8 x] rfl rfl (cell_one_new _ _ _) q4 Q.out.1 Q.out.2.1 Q.out.2.2 ?_); go_must (intro v' w1 hown' hgrow _; obtain ⟨g', cap', rfl⟩ := ownsRow_succ hown'; obtain ⟨hv1, hv2, hr2, hk2, hb2, hs2⟩ := num_appended hv hrow hn2 hown' hgrow; have hc1 := hv1.cell; have hf1 := hv1.frozen))
      exact ⟨hk2, hs2, ⟨_, hv2, by simpa using hr2, trivial⟩, hB.trans hb2⟩
    case done =>
      rintro D ys W hD hys ⟨⟨v, hv, hrow, _⟩, hB⟩ hK
      have hc := hv.cell
      obtain rfl : ys = xs := hys.trans HX.out.symm
      clear hys
      have hR : Kd.R (Kd.int .u8) 5 W w.heap.size (fun k => some k = v.ownBlock) v ys := Kd.R_of_own (enc := Value.int .u8) (h1 := fun _ => rfl) (Joins.ownsRow_le hrow (show w.heap.size ≤ w.heap.size + 3 by omega)) (fun k hk => hk.symm)
      have hne : ¬ some w.heap.size = v.ownBlock := fun e => by have := (hrow.lt _ e.symm).1; omega
      have hcall := slices_Reverse_byte_byte.calls (ys.length + 1) (fun k => some k = v.ownBlock) v ys ys.reverse w W hB hR (num_reverse ys (by omega))
      have HC := Lib.hid hcall
      have hnD : ¬ some D = v.ownBlock := fun e => by obtain ⟨cs, hcs⟩ := own_typed hrow D e.symm; rw [hK] at hcs; cases hcs
      clear hcall hR hrow hxl
      simp only [World.size_alloc] at hD
      gi_wp2_with (gi_at_call 39; go_must (refine (callsIn_wide.2 HC.out).mono ?_); go_must (rintro e W4 ⟨rfl, hR4, hB4, hk4⟩; have hv4 : Boxed W4 w.heap.size 63 v := blk_kept hv hk4 hne; have hc4 := hv4.cell))
      have hK4 : W4.heap[D]? = some (.deferred (some [])) := blk_kept hK hk4 hnD
      obtain ⟨A, c, hv0, _, hC⟩ := Kd.R_reads hR4
      have hcv : (convert 63 9 v).run Tryd.prog W4 = .ok (.string (strOfNums ys.reverse)) W4 := by
        rw [hv0]; exact Kd.C_string Tryd.underlying63 Tryd.underlying5 Tryd.underlying9 hC
      clear hv0 hC hR4
      rw [hcv]
      simp only [Result.andThen]
      rw [Oper.uponIn_value]
      gi_wp2
      refine ⟨by simp, .inl ⟨_, _, rfl, run_takeDeferred hK4, ?_⟩⟩
      exact ⟨_, results_tmp rfl _ _ _, rfl, hB4.trans (belowK_b (w := w) (Nat.le_refl _) W4 D _ _ (by omega) hK4 rfl rfl)⟩
    case stop =>
      rintro D c pre W _ _ h _
      exact h.elim

/-! ### num_Decimal: function 19 -/
def num_Decimal.f (a0 : Int) : Option (ByteArray) := if a0 < 0 then ((num_written.f (IntKind.u64.wrap (-(IntKind.u64.wrap (a0)))) 10).bind fun t111 => (if 1 + t111.size ≤ 9223372036854775807 then (some ((⟨#[45]⟩ : ByteArray) ++ t111)) else (none))) else ((num_written.f (IntKind.u64.wrap (a0)) 10).bind fun t112 => (some t112))
set_option maxHeartbeats 8000000 in
set_option maxRecDepth 100000 in
theorem num_Decimal.calls (a0 : Int) (r : ByteArray) (w : World) (h : num_Decimal.f a0 = some r) :
    Calls Tryd.prog 19 #[.int .i64 a0] w fun e w' => e = .returned (.string r) ∧ Below w.heap.size w w' := by
  have HB := Aside0.mk (Below.refl w.heap.size w)
  have H : (if a0 < 0 then ((num_written.f (IntKind.u64.wrap (-(IntKind.u64.wrap (a0)))) 10).bind fun t111 => (if 1 + t111.size ≤ 9223372036854775807 then (some ((⟨#[45]⟩ : ByteArray) ++ t111)) else (none))) else ((num_written.f (IntKind.u64.wrap (a0)) 10).bind fun t112 => (some t112))) = some r := h
  clear h
  by_cases c2 : a0 < 0
  · rw [if_pos c2] at H
    have c2b0 : decide (a0 < 0) = true := decide_eq_true c2
    clear c2
    replace H := Option.bind_eq_some_iff.mp H
    obtain ⟨t111, A30, H⟩ := H
    replace H : (if 1 + t111.size ≤ 9223372036854775807 then (some ((⟨#[45]⟩ : ByteArray) ++ t111)) else (none)) = some r := H
    have A3 := Aside0.mk A30
    clear A30
    by_cases c4 : 1 + t111.size ≤ 9223372036854775807
    · rw [if_pos c4] at H
      have c4b0 := eq_true c4
      have c4b1 : decide (1 + t111.size ≤ 9223372036854775807) = true := decide_eq_true c4
      try have c4b2 : (9223372036854775807 < 1 + t111.size) = False := eq_false (Nat.not_lt.2 c4)
      obtain rfl := Option.some.inj H
      go_enter Tryd.func19, Tryd.ntmps19
      go_wp2_with (first | ((with_reducible refine gate_callee (f := 28) rfl ?_); refine goesL_ (some 8) rfl rfl Tryd.func28 (by kernel_rfl) rfl #[.int .u64 (IntKind.u64.wrap (-(IntKind.u64.wrap (a0)))), .int .i64 10] rfl (by (try simp only [List.map_toArray, List.map_cons, List.map_nil]); first | done | rfl | (simp only [List.length_drop, List.length_take]; rfl)) ?_; (with_reducible refine (num_written.calls (IntKind.u64.wrap (-(IntKind.u64.wrap (a0)))) 10 t111 _ A3.out).mono ?_); rintro e w5 ⟨rfl, hb⟩; refine ⟨_, rfl, ?_⟩; have n0_ := Aside0.mk (below_step (by repeat (first | (with_reducible first | exact HB.out | apply below_alloc | apply pw_below_drewN | apply below_drew1) | exact HB.out)) hb); clear HB; have HB := n0_; clear n0_; (try clear hb); (try clear hb2); (try clear hk); (try clear hi)))
      go_ret
      exact ⟨by first | rfl | (simp [errW_none, errW_some] <;> rfl) | (simp [*, errW_none, errW_some] <;> rfl), by repeat (first | (with_reducible first | exact HB.out | apply below_alloc | apply pw_below_drewN | apply below_drew1) | exact HB.out)⟩
    · rw [if_neg c4] at H
      exact absurd H (by simp)
  · rw [if_neg c2] at H
    have c2b0 : decide (a0 < 0) = false := decide_eq_false c2
    clear c2
    replace H := Option.bind_eq_some_iff.mp H
    obtain ⟨t112, A60, H⟩ := H
    replace H : (some t112) = some r := H
    have A6 := Aside0.mk A60
    clear A60
    obtain rfl := Option.some.inj H
    go_enter Tryd.func19, Tryd.ntmps19
    go_wp2_with (first | ((with_reducible refine gate_callee (f := 28) rfl ?_); refine goesL_ (some 12) rfl rfl Tryd.func28 (by kernel_rfl) rfl #[.int .u64 (IntKind.u64.wrap (a0)), .int .i64 10] rfl (by (try simp only [List.map_toArray, List.map_cons, List.map_nil]); first | done | rfl | (simp only [List.length_drop, List.length_take]; rfl)) ?_; (with_reducible refine (num_written.calls (IntKind.u64.wrap (a0)) 10 t112 _ A6.out).mono ?_); rintro e w7 ⟨rfl, hb⟩; refine ⟨_, rfl, ?_⟩; have n0_ := Aside0.mk (below_step (by repeat (first | (with_reducible first | exact HB.out | apply below_alloc | apply pw_below_drewN | apply below_drew1) | exact HB.out)) hb); clear HB; have HB := n0_; clear n0_; (try clear hb); (try clear hb2); (try clear hk); (try clear hi)))
    go_ret
    exact ⟨by first | rfl | (simp [errW_none, errW_some] <;> rfl) | (simp [*, errW_none, errW_some] <;> rfl), by repeat (first | (with_reducible first | exact HB.out | apply below_alloc | apply pw_below_drewN | apply below_drew1) | exact HB.out)⟩

/-! ### strings_Join: function 20 -/
-- STUB strings.Join | [string]str str | str | 0 | 1 | strings_Join
def joinOf (l0 : List ByteArray) (a1 : ByteArray) : List UInt8 := Lib.join (l0.map (·.data.toList)) a1.data.toList
def strings_Join.f (l0 : List ByteArray) (a1 : ByteArray) : Option ByteArray :=
  if l0.length ≤ 140737488355328 ∧ (joinOf l0 a1).length ≤ 140737488355328 then some ⟨(joinOf l0 a1).toArray⟩ else none
theorem strings_Join.calls (A0 : Option Addr) (c0 : Nat) (l0 : List ByteArray) (a1 : ByteArray) (r : ByteArray) (w : World) (hr0 : Kd.C Kd.string w A0 l0.length l0) (hc0 : l0.length ≤ c0) (h : strings_Join.f l0 a1 = some r) :
    Calls Tryd.prog 20 #[.slice A0 l0.length c0, .string a1] w fun e w' => e = .returned (.string r) ∧ Below w.heap.size w w' := by
  unfold strings_Join.f at h
  split at h
  case isFalse => cases h
  case isTrue hb =>
    obtain rfl := Option.some.inj h
    by_cases h0 : l0.length = 0
    · obtain rfl : l0 = [] := List.eq_nil_of_length_eq_zero h0
      refine (Tryd.strings_Join_none A0 c0 a1 w).mono ?_
      rintro e w' ⟨rfl, rfl⟩
      exact ⟨rfl, Below.refl _ _⟩
    · obtain ⟨ad, rfl, hcell⟩ := hr0.2.2 (by omega)
      have hx : ∀ j x, l0[j]? = some x → w.cell? (ad.add j) = some (.string x) := by
        intro j x hj
        obtain ⟨c, hcl, hK, hc⟩ := hcell j x hj
        obtain rfl : c = [.string x] := hK
        have := hc 0 _ rfl
        have e : j * Kd.string.sz + 0 = j := by show j * 1 + 0 = j; omega
        rw [e] at this
        exact this
      have hsp : ad.spot = none := by
        have := hx 0 l0[0] (List.getElem?_eq_getElem (by omega))
        cases hs : ad.spot with
        | none => rfl
        | some s =>
          simp only [Addr.add, if_pos] at this
          unfold World.cell? at this
          split at this
          · rw [hs] at this; simp at this
          · cases this
      obtain ⟨bk, o, sp⟩ := ad
      obtain rfl : sp = none := hsp
      have hx2 : ∀ j x, l0[j]? = some x → w.cell? ⟨bk, o + j, none⟩ = some (.string x) := by
        intro j x hj
        have := hx j x hj
        by_cases hj0 : j = 0
        · subst hj0; simpa [Addr.add] using this
        · simpa [Addr.add, hj0] using this
      have hbk : bk < w.heap.size := World.block_lt_of_cell? w _ (hx2 0 l0[0] (List.getElem?_eq_getElem (by omega)))
      exact Tryd.strings_Join bk o c0 l0 a1 w hx2 hbk hb.1 hc0 hb.2

/-! ### faults_Print: function 8 -/
def faults_Print.l0 : Nat → List ByteArray → List (S44) → Int → Int → Option (ByteArray × Int)
  | 0, _, _, _, _ => none
  | k + 1, x6, x20, x21, x22 => if x22 < x21 then (if 0 ≤ x22 then (if x22 < (x20.length : Int) then (if 0 ≤ ((rd_T44 x20 x22).f0) then (if ((rd_T44 x20 x22).f0) ≤ (wrap64 (((rd_T44 x20 x22).f0) + 1)) then (if (wrap64 (((rd_T44 x20 x22).f0) + 1)) ≤ 4 then (if x22 < (x6.length : Int) then ((some (x6.set (x22 : Int).toNat ((⟨#[102, 115, 105, 97]⟩ : ByteArray).extract (((rd_T44 x20 x22).f0) : Int).toNat ((wrap64 (((rd_T44 x20 x22).f0) + 1)) : Int).toNat) : List ByteArray)).bind fun y120 => (if ((rd_T44 x20 x22).f0) = 1 then ((num_Decimal.f ((rd_T44 x20 x22).f1)).bind fun t122 => (if (rdOf ByteArray.empty y120 x22).size + t122.size ≤ 9223372036854775807 then (faults_Print.l0 k (y120.set (x22 : Int).toNat ((rdOf ByteArray.empty y120 x22) ++ t122)) x20 x21 (wrap64 (x22 + 1))) else (none))) else (faults_Print.l0 k y120 x20 x21 (wrap64 (x22 + 1))))) else (none)) else (none)) else (none)) else (none)) else (none)) else (none)) else ((strings_Join.f x6 (⟨#[32]⟩ : ByteArray)).bind fun t124 => (some (t124, 0)))
def faults_Print.f (k : Nat) (l0 : List (S44)) : Option (ByteArray × Int) := (faults_Check.f l0).bind fun bt113 => (if bt113.1 = 0 then (if 0 ≤ (l0.length : Int) then (if ((l0.length : Int) : Int).toNat ≤ 17592186044416 then (faults_Print.l0 k (List.replicate ((l0.length : Int) : Int).toNat (⟨#[]⟩ : ByteArray)) l0 (l0.length : Int) 0) else (none)) else (none)) else (some ((⟨#[]⟩ : ByteArray), bt113.1)))
theorem faults_Print.mono_l : ∀ k, (∀ y0 y1 y2 y3, LeO (faults_Print.l0 k y0 y1 y2 y3) (faults_Print.l0 (k + 1) y0 y1 y2 y3))
  | 0 => fun _ _ _ _ r h => by simp [faults_Print.l0] at h
  | k + 1 => by
    have ih0 := faults_Print.mono_l k
    · intro y0 y1 y2 y3
      unfold faults_Print.l0
      repeat' first
      | (with_reducible exact ih0 _ _ _ _)
      | (with_reducible exact LeO.refl _)
      | (with_reducible exact LeO.none _)
      | (with_reducible refine LeO.ite ?_ ?_)
      | (with_reducible refine LeO.bind ?_ (fun _ => ?_))
      | exact ih0 _ _ _ _
      | exact LeO.none _
      | refine LeO.ite ?_ ?_
      | refine LeO.bind ?_ (fun _ => ?_)
theorem faults_Print.mono : ∀ a0 k, LeO (faults_Print.f k a0) (faults_Print.f (k + 1) a0) := by
  intro a0 k
  have ih0 := faults_Print.mono_l k
  unfold faults_Print.f
  repeat' first
      | (with_reducible exact ih0 _ _ _ _)
      | (with_reducible exact LeO.refl _)
      | (with_reducible exact LeO.none _)
      | (with_reducible refine LeO.ite ?_ ?_)
      | (with_reducible refine LeO.bind ?_ (fun _ => ?_))
      | exact ih0 _ _ _ _
      | exact LeO.none _
      | refine LeO.ite ?_ ?_
      | refine LeO.bind ?_ (fun _ => ?_)
def faults_Print.T10 : Bool × List (List Nat × List Nat) := (true, [([], []), ([], []), ([0, 1], [0, 1]), ([2], [2]), ([], []), ([4], [4]), ([5], [5]), ([3, 6], [3, 6]), ([0, 1, 0, 1, 2, 3, 4, 5, 6, 7], [0, 1]), ([8, 7, 6, 0, 1, 2, 3, 4, 5, 6, 7], [7, 8])])
def faults_Print.B10 : List Nat := [0, 0, 3, 7, 0, 16, 48, 127, 255, 511]
theorem faults_Print.tab10 : rtab .any (opsOf Tryd.f8 10) = faults_Print.T10 := by kernel_rfl
theorem faults_Print.bits10 : waitsOk faults_Print.T10.2 faults_Print.B10 = true := by kernel_rfl
set_option maxHeartbeats 8000000 in
set_option maxRecDepth 100000 in
theorem faults_Print.calls (k : Nat) (A0 : Option Addr) (c0 : Nat) (l0 : List (S44)) (r1 : ByteArray) (r2 : Int) (w : World) (hr0 : Kd.C k44 w A0 l0.length l0) (hc0 : l0.length ≤ c0) (h : faults_Print.f k l0 = some (r1, r2)) :
    Calls Tryd.prog 8 #[.slice A0 l0.length c0] w fun e w' => e = .returned (.tuple #[.string r1, .int .i64 r2]) ∧ Below w.heap.size w w' := by
  have hu44 := Tryd.underlying44
  have HR0 := Aside0.mk hr0
  have HC0 := Aside0.mk hc0
  clear hr0 hc0
  have HB := Aside0.mk (Below.refl w.heap.size w)
  have H : ((faults_Check.f l0).bind fun bt113 => (if bt113.1 = 0 then (if 0 ≤ (l0.length : Int) then (if ((l0.length : Int) : Int).toNat ≤ 17592186044416 then (faults_Print.l0 k (List.replicate ((l0.length : Int) : Int).toNat (⟨#[]⟩ : ByteArray)) l0 (l0.length : Int) 0) else (none)) else (none)) else (some ((⟨#[]⟩ : ByteArray), bt113.1)))) = some (r1, r2) := h
  clear h
  replace H := Option.bind_eq_some_iff.mp H
  obtain ⟨⟨t113, t114⟩, A20, H⟩ := H
  replace H : (if t113 = 0 then (if 0 ≤ (l0.length : Int) then (if ((l0.length : Int) : Int).toNat ≤ 17592186044416 then (faults_Print.l0 k (List.replicate ((l0.length : Int) : Int).toNat (⟨#[]⟩ : ByteArray)) l0 (l0.length : Int) 0) else (none)) else (none)) else (some ((⟨#[]⟩ : ByteArray), t113))) = some (r1, r2) := H
  have A2 := Aside0.mk A20
  clear A20
  by_cases c3 : t113 = 0
  · rw [if_pos c3] at H
    have c3b0 : (t113 == 0) = true := beq_iff_eq.mpr c3
    have c3b1 : (t113 != 0) = false := bne_eq_false_iff_eq.mpr c3
    clear c3
    by_cases c4 : 0 ≤ (l0.length : Int)
    · rw [if_pos c4] at H
      have c4b0 := eq_true c4
      have c4b1 : decide (0 ≤ (l0.length : Int)) = true := decide_eq_true c4
      clear c4
      by_cases c5 : ((l0.length : Int) : Int).toNat ≤ 17592186044416
      · rw [if_pos c5] at H
        have c5b0 := eq_true c5
        have c5b1 : decide (((l0.length : Int) : Int).toNat ≤ 17592186044416) = true := decide_eq_true c5
        clear c5
        obtain ⟨y115, hy115⟩ : ∃ y_ : List ByteArray, y_ = (List.replicate ((l0.length : Int) : Int).toNat (⟨#[]⟩ : ByteArray)) := ⟨_, rfl⟩
        replace H : (faults_Print.l0 k y115 l0 (l0.length : Int) 0) = some (r1, r2) := by first | (rw [hy115]; with_reducible exact H) | (have H2_ := (Option.bind_some _ _).symm.trans H; rw [hy115]; with_reducible exact H2_) | (have H2_ := (Option.bind_some _ _).symm.trans H; with_reducible exact H2_) | with_reducible exact H | (rw [hy115]; exact H) | exact H
        have Ny115 := Aside0.mk hy115
        clear hy115
        have H' := Aside0.mk H
        clear H
        go_enter Tryd.func8, Tryd.ntmps8
        go_wp2_with (first | ((with_reducible refine gate_callee (f := 6) rfl ?_); refine goesL_ (some 11) rfl rfl Tryd.func6 (by kernel_rfl) rfl #[.slice A0 l0.length c0] rfl (by (try simp only [List.map_toArray, List.map_cons, List.map_nil]); first | done | rfl | (simp only [List.length_drop, List.length_take]; rfl)) ?_; (with_reducible refine (faults_Check.calls _ _ l0 t113 t114 _ ?side1 ?side2 A2.out).mono ?_); (case side1 => repeat (first | exact HR0.out | (with_reducible refine Kd.C_alloc ?_ _) | (with_reducible refine Kd.C_drewN ?_ _) | (with_reducible refine Kd.C_drew ?_))); (case side2 => exact HC0.out); rintro e w6 ⟨rfl, hb⟩; refine ⟨_, rfl, ?_⟩; have n0_ := Aside0.mk (below_step (by repeat (first | (with_reducible first | exact HB.out | apply below_alloc | apply pw_below_drewN | apply below_drew1) | exact HB.out)) hb); clear HB; have HB := n0_; clear n0_; (try clear hb); (try clear hb2); (try clear hk); (try clear hi)) | ((with_reducible refine gate_dst (N := 19) rfl ?_); refine Kd.R_make Kd.string _ 9 rfl (N := 19) rfl 46 _ _ rfl (l0.length : Int) rfl rfl Tryd.underlying46 (.string ⟨#[]⟩) 16 info9 rfl (by decide) (by omega) (⟨#[]⟩ : ByteArray) (ok := fun _ => True) (okp := fun _ => True) rfl (fun _ hk => hk) trivial (of_decide_eq_true (by first | (with_reducible assumption) | assumption)) (Nat.le_trans (Nat.mul_le_mul_right _ (of_decide_eq_true (by first | (with_reducible assumption) | assumption) : (l0.length : Int).toNat ≤ 17592186044416)) (by omega)) (Below.refl _ _) (Nat.le_refl _) ?_; intro v116 w7 ho8 hb hg_ hnew_; clear hg_ hnew_; (first | rw [← Ny115.out] at ho8 | (simp only [Int.reduceToNat] at ho8; rw [← Ny115.out] at ho8)); have n0_ := Aside0.mk (Kd.R_lower ho8 (below_size (by repeat (first | (with_reducible first | exact HB.out | apply below_alloc | apply pw_below_drewN | apply below_drew1) | exact HB.out)))); have n1_ := Aside0.mk (below_step (by repeat (first | (with_reducible first | exact HB.out | apply below_alloc | apply pw_below_drewN | apply below_drew1) | exact HB.out)) hb); clear HB; have HO117 := n0_; have HB := n1_; clear n0_ n1_; clear hb ho8))
        go_loopg [22] k (fun kq v22 w' => ∃ (x6_1 : List ByteArray) (x22_1 : Int), v22 = .int .i64 x22_1 ∧ Aside0 (faults_Print.l0 kq x6_1 l0 (l0.length : Int) x22_1 = some (r1, r2)) ∧ Aside0 (kq ≤ k) ∧ Aside0 (Kd.R Kd.string 9 w' w.heap.size (fun _ => True) v116 x6_1) ∧ Aside0 (Below w.heap.size w w'))
        case atStart => exact ⟨(y115), (0), (by first | rfl | (simp; done) | (simp [*]; done)), H', ⟨Nat.le_refl _⟩, ⟨by (with_reducible repeat (first | apply Kd.R_alloc | apply Kd.R_drewN | apply Kd.R_drew)); exact HO117.out⟩, ⟨by repeat (first | (with_reducible first | exact HB.out | apply below_alloc | apply pw_below_drewN | apply below_drew1) | exact HB.out)⟩⟩
        case round =>
          clear H'
          try clear p2
          try clear c3
          try clear c3b0
          try clear c3b1
          try clear c4
          try clear c4b0
          try clear c4b1
          try clear c5
          try clear c5b0
          try clear c5b1
          try clear c6
          try clear c8
          obtain ⟨x6_1, x22_1, rfl, HA, HK1, HO_6, HB⟩ := hrel
          cases gk with
          | zero => exact absurd HA.out (by simp [faults_Print.l0])
          | succ k1 =>
            have H := HA.out
            clear HA
            simp only [faults_Print.l0] at H
            by_cases c9 : x22_1 < (l0.length : Int)
            · rw [if_pos c9] at H
              have c9b0 : decide (x22_1 < (l0.length : Int)) = true := decide_eq_true c9
              clear c9
              by_cases c10 : 0 ≤ x22_1
              · rw [if_pos c10] at H
                have c10b0 : decide (0 ≤ x22_1) = true := decide_eq_true c10
                clear c10
                by_cases c11 : x22_1 < (l0.length : Int)
                · rw [if_pos c11] at H
                  have c11b0 : decide (x22_1 < (l0.length : Int)) = true := decide_eq_true c11
                  clear c11
                  by_cases c12 : 0 ≤ ((rd_T44 l0 x22_1).f0)
                  · rw [if_pos c12] at H
                    have c12b0 := eq_true c12
                    have c12b1 : decide (0 ≤ ((rd_T44 l0 x22_1).f0)) = true := decide_eq_true c12
                    clear c12
                    by_cases c13 : ((rd_T44 l0 x22_1).f0) ≤ (wrap64 (((rd_T44 l0 x22_1).f0) + 1))
                    · rw [if_pos c13] at H
                      have c13b0 := eq_true c13
                      have c13b1 : decide (((rd_T44 l0 x22_1).f0) ≤ (wrap64 (((rd_T44 l0 x22_1).f0) + 1))) = true := decide_eq_true c13
                      by_cases c14 : (wrap64 (((rd_T44 l0 x22_1).f0) + 1)) ≤ 4
                      · rw [if_pos c14] at H
                        have c14b0 := eq_true c14
                        have c14b1 : decide ((wrap64 (((rd_T44 l0 x22_1).f0) + 1)) ≤ 4) = true := decide_eq_true c14
                        by_cases c15 : x22_1 < (x6_1.length : Int)
                        · rw [if_pos c15] at H
                          have c15b0 : decide (x22_1 < (x6_1.length : Int)) = true := decide_eq_true c15
                          clear c15
                          obtain ⟨y120, hy120⟩ : ∃ y_ : List ByteArray, y_ = (x6_1.set (x22_1 : Int).toNat ((⟨#[102, 115, 105, 97]⟩ : ByteArray).extract (((rd_T44 l0 x22_1).f0) : Int).toNat ((wrap64 (((rd_T44 l0 x22_1).f0) + 1)) : Int).toNat)) := ⟨_, rfl⟩
                          replace H : (if ((rd_T44 l0 x22_1).f0) = 1 then ((num_Decimal.f ((rd_T44 l0 x22_1).f1)).bind fun t122 => (if (rdOf ByteArray.empty y120 x22_1).size + t122.size ≤ 9223372036854775807 then (faults_Print.l0 k1 (y120.set (x22_1 : Int).toNat ((rdOf ByteArray.empty y120 x22_1) ++ t122)) l0 (l0.length : Int) (wrap64 (x22_1 + 1))) else (none))) else (faults_Print.l0 k1 y120 l0 (l0.length : Int) (wrap64 (x22_1 + 1)))) = some (r1, r2) := by first | (rw [hy120]; with_reducible exact H) | (have H2_ := (Option.bind_some _ _).symm.trans H; rw [hy120]; with_reducible exact H2_) | (have H2_ := (Option.bind_some _ _).symm.trans H; with_reducible exact H2_) | with_reducible exact H | (rw [hy120]; exact H) | exact H
                          have Ny120 := Aside0.mk hy120
                          clear hy120
                          by_cases c17 : ((rd_T44 l0 x22_1).f0) = 1
                          · rw [if_pos c17] at H
                            have c17b0 : (((rd_T44 l0 x22_1).f0) == 1) = true := beq_iff_eq.mpr c17
                            have c17b1 : (((rd_T44 l0 x22_1).f0) != 1) = false := bne_eq_false_iff_eq.mpr c17
                            clear c17
                            replace H := Option.bind_eq_some_iff.mp H
                            obtain ⟨t122, A180, H⟩ := H
                            replace H : (if (rdOf ByteArray.empty y120 x22_1).size + t122.size ≤ 9223372036854775807 then (faults_Print.l0 k1 (y120.set (x22_1 : Int).toNat ((rdOf ByteArray.empty y120 x22_1) ++ t122)) l0 (l0.length : Int) (wrap64 (x22_1 + 1))) else (none)) = some (r1, r2) := H
                            have A18 := Aside0.mk A180
                            clear A180
                            by_cases c19 : (rdOf ByteArray.empty y120 x22_1).size + t122.size ≤ 9223372036854775807
                            · rw [if_pos c19] at H
                              have c19b0 := eq_true c19
                              have c19b1 : decide ((rdOf ByteArray.empty y120 x22_1).size + t122.size ≤ 9223372036854775807) = true := decide_eq_true c19
                              try have c19b2 : (9223372036854775807 < (rdOf ByteArray.empty y120 x22_1).size + t122.size) = False := eq_false (Nat.not_lt.2 c19)
                              obtain ⟨y123, hy123⟩ : ∃ y_ : List ByteArray, y_ = (y120.set (x22_1 : Int).toNat ((rdOf ByteArray.empty y120 x22_1) ++ t122)) := ⟨_, rfl⟩
                              replace H : (faults_Print.l0 k1 y123 l0 (l0.length : Int) (wrap64 (x22_1 + 1))) = some (r1, r2) := by first | (rw [hy123]; with_reducible exact H) | (have H2_ := (Option.bind_some _ _).symm.trans H; rw [hy123]; with_reducible exact H2_) | (have H2_ := (Option.bind_some _ _).symm.trans H; with_reducible exact H2_) | with_reducible exact H | (rw [hy123]; exact H) | exact H
                              have Ny123 := Aside0.mk hy123
                              clear hy123
                              have H' := Aside0.mk H
                              clear H
                              have p118 : 0 ≤ (x22_1 : Int) := of_decide_eq_true (by first | (with_reducible assumption) | assumption)
                              have q118 : x22_1 < (l0.length : Int) := of_decide_eq_true (by first | (with_reducible assumption) | assumption)
                              obtain ⟨ad118, e118, hx118_0, hx118_1⟩ := at_T44 HR0.out x22_1 p118 q118
                              cases e118
                              replace hx118_0 := (HB.out.cell (World.block_lt_of_cell? w _ hx118_0)).trans hx118_0
                              replace hx118_1 := (HB.out.cell (World.block_lt_of_cell? w _ hx118_1)).trans hx118_1
                              replace p118 := eq_true p118
                              replace q118 := eq_true q118
                              try go_wp2_with (first | ((with_reducible refine gate_dst (N := 8) rfl ?_); refine box_event ?hg (N := 8) ?hd (cs := #[.int .i64 0, .int .i64 0]) (t := 44) ?hr ?_; (case hd => rfl); (case hg => rfl); (case hr => first | (go_simp; done) | (go_simp; rfl)); intro gb119 hg w21 hbox hb; have n0_ := Aside0.mk (Kd.R_below (by (with_reducible repeat (first | apply Kd.R_alloc | apply Kd.R_drewN | apply Kd.R_drew)); exact HO_6.out) hb); have n1_ := Aside0.mk (below_step (by repeat (first | (with_reducible first | exact HB.out | apply below_alloc | apply pw_below_drewN | apply below_drew1) | exact HB.out)) hb); have n2_ := Aside0.mk (hbox); have n3_ := Aside0.mk ((by rw [hg]; exact (below_size (by repeat (first | (with_reducible first | exact HB.out | apply below_alloc | apply pw_below_drewN | apply below_drew1) | exact HB.out))) : w.heap.size ≤ gb119)); have n4_ := Aside0.mk ((by rw [hg]; exact (below_size (by repeat (first | (with_reducible first | exact HB.out | apply below_alloc | apply pw_below_drewN | apply below_drew1) | exact HB.out))) : w.heap.size ≤ gb119)); clear HO_6; clear HB; have HO_6 := n0_; have HB := n1_; have BK119 := n2_; have GW119 := n3_; have GE119 := n4_; clear n0_ n1_ n2_ n3_ n4_; clear hb hbox hg; have hcz22_0 : w21.cell? ⟨gb119, 0, none⟩ = some (.int .i64 0) := (blk_cell BK119.out 0).trans rfl; have hcz22_1 : w21.cell? ⟨gb119, 1, none⟩ = some (.int .i64 0) := (blk_cell BK119.out 1).trans rfl; have hfz22_0 := blk_frozen BK119.out 0; have hfz22_1 := blk_frozen BK119.out 1) | ((with_reducible refine gate_store (t := 44) (p := 8) rfl ?_); refine store_event (t := 44) (p := 8) (v := ?vo_w23) (w1 := ((w21.setCell ⟨gb119, 0, none⟩ (.int .i64 ((rd_T44 l0 x22_1).f0))).setCell ⟨gb119, 1, none⟩ (.int .i64 ((rd_T44 l0 x22_1).f1)))) ?hg ?ho ?hn ?hr ?_; (case ho => rfl); (case hg => rfl); (case hn => rfl); (case hr => first | (go_simp; done) | (go_simp; rfl)); intro w23 hw; have n0_ : Aside0 (Kd.R Kd.string 9 w23 w.heap.size (fun _ => True) v116 x6_1) := ⟨(by rw [hw]; exact (by (with_reducible repeat (first | apply Kd.R_alloc | apply Kd.R_drewN | apply Kd.R_drew)); exact Kd.R_mono (Kd.R_far (p := ⟨gb119, 1, none⟩) (Kd.R_far (p := ⟨gb119, 0, none⟩) (Kd.R_types HO_6.out BK119.out (by decide)) (fun _ hk => hk.2) (.int .i64 ((rd_T44 l0 x22_1).f0))) (fun _ hk => hk.2) (.int .i64 ((rd_T44 l0 x22_1).f1))) (fun _ hk => trivial)))⟩; have n1_ : Aside0 (w23.heap[gb119]? = some (.cells #[.int .i64 ((rd_T44 l0 x22_1).f0), .int .i64 ((rd_T44 l0 x22_1).f1)] 44 (0, 0))) := ⟨(by rw [hw]; exact (by (with_reducible repeat (first | refine blk_drewN ?_ _ | refine blk_drew ?_ | refine blk_alloc ?_ _)); refine blk_put (cs := #[.int .i64 ((rd_T44 l0 x22_1).f0), .int .i64 0]) ?_ 1 _ rfl; (with_reducible repeat (first | refine blk_drewN ?_ _ | refine blk_drew ?_ | refine blk_alloc ?_ _)); refine blk_put (cs := #[.int .i64 0, .int .i64 0]) ?_ 0 _ rfl; (with_reducible repeat (first | refine blk_drewN ?_ _ | refine blk_drew ?_ | refine blk_alloc ?_ _)); exact BK119.out))⟩; have n2_ : Aside0 (Below w.heap.size w w23) := ⟨(by rw [hw]; exact (by repeat (first | (with_reducible first | exact HB.out | apply below_alloc | apply pw_below_drewN | apply below_drew1 | refine below_set ?_ GE119.out) | exact HB.out)))⟩; clear hw; clear HO_6; clear BK119; clear HB; have HO_6 := n0_; have BK119 := n1_; have HB := n2_; clear n0_ n1_ n2_; have hcz24_0 : w23.cell? ⟨gb119, 0, none⟩ = some (.int .i64 ((rd_T44 l0 x22_1).f0)) := (blk_cell BK119.out 0).trans rfl; have hcz24_1 : w23.cell? ⟨gb119, 1, none⟩ = some (.int .i64 ((rd_T44 l0 x22_1).f1)) := (blk_cell BK119.out 1).trans rfl; have hfz24_0 := blk_frozen BK119.out 0; have hfz24_1 := blk_frozen BK119.out 1; have p16 : 0 ≤ (x22_1 : Int) := of_decide_eq_true (by first | (with_reducible assumption) | assumption); have q16 : (x22_1 : Int) < ((x6_1.length : Int) : Int) := of_decide_eq_true (by first | (with_reducible assumption) | assumption); obtain ⟨go16, co16, eo16, gb16, gl16, cl16, HG16⟩ := Kd.R_form HO_6.out (by omega); (first | cases eo16 | (injection eo16 with ea_ en_ ec_; (first | subst ea_ | (injection ea_ with ea_; subst ea_)); subst ec_; clear en_)); have GB16 := Aside0.mk gb16; have GG16 := Aside0.mk HG16; clear gb16 gl16 HG16; obtain ⟨hx16_0, hf16_0⟩ := Kd.R_celln (⟨#[]⟩ : ByteArray) HO_6.out (x22_1 : Int) p16 q16; replace p16 := eq_true p16; replace q16 := eq_true q16; obtain ⟨hy25_, hz25_⟩ := Kd.R_celln (⟨#[]⟩ : ByteArray) HO_6.out (x22_1 : Int) (of_decide_eq_true (by first | (with_reducible assumption) | assumption)) (of_decide_eq_true (by first | (with_reducible assumption) | assumption)); have HP25 := Kd.R_putg HO_6.out (x22_1 : Int) ((⟨#[102, 115, 105, 97]⟩ : ByteArray).extract (((rd_T44 l0 x22_1).f0) : Int).toNat ((wrap64 (((rd_T44 l0 x22_1).f0) + 1)) : Int).toNat)) | ((with_reducible refine gate_store (t := 9) (p := 35) rfl ?_); refine store_event (t := 9) (p := 35) (v := ?vo_w26) (w1 := (w23.setCell ⟨go16, (x22_1 : Int).toNat, none⟩ (.string ((⟨#[102, 115, 105, 97]⟩ : ByteArray).extract (((rd_T44 l0 x22_1).f0) : Int).toNat ((wrap64 (((rd_T44 l0 x22_1).f0) + 1)) : Int).toNat)))) ?hg ?ho ?hn ?hr ?_; (case ho => rfl); (case hg => rfl); (case hn => rfl); (case hr => first | (go_simp; done) | (go_simp; rfl)); intro w26 hw; have hg : w23.grownBy w26 (some go16) := (by rw [hw]; exact HP25.2); have hp_ : Kd.R Kd.string 9 w26 w.heap.size (fun _ => True) (.slice (some ⟨go16, 0, none⟩) x6_1.length co16) y120 := (by rw [hw, Ny120.out]; exact HP25.1); clear HP25; have n0_ := Aside0.mk (hp_); have n1_ := Aside0.mk (blk_grown (g := gb119) (o := .cells #[.int .i64 ((rd_T44 l0 x22_1).f0), .int .i64 ((rd_T44 l0 x22_1).f1)] 44 (0, 0)) (by (with_reducible repeat (first | refine blk_drewN ?_ _ | refine blk_drew ?_ | refine blk_alloc ?_ _)); exact BK119.out) hg (Kd.R_ne HO_6.out BK119.out (by decide))); have n2_ := Aside0.mk ((by rw [hw]; exact below_set (HB.out) GB16.out : Below w.heap.size w w26)); clear HO_6; clear BK119; clear HB; have HO_6 := n0_; have BK119 := n1_; have HB := n2_; clear n0_ n1_ n2_; clear hg hw hp_; have hcz27_0 : w26.cell? ⟨gb119, 0, none⟩ = some (.int .i64 ((rd_T44 l0 x22_1).f0)) := (blk_cell BK119.out 0).trans rfl; have hcz27_1 : w26.cell? ⟨gb119, 1, none⟩ = some (.int .i64 ((rd_T44 l0 x22_1).f1)) := (blk_cell BK119.out 1).trans rfl; have hfz27_0 := blk_frozen BK119.out 0; have hfz27_1 := blk_frozen BK119.out 1))
                              have n0_ := Aside0.mk (Kd.R_drew HO_6.out)
                              have n1_ := Aside0.mk (blk_drew BK119.out)
                              have n2_ := Aside0.mk (below_drew1 HB.out)
                              clear HO_6
                              clear BK119
                              clear HB
                              have HO_6 := n0_
                              have BK119 := n1_
                              have HB := n2_
                              clear n0_ n1_ n2_
                              have p121 : 0 ≤ (x22_1 : Int) := of_decide_eq_true (by first | (with_reducible assumption) | assumption)
                              have q121 : x22_1 < (y120.length : Int) := (by have h_ : (x22_1 : Int) < ((x6_1.length : Int) : Int) := of_decide_eq_true (by first | (with_reducible assumption) | assumption); first | (have e_ := (Kd.R_reads' HO_6.out).1; omega) | simpa only [Ny120.out, List.length_set] using h_)
                              have ql121 : ((x22_1 : Int) < ((x6_1.length : Int) : Int)) = True := eq_true (of_decide_eq_true (by first | (with_reducible assumption) | assumption))
                              obtain ⟨ad121, e121, hx121_0⟩ := Kd.at_string (Kd.R_reads' HO_6.out).2.2 x22_1 p121 q121
                              obtain rfl : (⟨go16, 0, none⟩ : Addr) = ad121 := (by injection e121)
                              (first | simp only [add_plain] at hx121_0 | simp only [add_at] at hx121_0 | simp only [Addr.add, Nat.zero_add] at hx121_0 | skip)
                              replace p121 := eq_true p121
                              replace q121 := eq_true q121
                              refine start_ (n := 10) (S := fun w' => w'.cell? ⟨gb119, 0, none⟩ = some (.int .i64 ((rd_T44 l0 x22_1).f0)) ∧ w'.cell? ⟨gb119, 1, none⟩ = some (.int .i64 ((rd_T44 l0 x22_1).f1)) ∧ w'.cell? ⟨go16, (x22_1).toNat, none⟩ = some (.string (rdOf ByteArray.empty y120 x22_1))) (ds := [9]) #[false, false, false, false, false, false, false, false, false, false] (by kernel_rfl) rfl rfl ⟨(blk_cell BK119.out 0).trans rfl, (blk_cell BK119.out 1).trans rfl, hx121_0⟩ (fun hHeld => ?_); refine with_tabW faults_Print.tab10 faults_Print.bits10 (fun HT_ HW_ => ?_)
                              generalize w26.drew = w28 at HO_6 BK119 HB hx121_0 hHeld ⊢
                              refine pure_ (i := 0) (N := some 39) (v := ?_) (a' := ?_) #[true, false, false, false, false, false, false, false, false, false] rfl rfl (any_of HT_.out (by kernel_rfl)) (fun _ _ _ h => h) (Or.inl ⟨by rfl, ?_⟩) ?_ ?_
                              rotate_left
                              · intro w'
                                go_simp
                                with_reducible rfl
                              rotate_left
                              · simp only [Act.put, List.setIfInBounds_toArray, List.set_cons_zero, List.set_cons_succ, i64_w, i32_w]
                                rfl
                              refine pure_ (i := 1) (N := some 40) (v := ?_) (a' := ?_) #[true, true, false, false, false, false, false, false, false, false] rfl rfl (any_of HT_.out (by kernel_rfl)) (fun _ _ _ h => h) (Or.inl ⟨by rfl, ?_⟩) ?_ ?_
                              rotate_left
                              · intro w'
                                go_simp
                                with_reducible rfl
                              rotate_left
                              · simp only [Act.put, List.setIfInBounds_toArray, List.set_cons_zero, List.set_cons_succ, i64_w, i32_w]
                                rfl
                              refine pure_ (i := 2) (N := some 41) (v := ?_) (a' := ?_) #[true, true, true, false, false, false, false, false, false, false] rfl rfl (any_of HT_.out (by kernel_rfl)) (fun _ _ _ h => h) (Or.inl ⟨by rfl, ?_⟩) ?_ ?_
                              rotate_left
                              · intro w'
                                go_simp
                                with_reducible rfl
                              rotate_left
                              · simp only [Act.put, List.setIfInBounds_toArray, List.set_cons_zero, List.set_cons_succ, i64_w, i32_w]
                                rfl
                              refine pure_ (i := 4) (N := some 43) (v := ?_) (a' := ?_) #[true, true, true, false, true, false, false, false, false, false] rfl rfl (any_of HT_.out (by kernel_rfl)) (fun _ _ _ h => h) (Or.inl ⟨by rfl, ?_⟩) ?_ ?_
                              rotate_left
                              · intro w'
                                go_simp
                                with_reducible rfl
                              rotate_left
                              · simp only [Act.put, List.setIfInBounds_toArray, List.set_cons_zero, List.set_cons_succ, i64_w, i32_w]
                                rfl
                              refine take_ (i := 3) (N := some 42) (v := ?_) (a' := ?_) #[true, true, true, true, true, false, false, false, false, false] rfl rfl (take_ofW HT_.out HW_.out (by kernel_rfl)) (fun _ _ _ h => h) (Or.inl ⟨by rfl, ?_⟩) hHeld ?_ ?_
                              rotate_left
                              · rintro w' ⟨s0, s1, s2⟩
                                go_simp
                                with_reducible rfl
                              rotate_left
                              · simp only [Act.put, List.setIfInBounds_toArray, List.set_cons_zero, List.set_cons_succ, i64_w, i32_w]
                                rfl
                              refine take_ (i := 5) (N := some 44) (v := ?_) (a' := ?_) #[true, true, true, true, true, true, false, false, false, false] rfl rfl (take_ofW HT_.out HW_.out (by kernel_rfl)) (fun _ _ _ h => h) (Or.inl ⟨by rfl, ?_⟩) hHeld ?_ ?_
                              rotate_left
                              · rintro w' ⟨s0, s1, s2⟩
                                go_simp
                                with_reducible rfl
                              rotate_left
                              · simp only [Act.put, List.setIfInBounds_toArray, List.set_cons_zero, List.set_cons_succ, i64_w, i32_w]
                                rfl
                              refine one_ (i := 6) (N := some 45) #[true, true, true, true, true, true, true, false, false, false] rfl rfl (one_of HT_.out (by kernel_rfl)) (by decide) (fun K hK => ?_)
                              refine goes_ Tryd.func19 (by kernel_rfl) rfl #[.int .i64 ((rd_T44 l0 x22_1).f1)] (by rfl) rfl rfl (by (try simp only [List.map_toArray, List.map_cons, List.map_nil]); first | done | rfl | (simp only [List.length_drop, List.length_take]; rfl)) ?_
                              with_reducible refine (num_Decimal.calls ((rd_T44 l0 x22_1).f1) t122 _ A18.out).mono ?_
                              rintro e w29 ⟨rfl, hb⟩
                              have HS2_ := (hb.cell (World.block_lt_of_cell? _ _ (hHeld.2.2))).trans (hHeld.2.2)
                              refine ⟨_, rfl, ?_⟩
                              have n0_ := Aside0.mk (Kd.R_below (by (with_reducible repeat (first | apply Kd.R_alloc | apply Kd.R_drewN | apply Kd.R_drew)); exact HO_6.out) hb)
                              have n1_ := Aside0.mk (blk_below (g := gb119) (o := .cells #[.int .i64 ((rd_T44 l0 x22_1).f0), .int .i64 ((rd_T44 l0 x22_1).f1)] 44 (0, 0)) (by (with_reducible repeat (first | refine blk_drewN ?_ _ | refine blk_drew ?_ | refine blk_alloc ?_ _)); exact BK119.out) hb)
                              have n2_ := Aside0.mk (below_step (by repeat (first | (with_reducible first | exact HB.out | apply below_alloc | apply pw_below_drewN | apply below_drew1 | refine below_set ?_ GE119.out) | exact HB.out)) hb)
                              clear HO_6
                              clear BK119
                              clear HB
                              have HO_6 := n0_
                              have BK119 := n1_
                              have HB := n2_
                              clear n0_ n1_ n2_
                              (try clear hb)
                              (try clear hb2)
                              (try clear hk)
                              (try clear hi)
                              have p20 : 0 ≤ (x22_1 : Int) := of_decide_eq_true (by first | (with_reducible assumption) | assumption)
                              have q20 : (x22_1 : Int) < ((x6_1.length : Int) : Int) := of_decide_eq_true (by first | (with_reducible assumption) | assumption)
                              obtain ⟨hx20_0, hf20_0⟩ := Kd.R_celln (⟨#[]⟩ : ByteArray) HO_6.out (x22_1 : Int) p20 q20
                              replace p20 := eq_true p20
                              replace q20 := eq_true q20
                              have HP30 := Kd.R_putn HO_6.out (x22_1 : Int) ((rdOf ByteArray.empty y120 x22_1) ++ t122)
                              rw [← Ny123.out] at HP30
                              have HQ30 := Aside0.mk HP30
                              clear HP30
                              refine hK.out _ _ ⟨(blk_cell BK119.out 0).trans rfl, (blk_cell BK119.out 1).trans rfl, HS2_⟩ (fun hHeld => ?_)
                              clear hK K
                              refine norm_ (a' := ?_) ?_ ?_
                              rotate_left
                              · show Act.put _ (some 45) _ = _
                                simp only [Act.put, List.setIfInBounds_toArray, List.set_cons_zero, List.set_cons_succ, i64_w, i32_w]
                                rfl
                              refine pure_ (i := 7) (N := some 46) (v := ?_) (a' := ?_) #[true, true, true, true, true, true, true, true, false, false] rfl rfl (any_of HT_.out (by kernel_rfl)) (fun _ _ _ h => h) (Or.inl ⟨by rfl, ?_⟩) ?_ ?_
                              rotate_left
                              · intro w'
                                go_simp
                                with_reducible rfl
                              rotate_left
                              · simp only [Act.put, List.setIfInBounds_toArray, List.set_cons_zero, List.set_cons_succ, i64_w, i32_w]
                                rfl
                              refine pure_ (i := 8) (N := some 47) (v := ?_) (a' := ?_) #[true, true, true, true, true, true, true, true, true, false] rfl rfl (any_of HT_.out (by kernel_rfl)) (fun _ _ _ h => h) (Or.inl ⟨by rfl, ?_⟩) ?_ ?_
                              rotate_left
                              · intro w'
                                go_simp
                                with_reducible rfl
                              rotate_left
                              · simp only [Act.put, List.setIfInBounds_toArray, List.set_cons_zero, List.set_cons_succ, i64_w, i32_w]
                                rfl
                              refine last_ (i := 9) (N := none) #[true, true, true, true, true, true, true, true, true, true] rfl rfl (one_of HT_.out (by kernel_rfl)) (by decide) (fun K hK => ?_)
                              refine skip_ (w1 := ?_) (by rfl) rfl ?_ ?_
                              rotate_left
                              · go_simp
                                rfl
                              refine hK.out _ _ ?_
                              clear hK K
                              refine done_ (done_of HT_.out (by kernel_rfl)) ?_
                              try go_wp2
                              go_roundg k1
                              case measure => have := HK1.out; omega
                              case rel => exact ⟨(y123), (wrap64 (x22_1 + 1)), (by first | rfl | (simp; done) | (simp [*]; done)), H', ⟨by have := HK1.out; omega⟩, ⟨by (with_reducible repeat (first | apply Kd.R_alloc | apply Kd.R_drewN | apply Kd.R_drew)); exact HQ30.out⟩, ⟨by repeat (first | (with_reducible first | exact HB.out | apply below_alloc | apply pw_below_drewN | apply below_drew1 | refine below_set ?_ GB16.out | refine below_set ?_ GE119.out) | exact HB.out)⟩⟩
                            · rw [if_neg c19] at H
                              exact absurd H (by simp)
                          · rw [if_neg c17] at H
                            have c17b0 : (((rd_T44 l0 x22_1).f0) == 1) = false := beq_eq_false_iff_ne.mpr c17
                            have c17b1 : (((rd_T44 l0 x22_1).f0) != 1) = true := bne_iff_ne.mpr c17
                            have H' := Aside0.mk H
                            clear H
                            have p118 : 0 ≤ (x22_1 : Int) := of_decide_eq_true (by first | (with_reducible assumption) | assumption)
                            have q118 : x22_1 < (l0.length : Int) := of_decide_eq_true (by first | (with_reducible assumption) | assumption)
                            obtain ⟨ad118, e118, hx118_0, hx118_1⟩ := at_T44 HR0.out x22_1 p118 q118
                            cases e118
                            replace hx118_0 := (HB.out.cell (World.block_lt_of_cell? w _ hx118_0)).trans hx118_0
                            replace hx118_1 := (HB.out.cell (World.block_lt_of_cell? w _ hx118_1)).trans hx118_1
                            replace p118 := eq_true p118
                            replace q118 := eq_true q118
                            go_wp2_with (first | ((with_reducible refine gate_dst (N := 8) rfl ?_); refine box_event ?hg (N := 8) ?hd (cs := #[.int .i64 0, .int .i64 0]) (t := 44) ?hr ?_; (case hd => rfl); (case hg => rfl); (case hr => first | (go_simp; done) | (go_simp; rfl)); intro gb119 hg w31 hbox hb; have n0_ := Aside0.mk (Kd.R_below (by (with_reducible repeat (first | apply Kd.R_alloc | apply Kd.R_drewN | apply Kd.R_drew)); exact HO_6.out) hb); have n1_ := Aside0.mk (below_step (by repeat (first | (with_reducible first | exact HB.out | apply below_alloc | apply pw_below_drewN | apply below_drew1) | exact HB.out)) hb); have n2_ := Aside0.mk (hbox); have n3_ := Aside0.mk ((by rw [hg]; exact (below_size (by repeat (first | (with_reducible first | exact HB.out | apply below_alloc | apply pw_below_drewN | apply below_drew1) | exact HB.out))) : w.heap.size ≤ gb119)); have n4_ := Aside0.mk ((by rw [hg]; exact (below_size (by repeat (first | (with_reducible first | exact HB.out | apply below_alloc | apply pw_below_drewN | apply below_drew1) | exact HB.out))) : w.heap.size ≤ gb119)); clear HO_6; clear HB; have HO_6 := n0_; have HB := n1_; have BK119 := n2_; have GW119 := n3_; have GE119 := n4_; clear n0_ n1_ n2_ n3_ n4_; clear hb hbox hg; have hcz32_0 : w31.cell? ⟨gb119, 0, none⟩ = some (.int .i64 0) := (blk_cell BK119.out 0).trans rfl; have hcz32_1 : w31.cell? ⟨gb119, 1, none⟩ = some (.int .i64 0) := (blk_cell BK119.out 1).trans rfl; have hfz32_0 := blk_frozen BK119.out 0; have hfz32_1 := blk_frozen BK119.out 1) | ((with_reducible refine gate_store (t := 44) (p := 8) rfl ?_); refine store_event (t := 44) (p := 8) (v := ?vo_w33) (w1 := ((w31.setCell ⟨gb119, 0, none⟩ (.int .i64 ((rd_T44 l0 x22_1).f0))).setCell ⟨gb119, 1, none⟩ (.int .i64 ((rd_T44 l0 x22_1).f1)))) ?hg ?ho ?hn ?hr ?_; (case ho => rfl); (case hg => rfl); (case hn => rfl); (case hr => first | (go_simp; done) | (go_simp; rfl)); intro w33 hw; have n0_ : Aside0 (Kd.R Kd.string 9 w33 w.heap.size (fun _ => True) v116 x6_1) := ⟨(by rw [hw]; exact (by (with_reducible repeat (first | apply Kd.R_alloc | apply Kd.R_drewN | apply Kd.R_drew)); exact Kd.R_mono (Kd.R_far (p := ⟨gb119, 1, none⟩) (Kd.R_far (p := ⟨gb119, 0, none⟩) (Kd.R_types HO_6.out BK119.out (by decide)) (fun _ hk => hk.2) (.int .i64 ((rd_T44 l0 x22_1).f0))) (fun _ hk => hk.2) (.int .i64 ((rd_T44 l0 x22_1).f1))) (fun _ hk => trivial)))⟩; have n1_ : Aside0 (w33.heap[gb119]? = some (.cells #[.int .i64 ((rd_T44 l0 x22_1).f0), .int .i64 ((rd_T44 l0 x22_1).f1)] 44 (0, 0))) := ⟨(by rw [hw]; exact (by (with_reducible repeat (first | refine blk_drewN ?_ _ | refine blk_drew ?_ | refine blk_alloc ?_ _)); refine blk_put (cs := #[.int .i64 ((rd_T44 l0 x22_1).f0), .int .i64 0]) ?_ 1 _ rfl; (with_reducible repeat (first | refine blk_drewN ?_ _ | refine blk_drew ?_ | refine blk_alloc ?_ _)); refine blk_put (cs := #[.int .i64 0, .int .i64 0]) ?_ 0 _ rfl; (with_reducible repeat (first | refine blk_drewN ?_ _ | refine blk_drew ?_ | refine blk_alloc ?_ _)); exact BK119.out))⟩; have n2_ : Aside0 (Below w.heap.size w w33) := ⟨(by rw [hw]; exact (by repeat (first | (with_reducible first | exact HB.out | apply below_alloc | apply pw_below_drewN | apply below_drew1 | refine below_set ?_ GE119.out) | exact HB.out)))⟩; clear hw; clear HO_6; clear BK119; clear HB; have HO_6 := n0_; have BK119 := n1_; have HB := n2_; clear n0_ n1_ n2_; have hcz34_0 : w33.cell? ⟨gb119, 0, none⟩ = some (.int .i64 ((rd_T44 l0 x22_1).f0)) := (blk_cell BK119.out 0).trans rfl; have hcz34_1 : w33.cell? ⟨gb119, 1, none⟩ = some (.int .i64 ((rd_T44 l0 x22_1).f1)) := (blk_cell BK119.out 1).trans rfl; have hfz34_0 := blk_frozen BK119.out 0; have hfz34_1 := blk_frozen BK119.out 1; have p16 : 0 ≤ (x22_1 : Int) := of_decide_eq_true (by first | (with_reducible assumption) | assumption); have q16 : (x22_1 : Int) < ((x6_1.length : Int) : Int) := of_decide_eq_true (by first | (with_reducible assumption) | assumption); obtain ⟨go16, co16, eo16, gb16, gl16, cl16, HG16⟩ := Kd.R_form HO_6.out (by omega); (first | cases eo16 | (injection eo16 with ea_ en_ ec_; (first | subst ea_ | (injection ea_ with ea_; subst ea_)); subst ec_; clear en_)); have GB16 := Aside0.mk gb16; have GG16 := Aside0.mk HG16; clear gb16 gl16 HG16; obtain ⟨hx16_0, hf16_0⟩ := Kd.R_celln (⟨#[]⟩ : ByteArray) HO_6.out (x22_1 : Int) p16 q16; replace p16 := eq_true p16; replace q16 := eq_true q16; obtain ⟨hy35_, hz35_⟩ := Kd.R_celln (⟨#[]⟩ : ByteArray) HO_6.out (x22_1 : Int) (of_decide_eq_true (by first | (with_reducible assumption) | assumption)) (of_decide_eq_true (by first | (with_reducible assumption) | assumption)); have HP35 := Kd.R_putg HO_6.out (x22_1 : Int) ((⟨#[102, 115, 105, 97]⟩ : ByteArray).extract (((rd_T44 l0 x22_1).f0) : Int).toNat ((wrap64 (((rd_T44 l0 x22_1).f0) + 1)) : Int).toNat)) | ((with_reducible refine gate_store (t := 9) (p := 35) rfl ?_); refine store_event (t := 9) (p := 35) (v := ?vo_w36) (w1 := (w33.setCell ⟨go16, (x22_1 : Int).toNat, none⟩ (.string ((⟨#[102, 115, 105, 97]⟩ : ByteArray).extract (((rd_T44 l0 x22_1).f0) : Int).toNat ((wrap64 (((rd_T44 l0 x22_1).f0) + 1)) : Int).toNat)))) ?hg ?ho ?hn ?hr ?_; (case ho => rfl); (case hg => rfl); (case hn => rfl); (case hr => first | (go_simp; done) | (go_simp; rfl)); intro w36 hw; have hg : w33.grownBy w36 (some go16) := (by rw [hw]; exact HP35.2); have hp_ : Kd.R Kd.string 9 w36 w.heap.size (fun _ => True) (.slice (some ⟨go16, 0, none⟩) x6_1.length co16) y120 := (by rw [hw, Ny120.out]; exact HP35.1); clear HP35; have n0_ := Aside0.mk (hp_); have n1_ := Aside0.mk (blk_grown (g := gb119) (o := .cells #[.int .i64 ((rd_T44 l0 x22_1).f0), .int .i64 ((rd_T44 l0 x22_1).f1)] 44 (0, 0)) (by (with_reducible repeat (first | refine blk_drewN ?_ _ | refine blk_drew ?_ | refine blk_alloc ?_ _)); exact BK119.out) hg (Kd.R_ne HO_6.out BK119.out (by decide))); have n2_ := Aside0.mk ((by rw [hw]; exact below_set (HB.out) GB16.out : Below w.heap.size w w36)); clear HO_6; clear BK119; clear HB; have HO_6 := n0_; have BK119 := n1_; have HB := n2_; clear n0_ n1_ n2_; clear hg hw hp_; have hcz37_0 : w36.cell? ⟨gb119, 0, none⟩ = some (.int .i64 ((rd_T44 l0 x22_1).f0)) := (blk_cell BK119.out 0).trans rfl; have hcz37_1 : w36.cell? ⟨gb119, 1, none⟩ = some (.int .i64 ((rd_T44 l0 x22_1).f1)) := (blk_cell BK119.out 1).trans rfl; have hfz37_0 := blk_frozen BK119.out 0; have hfz37_1 := blk_frozen BK119.out 1))
                            go_roundg k1
                            case measure => have := HK1.out; omega
                            case rel => exact ⟨(y120), (wrap64 (x22_1 + 1)), (by first | rfl | (simp; done) | (simp [*]; done)), H', ⟨by have := HK1.out; omega⟩, ⟨by (with_reducible repeat (first | apply Kd.R_alloc | apply Kd.R_drewN | apply Kd.R_drew)); exact HO_6.out⟩, ⟨by repeat (first | (with_reducible first | exact HB.out | apply below_alloc | apply pw_below_drewN | apply below_drew1 | refine below_set ?_ GE119.out) | exact HB.out)⟩⟩
                        · rw [if_neg c15] at H
                          exact absurd H (by simp)
                      · rw [if_neg c14] at H
                        exact absurd H (by simp)
                    · rw [if_neg c13] at H
                      exact absurd H (by simp)
                  · rw [if_neg c12] at H
                    exact absurd H (by simp)
                · rw [if_neg c11] at H
                  exact absurd H (by simp)
              · rw [if_neg c10] at H
                exact absurd H (by simp)
            · rw [if_neg c9] at H
              have c9b0 : decide (x22_1 < (l0.length : Int)) = false := decide_eq_false c9
              clear c9
              replace H := Option.bind_eq_some_iff.mp H
              obtain ⟨t124, A380, H⟩ := H
              replace H : (some (t124, 0)) = some (r1, r2) := H
              have A38 := Aside0.mk A380
              clear A380
              simp only [Option.some.injEq, Prod.mk.injEq] at H
              obtain ⟨rfl, rfl⟩ := H
              obtain ⟨Ao39, co39, eo39⟩ := Kd.R_slice HO_6.out
              subst eo39
              go_wp2_with (first | ((with_reducible refine gate_callee (f := 20) rfl ?_); refine goesL_ (some 50) rfl rfl Tryd.func20 (by kernel_rfl) rfl #[.slice Ao39 x6_1.length co39, .string (⟨#[32]⟩ : ByteArray)] rfl (by (try simp only [List.map_toArray, List.map_cons, List.map_nil]); first | done | rfl | (simp only [List.length_drop, List.length_take]; rfl)) ?_; (with_reducible refine (strings_Join.calls _ _ x6_1 (⟨#[32]⟩ : ByteArray) t124 _ ?side1 ?side2 A38.out).mono ?_); (case side1 => repeat (first | exact (Kd.R_reads' HO_6.out).2.2 | (with_reducible refine Kd.C_alloc ?_ _) | (with_reducible refine Kd.C_drewN ?_ _) | (with_reducible refine Kd.C_drew ?_))); (case side2 => exact (Kd.R_reads' HO_6.out).2.1); rintro e w40 ⟨rfl, hb⟩; refine ⟨_, rfl, ?_⟩; have n0_ := Aside0.mk (Kd.R_below (by (with_reducible repeat (first | apply Kd.R_alloc | apply Kd.R_drewN | apply Kd.R_drew)); exact HO_6.out) hb); have n1_ := Aside0.mk (below_step (by repeat (first | (with_reducible first | exact HB.out | apply below_alloc | apply pw_below_drewN | apply below_drew1) | exact HB.out)) hb); clear HO_6; clear HB; have HO_6 := n0_; have HB := n1_; clear n0_ n1_; (try clear hb); (try clear hb2); (try clear hk); (try clear hi)))
              go_ret2
              exact ⟨by first | rfl | (simp [errW_none, errW_some] <;> rfl) | (simp [*, errW_none, errW_some] <;> rfl), by repeat (first | (with_reducible first | exact HB.out | apply below_alloc | apply pw_below_drewN | apply below_drew1) | exact HB.out)⟩
      · rw [if_neg c5] at H
        exact absurd H (by simp)
    · rw [if_neg c4] at H
      exact absurd H (by simp)
  · rw [if_neg c3] at H
    have c3b0 : (t113 == 0) = false := beq_eq_false_iff_ne.mpr c3
    have c3b1 : (t113 != 0) = true := bne_iff_ne.mpr c3
    simp only [Option.some.injEq, Prod.mk.injEq] at H
    obtain ⟨rfl, rfl⟩ := H
    go_enter Tryd.func8, Tryd.ntmps8
    go_wp2_with (first | ((with_reducible refine gate_callee (f := 6) rfl ?_); refine goesL_ (some 11) rfl rfl Tryd.func6 (by kernel_rfl) rfl #[.slice A0 l0.length c0] rfl (by (try simp only [List.map_toArray, List.map_cons, List.map_nil]); first | done | rfl | (simp only [List.length_drop, List.length_take]; rfl)) ?_; (with_reducible refine (faults_Check.calls _ _ l0 t113 t114 _ ?side1 ?side2 A2.out).mono ?_); (case side1 => repeat (first | exact HR0.out | (with_reducible refine Kd.C_alloc ?_ _) | (with_reducible refine Kd.C_drewN ?_ _) | (with_reducible refine Kd.C_drew ?_))); (case side2 => exact HC0.out); rintro e w41 ⟨rfl, hb⟩; refine ⟨_, rfl, ?_⟩; have n0_ := Aside0.mk (below_step (by repeat (first | (with_reducible first | exact HB.out | apply below_alloc | apply pw_below_drewN | apply below_drew1) | exact HB.out)) hb); clear HB; have HB := n0_; clear n0_; (try clear hb); (try clear hb2); (try clear hk); (try clear hi)))
    go_ret2
    exact ⟨by first | rfl | (simp [errW_none, errW_some] <;> rfl) | (simp [*, errW_none, errW_some] <;> rfl), by repeat (first | (with_reducible first | exact HB.out | apply below_alloc | apply pw_below_drewN | apply below_drew1) | exact HB.out)⟩

/-! ### millraceref01_Places: function 32 -/
def millraceref01_Places.l0 : Nat → Int → Int → ByteArray → Option (ByteArray)
  | 0, _, _, _ => none
  | k + 1, x0, x1, x5 => if (IntKind.u64.wrap (x1)) = 0 then (none) else (if 0 ≤ (Int.tmod x0 (IntKind.u64.wrap (x1))) then (if (Int.tmod x0 (IntKind.u64.wrap (x1))) < 16 then ((some (([bt (⟨#[48, 49, 50, 51, 52, 53, 54, 55, 56, 57, 97, 98, 99, 100, 101, 102]⟩ : ByteArray) (Int.tmod x0 (IntKind.u64.wrap (x1)))] : List Int) : List Int)).bind fun y125 => (if (strOfNums y125).size + x5.size ≤ 9223372036854775807 then (if (IntKind.u64.wrap (Int.tdiv x0 (IntKind.u64.wrap (x1)))) = 0 then (some ((strOfNums y125) ++ x5)) else (millraceref01_Places.l0 k (IntKind.u64.wrap (Int.tdiv x0 (IntKind.u64.wrap (x1)))) x1 ((strOfNums y125) ++ x5))) else (none))) else (none)) else (none))
def millraceref01_Places.f (k : Nat) (a0 : Int) (a1 : Int) : Option (ByteArray) := millraceref01_Places.l0 k a0 a1 (⟨#[]⟩ : ByteArray)
theorem millraceref01_Places.mono_l : ∀ k, (∀ y0 y1 y2, LeO (millraceref01_Places.l0 k y0 y1 y2) (millraceref01_Places.l0 (k + 1) y0 y1 y2))
  | 0 => fun _ _ _ r h => by simp [millraceref01_Places.l0] at h
  | k + 1 => by
    have ih0 := millraceref01_Places.mono_l k
    · intro y0 y1 y2
      unfold millraceref01_Places.l0
      repeat' first
      | (with_reducible exact ih0 _ _ _)
      | (with_reducible exact LeO.refl _)
      | (with_reducible exact LeO.none _)
      | (with_reducible refine LeO.ite ?_ ?_)
      | (with_reducible refine LeO.bind ?_ (fun _ => ?_))
      | exact ih0 _ _ _
      | exact LeO.none _
      | refine LeO.ite ?_ ?_
      | refine LeO.bind ?_ (fun _ => ?_)
theorem millraceref01_Places.mono : ∀ a0 a1 k, LeO (millraceref01_Places.f k a0 a1) (millraceref01_Places.f (k + 1) a0 a1) := by
  intro a0 a1 k
  have ih0 := millraceref01_Places.mono_l k
  unfold millraceref01_Places.f
  repeat' first
      | (with_reducible exact ih0 _ _ _)
      | (with_reducible exact LeO.refl _)
      | (with_reducible exact LeO.none _)
      | (with_reducible refine LeO.ite ?_ ?_)
      | (with_reducible refine LeO.bind ?_ (fun _ => ?_))
      | exact ih0 _ _ _
      | exact LeO.none _
      | refine LeO.ite ?_ ?_
      | refine LeO.bind ?_ (fun _ => ?_)
set_option maxHeartbeats 8000000 in
set_option maxRecDepth 100000 in
theorem millraceref01_Places.calls (k : Nat) (a0 : Int) (a1 : Int) (r : ByteArray) (w : World) (h : millraceref01_Places.f k a0 a1 = some r) :
    Calls Tryd.prog 32 #[.int .u64 a0, .int .i64 a1] w fun e w' => e = .returned (.string r) ∧ Below w.heap.size w w' := by
  have HB := Aside0.mk (Below.refl w.heap.size w)
  have H : (millraceref01_Places.l0 k a0 a1 (⟨#[]⟩ : ByteArray)) = some r := h
  clear h
  have H' := Aside0.mk H
  clear H
  go_enter Tryd.func32, Tryd.ntmps32
  go_wp2
  go_loopg [0, 5] k (fun kq v0 v5 w' => ∃ (x0_1 : Int) (x5_1 : ByteArray), v0 = .int .u64 x0_1 ∧ v5 = .string x5_1 ∧ Aside0 (millraceref01_Places.l0 kq x0_1 a1 x5_1 = some r) ∧ Aside0 (kq ≤ k) ∧ Aside0 (Below w.heap.size w w'))
  case atStart => exact ⟨(a0), ((⟨#[]⟩ : ByteArray)), (by first | rfl | (simp; done) | (simp [*]; done)), (by first | rfl | (simp; done) | (simp [*]; done)), H', ⟨Nat.le_refl _⟩, ⟨by repeat (first | (with_reducible first | exact HB.out | apply below_alloc | apply pw_below_drewN | apply below_drew1) | exact HB.out)⟩⟩
  case round =>
    clear H'
    try clear p2
    obtain ⟨x0_1, x5_1, rfl, rfl, HA, HK1, HB⟩ := hrel
    cases gk with
    | zero => exact absurd HA.out (by simp [millraceref01_Places.l0])
    | succ k1 =>
      have H := HA.out
      clear HA
      simp only [millraceref01_Places.l0] at H
      by_cases c3 : (IntKind.u64.wrap (a1)) = 0
      · rw [if_pos c3] at H
        exact absurd H (by simp)
      · rw [if_neg c3] at H
        have c3b0 : ((IntKind.u64.wrap (a1)) == 0) = false := beq_eq_false_iff_ne.mpr c3
        have c3b1 : ((IntKind.u64.wrap (a1)) != 0) = true := bne_iff_ne.mpr c3
        obtain ⟨ji4, hji4⟩ : ∃ j_ : Int, (Int.tmod x0_1 (IntKind.u64.wrap (a1))) = j_ := ⟨_, rfl⟩
        replace H : (if 0 ≤ (ji4) then (if (ji4) < 16 then ((some (([bt (⟨#[48, 49, 50, 51, 52, 53, 54, 55, 56, 57, 97, 98, 99, 100, 101, 102]⟩ : ByteArray) (ji4)] : List Int) : List Int)).bind fun y125 => (if (strOfNums y125).size + x5_1.size ≤ 9223372036854775807 then (if (IntKind.u64.wrap (Int.tdiv x0_1 (IntKind.u64.wrap (a1)))) = 0 then (some ((strOfNums y125) ++ x5_1)) else (millraceref01_Places.l0 k1 (IntKind.u64.wrap (Int.tdiv x0_1 (IntKind.u64.wrap (a1)))) a1 ((strOfNums y125) ++ x5_1))) else (none))) else (none)) else (none)) = some r := by first | (rw [hji4] at H; exact H) | (simp only [hji4] at H ⊢; exact H)
        by_cases c5 : 0 ≤ (ji4)
        · rw [if_pos c5] at H
          have c5b0 : decide (0 ≤ (ji4)) = true := decide_eq_true c5
          clear c5
          by_cases c6 : (ji4) < 16
          · rw [if_pos c6] at H
            have c6b0 : decide ((ji4) < 16) = true := decide_eq_true c6
            clear c6
            obtain ⟨y125, hy125⟩ : ∃ y_ : List Int, y_ = (([bt (⟨#[48, 49, 50, 51, 52, 53, 54, 55, 56, 57, 97, 98, 99, 100, 101, 102]⟩ : ByteArray) (ji4)] : List Int)) := ⟨_, rfl⟩
            replace H : (if (strOfNums y125).size + x5_1.size ≤ 9223372036854775807 then (if (IntKind.u64.wrap (Int.tdiv x0_1 (IntKind.u64.wrap (a1)))) = 0 then (some ((strOfNums y125) ++ x5_1)) else (millraceref01_Places.l0 k1 (IntKind.u64.wrap (Int.tdiv x0_1 (IntKind.u64.wrap (a1)))) a1 ((strOfNums y125) ++ x5_1))) else (none)) = some r := by first | (rw [hy125]; with_reducible exact H) | (have H2_ := (Option.bind_some _ _).symm.trans H; rw [hy125]; with_reducible exact H2_) | (have H2_ := (Option.bind_some _ _).symm.trans H; with_reducible exact H2_) | with_reducible exact H | (rw [hy125]; exact H) | exact H
            have Ny125 := Aside0.mk hy125
            clear hy125
            by_cases c8 : (strOfNums y125).size + x5_1.size ≤ 9223372036854775807
            · rw [if_pos c8] at H
              have c8b0 := eq_true c8
              have c8b1 : decide ((strOfNums y125).size + x5_1.size ≤ 9223372036854775807) = true := decide_eq_true c8
              try have c8b2 : (9223372036854775807 < (strOfNums y125).size + x5_1.size) = False := eq_false (Nat.not_lt.2 c8)
              by_cases c9 : (IntKind.u64.wrap (Int.tdiv x0_1 (IntKind.u64.wrap (a1)))) = 0
              · rw [if_pos c9] at H
                have c9b0 : ((IntKind.u64.wrap (Int.tdiv x0_1 (IntKind.u64.wrap (a1)))) == 0) = true := beq_iff_eq.mpr c9
                have c9b1 : ((IntKind.u64.wrap (Int.tdiv x0_1 (IntKind.u64.wrap (a1)))) != 0) = false := bne_eq_false_iff_eq.mpr c9
                clear c9
                obtain rfl := Option.some.inj H
                have p7 : 0 ≤ ((ji4) : Int) := of_decide_eq_true (by first | (with_reducible assumption) | assumption)
                have q7 : (ji4) < (16 : Int) := of_decide_eq_true (by first | (with_reducible assumption) | assumption)
                have hx7 := bt_at (⟨#[48, 49, 50, 51, 52, 53, 54, 55, 56, 57, 97, 98, 99, 100, 101, 102]⟩ : ByteArray) (ji4)
                replace p7 := eq_true p7
                replace q7 := eq_true q7
                go_wp2_with (first | ((with_reducible refine gate_dst (N := 11) rfl ?_); refine Kd.R_lit (Kd.int .u8) _ 5 ?hg (N := 11) ?hd (xs := ([bt (⟨#[48, 49, 50, 51, 52, 53, 54, 55, 56, 57, 97, 98, 99, 100, 101, 102]⟩ : ByteArray) (ji4)] : List Int)) (inner := [.int .u8 (bt (⟨#[48, 49, 50, 51, 52, 53, 54, 55, 56, 57, 97, 98, 99, 100, 101, 102]⟩ : ByteArray) (ji4))]) (ok := fun _ => True) (okp := fun _ => True) ?hr ?hp (fun _ hk => hk) trivial (Below.refl _ _) (Nat.le_refl _) (by simp) ?_; (case hd => rfl); (case hg => rfl); (case hr => first | (go_simp; done) | (go_simp; rfl)); (case hp => exact (Reps.one (show Kd.M (Kd.int .u8) _ _ _ (bt (⟨#[48, 49, 50, 51, 52, 53, 54, 55, 56, 57, 97, 98, 99, 100, 101, 102]⟩ : ByteArray) (ji4)) [.int .u8 (bt (⟨#[48, 49, 50, 51, 52, 53, 54, 55, 56, 57, 97, 98, 99, 100, 101, 102]⟩ : ByteArray) (ji4))] from rfl) (Reps.none _ _))); intro v126 w10 ho11 hb hg_ hnew_; clear hg_ hnew_; (first | rw [← Ny125.out] at ho11 | (simp only [Int.reduceToNat] at ho11; rw [← Ny125.out] at ho11)); have n0_ := Aside0.mk (Kd.R_lower ho11 (below_size (by repeat (first | (with_reducible first | exact HB.out | apply below_alloc | apply pw_below_drewN | apply below_drew1) | exact HB.out)))); have n1_ := Aside0.mk (below_step (by repeat (first | (with_reducible first | exact HB.out | apply below_alloc | apply pw_below_drewN | apply below_drew1) | exact HB.out)) hb); clear HB; have HO127 := n0_; have HB := n1_; clear n0_ n1_; clear hb ho11; have hcv12 := own_string (P := Tryd.prog) Tryd.underlying63 Tryd.underlying5 Tryd.underlying9 (Kd.own_of_R HO127.out)))
                go_ret
                exact ⟨by first | rfl | (simp [errW_none, errW_some] <;> rfl) | (simp only [← hji4]; first | rfl | (simp [errW_none, errW_some] <;> rfl)) | (simp [*, errW_none, errW_some] <;> rfl), by repeat (first | (with_reducible first | exact HB.out | apply below_alloc | apply pw_below_drewN | apply below_drew1) | exact HB.out)⟩
              · rw [if_neg c9] at H
                have c9b0 : ((IntKind.u64.wrap (Int.tdiv x0_1 (IntKind.u64.wrap (a1)))) == 0) = false := beq_eq_false_iff_ne.mpr c9
                have c9b1 : ((IntKind.u64.wrap (Int.tdiv x0_1 (IntKind.u64.wrap (a1)))) != 0) = true := bne_iff_ne.mpr c9
                have H' := Aside0.mk H
                clear H
                have p7 : 0 ≤ ((ji4) : Int) := of_decide_eq_true (by first | (with_reducible assumption) | assumption)
                have q7 : (ji4) < (16 : Int) := of_decide_eq_true (by first | (with_reducible assumption) | assumption)
                have hx7 := bt_at (⟨#[48, 49, 50, 51, 52, 53, 54, 55, 56, 57, 97, 98, 99, 100, 101, 102]⟩ : ByteArray) (ji4)
                replace p7 := eq_true p7
                replace q7 := eq_true q7
                go_wp2_with (first | ((with_reducible refine gate_dst (N := 11) rfl ?_); refine Kd.R_lit (Kd.int .u8) _ 5 ?hg (N := 11) ?hd (xs := ([bt (⟨#[48, 49, 50, 51, 52, 53, 54, 55, 56, 57, 97, 98, 99, 100, 101, 102]⟩ : ByteArray) (ji4)] : List Int)) (inner := [.int .u8 (bt (⟨#[48, 49, 50, 51, 52, 53, 54, 55, 56, 57, 97, 98, 99, 100, 101, 102]⟩ : ByteArray) (ji4))]) (ok := fun _ => True) (okp := fun _ => True) ?hr ?hp (fun _ hk => hk) trivial (Below.refl _ _) (Nat.le_refl _) (by simp) ?_; (case hd => rfl); (case hg => rfl); (case hr => first | (go_simp; done) | (go_simp; rfl)); (case hp => exact (Reps.one (show Kd.M (Kd.int .u8) _ _ _ (bt (⟨#[48, 49, 50, 51, 52, 53, 54, 55, 56, 57, 97, 98, 99, 100, 101, 102]⟩ : ByteArray) (ji4)) [.int .u8 (bt (⟨#[48, 49, 50, 51, 52, 53, 54, 55, 56, 57, 97, 98, 99, 100, 101, 102]⟩ : ByteArray) (ji4))] from rfl) (Reps.none _ _))); intro v126 w13 ho14 hb hg_ hnew_; clear hg_ hnew_; (first | rw [← Ny125.out] at ho14 | (simp only [Int.reduceToNat] at ho14; rw [← Ny125.out] at ho14)); have n0_ := Aside0.mk (Kd.R_lower ho14 (below_size (by repeat (first | (with_reducible first | exact HB.out | apply below_alloc | apply pw_below_drewN | apply below_drew1) | exact HB.out)))); have n1_ := Aside0.mk (below_step (by repeat (first | (with_reducible first | exact HB.out | apply below_alloc | apply pw_below_drewN | apply below_drew1) | exact HB.out)) hb); clear HB; have HO127 := n0_; have HB := n1_; clear n0_ n1_; clear hb ho14; have hcv15 := own_string (P := Tryd.prog) Tryd.underlying63 Tryd.underlying5 Tryd.underlying9 (Kd.own_of_R HO127.out)))
                go_roundg k1
                case measure => have := HK1.out; omega
                case rel => exact ⟨(IntKind.u64.wrap (Int.tdiv x0_1 (IntKind.u64.wrap (a1)))), ((strOfNums y125) ++ x5_1), (by first | rfl | (simp; done) | (simp [*]; done)), (by first | rfl | (simp; done) | (simp [*]; done)), H', ⟨by have := HK1.out; omega⟩, ⟨by repeat (first | (with_reducible first | exact HB.out | apply below_alloc | apply pw_below_drewN | apply below_drew1) | exact HB.out)⟩⟩
            · rw [if_neg c8] at H
              exact absurd H (by simp)
          · rw [if_neg c6] at H
            exact absurd H (by simp)
        · rw [if_neg c5] at H
          exact absurd H (by simp)

end Go.Proofs.YtbggmdgeanoelaaDoor.Ft
