import Derived.Test.YthmijenlndnmcaaGreatDoorShx0
import Derived.Test.YthmijenlndnmcaaGreatDoorShx2
namespace Go.Proofs.YthmijenlndnmcaaGreatDoor.Sh
open Go.RowKit Go.Proofs.YthmijenlndnmcaaGreatDoorW.PrintWords Go.Proofs.YthmijenlndnmcaaGreatDoorW.PrintLast Go.Proofs.YthmijenlndnmcaaGreatDoorW.PrintMore
attribute [local go_sem] max2_int min2_int max_two min_two max_three min_three max_four min_four
set_option linter.unusedVariables false
set_option linter.unusedSimpArgs false
def numChr (d : Nat) : Int := if d < 10 then 48 + (d : Int) else 87 + (d : Int)
def numDigs (b : Nat) : Nat → Nat → List Int
  | 0, _ => []
  | f + 1, n => numChr (n % b) :: (if n / b = 0 then [] else numDigs b f (n / b))
theorem numDigs_len (b : Nat) : ∀ f n, (numDigs b f n).length ≤ f
  | 0, _ => by simp [numDigs]
  | f + 1, n => by
    have := numDigs_len b f (n / b)
    simp only [numDigs, List.length_cons]
    split
    · simp
    · omega
theorem numChr_at (d : Nat) (h : d < 16) : ((⟨#[48, 49, 50, 51, 52, 53, 54, 55, 56, 57, 97, 98, 99, 100, 101, 102]⟩ : ByteArray)[d]'h).toNat = numChr d := by
  have : ∀ e : Fin 16, (((⟨#[48, 49, 50, 51, 52, 53, 54, 55, 56, 57, 97, 98, 99, 100, 101, 102]⟩ : ByteArray)[e.1]'e.2).toNat : Int) = numChr e.1 := by decide +kernel
  exact this ⟨d, h⟩
theorem num_wrap (n b q : Nat) (h : n < 2 ^ 64) (hq : q = n / b) : IntKind.u64.wrap ((n : Int) / (b : Int)) = (q : Int) := by
  have h1 : n / b ≤ n := Nat.div_le_self n b
  have h2 : ((n / b : Nat) : Int) = (n : Int) / (b : Int) := Int.natCast_ediv n b
  subst hq
  rw [← h2]
  have h3 : n / b < 2 ^ 64 := Nat.lt_of_le_of_lt h1 h
  generalize n / b = x at h3 ⊢
  simp only [IntKind.wrap, IntKind.signed, IntKind.bits, Bool.false_and, Bool.false_eq_true, if_false]
  omega
set_option maxHeartbeats 1000000 in
set_option maxRecDepth 100000 in
theorem num_places1 (l B1 B2 : Nat) (hne : B1 ≠ B2) (b : Nat) (hb : 2 ≤ b) (hb16 : b ≤ 16) (f0 n0 : Nat) (hf0 : f0 ≤ 63) (hn0 : n0 < 2 ^ (f0 + 1)) (J : List Int → World → Prop) (Jx : List Int → World → Prop)
    (hJ : ∀ pre W v, J pre W → J pre (W.setCell ⟨B1, 0, none⟩ v))
    (hY : ∀ pre x W, J pre W → (pre ++ [x]).length ≤ f0 + 1 → Rng.YieldW Tryz.prog l #[.int .u8 x] W fun e W' =>
      (e = .returned (.bool true) ∧ J (pre ++ [x]) W' ∧ W'.heap[B1]? = W.heap[B1]? ∧ W'.heap[B2]? = W.heap[B2]?) ∨ (e = .returned (.bool false) ∧ Jx (pre ++ [x]) W'))
    (W : World) (h1 : Boxed W B1 131 (.int .u64 n0)) (h2 : Boxed W B2 131 (.int .u64 b)) (h0 : J [] W) :
    Calls Tryz.prog 147 #[.func (.yield l) #[] #[], .pointer (some ⟨B1, 0, none⟩), .pointer (some ⟨B2, 0, none⟩)] W fun e W' => (∃ v, e = .returned v) ∧
      (J (numDigs b (f0 + 1) n0) W' ∨ ∃ pre, pre.length ≤ f0 + 1 ∧ Jx pre W') := by
  refine (callsIn_wide (n := 1)).1 ?_
  refine callsIn_of_wp Tryz.func147 rfl trivial ?_ rfl
  simp only [Tryz.ntmps147, List.size_toArray, List.length_cons, List.length_nil, Nat.reduceAdd, Nat.reduceSub, Array.replicate_succ, Array.replicate_zero, List.push_toArray, List.append_toArray, List.nil_append, List.cons_append]
  gi_wp2
  gi_loopg [4] (f0 + 1) (fun k v wr => (∃ (f n : Nat) (pre : List Int), k = f + 1 ∧ v = .bool true ∧ n < 2 ^ (f + 1) ∧ f ≤ f0 ∧ pre.length + (f + 1) ≤ f0 + 1 ∧ numDigs b (f0 + 1) n0 = pre ++ numDigs b (f + 1) n ∧ Boxed wr B1 131 (.int .u64 n) ∧ Boxed wr B2 131 (.int .u64 b) ∧ J pre wr) ∨ (k = 0 ∧ v = .bool false ∧ J (numDigs b (f0 + 1) n0) wr))
  case atStart => exact .inl ⟨f0, n0, [], rfl, rfl, hn0, Nat.le_refl _, by simp, by simp, h1, h2, h0⟩
  case round =>
    rcases hrel with ⟨f, n, pre, rfl, rfl, hn, hf, hpl, hx, hb1, hb2, hj⟩ | ⟨rfl, rfl, hj⟩
    · have c1 := hb1.cell
      have f1 := hb1.frozen
      have c2 := hb2.cell
      have d0 : (0 : Int) ≤ (n : Int) := by omega
      have d1 : (1 : Int) ≤ (b : Int) := by omega
      have hlt : n < 2 ^ 64 := Nat.lt_of_lt_of_le hn (Nat.pow_le_pow_right (by omega) (by omega))
      have hqb : n / b < 2 ^ (f + 1) := Nat.lt_of_le_of_lt (Nat.div_le_self _ _) hn
      have hqf : n / b < 2 ^ f := by
        have : n / b ≤ n / 2 := Nat.div_le_div_left hb (by omega)
        rw [Nat.pow_succ] at hn
        omega
      obtain ⟨q, hq⟩ : ∃ q, q = n / b := ⟨_, rfl⟩
      obtain ⟨m, hm⟩ : ∃ m, m = n % b := ⟨_, rfl⟩
      have eq1 : IntKind.u64.wrap ((n : Int) / (b : Int)) = (q : Int) := num_wrap n b q hlt hq
      have em1 : (n : Int) % (b : Int) = (m : Int) := by rw [hm]; omega
      have hm16 : m < 16 := by have := Nat.mod_lt n (show b > 0 by omega); omega
      have hch := numChr_at m hm16
      rw [← hq] at hqf
      have hx' : Hid (numDigs b (f0 + 1) n0 = pre ++ (numChr m :: (if q = 0 then [] else numDigs b f q))) := by
        show _ = _
        rw [hx, hm, hq]
        rfl
      clear hx hn hlt hqb hq hm
      have hj1 := hJ pre wr (.int .u64 q) hj
      have B1' : Boxed (wr.setCell ⟨B1, 0, none⟩ (.int .u64 q)) B1 131 (.int .u64 q) := hb1.set _
      have B2' : Boxed (wr.setCell ⟨B1, 0, none⟩ (.int .u64 q)) B2 131 (.int .u64 b) := (Below.heap_setCell wr ⟨B1, 0, none⟩ _ B2 (Ne.symm hne)).trans hb2
      obtain ⟨fn, tmps, assign, body, hy, hR⟩ := hY pre (numChr m) _ hj1 (by simp; omega) 0
      have HR := Lib.hid hR
      clear hR
      gi_wp2
      refine HR.out.mono ?_
      rintro e W3 (⟨rfl, hJ3, hk1, hk2⟩ | ⟨rfl, hJx3⟩)
      · have B1x : Boxed W3 B1 131 (.int .u64 q) := hk1.trans B1'
        have B2x : Boxed W3 B2 131 (.int .u64 b) := hk2.trans B2'
        have c3 := B1x.cell
        by_cases hz : q = 0
        · subst hz
          gi_wp2
          go_roundg 0
          case measure => omega
          case rel => exact .inr ⟨rfl, rfl, by rw [hx'.out]; simpa using hJ3⟩
        · have hz' : decide ((0 : Int) < (q : Int)) = true := by simp; omega
          cases f with
          | zero => simp at hqf; exact absurd hqf hz
          | succ f =>
            gi_wp2
            go_roundg (f + 1)
            case measure => omega
            case rel => exact .inl ⟨f, q, pre ++ [numChr m], rfl, (by simp; omega), hqf, by omega, by simp; omega, by rw [hx'.out, if_neg hz]; simp, B1x, B2x, hJ3⟩
      · gi_wp2
        refine bodyPost_ret (results_none rfl _ _ _) rfl ?_
        exact ⟨⟨_, rfl⟩, .inr ⟨pre ++ [numChr m], by simp; omega, hJx3⟩⟩
    · gi_wp2
      go_end0
      exact ⟨⟨_, rfl⟩, .inl hj⟩
def num_written.f (a0 : Int) (a1 : Int) : Option ByteArray :=
  if 2 ≤ a1 ∧ a1 ≤ 16 ∧ 0 ≤ a0 ∧ a0.toNat < 2 ^ 64 then some (strOfNums (numDigs a1.toNat 64 a0.toNat).reverse) else none
theorem num_set_at (x y : Int) (post : List Int) : ∀ pre : List Int, (pre ++ x :: post).set pre.length y = pre ++ y :: post
  | [] => rfl
  | a :: pre => by simp [num_set_at x y post pre]
theorem num_rd_at (x : Int) (pre post : List Int) : rd (pre ++ x :: post) ((pre.length : Nat) : Int) = x := by simp [rd]
theorem num_rev : ∀ (k : Nat) (pre mid post : List Int), mid.length ≤ 2 * k + 1 → (pre ++ mid ++ post).length ≤ 9223372036854775807 → ∀ (i j : Int), i = (pre.length : Int) → j = (pre.length : Int) + (mid.length : Int) - 1 →
    slices_Reverse_byte_byte.l0 (k + 1) (pre ++ mid ++ post) i j = some (pre ++ mid.reverse ++ post) := by
  intro k
  induction k with
  | zero =>
    intro pre mid post hm hl i j hi hj
    simp only [slices_Reverse_byte_byte.l0]
    rw [if_neg (by omega)]
    match mid, hm with
    | [], _ => rfl
    | [x], _ => rfl
  | succ k ih =>
    intro pre mid post hm hl i j hi hj
    by_cases h1 : mid.length ≤ 1
    · simp only [slices_Reverse_byte_byte.l0]
      rw [if_neg (by omega)]
      match mid, h1 with
      | [], _ => rfl
      | [x], _ => rfl
    · obtain ⟨a, m, z, rfl⟩ : ∃ a m z, mid = a :: (m ++ [z]) := by
        match mid, h1 with
        | [], h => exact absurd (by simp) h
        | a :: r, h =>
          have hr : r ≠ [] := by rintro rfl; simp at h
          exact ⟨a, r.dropLast, r.getLast hr, by rw [List.dropLast_concat_getLast]⟩
      have hlen : (a :: (m ++ [z])).length = m.length + 2 := by simp
      have hll : (pre ++ a :: (m ++ [z]) ++ post).length = pre.length + (m.length + 2) + post.length := by simp; omega
      rw [hlen] at hm hj
      rw [hll] at hl
      have e1 : pre ++ a :: (m ++ [z]) ++ post = (pre ++ a :: m) ++ z :: post := by simp
      have e2 : pre ++ a :: (m ++ [z]) ++ post = pre ++ a :: (m ++ z :: post) := by simp
      have hj' : j = ((pre ++ a :: m).length : Nat) := by simp; omega
      have hjr : rd (pre ++ a :: (m ++ [z]) ++ post) j = z := by rw [e1, hj']; exact num_rd_at _ _ _
      have hir : rd (pre ++ a :: (m ++ [z]) ++ post) i = a := by rw [e2, hi]; exact num_rd_at _ _ _
      have hs1 : (pre ++ a :: (m ++ [z]) ++ post).set i.toNat z = (pre ++ z :: m) ++ z :: post := by
        rw [e2, hi, Int.toNat_natCast, num_set_at]; simp
      have hs2 : ((pre ++ z :: m) ++ z :: post).set j.toNat a = (pre ++ [z]) ++ m ++ (a :: post) := by
        rw [show j.toNat = (pre ++ z :: m).length by simp; omega, num_set_at]; simp
      have hlt : ((pre ++ a :: (m ++ [z]) ++ post).length : Int) = (pre.length : Int) + (m.length : Int) + 2 + (post.length : Int) := by rw [hll]; omega
      rw [slices_Reverse_byte_byte.l0, if_pos (by omega), if_pos (by omega), if_pos (by omega), if_pos (by omega), if_pos (by omega), hjr, hir, hs1, hs2]
      have w1 : wrap64 (i + 1) = ((pre ++ [z]).length : Int) := by unfold wrap64; simp; omega
      have w2 : wrap64 (j - 1) = ((pre ++ [z]).length : Int) + (m.length : Int) - 1 := by unfold wrap64; simp; omega
      rw [ih (pre ++ [z]) m (a :: post) (by omega) (by simp; omega) _ _ w1 w2]
      simp
theorem num_reverse (l : List Int) (hl : l.length ≤ 9223372036854775807) : slices_Reverse_byte_byte.f (l.length + 1) l = some l.reverse := by
  have := num_rev l.length [] l [] (by omega) (by simpa using hl) 0 (wrap64 ((l.length : Int) - 1)) rfl (by unfold wrap64; simp; omega)
  simpa [slices_Reverse_byte_byte.f] using this
set_option maxHeartbeats 1000000 in
theorem num_places (n b : Int) (w : World) :
    Calls Tryz.prog 131 #[.int .u64 n, .int .u64 b] w fun e w' => e = .returned (.func (.func 147) #[] #[.pointer (some ⟨w.heap.size, 0, none⟩), .pointer (some ⟨w.heap.size + 1, 0, none⟩)]) ∧
      w' = (w.alloc (.cells #[.int .u64 n] 131)).alloc (.cells #[.int .u64 b] 131) := by
  go_enter Tryz.func131, Tryz.ntmps131
  go_wp2
  go_ret
  exact ⟨rfl, rfl⟩
theorem num_places_seq (B1 B2 : Nat) (hne : B1 ≠ B2) (b : Nat) (hb : 2 ≤ b) (hb16 : b ≤ 16) (n : Nat) (hn : n < 2 ^ 64) (w : World) (h1 : Boxed w B1 131 (.int .u64 n)) (h2 : Boxed w B2 131 (.int .u64 b)) :
    Rng.SeqW Tryz.prog 147 #[.pointer (some ⟨B1, 0, none⟩), .pointer (some ⟨B2, 0, none⟩)] (fun x : Int => #[Value.int .u8 x]) (fun r => r = B1) (fun k => k = B1 ∨ k = B2) (fun xs => xs = numDigs b 64 n) (fun pre => pre.length ≤ 64) w := by
  intro l J Jx W hW hJ hJx hY h0
  have g1 : Boxed W B1 131 (.int .u64 n) := (hW.block B1 h1.lt).trans h1
  have g2 : Boxed W B2 131 (.int .u64 b) := (hW.block B2 h2.lt).trans h2
  refine (num_places1 l B1 B2 hne b hb hb16 63 n (by omega) hn (fun pre W => J pre W ∧ B1 < W.heap.size ∧ B2 < W.heap.size) Jx ?_ ?_ W g1 g2 ⟨h0, g1.lt, g2.lt⟩).mono ?_
  · rintro pre W v ⟨hj, hl1, hl2⟩
    exact ⟨hJ pre W _ (some B1) hj (grownBy_setCell' W B1 v) (fun r e => .inl (by cases e; rfl)), by simpa [World.setCell] using hl1, by simpa [World.setCell] using hl2⟩
  · rintro pre x W ⟨hj, hl1, hl2⟩ hlen m
    obtain ⟨fn, tmps, assign, body, hy, hR⟩ := hY pre x W hj hlen m
    refine ⟨fn, tmps, assign, body, hy, hR.mono ?_⟩
    rintro e W' (⟨rfl, hj', hk, hs⟩ | ⟨rfl, hx⟩)
    · exact .inl ⟨rfl, ⟨hj', Nat.lt_of_lt_of_le hl1 hs.size, Nat.lt_of_lt_of_le hl2 hs.size⟩, hs.same _ (.inl rfl) hl1, hs.same _ (.inr rfl) hl2⟩
    · exact .inr ⟨rfl, hx⟩
  · rintro e W' ⟨hv, ⟨hj, _⟩ | ⟨pre, hp, hx⟩⟩
    · exact ⟨hv, .inl ⟨_, rfl, hj⟩⟩
    · exact ⟨hv, .inr ⟨pre, hp, hx⟩⟩
theorem num_appended {w W w1 : World} {v v' : Value} {k m : Nat} {xs ys : List Value} {tmp : Obj} (hv : Boxed W w.heap.size 23 v) (hrow : W.ownsRow (w.heap.size + 3) 5 1 v k xs) (hn : w.heap.size ≤ W.heap.size)
    (hown' : w1.ownsRow (w.heap.size + 3) 5 1 v' m ys) (hgrow : (W.alloc tmp).grownBy w1 v.ownBlock) :
    Boxed w1 w.heap.size 23 v ∧ Boxed (w1.setCell ⟨w.heap.size, 0, none⟩ v') w.heap.size 23 v' ∧ (w1.setCell ⟨w.heap.size, 0, none⟩ v').ownsRow (w.heap.size + 3) 5 1 v' m ys ∧ KeepsOthers W (w1.setCell ⟨w.heap.size, 0, none⟩ v') ∧ Below w.heap.size W (w1.setCell ⟨w.heap.size, 0, none⟩ v') ∧ Rng.Same (fun k => k = w.heap.size + 1 ∨ k = w.heap.size + 1 + 1) W (w1.setCell ⟨w.heap.size, 0, none⟩ v') := by
  obtain ⟨h1, h2, h3, h4, h5⟩ := hv.appended (show (23 : TypeId) ≠ 5 by decide) (Joins.ownsRow_le hrow (show w.heap.size ≤ w.heap.size + 3 by omega)) hn (Nat.le_refl _) (Joins.ownsRow_le hown' (show w.heap.size ≤ w.heap.size + 3 by omega)) hgrow
  exact ⟨h1, h2, hown'.kept (grownBy_setCell' w1 w.heap.size v') (.inr (h1.not_row (by decide) hown').symm), h4, h5, ((Rng.Same.alloc _ W tmp).trans (Rng.Same.grown hgrow (fun r e h => by have := (hrow.lt r e).1; rcases h with h | h <;> omega))).trans (Rng.Same.setCell w1 (by simp; omega) v')⟩
attribute [local go_sem] Oper.semAt_some Rng.wide_fn Rng.wide_depth Rng.wide_alive
set_option maxHeartbeats 2000000 in
set_option maxRecDepth 100000 in
theorem num_written.calls (a0 a1 : Int) (r : ByteArray) (w : World) (h : num_written.f a0 a1 = some r) :
    Calls Tryz.prog 110 #[.int .u64 a0, .int .i64 a1] w fun e w' => e = .returned (.string r) ∧ Below w.heap.size w w' := by
  unfold num_written.f at h
  split at h
  case isFalse => cases h
  case isTrue hr =>
    obtain ⟨hr1, hr2, hr3, hr4⟩ := hr
    obtain rfl := Option.some.inj h
    clear h
    obtain ⟨n, rfl⟩ := Int.eq_ofNat_of_zero_le hr3
    obtain ⟨b, rfl⟩ := Int.eq_ofNat_of_zero_le (show 0 ≤ a1 by omega)
    rw [Int.toNat_natCast, Int.toNat_natCast] at *
    have hb2 : 2 ≤ b := by omega
    have hb16 : b ≤ 16 := by omega
    have hwb : IntKind.u64.wrap (b : Int) = (b : Int) := by
      simp only [IntKind.wrap, IntKind.signed, IntKind.bits, Bool.false_and, Bool.false_eq_true, if_false]
      omega
    have hwb' := Lib.hid hr4
    obtain ⟨xs, hxs⟩ : ∃ xs, xs = numDigs b 64 n := ⟨_, rfl⟩
    have hxl : xs.length ≤ 64 := by rw [hxs]; exact numDigs_len b 64 n
    rw [← hxs]
    have HX := Lib.hid hxs
    clear hxs
    clear hr1 hr2 hr3 hr4
    obtain ⟨i0, hi, hz0, hz1, hz2⟩ := info_parts (show (Tryz.prog.info? 5).map (fun i => (i.zero, i.size, i.bytes)) = some (some (.int .u8 0), 1, 1) by kernel_rfl)
    refine (callsIn_wide (n := 5)).1 ?_
    refine callsIn_of_wp_marks Tryz.func110 rfl trivial ?_ rfl
    simp only [Tryz.ntmps110, List.size_toArray, List.length_cons, List.length_nil, Nat.reduceAdd, Nat.reduceSub, Array.replicate_succ, Array.replicate_zero, List.push_toArray, List.append_toArray, List.nil_append, List.cons_append]
    gi_wp2_with (gi_at_call 131; refine (callsIn_wide.2 (num_places _ _ _)).mono ?_; rintro e w' ⟨rfl, rfl⟩)
    have b0 := Boxed.new w 23 (.slice none 0 0)
    have b1 := Boxed.new (w.alloc (.cells #[.slice none 0 0] 23)) 131 (.int .u64 (n : Int))
    have b2 := Boxed.new ((w.alloc (.cells #[.slice none 0 0] 23)).alloc (.cells #[.int .u64 (n : Int)] 131)) 131 (.int .u64 (b : Int))
    rw [World.size_alloc] at b1
    rw [World.size_alloc, World.size_alloc] at b2
    have hB0 : Below w.heap.size w (((w.alloc (.cells #[.slice none 0 0] 23)).alloc (.cells #[.int .u64 (n : Int)] 131)).alloc (.cells #[.int .u64 (b : Int)] 131)) := (((Below.refl _ w).alloc (Nat.le_refl _) _).alloc (by simp) _).alloc (by simp; omega) _
    refine Rng.rangeW (gf := 147) (lb := #[.pointer (some ⟨w.heap.size + 1, 0, none⟩), .pointer (some ⟨w.heap.size + 1 + 1, 0, none⟩)]) rfl (enters_of Tryz.func147 (by kernel_rfl) rfl)
      (num_places_seq (w.heap.size + 1) (w.heap.size + 1 + 1) (by omega) b hb2 hb16 n hwb'.out _ (b1.alloc _) b2) (Below.refl _ _) (fun r h => by subst h; simp) (fun r h => by rcases h with rfl | rfl <;> simp) (fun _ => rfl)
      (fun pre W => (∃ v, Boxed W w.heap.size 23 v ∧ W.ownsRow (w.heap.size + 3) 5 1 v pre.length (pre.map (Value.int .u8)) ∧ True) ∧ Below w.heap.size w W)
      (fun _ _ _ => False)
      (Rng.Owns.and (Rng.Owns.holds (w.heap.size + 3) w.heap.size 23 5 1 (fun pre : List Int => pre.length) (fun pre => pre.map (Value.int .u8)) (fun _ _ => True) (by omega) (fun r h => by omega)) (Rng.Owns.below (Nat.le_refl _) (by simp; omega) (fun r h => by omega)))
      (fun _ => Rng.Owns.never)
      ⟨⟨_, (b0.alloc _).alloc _, World.ownsRow_nil _ _ _ _, trivial⟩, hB0⟩
      (fun x => { tmps := #[.int .u64 n, .int .i64 b, undef, undef, .string ⟨#[]⟩, .pointer (some ⟨w.heap.size, 0, none⟩), .int .u8 x, .int .u64 n, .int .i64 b, .int .u64 b, .func (.func 147) #[] #[.pointer (some ⟨w.heap.size + 1, 0, none⟩), .pointer (some ⟨w.heap.size + 1 + 1, 0, none⟩)], .int .u8 x, undef, undef, undef, undef, undef, undef, undef, undef], defers := [] }) ?assign ?body ?done ?stop
    case assign =>
      intro l x W K hK
      gi_wp2
      exact hK
    case body =>
      rintro l pre x W ⟨⟨v, hv, hrow, _⟩, hB⟩ hlen hsz
      have hc := hv.cell
      simp only [World.size_alloc] at hsz
      have hlen' : pre.length + 1 ≤ 64 := by simpa using hlen
      have hrow2 : (W.alloc (.cells #[.int .u8 x] 5)).ownsRow (w.heap.size + 3) 5 1 v pre.length (pre.map (Value.int .u8)) := hrow.alloc _
      have q1 : pre.length + 1 ≤ maxLen := by unfold maxLen; omega
      have q2 : (pre.length + 1) * 1 ≤ 140737488355328 := by omega
      have q3 : w.heap.size + 3 ≤ (W.alloc (.cells #[.int .u8 x] 5)).heap.size := by simp; omega
      have q4 : ∀ u ∈ [Value.int .u8 x], u.oneCell' = true := by simp [Value.oneCell']
      have hn2 : w.heap.size ≤ W.heap.size := hB.size
      have Q := Lib.hid (And.intro q1 (And.intro q2 q3))
      clear q1 q2 q3 hlen hlen' hsz
      gi_wp2_with (gi_at_builtin; go_must (refine wpListIn_append_own _ rfl _ _ 23 rfl (w.heap.size + 3) 5 i0 (.int .u8 0) 1 1 Tryz.underlying23 hi hz0 hz1 hz2 rfl (by decide) _ _ _ rfl hrow2 ⟨W.heap.size, 0, none⟩ 1 1 [.int .u8 x] rfl rfl (cell_one_new _ _ _) q4 Q.out.1 Q.out.2.1 Q.out.2.2 ?_); go_must (intro v' w1 hown' hgrow _; obtain ⟨g', cap', rfl⟩ := ownsRow_succ hown'; obtain ⟨hv1, hv2, hr2, hk2, hb2, hs2⟩ := num_appended hv hrow hn2 hown' hgrow; have hc1 := hv1.cell; have hf1 := hv1.frozen))
      exact ⟨hk2, hs2, ⟨_, hv2, by simpa using hr2, trivial⟩, hB.trans hb2⟩
    case done =>
      rintro D ys W hD hys ⟨⟨v, hv, hrow, _⟩, hB⟩ hK
      have hc := hv.cell
      obtain rfl : ys = xs := hys.trans HX.out.symm
      clear hys
      have hR : Kd.R (Kd.int .u8) 5 W w.heap.size (fun k => some k = v.ownBlock) v ys := Kd.R_of_own (enc := Value.int .u8) (h1 := fun _ => rfl) (Joins.ownsRow_le hrow (show w.heap.size ≤ w.heap.size + 3 by omega)) (fun k hk => hk.symm)
      have hne : ¬ some w.heap.size = v.ownBlock := fun e => by have := (hrow.lt _ e.symm).1; omega
      have hcall := slices_Reverse_byte_byte.calls (ys.length + 1) (fun k => some k = v.ownBlock) v ys ys.reverse w W hB hR (num_reverse ys (by omega))
      have HC := Lib.hid hcall
      have hnD : ¬ some D = v.ownBlock := fun e => by obtain ⟨cs, hcs⟩ := own_typed hrow D e.symm; rw [hK] at hcs; cases hcs
      clear hcall hR hrow hxl
      simp only [World.size_alloc] at hD
      gi_wp2_with (gi_at_call 96; go_must (refine (callsIn_wide.2 HC.out).mono ?_); go_must (rintro e W4 ⟨rfl, hR4, hB4, hk4⟩; have hv4 : Boxed W4 w.heap.size 23 v := blk_kept hv hk4 hne; have hc4 := hv4.cell))
      have hK4 : W4.heap[D]? = some (.deferred (some [])) := blk_kept hK hk4 hnD
      obtain ⟨A, c, hv0, _, hC⟩ := Kd.R_reads hR4
      have hcv : (convert 23 9 v).run Tryz.prog W4 = .ok (.string (strOfNums ys.reverse)) W4 := by
        rw [hv0]; exact Kd.C_string Tryz.underlying23 Tryz.underlying5 Tryz.underlying9 hC
      clear hv0 hC hR4
      rw [hcv]
      simp only [Result.andThen]
      rw [Oper.uponIn_value]
      gi_wp2
      refine ⟨by simp, .inl ⟨_, _, rfl, run_takeDeferred hK4, ?_⟩⟩
      exact ⟨_, results_tmp rfl _ _ _, rfl, hB4.trans (belowK_b (w := w) (Nat.le_refl _) W4 D _ _ (by omega) hK4 rfl rfl)⟩
    case stop =>
      rintro D c pre W _ _ h _
      exact h.elim
def num_Decimal.f (a0 : Int) : Option (ByteArray) := if a0 < 0 then ((num_written.f (IntKind.u64.wrap (-(IntKind.u64.wrap (a0)))) 10).bind fun t105 => (if 1 + t105.size ≤ 9223372036854775807 then (some ((⟨#[45]⟩ : ByteArray) ++ t105)) else (none))) else ((num_written.f (IntKind.u64.wrap (a0)) 10).bind fun t106 => (some t106))
set_option maxHeartbeats 8000000 in
set_option maxRecDepth 100000 in
theorem num_Decimal.calls (a0 : Int) (r : ByteArray) (w : World) (h : num_Decimal.f a0 = some r) :
    Calls Tryz.prog 70 #[.int .i64 a0] w fun e w' => e = .returned (.string r) ∧ Below w.heap.size w w' := by
  have HB := Aside0.mk (Below.refl w.heap.size w)
  have H : (if a0 < 0 then ((num_written.f (IntKind.u64.wrap (-(IntKind.u64.wrap (a0)))) 10).bind fun t105 => (if 1 + t105.size ≤ 9223372036854775807 then (some ((⟨#[45]⟩ : ByteArray) ++ t105)) else (none))) else ((num_written.f (IntKind.u64.wrap (a0)) 10).bind fun t106 => (some t106))) = some r := h
  clear h
  by_cases c2 : a0 < 0
  · rw [if_pos c2] at H
    have c2b0 : decide (a0 < 0) = true := decide_eq_true c2
    clear c2
    replace H := Option.bind_eq_some_iff.mp H
    obtain ⟨t105, A30, H⟩ := H
    replace H : (if 1 + t105.size ≤ 9223372036854775807 then (some ((⟨#[45]⟩ : ByteArray) ++ t105)) else (none)) = some r := H
    have A3 := Aside0.mk A30
    clear A30
    by_cases c4 : 1 + t105.size ≤ 9223372036854775807
    · rw [if_pos c4] at H
      have c4b0 := eq_true c4
      have c4b1 : decide (1 + t105.size ≤ 9223372036854775807) = true := decide_eq_true c4
      try have c4b2 : (9223372036854775807 < 1 + t105.size) = False := eq_false (Nat.not_lt.2 c4)
      obtain rfl := Option.some.inj H
      go_enter Tryz.func70, Tryz.ntmps70
      go_wp2_with (first | ((with_reducible refine gate_callee (f := 110) rfl ?_); refine goesL_ (some 8) rfl rfl Tryz.func110 (by kernel_rfl) rfl #[.int .u64 (IntKind.u64.wrap (-(IntKind.u64.wrap (a0)))), .int .i64 10] rfl (by (try simp only [List.map_toArray, List.map_cons, List.map_nil]); first | done | rfl | (simp only [List.length_drop, List.length_take]; rfl)) ?_; (with_reducible refine (num_written.calls (IntKind.u64.wrap (-(IntKind.u64.wrap (a0)))) 10 t105 _ A3.out).mono ?_); rintro e w5 ⟨rfl, hb⟩; refine ⟨_, rfl, ?_⟩; have n0_ := Aside0.mk (below_step (by repeat (first | (with_reducible first | exact HB.out | apply below_alloc | apply pw_below_drewN | apply below_drew1) | exact HB.out)) hb); clear HB; have HB := n0_; clear n0_; (try clear hb); (try clear hb2); (try clear hk); (try clear hi)))
      go_ret
      exact ⟨by first | rfl | (simp [errW_none, errW_some] <;> rfl) | (simp [*, errW_none, errW_some] <;> rfl), by repeat (first | (with_reducible first | exact HB.out | apply below_alloc | apply pw_below_drewN | apply below_drew1) | exact HB.out)⟩
    · rw [if_neg c4] at H
      exact absurd H (by simp)
  · rw [if_neg c2] at H
    have c2b0 : decide (a0 < 0) = false := decide_eq_false c2
    clear c2
    replace H := Option.bind_eq_some_iff.mp H
    obtain ⟨t106, A60, H⟩ := H
    replace H : (some t106) = some r := H
    have A6 := Aside0.mk A60
    clear A60
    obtain rfl := Option.some.inj H
    go_enter Tryz.func70, Tryz.ntmps70
    go_wp2_with (first | ((with_reducible refine gate_callee (f := 110) rfl ?_); refine goesL_ (some 12) rfl rfl Tryz.func110 (by kernel_rfl) rfl #[.int .u64 (IntKind.u64.wrap (a0)), .int .i64 10] rfl (by (try simp only [List.map_toArray, List.map_cons, List.map_nil]); first | done | rfl | (simp only [List.length_drop, List.length_take]; rfl)) ?_; (with_reducible refine (num_written.calls (IntKind.u64.wrap (a0)) 10 t106 _ A6.out).mono ?_); rintro e w7 ⟨rfl, hb⟩; refine ⟨_, rfl, ?_⟩; have n0_ := Aside0.mk (below_step (by repeat (first | (with_reducible first | exact HB.out | apply below_alloc | apply pw_below_drewN | apply below_drew1) | exact HB.out)) hb); clear HB; have HB := n0_; clear n0_; (try clear hb); (try clear hb2); (try clear hk); (try clear hi)))
    go_ret
    exact ⟨by first | rfl | (simp [errW_none, errW_some] <;> rfl) | (simp [*, errW_none, errW_some] <;> rfl), by repeat (first | (with_reducible first | exact HB.out | apply below_alloc | apply pw_below_drewN | apply below_drew1) | exact HB.out)⟩
mutual
def shell_wants.j0 : Nat → ByteArray → Bool → Option (Int)
  | 0, _, _ => none
  | k + 1, x3, x4 => if x4 = true then (some 0) else (if x3.toList = ([104, 101, 97, 100] : List UInt8) then (shell_wants.j1 k x3 (x3.toList == ([104, 101, 97, 100] : List UInt8))) else (shell_wants.j1 k x3 (x3.toList == ([115, 107, 105, 112] : List UInt8))))
def shell_wants.j1 : Nat → ByteArray → Bool → Option (Int)
  | 0, _, _ => none
  | k + 1, x3, x11 => if x11 = true then (some 1) else (if x3.toList = ([103, 114, 101, 112] : List UInt8) then (some 2) else (some 3))
end
def shell_wants.f (k : Nat) (a0 : ByteArray) : Option (Int) := if a0.toList = ([99, 97, 116] : List UInt8) then (shell_wants.j0 k a0 (a0.toList == ([99, 97, 116] : List UInt8))) else (if a0.toList = ([117, 112, 112, 101, 114] : List UInt8) then (shell_wants.j0 k a0 (a0.toList == ([117, 112, 112, 101, 114] : List UInt8))) else (if a0.toList = ([114, 101, 118] : List UInt8) then (shell_wants.j0 k a0 (a0.toList == ([114, 101, 118] : List UInt8))) else (if a0.toList = ([110, 117, 109] : List UInt8) then (shell_wants.j0 k a0 (a0.toList == ([110, 117, 109] : List UInt8))) else (if a0.toList = ([117, 110, 105, 113] : List UInt8) then (shell_wants.j0 k a0 (a0.toList == ([117, 110, 105, 113] : List UInt8))) else (shell_wants.j0 k a0 (a0.toList == ([119, 99] : List UInt8)))))))
theorem shell_wants.mono_l : ∀ k, (∀ y0 y1, LeO (shell_wants.j0 k y0 y1) (shell_wants.j0 (k + 1) y0 y1)) ∧ (∀ y0 y1, LeO (shell_wants.j1 k y0 y1) (shell_wants.j1 (k + 1) y0 y1))
  | 0 => ⟨fun _ _ r h => by simp [shell_wants.j0] at h, fun _ _ r h => by simp [shell_wants.j1] at h⟩
  | k + 1 => by
    obtain ⟨ih0, ih1⟩ := shell_wants.mono_l k
    refine ⟨?_, ?_⟩
    · intro y0 y1
      unfold shell_wants.j0
      repeat' first
      | (with_reducible exact ih0 _ _)
      | (with_reducible exact ih1 _ _)
      | (with_reducible exact LeO.refl _)
      | (with_reducible exact LeO.none _)
      | (with_reducible refine LeO.ite ?_ ?_)
      | (with_reducible refine LeO.bind ?_ (fun _ => ?_))
      | exact ih0 _ _
      | exact ih1 _ _
      | exact LeO.none _
      | refine LeO.ite ?_ ?_
      | refine LeO.bind ?_ (fun _ => ?_)
    · intro y0 y1
      unfold shell_wants.j1
      repeat' first
      | (with_reducible exact ih0 _ _)
      | (with_reducible exact ih1 _ _)
      | (with_reducible exact LeO.refl _)
      | (with_reducible exact LeO.none _)
      | (with_reducible refine LeO.ite ?_ ?_)
      | (with_reducible refine LeO.bind ?_ (fun _ => ?_))
      | exact ih0 _ _
      | exact ih1 _ _
      | exact LeO.none _
      | refine LeO.ite ?_ ?_
      | refine LeO.bind ?_ (fun _ => ?_)
theorem shell_wants.mono : ∀ a0 k, LeO (shell_wants.f k a0) (shell_wants.f (k + 1) a0) := by
  intro a0 k
  obtain ⟨ih0, ih1⟩ := shell_wants.mono_l k
  unfold shell_wants.f
  repeat' first
      | (with_reducible exact ih0 _ _)
      | (with_reducible exact ih1 _ _)
      | (with_reducible exact LeO.refl _)
      | (with_reducible exact LeO.none _)
      | (with_reducible refine LeO.ite ?_ ?_)
      | (with_reducible refine LeO.bind ?_ (fun _ => ?_))
      | exact ih0 _ _
      | exact ih1 _ _
      | exact LeO.none _
      | refine LeO.ite ?_ ?_
      | refine LeO.bind ?_ (fun _ => ?_)
set_option maxHeartbeats 8000000 in
set_option maxRecDepth 100000 in
theorem shell_wants.calls (k : Nat) (a0 : ByteArray) (r : Int) (w : World) (h : shell_wants.f k a0 = some r) :
    Calls Tryz.prog 69 #[.string a0] w fun e w' => e = .returned (.int .i64 r) ∧ Drawn0 w w' := by
  have H : (if a0.toList = ([99, 97, 116] : List UInt8) then (shell_wants.j0 k a0 (a0.toList == ([99, 97, 116] : List UInt8))) else (if a0.toList = ([117, 112, 112, 101, 114] : List UInt8) then (shell_wants.j0 k a0 (a0.toList == ([117, 112, 112, 101, 114] : List UInt8))) else (if a0.toList = ([114, 101, 118] : List UInt8) then (shell_wants.j0 k a0 (a0.toList == ([114, 101, 118] : List UInt8))) else (if a0.toList = ([110, 117, 109] : List UInt8) then (shell_wants.j0 k a0 (a0.toList == ([110, 117, 109] : List UInt8))) else (if a0.toList = ([117, 110, 105, 113] : List UInt8) then (shell_wants.j0 k a0 (a0.toList == ([117, 110, 105, 113] : List UInt8))) else (shell_wants.j0 k a0 (a0.toList == ([119, 99] : List UInt8)))))))) = some r := h
  clear h
  have HC2 := Aside0.mk H
  clear H
  go_enter Tryz.func69, Tryz.ntmps69
  go_upto_if 4 with (fail)
  go_cut [4] (fun v4 wc => ∃ (kq : Nat) (x4_1 : Bool), v4 = .bool x4_1 ∧ Aside0 (shell_wants.j0 kq a0 x4_1 = some r) ∧ Aside0 (kq ≤ k) ∧ Drawn0 w wc)
  case first =>
    have H := HC2.out
    clear HC2
    by_cases c3 : a0.toList = ([99, 97, 116] : List UInt8)
    · rw [if_pos c3] at H
      have c3b0 : (a0.toList == ([99, 97, 116] : List UInt8)) = true := beq_iff_eq.mpr c3
      have c3b1 : (a0.toList != ([99, 97, 116] : List UInt8)) = false := bne_eq_false_iff_eq.mpr c3
      clear c3
      (first | rw [c3b0] | (simp only [i64_w, i32_w]; rw [c3b0]) | skip)
      have H' := Aside0.mk H
      clear H
      go_wp2
      go_meet
      case rel => exact ⟨_, ((a0.toList == ([99, 97, 116] : List UInt8))), (by first | rfl | (simp; done) | (simp [*]; done)), H', ⟨by first | omega | exact Nat.le_refl _⟩, by repeat (first | exact Drawn0.refl _ | apply Drawn0.step)⟩
    · rw [if_neg c3] at H
      have c3b0 : (a0.toList == ([99, 97, 116] : List UInt8)) = false := beq_eq_false_iff_ne.mpr c3
      have c3b1 : (a0.toList != ([99, 97, 116] : List UInt8)) = true := bne_iff_ne.mpr c3
      (first | rw [c3b0] | (simp only [i64_w, i32_w]; rw [c3b0]) | skip)
      by_cases c4 : a0.toList = ([117, 112, 112, 101, 114] : List UInt8)
      · rw [if_pos c4] at H
        have c4b0 : (a0.toList == ([117, 112, 112, 101, 114] : List UInt8)) = true := beq_iff_eq.mpr c4
        have c4b1 : (a0.toList != ([117, 112, 112, 101, 114] : List UInt8)) = false := bne_eq_false_iff_eq.mpr c4
        clear c4
        have H' := Aside0.mk H
        clear H
        go_wp2
        go_meet
        case rel => exact ⟨_, ((a0.toList == ([117, 112, 112, 101, 114] : List UInt8))), (by first | rfl | (simp; done) | (simp [*]; done)), H', ⟨by first | omega | exact Nat.le_refl _⟩, by repeat (first | exact Drawn0.refl _ | apply Drawn0.step)⟩
      · rw [if_neg c4] at H
        have c4b0 : (a0.toList == ([117, 112, 112, 101, 114] : List UInt8)) = false := beq_eq_false_iff_ne.mpr c4
        have c4b1 : (a0.toList != ([117, 112, 112, 101, 114] : List UInt8)) = true := bne_iff_ne.mpr c4
        by_cases c5 : a0.toList = ([114, 101, 118] : List UInt8)
        · rw [if_pos c5] at H
          have c5b0 : (a0.toList == ([114, 101, 118] : List UInt8)) = true := beq_iff_eq.mpr c5
          have c5b1 : (a0.toList != ([114, 101, 118] : List UInt8)) = false := bne_eq_false_iff_eq.mpr c5
          clear c5
          have H' := Aside0.mk H
          clear H
          go_wp2
          go_meet
          case rel => exact ⟨_, ((a0.toList == ([114, 101, 118] : List UInt8))), (by first | rfl | (simp; done) | (simp [*]; done)), H', ⟨by first | omega | exact Nat.le_refl _⟩, by repeat (first | exact Drawn0.refl _ | apply Drawn0.step)⟩
        · rw [if_neg c5] at H
          have c5b0 : (a0.toList == ([114, 101, 118] : List UInt8)) = false := beq_eq_false_iff_ne.mpr c5
          have c5b1 : (a0.toList != ([114, 101, 118] : List UInt8)) = true := bne_iff_ne.mpr c5
          by_cases c6 : a0.toList = ([110, 117, 109] : List UInt8)
          · rw [if_pos c6] at H
            have c6b0 : (a0.toList == ([110, 117, 109] : List UInt8)) = true := beq_iff_eq.mpr c6
            have c6b1 : (a0.toList != ([110, 117, 109] : List UInt8)) = false := bne_eq_false_iff_eq.mpr c6
            clear c6
            have H' := Aside0.mk H
            clear H
            go_wp2
            go_meet
            case rel => exact ⟨_, ((a0.toList == ([110, 117, 109] : List UInt8))), (by first | rfl | (simp; done) | (simp [*]; done)), H', ⟨by first | omega | exact Nat.le_refl _⟩, by repeat (first | exact Drawn0.refl _ | apply Drawn0.step)⟩
          · rw [if_neg c6] at H
            have c6b0 : (a0.toList == ([110, 117, 109] : List UInt8)) = false := beq_eq_false_iff_ne.mpr c6
            have c6b1 : (a0.toList != ([110, 117, 109] : List UInt8)) = true := bne_iff_ne.mpr c6
            by_cases c7 : a0.toList = ([117, 110, 105, 113] : List UInt8)
            · rw [if_pos c7] at H
              have c7b0 : (a0.toList == ([117, 110, 105, 113] : List UInt8)) = true := beq_iff_eq.mpr c7
              have c7b1 : (a0.toList != ([117, 110, 105, 113] : List UInt8)) = false := bne_eq_false_iff_eq.mpr c7
              clear c7
              have H' := Aside0.mk H
              clear H
              go_wp2
              go_meet
              case rel => exact ⟨_, ((a0.toList == ([117, 110, 105, 113] : List UInt8))), (by first | rfl | (simp; done) | (simp [*]; done)), H', ⟨by first | omega | exact Nat.le_refl _⟩, by repeat (first | exact Drawn0.refl _ | apply Drawn0.step)⟩
            · rw [if_neg c7] at H
              have c7b0 : (a0.toList == ([117, 110, 105, 113] : List UInt8)) = false := beq_eq_false_iff_ne.mpr c7
              have c7b1 : (a0.toList != ([117, 110, 105, 113] : List UInt8)) = true := bne_iff_ne.mpr c7
              have H' := Aside0.mk H
              clear H
              go_wp2
              go_meet
              case rel => exact ⟨_, ((a0.toList == ([119, 99] : List UInt8))), (by first | rfl | (simp; done) | (simp [*]; done)), H', ⟨by first | omega | exact Nat.le_refl _⟩, by repeat (first | exact Drawn0.refl _ | apply Drawn0.step)⟩
  case rest =>
    clear HC2
    try clear p2
    try clear c3
    try clear c3b0
    try clear c3b1
    try clear c4
    try clear c4b0
    try clear c4b1
    try clear c5
    try clear c5b0
    try clear c5b1
    try clear c6
    try clear c6b0
    try clear c6b1
    try clear c7
    try clear c7b0
    try clear c7b1
    obtain ⟨kq, x4_1, rfl, HA, HJ1, ⟨mc1, rfl⟩⟩ := hcut
    cases kq with
    | zero => exact absurd HA.out (by simp [shell_wants.j0])
    | succ kj1 =>
      have H := HA.out
      clear HA
      simp only [shell_wants.j0] at H
      by_cases c8 : x4_1 = true
      · subst c8
        have H1 : (some 0) = some r := by rw [if_pos rfl] at H; exact H
        clear H
        have H := H1
        clear H1
        obtain rfl := Option.some.inj H
        go_wp2
        go_ret
        exact ⟨by first | rfl | (simp; done) | (simp [*]; done), by repeat (first | exact Drawn0.refl _ | apply Drawn0.step)⟩
      · replace c8 := Bool.eq_false_iff.mpr c8
        subst c8
        have H1 : (if a0.toList = ([104, 101, 97, 100] : List UInt8) then (shell_wants.j1 kj1 a0 (a0.toList == ([104, 101, 97, 100] : List UInt8))) else (shell_wants.j1 kj1 a0 (a0.toList == ([115, 107, 105, 112] : List UInt8)))) = some r := by rw [if_neg (show ¬ (false = true) by decide)] at H; exact H
        clear H
        have H := H1
        clear H1
        have HC9 := Aside0.mk H
        clear H
        go_upto_if 11 with (fail)
        go_cut [11] (fun v11 wc => ∃ (kq : Nat) (x11_8 : Bool), v11 = .bool x11_8 ∧ Aside0 (shell_wants.j1 kq a0 x11_8 = some r) ∧ Aside0 (kq ≤ kj1) ∧ Drawn0 w wc)
        case first =>
          have H := HC9.out
          clear HC9
          by_cases c10 : a0.toList = ([104, 101, 97, 100] : List UInt8)
          · rw [if_pos c10] at H
            have c10b0 : (a0.toList == ([104, 101, 97, 100] : List UInt8)) = true := beq_iff_eq.mpr c10
            have c10b1 : (a0.toList != ([104, 101, 97, 100] : List UInt8)) = false := bne_eq_false_iff_eq.mpr c10
            clear c10
            (first | rw [c10b0] | (simp only [i64_w, i32_w]; rw [c10b0]) | skip)
            have H' := Aside0.mk H
            clear H
            go_wp2
            go_meet
            case rel => exact ⟨_, ((a0.toList == ([104, 101, 97, 100] : List UInt8))), (by first | rfl | (simp; done) | (simp [*]; done)), H', ⟨by have := HJ1.out; first | omega | exact Nat.le_refl _⟩, by repeat (first | exact Drawn0.refl _ | apply Drawn0.step)⟩
          · rw [if_neg c10] at H
            have c10b0 : (a0.toList == ([104, 101, 97, 100] : List UInt8)) = false := beq_eq_false_iff_ne.mpr c10
            have c10b1 : (a0.toList != ([104, 101, 97, 100] : List UInt8)) = true := bne_iff_ne.mpr c10
            (first | rw [c10b0] | (simp only [i64_w, i32_w]; rw [c10b0]) | skip)
            have H' := Aside0.mk H
            clear H
            go_wp2
            go_meet
            case rel => exact ⟨_, ((a0.toList == ([115, 107, 105, 112] : List UInt8))), (by first | rfl | (simp; done) | (simp [*]; done)), H', ⟨by have := HJ1.out; first | omega | exact Nat.le_refl _⟩, by repeat (first | exact Drawn0.refl _ | apply Drawn0.step)⟩
        case rest =>
          clear HC9
          try clear c1
          try clear p2
          try clear c3
          try clear c3b0
          try clear c3b1
          try clear c4
          try clear c4b0
          try clear c4b1
          try clear c5
          try clear c5b0
          try clear c5b1
          try clear c6
          try clear c6b0
          try clear c6b1
          try clear c7
          try clear c7b0
          try clear c7b1
          try clear c8
          try clear c10
          try clear c10b0
          try clear c10b1
          try clear p2
          obtain ⟨kq, x11_8, rfl, HA, HJ8, ⟨mc8, rfl⟩⟩ := hcut
          cases kq with
          | zero => exact absurd HA.out (by simp [shell_wants.j1])
          | succ kj8 =>
            have H := HA.out
            clear HA
            simp only [shell_wants.j1] at H
            by_cases c11 : x11_8 = true
            · subst c11
              have H1 : (some 1) = some r := by rw [if_pos rfl] at H; exact H
              clear H
              have H := H1
              clear H1
              obtain rfl := Option.some.inj H
              go_wp2
              go_ret
              exact ⟨by first | rfl | (simp; done) | (simp [*]; done), by repeat (first | exact Drawn0.refl _ | apply Drawn0.step)⟩
            · replace c11 := Bool.eq_false_iff.mpr c11
              subst c11
              have H1 : (if a0.toList = ([103, 114, 101, 112] : List UInt8) then (some 2) else (some 3)) = some r := by rw [if_neg (show ¬ (false = true) by decide)] at H; exact H
              clear H
              have H := H1
              clear H1
              by_cases c12 : a0.toList = ([103, 114, 101, 112] : List UInt8)
              · rw [if_pos c12] at H
                have c12b0 : (a0.toList == ([103, 114, 101, 112] : List UInt8)) = true := beq_iff_eq.mpr c12
                have c12b1 : (a0.toList != ([103, 114, 101, 112] : List UInt8)) = false := bne_eq_false_iff_eq.mpr c12
                clear c12
                obtain rfl := Option.some.inj H
                go_wp2
                go_ret
                exact ⟨by first | rfl | (simp; done) | (simp [*]; done), by repeat (first | exact Drawn0.refl _ | apply Drawn0.step)⟩
              · rw [if_neg c12] at H
                have c12b0 : (a0.toList == ([103, 114, 101, 112] : List UInt8)) = false := beq_eq_false_iff_ne.mpr c12
                have c12b1 : (a0.toList != ([103, 114, 101, 112] : List UInt8)) = true := bne_iff_ne.mpr c12
                obtain rfl := Option.some.inj H
                go_wp2
                go_ret
                exact ⟨by first | rfl | (simp; done) | (simp [*]; done), by repeat (first | exact Drawn0.refl _ | apply Drawn0.step)⟩
def shell_Tool_may.f (k : Nat) (a0_0 : ByteArray) (a0_1 : Int) (a0_2 : ByteArray) : Option (Bool) := (shell_wants.f k a0_0).bind fun t108 => (if t108 = 0 then (if a0_1 = 0 then (some (a0_2.toList == ([] : List UInt8))) else (some false)) else (if t108 = 1 then (if a0_1 ≥ 0 then (if a0_1 ≤ 999999 then (some (a0_2.toList == ([] : List UInt8))) else (some false)) else (some false)) else (if t108 = 2 then (if a0_1 = 0 then ((shell_named.f a0_2).bind fun t109 => (some t109)) else (some false)) else (some false))))
theorem shell_Tool_may.mono : ∀ a0 a1 a2 k, LeO (shell_Tool_may.f k a0 a1 a2) (shell_Tool_may.f (k + 1) a0 a1 a2) := by
  intro a0 a1 a2 k
  unfold shell_Tool_may.f
  repeat' first
      | (with_reducible exact shell_wants.mono _ _)
      | (with_reducible exact LeO.refl _)
      | (with_reducible exact LeO.none _)
      | (with_reducible refine LeO.ite ?_ ?_)
      | (with_reducible refine LeO.bind ?_ (fun _ => ?_))
      | exact shell_wants.mono _ _
      | exact LeO.none _
      | refine LeO.ite ?_ ?_
      | refine LeO.bind ?_ (fun _ => ?_)
set_option maxHeartbeats 8000000 in
set_option maxRecDepth 100000 in
theorem shell_Tool_may.calls (k : Nat) (a0_0 : ByteArray) (a0_1 : Int) (a0_2 : ByteArray) (r : Bool) (w : World) (h : shell_Tool_may.f k a0_0 a0_1 a0_2 = some r) :
    Calls Tryz.prog 44 #[.agg #[.string a0_0, .int .i64 a0_1, .string a0_2]] w fun e w' => e = .returned (.bool r) ∧ Below w.heap.size w w' := by
  have hu74 := Tryz.underlying74
  have HB := Aside0.mk (Below.refl w.heap.size w)
  have H : ((shell_wants.f k a0_0).bind fun t108 => (if t108 = 0 then (if a0_1 = 0 then (some (a0_2.toList == ([] : List UInt8))) else (some false)) else (if t108 = 1 then (if a0_1 ≥ 0 then (if a0_1 ≤ 999999 then (some (a0_2.toList == ([] : List UInt8))) else (some false)) else (some false)) else (if t108 = 2 then (if a0_1 = 0 then ((shell_named.f a0_2).bind fun t109 => (some t109)) else (some false)) else (some false))))) = some r := h
  clear h
  replace H := Option.bind_eq_some_iff.mp H
  obtain ⟨t108, A20, H⟩ := H
  replace H : (if t108 = 0 then (if a0_1 = 0 then (some (a0_2.toList == ([] : List UInt8))) else (some false)) else (if t108 = 1 then (if a0_1 ≥ 0 then (if a0_1 ≤ 999999 then (some (a0_2.toList == ([] : List UInt8))) else (some false)) else (some false)) else (if t108 = 2 then (if a0_1 = 0 then ((shell_named.f a0_2).bind fun t109 => (some t109)) else (some false)) else (some false)))) = some r := H
  have A2 := Aside0.mk A20
  clear A20
  by_cases c3 : t108 = 0
  · rw [if_pos c3] at H
    have c3b0 : (t108 == 0) = true := beq_iff_eq.mpr c3
    have c3b1 : (t108 != 0) = false := bne_eq_false_iff_eq.mpr c3
    clear c3
    by_cases c4 : a0_1 = 0
    · rw [if_pos c4] at H
      have c4b0 : (a0_1 == 0) = true := beq_iff_eq.mpr c4
      have c4b1 : (a0_1 != 0) = false := bne_eq_false_iff_eq.mpr c4
      clear c4
      obtain rfl := Option.some.inj H
      go_enter Tryz.func44, Tryz.ntmps44
      go_wp2_with (first | ((with_reducible refine gate_dst (N := 1) rfl ?_); refine box_event ?hg (N := 1) ?hd (cs := #[.string a0_0, .int .i64 a0_1, .string a0_2]) (t := 74) ?hr ?_; (case hd => rfl); (case hg => rfl); (case hr => first | (go_simp; done) | (go_simp; rfl)); intro gb107 hg w5 hbox hb; have n0_ := Aside0.mk (below_step (by repeat (first | (with_reducible first | exact HB.out | apply below_alloc | apply pw_below_drewN | apply below_drew1) | exact HB.out)) hb); have n1_ := Aside0.mk (hbox); have n2_ := Aside0.mk ((by rw [hg]; exact (below_size (by repeat (first | (with_reducible first | exact HB.out | apply below_alloc | apply pw_below_drewN | apply below_drew1) | exact HB.out))) : w.heap.size ≤ gb107)); have n3_ := Aside0.mk ((by rw [hg]; exact (below_size (by repeat (first | (with_reducible first | exact HB.out | apply below_alloc | apply pw_below_drewN | apply below_drew1) | exact HB.out))) : w.heap.size ≤ gb107)); clear HB; have HB := n0_; have BK107 := n1_; have GW107 := n2_; have GE107 := n3_; clear n0_ n1_ n2_ n3_; clear hb hbox hg; have hcz6_0 : w5.cell? ⟨gb107, 0, none⟩ = some (.string a0_0) := (blk_cell BK107.out 0).trans rfl; have hcz6_1 : w5.cell? ⟨gb107, 1, none⟩ = some (.int .i64 a0_1) := (blk_cell BK107.out 1).trans rfl; have hcz6_2 : w5.cell? ⟨gb107, 2, none⟩ = some (.string a0_2) := (blk_cell BK107.out 2).trans rfl; have hfz6_0 := blk_frozen BK107.out 0; have hfz6_1 := blk_frozen BK107.out 1; have hfz6_2 := blk_frozen BK107.out 2) | ((with_reducible refine gate_callee (f := 69) rfl ?_); refine goesL_ (some 5) rfl rfl Tryz.func69 (by kernel_rfl) rfl #[.string a0_0] rfl (by (try simp only [List.map_toArray, List.map_cons, List.map_nil]); first | done | rfl | (simp only [List.length_drop, List.length_take]; rfl)) ?_; (with_reducible refine (shell_wants.calls k a0_0 t108 _ A2.out).mono ?_); rintro e w' ⟨rfl, ⟨nd, rfl⟩⟩; refine ⟨_, rfl, ?_⟩))
      go_ret
      exact ⟨by first | rfl | (simp [errW_none, errW_some] <;> rfl) | (simp [*, errW_none, errW_some] <;> rfl), by repeat (first | (with_reducible first | exact HB.out | apply below_alloc | apply pw_below_drewN | apply below_drew1 | refine below_set ?_ GE107.out) | exact HB.out)⟩
    · rw [if_neg c4] at H
      have c4b0 : (a0_1 == 0) = false := beq_eq_false_iff_ne.mpr c4
      have c4b1 : (a0_1 != 0) = true := bne_iff_ne.mpr c4
      obtain rfl := Option.some.inj H
      go_enter Tryz.func44, Tryz.ntmps44
      go_wp2_with (first | ((with_reducible refine gate_dst (N := 1) rfl ?_); refine box_event ?hg (N := 1) ?hd (cs := #[.string a0_0, .int .i64 a0_1, .string a0_2]) (t := 74) ?hr ?_; (case hd => rfl); (case hg => rfl); (case hr => first | (go_simp; done) | (go_simp; rfl)); intro gb107 hg w7 hbox hb; have n0_ := Aside0.mk (below_step (by repeat (first | (with_reducible first | exact HB.out | apply below_alloc | apply pw_below_drewN | apply below_drew1) | exact HB.out)) hb); have n1_ := Aside0.mk (hbox); have n2_ := Aside0.mk ((by rw [hg]; exact (below_size (by repeat (first | (with_reducible first | exact HB.out | apply below_alloc | apply pw_below_drewN | apply below_drew1) | exact HB.out))) : w.heap.size ≤ gb107)); have n3_ := Aside0.mk ((by rw [hg]; exact (below_size (by repeat (first | (with_reducible first | exact HB.out | apply below_alloc | apply pw_below_drewN | apply below_drew1) | exact HB.out))) : w.heap.size ≤ gb107)); clear HB; have HB := n0_; have BK107 := n1_; have GW107 := n2_; have GE107 := n3_; clear n0_ n1_ n2_ n3_; clear hb hbox hg; have hcz8_0 : w7.cell? ⟨gb107, 0, none⟩ = some (.string a0_0) := (blk_cell BK107.out 0).trans rfl; have hcz8_1 : w7.cell? ⟨gb107, 1, none⟩ = some (.int .i64 a0_1) := (blk_cell BK107.out 1).trans rfl; have hcz8_2 : w7.cell? ⟨gb107, 2, none⟩ = some (.string a0_2) := (blk_cell BK107.out 2).trans rfl; have hfz8_0 := blk_frozen BK107.out 0; have hfz8_1 := blk_frozen BK107.out 1; have hfz8_2 := blk_frozen BK107.out 2) | ((with_reducible refine gate_callee (f := 69) rfl ?_); refine goesL_ (some 5) rfl rfl Tryz.func69 (by kernel_rfl) rfl #[.string a0_0] rfl (by (try simp only [List.map_toArray, List.map_cons, List.map_nil]); first | done | rfl | (simp only [List.length_drop, List.length_take]; rfl)) ?_; (with_reducible refine (shell_wants.calls k a0_0 t108 _ A2.out).mono ?_); rintro e w' ⟨rfl, ⟨nd, rfl⟩⟩; refine ⟨_, rfl, ?_⟩))
      go_ret
      exact ⟨by first | rfl | (simp [errW_none, errW_some] <;> rfl) | (simp [*, errW_none, errW_some] <;> rfl), by repeat (first | (with_reducible first | exact HB.out | apply below_alloc | apply pw_below_drewN | apply below_drew1 | refine below_set ?_ GE107.out) | exact HB.out)⟩
  · rw [if_neg c3] at H
    have c3b0 : (t108 == 0) = false := beq_eq_false_iff_ne.mpr c3
    have c3b1 : (t108 != 0) = true := bne_iff_ne.mpr c3
    by_cases c9 : t108 = 1
    · rw [if_pos c9] at H
      have c9b0 : (t108 == 1) = true := beq_iff_eq.mpr c9
      have c9b1 : (t108 != 1) = false := bne_eq_false_iff_eq.mpr c9
      clear c9
      by_cases c10 : a0_1 ≥ 0
      · rw [if_pos c10] at H
        have c10b0 : decide (0 ≤ a0_1) = true := decide_eq_true c10
        clear c10
        by_cases c11 : a0_1 ≤ 999999
        · rw [if_pos c11] at H
          have c11b0 : decide (a0_1 ≤ 999999) = true := decide_eq_true c11
          clear c11
          obtain rfl := Option.some.inj H
          go_enter Tryz.func44, Tryz.ntmps44
          go_wp2_with (first | ((with_reducible refine gate_dst (N := 1) rfl ?_); refine box_event ?hg (N := 1) ?hd (cs := #[.string a0_0, .int .i64 a0_1, .string a0_2]) (t := 74) ?hr ?_; (case hd => rfl); (case hg => rfl); (case hr => first | (go_simp; done) | (go_simp; rfl)); intro gb107 hg w12 hbox hb; have n0_ := Aside0.mk (below_step (by repeat (first | (with_reducible first | exact HB.out | apply below_alloc | apply pw_below_drewN | apply below_drew1) | exact HB.out)) hb); have n1_ := Aside0.mk (hbox); have n2_ := Aside0.mk ((by rw [hg]; exact (below_size (by repeat (first | (with_reducible first | exact HB.out | apply below_alloc | apply pw_below_drewN | apply below_drew1) | exact HB.out))) : w.heap.size ≤ gb107)); have n3_ := Aside0.mk ((by rw [hg]; exact (below_size (by repeat (first | (with_reducible first | exact HB.out | apply below_alloc | apply pw_below_drewN | apply below_drew1) | exact HB.out))) : w.heap.size ≤ gb107)); clear HB; have HB := n0_; have BK107 := n1_; have GW107 := n2_; have GE107 := n3_; clear n0_ n1_ n2_ n3_; clear hb hbox hg; have hcz13_0 : w12.cell? ⟨gb107, 0, none⟩ = some (.string a0_0) := (blk_cell BK107.out 0).trans rfl; have hcz13_1 : w12.cell? ⟨gb107, 1, none⟩ = some (.int .i64 a0_1) := (blk_cell BK107.out 1).trans rfl; have hcz13_2 : w12.cell? ⟨gb107, 2, none⟩ = some (.string a0_2) := (blk_cell BK107.out 2).trans rfl; have hfz13_0 := blk_frozen BK107.out 0; have hfz13_1 := blk_frozen BK107.out 1; have hfz13_2 := blk_frozen BK107.out 2) | ((with_reducible refine gate_callee (f := 69) rfl ?_); refine goesL_ (some 5) rfl rfl Tryz.func69 (by kernel_rfl) rfl #[.string a0_0] rfl (by (try simp only [List.map_toArray, List.map_cons, List.map_nil]); first | done | rfl | (simp only [List.length_drop, List.length_take]; rfl)) ?_; (with_reducible refine (shell_wants.calls k a0_0 t108 _ A2.out).mono ?_); rintro e w' ⟨rfl, ⟨nd, rfl⟩⟩; refine ⟨_, rfl, ?_⟩))
          go_ret
          exact ⟨by first | rfl | (simp [errW_none, errW_some] <;> rfl) | (simp [*, errW_none, errW_some] <;> rfl), by repeat (first | (with_reducible first | exact HB.out | apply below_alloc | apply pw_below_drewN | apply below_drew1 | refine below_set ?_ GE107.out) | exact HB.out)⟩
        · rw [if_neg c11] at H
          have c11b0 : decide (a0_1 ≤ 999999) = false := decide_eq_false c11
          clear c11
          obtain rfl := Option.some.inj H
          go_enter Tryz.func44, Tryz.ntmps44
          go_wp2_with (first | ((with_reducible refine gate_dst (N := 1) rfl ?_); refine box_event ?hg (N := 1) ?hd (cs := #[.string a0_0, .int .i64 a0_1, .string a0_2]) (t := 74) ?hr ?_; (case hd => rfl); (case hg => rfl); (case hr => first | (go_simp; done) | (go_simp; rfl)); intro gb107 hg w14 hbox hb; have n0_ := Aside0.mk (below_step (by repeat (first | (with_reducible first | exact HB.out | apply below_alloc | apply pw_below_drewN | apply below_drew1) | exact HB.out)) hb); have n1_ := Aside0.mk (hbox); have n2_ := Aside0.mk ((by rw [hg]; exact (below_size (by repeat (first | (with_reducible first | exact HB.out | apply below_alloc | apply pw_below_drewN | apply below_drew1) | exact HB.out))) : w.heap.size ≤ gb107)); have n3_ := Aside0.mk ((by rw [hg]; exact (below_size (by repeat (first | (with_reducible first | exact HB.out | apply below_alloc | apply pw_below_drewN | apply below_drew1) | exact HB.out))) : w.heap.size ≤ gb107)); clear HB; have HB := n0_; have BK107 := n1_; have GW107 := n2_; have GE107 := n3_; clear n0_ n1_ n2_ n3_; clear hb hbox hg; have hcz15_0 : w14.cell? ⟨gb107, 0, none⟩ = some (.string a0_0) := (blk_cell BK107.out 0).trans rfl; have hcz15_1 : w14.cell? ⟨gb107, 1, none⟩ = some (.int .i64 a0_1) := (blk_cell BK107.out 1).trans rfl; have hcz15_2 : w14.cell? ⟨gb107, 2, none⟩ = some (.string a0_2) := (blk_cell BK107.out 2).trans rfl; have hfz15_0 := blk_frozen BK107.out 0; have hfz15_1 := blk_frozen BK107.out 1; have hfz15_2 := blk_frozen BK107.out 2) | ((with_reducible refine gate_callee (f := 69) rfl ?_); refine goesL_ (some 5) rfl rfl Tryz.func69 (by kernel_rfl) rfl #[.string a0_0] rfl (by (try simp only [List.map_toArray, List.map_cons, List.map_nil]); first | done | rfl | (simp only [List.length_drop, List.length_take]; rfl)) ?_; (with_reducible refine (shell_wants.calls k a0_0 t108 _ A2.out).mono ?_); rintro e w' ⟨rfl, ⟨nd, rfl⟩⟩; refine ⟨_, rfl, ?_⟩))
          go_ret
          exact ⟨by first | rfl | (simp [errW_none, errW_some] <;> rfl) | (simp [*, errW_none, errW_some] <;> rfl), by repeat (first | (with_reducible first | exact HB.out | apply below_alloc | apply pw_below_drewN | apply below_drew1 | refine below_set ?_ GE107.out) | exact HB.out)⟩
      · rw [if_neg c10] at H
        have c10b0 : decide (0 ≤ a0_1) = false := decide_eq_false c10
        clear c10
        obtain rfl := Option.some.inj H
        go_enter Tryz.func44, Tryz.ntmps44
        go_wp2_with (first | ((with_reducible refine gate_dst (N := 1) rfl ?_); refine box_event ?hg (N := 1) ?hd (cs := #[.string a0_0, .int .i64 a0_1, .string a0_2]) (t := 74) ?hr ?_; (case hd => rfl); (case hg => rfl); (case hr => first | (go_simp; done) | (go_simp; rfl)); intro gb107 hg w16 hbox hb; have n0_ := Aside0.mk (below_step (by repeat (first | (with_reducible first | exact HB.out | apply below_alloc | apply pw_below_drewN | apply below_drew1) | exact HB.out)) hb); have n1_ := Aside0.mk (hbox); have n2_ := Aside0.mk ((by rw [hg]; exact (below_size (by repeat (first | (with_reducible first | exact HB.out | apply below_alloc | apply pw_below_drewN | apply below_drew1) | exact HB.out))) : w.heap.size ≤ gb107)); have n3_ := Aside0.mk ((by rw [hg]; exact (below_size (by repeat (first | (with_reducible first | exact HB.out | apply below_alloc | apply pw_below_drewN | apply below_drew1) | exact HB.out))) : w.heap.size ≤ gb107)); clear HB; have HB := n0_; have BK107 := n1_; have GW107 := n2_; have GE107 := n3_; clear n0_ n1_ n2_ n3_; clear hb hbox hg; have hcz17_0 : w16.cell? ⟨gb107, 0, none⟩ = some (.string a0_0) := (blk_cell BK107.out 0).trans rfl; have hcz17_1 : w16.cell? ⟨gb107, 1, none⟩ = some (.int .i64 a0_1) := (blk_cell BK107.out 1).trans rfl; have hcz17_2 : w16.cell? ⟨gb107, 2, none⟩ = some (.string a0_2) := (blk_cell BK107.out 2).trans rfl; have hfz17_0 := blk_frozen BK107.out 0; have hfz17_1 := blk_frozen BK107.out 1; have hfz17_2 := blk_frozen BK107.out 2) | ((with_reducible refine gate_callee (f := 69) rfl ?_); refine goesL_ (some 5) rfl rfl Tryz.func69 (by kernel_rfl) rfl #[.string a0_0] rfl (by (try simp only [List.map_toArray, List.map_cons, List.map_nil]); first | done | rfl | (simp only [List.length_drop, List.length_take]; rfl)) ?_; (with_reducible refine (shell_wants.calls k a0_0 t108 _ A2.out).mono ?_); rintro e w' ⟨rfl, ⟨nd, rfl⟩⟩; refine ⟨_, rfl, ?_⟩))
        go_ret
        exact ⟨by first | rfl | (simp [errW_none, errW_some] <;> rfl) | (simp [*, errW_none, errW_some] <;> rfl), by repeat (first | (with_reducible first | exact HB.out | apply below_alloc | apply pw_below_drewN | apply below_drew1 | refine below_set ?_ GE107.out) | exact HB.out)⟩
    · rw [if_neg c9] at H
      have c9b0 : (t108 == 1) = false := beq_eq_false_iff_ne.mpr c9
      have c9b1 : (t108 != 1) = true := bne_iff_ne.mpr c9
      by_cases c18 : t108 = 2
      · rw [if_pos c18] at H
        have c18b0 : (t108 == 2) = true := beq_iff_eq.mpr c18
        have c18b1 : (t108 != 2) = false := bne_eq_false_iff_eq.mpr c18
        clear c18
        by_cases c19 : a0_1 = 0
        · rw [if_pos c19] at H
          have c19b0 : (a0_1 == 0) = true := beq_iff_eq.mpr c19
          have c19b1 : (a0_1 != 0) = false := bne_eq_false_iff_eq.mpr c19
          clear c19
          replace H := Option.bind_eq_some_iff.mp H
          obtain ⟨t109, A200, H⟩ := H
          replace H : (some t109) = some r := H
          have A20 := Aside0.mk A200
          clear A200
          obtain rfl := Option.some.inj H
          go_enter Tryz.func44, Tryz.ntmps44
          go_wp2_with (first | ((with_reducible refine gate_dst (N := 1) rfl ?_); refine box_event ?hg (N := 1) ?hd (cs := #[.string a0_0, .int .i64 a0_1, .string a0_2]) (t := 74) ?hr ?_; (case hd => rfl); (case hg => rfl); (case hr => first | (go_simp; done) | (go_simp; rfl)); intro gb107 hg w21 hbox hb; have n0_ := Aside0.mk (below_step (by repeat (first | (with_reducible first | exact HB.out | apply below_alloc | apply pw_below_drewN | apply below_drew1) | exact HB.out)) hb); have n1_ := Aside0.mk (hbox); have n2_ := Aside0.mk ((by rw [hg]; exact (below_size (by repeat (first | (with_reducible first | exact HB.out | apply below_alloc | apply pw_below_drewN | apply below_drew1) | exact HB.out))) : w.heap.size ≤ gb107)); have n3_ := Aside0.mk ((by rw [hg]; exact (below_size (by repeat (first | (with_reducible first | exact HB.out | apply below_alloc | apply pw_below_drewN | apply below_drew1) | exact HB.out))) : w.heap.size ≤ gb107)); clear HB; have HB := n0_; have BK107 := n1_; have GW107 := n2_; have GE107 := n3_; clear n0_ n1_ n2_ n3_; clear hb hbox hg; have hcz22_0 : w21.cell? ⟨gb107, 0, none⟩ = some (.string a0_0) := (blk_cell BK107.out 0).trans rfl; have hcz22_1 : w21.cell? ⟨gb107, 1, none⟩ = some (.int .i64 a0_1) := (blk_cell BK107.out 1).trans rfl; have hcz22_2 : w21.cell? ⟨gb107, 2, none⟩ = some (.string a0_2) := (blk_cell BK107.out 2).trans rfl; have hfz22_0 := blk_frozen BK107.out 0; have hfz22_1 := blk_frozen BK107.out 1; have hfz22_2 := blk_frozen BK107.out 2) | ((with_reducible refine gate_callee (f := 69) rfl ?_); refine goesL_ (some 5) rfl rfl Tryz.func69 (by kernel_rfl) rfl #[.string a0_0] rfl (by (try simp only [List.map_toArray, List.map_cons, List.map_nil]); first | done | rfl | (simp only [List.length_drop, List.length_take]; rfl)) ?_; (with_reducible refine (shell_wants.calls k a0_0 t108 _ A2.out).mono ?_); rintro e w' ⟨rfl, ⟨nd, rfl⟩⟩; refine ⟨_, rfl, ?_⟩) | (go_at_call 41; (with_reducible refine (shell_named.calls a0_2 t109 _ A20.out).mono ?_); rintro e w23 ⟨rfl, hb⟩; have n0_ := Aside0.mk (blk_below (g := gb107) (o := .cells #[.string a0_0, .int .i64 a0_1, .string a0_2] 74 (0, 0)) (by (with_reducible repeat (first | refine blk_drewN ?_ _ | refine blk_drew ?_ | refine blk_alloc ?_ _)); exact BK107.out) hb); have n1_ := Aside0.mk (below_step (by repeat (first | (with_reducible first | exact HB.out | apply below_alloc | apply pw_below_drewN | apply below_drew1 | refine below_set ?_ GE107.out) | exact HB.out)) hb); clear BK107; clear HB; have BK107 := n0_; have HB := n1_; clear n0_ n1_; (try clear hb); (try clear hb2); (try clear hk); (try clear hi)))
          go_ret
          exact ⟨by first | rfl | (simp [errW_none, errW_some] <;> rfl) | (simp [*, errW_none, errW_some] <;> rfl), by repeat (first | (with_reducible first | exact HB.out | apply below_alloc | apply pw_below_drewN | apply below_drew1 | refine below_set ?_ GE107.out) | exact HB.out)⟩
        · rw [if_neg c19] at H
          have c19b0 : (a0_1 == 0) = false := beq_eq_false_iff_ne.mpr c19
          have c19b1 : (a0_1 != 0) = true := bne_iff_ne.mpr c19
          obtain rfl := Option.some.inj H
          go_enter Tryz.func44, Tryz.ntmps44
          go_wp2_with (first | ((with_reducible refine gate_dst (N := 1) rfl ?_); refine box_event ?hg (N := 1) ?hd (cs := #[.string a0_0, .int .i64 a0_1, .string a0_2]) (t := 74) ?hr ?_; (case hd => rfl); (case hg => rfl); (case hr => first | (go_simp; done) | (go_simp; rfl)); intro gb107 hg w24 hbox hb; have n0_ := Aside0.mk (below_step (by repeat (first | (with_reducible first | exact HB.out | apply below_alloc | apply pw_below_drewN | apply below_drew1) | exact HB.out)) hb); have n1_ := Aside0.mk (hbox); have n2_ := Aside0.mk ((by rw [hg]; exact (below_size (by repeat (first | (with_reducible first | exact HB.out | apply below_alloc | apply pw_below_drewN | apply below_drew1) | exact HB.out))) : w.heap.size ≤ gb107)); have n3_ := Aside0.mk ((by rw [hg]; exact (below_size (by repeat (first | (with_reducible first | exact HB.out | apply below_alloc | apply pw_below_drewN | apply below_drew1) | exact HB.out))) : w.heap.size ≤ gb107)); clear HB; have HB := n0_; have BK107 := n1_; have GW107 := n2_; have GE107 := n3_; clear n0_ n1_ n2_ n3_; clear hb hbox hg; have hcz25_0 : w24.cell? ⟨gb107, 0, none⟩ = some (.string a0_0) := (blk_cell BK107.out 0).trans rfl; have hcz25_1 : w24.cell? ⟨gb107, 1, none⟩ = some (.int .i64 a0_1) := (blk_cell BK107.out 1).trans rfl; have hcz25_2 : w24.cell? ⟨gb107, 2, none⟩ = some (.string a0_2) := (blk_cell BK107.out 2).trans rfl; have hfz25_0 := blk_frozen BK107.out 0; have hfz25_1 := blk_frozen BK107.out 1; have hfz25_2 := blk_frozen BK107.out 2) | ((with_reducible refine gate_callee (f := 69) rfl ?_); refine goesL_ (some 5) rfl rfl Tryz.func69 (by kernel_rfl) rfl #[.string a0_0] rfl (by (try simp only [List.map_toArray, List.map_cons, List.map_nil]); first | done | rfl | (simp only [List.length_drop, List.length_take]; rfl)) ?_; (with_reducible refine (shell_wants.calls k a0_0 t108 _ A2.out).mono ?_); rintro e w' ⟨rfl, ⟨nd, rfl⟩⟩; refine ⟨_, rfl, ?_⟩))
          go_ret
          exact ⟨by first | rfl | (simp [errW_none, errW_some] <;> rfl) | (simp [*, errW_none, errW_some] <;> rfl), by repeat (first | (with_reducible first | exact HB.out | apply below_alloc | apply pw_below_drewN | apply below_drew1 | refine below_set ?_ GE107.out) | exact HB.out)⟩
      · rw [if_neg c18] at H
        have c18b0 : (t108 == 2) = false := beq_eq_false_iff_ne.mpr c18
        have c18b1 : (t108 != 2) = true := bne_iff_ne.mpr c18
        obtain rfl := Option.some.inj H
        go_enter Tryz.func44, Tryz.ntmps44
        go_wp2_with (first | ((with_reducible refine gate_dst (N := 1) rfl ?_); refine box_event ?hg (N := 1) ?hd (cs := #[.string a0_0, .int .i64 a0_1, .string a0_2]) (t := 74) ?hr ?_; (case hd => rfl); (case hg => rfl); (case hr => first | (go_simp; done) | (go_simp; rfl)); intro gb107 hg w26 hbox hb; have n0_ := Aside0.mk (below_step (by repeat (first | (with_reducible first | exact HB.out | apply below_alloc | apply pw_below_drewN | apply below_drew1) | exact HB.out)) hb); have n1_ := Aside0.mk (hbox); have n2_ := Aside0.mk ((by rw [hg]; exact (below_size (by repeat (first | (with_reducible first | exact HB.out | apply below_alloc | apply pw_below_drewN | apply below_drew1) | exact HB.out))) : w.heap.size ≤ gb107)); have n3_ := Aside0.mk ((by rw [hg]; exact (below_size (by repeat (first | (with_reducible first | exact HB.out | apply below_alloc | apply pw_below_drewN | apply below_drew1) | exact HB.out))) : w.heap.size ≤ gb107)); clear HB; have HB := n0_; have BK107 := n1_; have GW107 := n2_; have GE107 := n3_; clear n0_ n1_ n2_ n3_; clear hb hbox hg; have hcz27_0 : w26.cell? ⟨gb107, 0, none⟩ = some (.string a0_0) := (blk_cell BK107.out 0).trans rfl; have hcz27_1 : w26.cell? ⟨gb107, 1, none⟩ = some (.int .i64 a0_1) := (blk_cell BK107.out 1).trans rfl; have hcz27_2 : w26.cell? ⟨gb107, 2, none⟩ = some (.string a0_2) := (blk_cell BK107.out 2).trans rfl; have hfz27_0 := blk_frozen BK107.out 0; have hfz27_1 := blk_frozen BK107.out 1; have hfz27_2 := blk_frozen BK107.out 2) | ((with_reducible refine gate_callee (f := 69) rfl ?_); refine goesL_ (some 5) rfl rfl Tryz.func69 (by kernel_rfl) rfl #[.string a0_0] rfl (by (try simp only [List.map_toArray, List.map_cons, List.map_nil]); first | done | rfl | (simp only [List.length_drop, List.length_take]; rfl)) ?_; (with_reducible refine (shell_wants.calls k a0_0 t108 _ A2.out).mono ?_); rintro e w' ⟨rfl, ⟨nd, rfl⟩⟩; refine ⟨_, rfl, ?_⟩))
        go_ret
        exact ⟨by first | rfl | (simp [errW_none, errW_some] <;> rfl) | (simp [*, errW_none, errW_some] <;> rfl), by repeat (first | (with_reducible first | exact HB.out | apply below_alloc | apply pw_below_drewN | apply below_drew1 | refine below_set ?_ GE107.out) | exact HB.out)⟩
def numWorth (c : Int) : Int := if 48 ≤ c ∧ c ≤ 57 then c - 48 else if 97 ≤ c ∧ c ≤ 102 then c - 87 else if 65 ≤ c ∧ c ≤ 70 then c - 55 else -1
theorem numWorth_range (c : Int) : -1 ≤ numWorth c ∧ numWorth c ≤ 15 := by unfold numWorth; repeat' split <;> omega
def numSigns : List Int := [48, 49, 50, 51, 52, 53, 54, 55, 56, 57, 97, 98, 99, 100, 101, 102]
theorem numWorth_small (c : Fin 256) (h : ¬ (65 ≤ c.1 ∧ c.1 ≤ 70)) : Lib.indexByte (Lib.bytesOf numSigns) ((c.1 : Int)).toNat.toUInt8 = numWorth c.1 := by
  revert c; decide +kernel
theorem numWorth_big (c : Fin 256) (h : 65 ≤ c.1 ∧ c.1 ≤ 70) : Lib.indexByte (Lib.bytesOf numSigns) (bits .or .u8 (c.1 : Int) 32).toNat.toUInt8 = numWorth c.1 := by
  revert c; decide +kernel
def num_worth.f (a0 : Int) : Option Int := if 0 ≤ a0 ∧ a0 ≤ 255 then some (numWorth a0) else none
set_option maxHeartbeats 1000000 in
set_option maxRecDepth 100000 in
theorem num_signs_index (b c : Nat) (cv : Int) (w : World) (hc : ∀ i, i < 16 → w.cell? ⟨b, 0 + i, none⟩ = some (.int .u8 (numSigns.getD i 0))) :
    Calls Tryz.prog 92 #[.slice (some ⟨b, 0, none⟩) 16 c, .int .u8 cv] w fun e w' => e = .returned (.int .i64 (Lib.indexByte (Lib.bytesOf numSigns) cv.toNat.toUInt8)) ∧ w' = w := by
  go_enter Tryz.func92, Tryz.ntmps92
  go_wp2
  rw [run_callFunc_extern Tryz.func123 (by kernel_rfl) (by kernel_rfl) (by kernel_rfl) (e := Extern.BytealgIndexByte.indexByte) (by kernel_rfl), Lib.run_indexByteSlice w b 0 16 c numSigns rfl hc cv]
  simp only [Result.andThen]
  rw [Oper.upon_value]
  go_wp2
  go_ret
  exact ⟨rfl, rfl⟩
theorem num_signs_cells (w : World) (t : TypeId) : ∀ i, i < 16 → (w.alloc (.cells #[.int .u8 48, .int .u8 49, .int .u8 50, .int .u8 51, .int .u8 52, .int .u8 53, .int .u8 54, .int .u8 55, .int .u8 56, .int .u8 57, .int .u8 97, .int .u8 98, .int .u8 99, .int .u8 100, .int .u8 101, .int .u8 102] t (16, 17))).cell? ⟨w.heap.size, 0 + i, none⟩ = some (.int .u8 (numSigns.getD i 0)) := by
  intro i hi
  rw [World.cell?_alloc_mark w _ t (16, 17) (0 + i)]
  match i, hi with
  | 0, _ | 1, _ | 2, _ | 3, _ | 4, _ | 5, _ | 6, _ | 7, _ | 8, _ | 9, _ | 10, _ | 11, _ | 12, _ | 13, _ | 14, _ | 15, _ => rfl
  | k + 16, h => exact absurd h (by omega)
set_option maxHeartbeats 1000000 in
set_option maxRecDepth 100000 in
theorem num_worth.calls (a0 : Int) (r : Int) (w : World) (h : num_worth.f a0 = some r) :
    Calls Tryz.prog 152 #[.int .u8 a0] w fun e w' => e = .returned (.int .i64 r) ∧ Below w.heap.size w w' := by
  unfold num_worth.f at h
  split at h
  · rename_i hr
    obtain rfl := Option.some.inj h
    obtain ⟨n, rfl⟩ := Int.eq_ofNat_of_zero_le hr.1
    have hlt : n < 256 := by omega
    have hcells := num_signs_cells w 5
    have kc := fun (w : World) (C : Array Value) (n c : Nat) => Lib.run_convert_bytes_const (P := Tryz.prog) w 23 5 C n c Tryz.underlying23 Tryz.underlying5
    clear h hr
    by_cases hbig : 65 ≤ n ∧ n ≤ 70
    · have H := Lib.hid (numWorth_big ⟨n, hlt⟩ hbig)
      have h1 : decide ((65 : Int) ≤ (n : Int)) = true := by simp; omega
      have h2 : decide ((n : Int) ≤ 70) = true := by simp; omega
      have hi := fun cv => num_signs_index _ 16 cv _ hcells
      clear hcells
      go_enter Tryz.func152, Tryz.ntmps152
      go_wp2_with (go_at_call 92; refine (hi _).mono ?_; rintro e w' ⟨rfl, rfl⟩)
      go_ret
      exact ⟨(by rw [H.out]; rfl), (Below.refl _ _).alloc (Nat.le_refl _) _⟩
    · have H := Lib.hid (numWorth_small ⟨n, hlt⟩ hbig)
      change Hid (Lib.indexByte (Lib.bytesOf numSigns) (UInt8.ofNat n) = numWorth (n : Int)) at H
      have hi := fun cv => num_signs_index _ 16 cv _ hcells
      clear hcells
      by_cases h65 : 65 ≤ n
      · have h1 : decide ((65 : Int) ≤ (n : Int)) = true := by simp; omega
        have h2 : decide ((n : Int) ≤ 70) = false := by simp; omega
        go_enter Tryz.func152, Tryz.ntmps152
        go_wp2_with (go_at_call 92; refine (hi _).mono ?_; rintro e w' ⟨rfl, rfl⟩)
        go_ret
        exact ⟨(by rw [H.out]; rfl), (Below.refl _ _).alloc (Nat.le_refl _) _⟩
      · have h1 : decide ((65 : Int) ≤ (n : Int)) = false := by simp; omega
        go_enter Tryz.func152, Tryz.ntmps152
        go_wp2_with (go_at_call 92; refine (hi _).mono ?_; rintro e w' ⟨rfl, rfl⟩)
        go_ret
        exact ⟨(by rw [H.out]; rfl), (Below.refl _ _).alloc (Nat.le_refl _) _⟩
  · cases h
end Go.Proofs.YthmijenlndnmcaaGreatDoor.Sh
