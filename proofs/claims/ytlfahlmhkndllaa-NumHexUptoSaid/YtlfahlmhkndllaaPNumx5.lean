-- Written by wip/tools/xprint.py of this work (the kit's print with contracts of its own).
import Derived.Test.YtlfahlmhkndllaaPNumx0
import Derived.Test.YtlfahlmhkndllaaPNumx1
import Derived.Test.YtlfahlmhkndllaaPNumx4
namespace Go.Proofs.Ytlfahlmhkndllaa.PNum
open Go.RowKit Go.Proofs.YtlfahlmhkndllaaW.PrintWords Go.Proofs.YtlfahlmhkndllaaW.PrintLast Go.Proofs.YtlfahlmhkndllaaW.PrintMore
attribute [local go_sem] max2_int min2_int max_two min_two max_three min_three max_four min_four   -- for this text's walks alone
set_option linter.unusedVariables false
set_option linter.unusedSimpArgs false

/-! ### num_Unhex: function 17 -/
-- STUB millrace/num.Unhex | str | [uint8]u8 i64 i64 | 0 | 1 | num_Unhex
/-- 0, 2, .., 2 (k - 1). -/
def numEvens (k : Nat) : List Nat := (List.range k).map (2 * ·)
theorem numEvens_succ (k : Nat) : numEvens (k + 1) = numEvens k ++ [2 * k] := by simp [numEvens, List.range_succ]
theorem numEvens_len (k : Nat) : (numEvens k).length = k := by simp [numEvens]

set_option maxHeartbeats 1000000 in
set_option maxRecDepth 100000 in
/-- slices.Chunk's closure, over a slice of 2 m bytes, by pairs. -/
theorem num_chunk1 (l B1 B2 g m cap : Nat) (A : Option Addr) (hA : 0 < m → A = some ⟨g, 0, none⟩) (hcap : 2 * m ≤ cap) (hmax : cap ≤ maxLen) (J Jx : List Nat → World → Prop)
    (hJ : ∀ pre W n, J pre W → J pre (W.drewN n))
    (hY : ∀ pre x W, J pre W → x = 2 * pre.length → pre.length < m → Rng.YieldW Try.prog l #[.slice (some ⟨g, x, none⟩) 2 2] W fun e W' =>
      (e = .returned (.bool true) ∧ J (pre ++ [x]) W' ∧ W'.heap[B1]? = W.heap[B1]? ∧ W'.heap[B2]? = W.heap[B2]?) ∨ (e = .returned (.bool false) ∧ Jx (pre ++ [x]) W'))
    (W : World) (h1 : Boxed W B1 39 (.slice A (2 * m) cap)) (h2 : Boxed W B2 3 (.int .i64 2)) (h0 : J [] W) :
    Calls Try.prog 34 #[.func (.yield l) #[] #[], .pointer (some ⟨B1, 0, none⟩), .pointer (some ⟨B2, 0, none⟩)] W fun e W' => (∃ v, e = .returned v) ∧
      (J (numEvens m) W' ∨ ∃ pre, Jx pre W') := by
  unfold maxLen at hmax
  refine (callsIn_wide (n := 1)).1 ?_
  refine callsIn_of_wp Try.func34 rfl trivial ?_ rfl
  simp only [Try.ntmps34, List.size_toArray, List.length_cons, List.length_nil, Nat.reduceAdd, Nat.reduceSub, Array.replicate_succ, Array.replicate_zero, List.push_toArray, List.append_toArray, List.nil_append, List.cons_append]
  gi_wp2
  gi_loopg [4] m (fun k v wr => ∃ j : Nat, k = m - j ∧ j ≤ m ∧ v = .int .i64 ((2 * j : Nat) : Int) ∧ J (numEvens j) wr ∧ Boxed wr B1 39 (.slice A (2 * m) cap) ∧ Boxed wr B2 3 (.int .i64 2))
  case atStart => exact ⟨0, rfl, by omega, rfl, h0, h1, h2⟩
  case round =>
    obtain ⟨j, hk, hj, rfl, hj0, hb1, hb2⟩ := hrel
    obtain ⟨i, hi⟩ : ∃ i, i = 2 * j := ⟨_, rfl⟩
    rw [← hi]
    have c1 := hb1.cell
    have c2 := hb2.cell
    by_cases hlt : j < m
    · obtain rfl := hA (by omega)
      clear hA
      have d1 : decide ((i : Int) < ((2 * m : Nat) : Int)) = true := by simp; omega
      have hi0 : i < 2 * m := by omega
      have hi1 : i + 2 ≤ 2 * m := by omega
      have HI := Lib.hid hi
      have HK := Lib.hid hk
      clear hi hk
      gi_wp2
      refine wpIn_wide.2 ?_
      go_quiet (fail)
      have hb1' : Boxed (wr.drewN nq) B1 39 (.slice (some ⟨g, 0, none⟩) (2 * m) cap) := hb1
      have hb2' : Boxed (wr.drewN nq) B2 3 (.int .i64 2) := hb2
      have c1' := hb1'.cell
      have c2' := hb2'.cell
      obtain ⟨fn, tmps, assign, body, hy, hR⟩ := hY (numEvens j) i (wr.drewN nq) (hJ _ _ nq hj0) (by rw [numEvens_len]; exact HI.out) (by rw [numEvens_len]; exact hlt) 0
      have HR := Lib.hid hR
      clear hR c1 c2 hj0
      gi_wp2
      refine HR.out.mono ?_
      rintro e W3 (⟨rfl, hJ3, hk1, hk2⟩ | ⟨rfl, hJx3⟩)
      · have B1x : Boxed W3 B1 39 (.slice (some ⟨g, 0, none⟩) (2 * m) cap) := hk1.trans hb1'
        have B2x : Boxed W3 B2 3 (.int .i64 2) := hk2.trans hb2'
        have c3 := B1x.cell
        have c4 := B2x.cell
        clear c1' c2'
        gi_wp2
        have hi := HI.out
        have hk := HK.out
        go_roundg (m - (j + 1))
        case measure => omega
        case rel => exact ⟨j + 1, rfl, by omega, by rw [hi]; simp; omega, by rw [numEvens_succ, ← hi]; exact hJ3, B1x, B2x⟩
      · gi_wp2
        refine bodyPost_ret (results_none rfl _ _ _) rfl ?_
        exact ⟨⟨_, rfl⟩, .inr ⟨_, hJx3⟩⟩
    · clear hA
      have d1 : decide ((i : Int) < ((2 * m : Nat) : Int)) = false := by simp; omega
      obtain rfl : j = m := by omega
      clear hk
      have HI := Lib.hid hi
      have hlt' : ¬ (i : Int) < ((2 * j : Nat) : Int) := by omega
      clear hi
      gi_wp2
      go_end0
      exact ⟨⟨_, rfl⟩, .inl hj0⟩

set_option maxHeartbeats 1000000 in
theorem num_chunk (A : Option Addr) (len cap : Nat) (w : World) :
    Calls Try.prog 30 #[.slice A len cap, .int .i64 2] w fun e w' => e = .returned (.func (.func 34) #[] #[.pointer (some ⟨w.heap.size, 0, none⟩), .pointer (some ⟨w.heap.size + 1, 0, none⟩)]) ∧
      w' = (w.alloc (.cells #[.slice A len cap] 39)).alloc (.cells #[.int .i64 2] 3) := by
  go_enter Try.func30, Try.ntmps30
  go_wp2
  go_ret
  exact ⟨rfl, rfl⟩

theorem num_chunk_seq (B1 B2 g m cap : Nat) (A : Option Addr) (hA : 0 < m → A = some ⟨g, 0, none⟩) (hcap : 2 * m ≤ cap) (hmax : cap ≤ maxLen) (w : World) (h1 : Boxed w B1 39 (.slice A (2 * m) cap)) (h2 : Boxed w B2 3 (.int .i64 2)) :
    Rng.SeqW Try.prog 34 #[.pointer (some ⟨B1, 0, none⟩), .pointer (some ⟨B2, 0, none⟩)] (fun x : Nat => #[Value.slice (some ⟨g, x, none⟩) 2 2]) (fun _ => False) (fun k => k = B1 ∨ k = B2) (fun xs => xs = numEvens m) (fun pre => ∃ j, j ≤ m ∧ pre = numEvens j) w := by
  intro l J Jx W hW hJ hJx hY h0
  have g1 : Boxed W B1 39 (.slice A (2 * m) cap) := (hW.block B1 h1.lt).trans h1
  have g2 : Boxed W B2 3 (.int .i64 2) := (hW.block B2 h2.lt).trans h2
  refine (num_chunk1 l B1 B2 g m cap A hA hcap hmax (fun pre W => J pre W ∧ pre = numEvens pre.length ∧ B1 < W.heap.size ∧ B2 < W.heap.size) (fun pre W => ∃ j, j ≤ m ∧ pre = numEvens j ∧ Jx pre W) ?_ ?_ W g1 g2 ⟨h0, rfl, g1.lt, g2.lt⟩).mono ?_
  · rintro pre W n ⟨hj, hp, hl1, hl2⟩
    exact ⟨hJ pre W _ none hj ⟨rfl, rfl, rfl, Nat.le_refl _, fun _ _ _ => rfl⟩ (fun r e => by cases e), hp, hl1, hl2⟩
  · rintro pre x W ⟨hj, hp, hl1, hl2⟩ hx hlt m'
    have hps : pre ++ [x] = numEvens (pre.length + 1) := by rw [numEvens_succ, ← hp, hx]
    obtain ⟨fn, tmps, assign, body, hy, hR⟩ := hY pre x W hj ⟨_, by omega, hps⟩ m'
    refine ⟨fn, tmps, assign, body, hy, hR.mono ?_⟩
    rintro e W' (⟨rfl, hj', hk, hs⟩ | ⟨rfl, hx'⟩)
    · exact .inl ⟨rfl, ⟨hj', by rw [List.length_append, List.length_singleton]; exact hps, Nat.lt_of_lt_of_le hl1 hs.size, Nat.lt_of_lt_of_le hl2 hs.size⟩, hs.same _ (.inl rfl) hl1, hs.same _ (.inr rfl) hl2⟩
    · exact .inr ⟨rfl, _, by omega, hps, hx'⟩
  · rintro e W' ⟨hv, ⟨hj, _⟩ | ⟨pre, j, hjm, hp, hx⟩⟩
    · exact ⟨hv, .inl ⟨_, rfl, hj⟩⟩
    · exact ⟨hv, .inr ⟨pre, ⟨j, hjm, hp⟩, hx⟩⟩

def numPairs : List Int → List Int
  | a :: b :: r => (a * 16 + b) :: numPairs r
  | _ => []
/-- The first byte that is no digit. -/
def numBad : Nat → List UInt8 → Option Nat
  | _, [] => none
  | i, c :: r => if numWorth c.toNat < 0 then some i else numBad (i + 1) r
def numWorths (l : List UInt8) : List Int := l.map fun c => numWorth c.toNat
def num_Unhex.f (a0 : ByteArray) : Option (List Int × Int × Int) :=
  if a0.size ≤ 140737488351232 then
    some (match numBad 0 a0.data.toList with
      | some i => ([], 11, (i : Int))
      | none => if a0.size % 2 = 1 then ([], 3, (a0.size : Int)) else (numPairs (numWorths a0.data.toList), 0, (a0.size : Int)))
  else none

theorem num_odd (n : Nat) (h : n % 2 = 1) (hn : n ≤ 140737488351232) : bits .and .i64 (n : Int) 1 = 1 := by
  rw [and_one n (by omega), h]; rfl
theorem num_even (n : Nat) (h : ¬ n % 2 = 1) (hn : n ≤ 140737488351232) : bits .and .i64 (n : Int) 1 = 0 := by
  rw [and_one n (by omega), show n % 2 = 0 by omega]; rfl
theorem num_row {w : World} {base n cap m : Nat} {A : Option Addr} {ws : List Int} (h : w.ownsRow base 5 1 (.slice A n cap) n (ws.map (Value.int .u8))) (hm : n = 2 * m) :
    ∃ g, (0 < m → A = some ⟨g, 0, none⟩) ∧ 2 * m ≤ cap ∧ cap ≤ maxLen ∧ (0 < m → base ≤ g ∧ ∃ cur, w.heap[g]? = some (.cells cur 5 (0, 0)) ∧ ∀ j, j < n → cur[j]? = some (.int .u8 (ws.getD j 0))) := by
  rcases h.2 with ⟨hv, h0⟩ | ⟨g, c, cur, hv, hb, hg, hc, hx, hsz, htk⟩
  · injection hv with h1 h2 h3
    exact ⟨0, fun h => by omega, by omega, by unfold maxLen; omega, fun h => by omega⟩
  · injection hv with h1 h2 h3
    subst h3
    refine ⟨g, fun _ => h1, by omega, hx, fun _ => ⟨hb, cur, hg, fun j hj => ?_⟩⟩
    have hl : ws.length = n := by have := h.1; simpa using this
    have h4 : (cur.toList.take (n * 1))[j]? = some (.int .u8 (ws.getD j 0)) := by
      rw [htk, List.getElem?_map, List.getElem?_eq_getElem (by omega)]
      simp [List.getD_eq_getElem?_getD, List.getElem?_eq_getElem (show j < ws.length by omega)]
    rw [List.getElem?_take] at h4
    split at h4
    · simpa using h4
    · cases h4
theorem numPairs_take : ∀ (k : Nat) (ws : List Int), 2 * k + 2 ≤ ws.length → numPairs (ws.take (2 * (k + 1))) = numPairs (ws.take (2 * k)) ++ [ws.getD (2 * k) 0 * 16 + ws.getD (2 * k + 1) 0]
  | 0, a :: b :: r, _ => by simp [numPairs]
  | k + 1, a :: b :: r, h => by
    have ih := numPairs_take k r (by simp at h; omega)
    have e1 : 2 * (k + 1 + 1) = (2 * (k + 1)) + 1 + 1 := by omega
    have e2 : 2 * (k + 1) = 2 * k + 1 + 1 := by omega
    rw [e1, List.take_succ_cons, List.take_succ_cons, numPairs, ih, e2, List.take_succ_cons, List.take_succ_cons, numPairs]
    simp [List.getD_eq_getElem?_getD]
  | 0, [], h => by simp at h
  | 0, [_], h => by simp at h
  | k + 1, [], h => by simp at h
  | k + 1, [_], h => by simp at h
theorem numPairs_len : ∀ (m : Nat) (ws : List Int), ws.length = 2 * m → (numPairs ws).length = m
  | 0, [], _ => rfl
  | m + 1, a :: b :: r, h => by simp [numPairs, numPairs_len m r (by simp at h; omega)]
  | 0, _ :: _, h => by simp at h
  | m + 1, [], h => by simp at h
  | m + 1, [_], h => by simp at h; omega
theorem numBad_vals_aux : ∀ (l : List UInt8) (i : Nat), numBad i l = none → ∀ j, j < l.length → 0 ≤ (numWorths l).getD j 0 ∧ (numWorths l).getD j 0 ≤ 15
  | [], _, _, j, hj => by simp at hj
  | c :: r, i, h, j, hj => by
    simp only [numBad] at h
    split at h
    · cases h
    · cases j with
      | zero => have := numWorth_range c.toNat; simp [numWorths]; omega
      | succ j => simpa [numWorths] using numBad_vals_aux r (i + 1) h j (by simpa using hj)
theorem numBad_vals {s : ByteArray} (h : numBad 0 s.data.toList = none) : ∀ j, j < s.size → 0 ≤ (numWorths s.data.toList).getD j 0 ∧ (numWorths s.data.toList).getD j 0 ≤ 15 :=
  fun j hj => numBad_vals_aux _ 0 h j (by simpa using hj)
theorem numEvens_last {pre : List Nat} {x j : Nat} (h : pre ++ [x] = numEvens j) : j = pre.length + 1 ∧ x = 2 * pre.length := by
  have hl := congrArg List.length h
  rw [numEvens_len, List.length_append, List.length_singleton] at hl
  subst hl
  rw [numEvens_succ] at h
  have := List.append_inj' h rfl
  exact ⟨rfl, by simpa using this.2⟩
theorem num_or (a b : Int) (ha : 0 ≤ a ∧ a ≤ 15) (hb : 0 ≤ b ∧ b ≤ 15) : bits .or .u8 (a * 16) b = a * 16 + b := by
  obtain ⟨n, rfl⟩ := Int.eq_ofNat_of_zero_le ha.1
  obtain ⟨k, rfl⟩ := Int.eq_ofNat_of_zero_le hb.1
  have : ∀ (n k : Fin 16), bits .or .u8 ((n.1 : Int) * 16) (k.1 : Int) = (n.1 : Int) * 16 + (k.1 : Int) := by decide +kernel
  exact this ⟨n, by omega⟩ ⟨k, by omega⟩
attribute [local go_sem] Oper.semAt_some Rng.wide_fn Rng.wide_depth Rng.wide_alive

set_option maxHeartbeats 2000000 in
set_option maxRecDepth 100000 in
theorem num_Unhex.calls (a0 : ByteArray) (r1 : List Int) (r2 r3 : Int) (w : World) (h : num_Unhex.f a0 = some (r1, r2, r3)) :
    Calls Try.prog 17 #[.string a0] w fun e w' => ∃ v0_ : Value, e = .returned (.tuple #[v0_, .int .i64 r2, .int .i64 r3]) ∧ Kd.R (Kd.int .u8) 5 w' w.heap.size (fun _ => True) v0_ r1 ∧ Below w.heap.size w w' := by
  unfold num_Unhex.f at h
  split at h
  case isFalse => cases h
  case isTrue hs =>
    have h := Option.some.inj h
    obtain ⟨i0, hinf, hz0, hz1, hz2⟩ := info_parts info5
    rename_i h0
    clear h0
    have H := Lib.hid h
    clear h
    refine (callsIn_wide (n := 5)).1 ?_
    refine callsIn_of_wp_marks Try.func17 rfl trivial ?_ rfl
    refine wpIn_wide.2 ?_
    simp only [Try.ntmps17, List.size_toArray, List.length_cons, List.length_nil, Nat.reduceAdd, Nat.reduceSub, Array.replicate_succ, Array.replicate_zero, List.push_toArray, List.append_toArray, List.nil_append, List.cons_append]
    go_wp2
    go_loopg [5, 12] a0.size (fun k v5 v12 wr => ∃ i : Nat, v12 = .int .i64 i ∧ i ≤ a0.size ∧ k = a0.size - i ∧ numBad 0 a0.data.toList = numBad i (a0.data.toList.drop i) ∧ wr.ownsRow w.heap.size 5 1 v5 i ((numWorths (a0.data.toList.take i)).map (Value.int .u8)) ∧ Below w.heap.size w wr)
    case atStart => exact ⟨0, rfl, by omega, by omega, by simp, World.ownsRow_nil _ _ _ _, Below.refl _ _⟩
    case round =>
      obtain ⟨i, rfl, hi, hk, hx, hrow, hB⟩ := hrel
      by_cases hlt : i < a0.size
      · have hdrop : a0.data.toList.drop i = a0[i] :: a0.data.toList.drop (i + 1) := by
          rw [List.drop_eq_getElem_cons (by simpa using hlt)]; rfl
        have htake : a0.data.toList.take (i + 1) = a0.data.toList.take i ++ [a0[i]] := by
          rw [List.take_succ_eq_append_getElem (by simpa using hlt)]; rfl
        rw [hdrop] at hx
        simp only [numBad] at hx
        obtain ⟨c, hc⟩ : ∃ c, c = (a0[i].toNat : Int) := ⟨_, rfl⟩
        rw [← hc] at hx
        have hw1 := numWorth_range c
        have hcr : 0 ≤ c ∧ c ≤ 255 := by have := a0[i].toNat_lt; omega
        have hcall := fun W => num_worth.calls c (numWorth c) W (by simp [num_worth.f, hcr])
        have HC := Lib.hid hcall
        clear hcall hdrop hcr
        have hsn : numWorths (a0.data.toList.take (i + 1)) = numWorths (a0.data.toList.take i) ++ [numWorth c] := by rw [htake, hc]; simp [numWorths]
        clear htake
        obtain ⟨d, hd⟩ : ∃ d, d = numWorth c := ⟨_, rfl⟩
        rw [← hd] at hx hw1 HC hsn
        have HS := Lib.hid hsn
        clear hd hsn
        have hc' : (a0[i].toNat : Int) = c := hc.symm
        clear hc
        have h3 : decide ((i : Int) < (a0.size : Int)) = true := by simp; omega
        by_cases hd0 : d < 0
        · rw [if_pos hd0] at hx
          have h0 := H.out
          rw [hx] at h0
          simp only [Prod.mk.injEq] at h0
          obtain ⟨rfl, rfl, rfl⟩ := h0
          have h4 : decide (d < 0) = true := by simp; omega
          clear hx hw1 hd0 H HS hrow
          go_wp2_with (go_at_call 26; go_must (refine (HC.out _).mono ?_); go_must (rintro e w' ⟨rfl, hB2⟩))
          exact ⟨_, results_tmp3 rfl _ _ _, _, rfl, Kd.R_nil _ _ _ _ _, hB.trans (hB2.mono hB.size)⟩
        · have h4 : decide (d < 0) = false := by simp; omega
          rw [if_neg hd0] at hx
          obtain ⟨dn, rfl⟩ := Int.eq_ofNat_of_zero_le (show 0 ≤ d by omega)
          have hwd : IntKind.u8.wrap (dn : Int) = (dn : Int) := by
            simp only [IntKind.wrap, IntKind.signed, IntKind.bits, Bool.false_and, Bool.false_eq_true, if_false]
            omega
          have HX := Lib.hid hx
          have q1 : i + 1 ≤ maxLen := by unfold maxLen; omega
          have q2 : (i + 1) * 1 ≤ 140737488355328 := by omega
          have HQ := Lib.hid (And.intro q1 q2)
          clear hx hd0 q1 q2
          go_wp2_with (first | (go_at_call 26; go_must (refine (HC.out _).mono ?_); go_must (rintro e w' ⟨rfl, hB2⟩; have hrow2 := (pw_own_below hrow hB2).alloc (.cells #[.int .u8 (dn : Int)] 5); have hB3 := hB.trans (hB2.mono hB.size))) | (at_builtin; go_must (refine wpList_append_own _ rfl _ _ 39 rfl w.heap.size 5 i0 (.int .u8 0) 1 1 Try.underlying39 hinf hz0 hz1 hz2 rfl (by decide) _ _ _ rfl hrow2 ⟨w'.heap.size, 0, none⟩ 1 1 [.int .u8 (dn : Int)] rfl rfl (cell_one_new _ _ _) (by simp [Value.oneCell']) HQ.out.1 HQ.out.2 (by have := hB3.size; simp; omega) ?_); go_must (intro v' w1 hown' hgrow _; have hB4 := (below_alloc hB3 (.cells #[.int .u8 (dn : Int)] 5)).grown hgrow (by have := hB3.size; simp; omega) (fun k hk => (hrow.lt k hk).1); clear hgrow hrow2)))
          go_roundg (a0.size - (i + 1))
          case measure => omega
          case rel => exact ⟨i + 1, by go_num, by omega, rfl, HX.out, by rw [HS.out]; simpa using hown', hB4⟩
      · obtain rfl : i = a0.size := by omega
        rw [List.drop_eq_nil_of_le (by simp)] at hx
        simp only [numBad] at hx
        rw [List.take_of_length_le (by simp)] at hrow
        obtain ⟨A, cap, rfl⟩ := own_slice hrow
        have h0 := H.out
        rw [hx] at h0
        simp only at h0
        have hx' := Lib.hid hx
        clear hx hk H hlt
        by_cases hodd : a0.size % 2 = 1
        · rw [if_pos hodd] at h0
          simp only [Prod.mk.injEq] at h0
          obtain ⟨rfl, rfl, rfl⟩ := h0
          have hbit := num_odd a0.size hodd (by omega)
          clear hodd
          go_wp2
          exact ⟨_, results_tmp3 rfl _ _ _, _, rfl, Kd.R_nil _ _ _ _ _, hB⟩
        · rw [if_neg hodd] at h0
          simp only [Prod.mk.injEq] at h0
          obtain ⟨rfl, rfl, rfl⟩ := h0
          have hbit := num_even a0.size hodd (by omega)
          obtain ⟨m, hm⟩ : ∃ m, a0.size = 2 * m := ⟨a0.size / 2, by omega⟩
          have hdiv : (a0.size : Int) / 2 = (m : Int) := by omega
          have HM := Lib.hid hm
          have hgl := grown_of_below (Below.refl wr.heap.size wr) none
          have b2 : i0.bytes * m ≤ 281474976710656 := by rw [hz2]; omega
          have b3 : m ≤ maxLen := by unfold maxLen; omega
          have HQ := Lib.hid (And.intro b2 b3)
          clear hodd hm b2 b3 hgl
          go_wp2_with (first | (at_make; go_must (refine wpList_make_own _ rfl _ _ 39 rfl wr.heap.size 5 i0 (.int .u8 0) 1 Try.underlying39 hinf hz0 hz1 _ _ _ m rfl rfl (by omega) HQ.out.1 HQ.out.2 (Nat.le_refl _) ?_); go_must (intro w1 hown1 hgrow1)) | (go_at_call 30; go_must (refine (num_chunk _ _ _ _).mono ?_); go_must (rintro e w2 ⟨rfl, rfl⟩)))
          obtain ⟨g, hA, hcapm, hcapx, hwsr⟩ := num_row hrow HM.out
          have hBw : Below w.heap.size w w1 := hB.grown hgrow1 hB.size (fun k hk => by cases hk)
          have hs1 : wr.heap.size + 1 ≤ w1.heap.size := by
            rcases hown1.2 with ⟨h, _⟩ | ⟨g', _, _, h, _, hg, _⟩
            · cases h
            · have := (Array.getElem?_eq_some_iff.1 hg).1
              injection h with h
              injection h with h
              injection h with h
              omega
          have b0 := Boxed.new w1 39 (.slice (some ⟨wr.heap.size, 0, none⟩) 0 m)
          have b1 := Boxed.new (w1.alloc (.cells #[.slice (some ⟨wr.heap.size, 0, none⟩) 0 m] 39)) 39 (.slice A a0.size cap)
          have b2 := Boxed.new ((w1.alloc (.cells #[.slice (some ⟨wr.heap.size, 0, none⟩) 0 m] 39)).alloc (.cells #[.slice A a0.size cap] 39)) 3 (.int .i64 2)
          rw [World.size_alloc] at b1
          rw [World.size_alloc, World.size_alloc] at b2
          rw [HM.out] at b1
          have hB1 : Below wr.heap.size wr w1 := (Below.refl _ _).grown hgrow1 (Nat.le_refl _) (fun k hk => by cases hk)
          have hB2 : Below wr.heap.size wr (((w1.alloc (.cells #[.slice (some ⟨wr.heap.size, 0, none⟩) 0 m] 39)).alloc (.cells #[.slice A a0.size cap] 39)).alloc (.cells #[.int .i64 2] 3)) := ((hB1.alloc (by omega) _).alloc (by simp; omega) _).alloc (by simp; omega) _
          have hvals := numBad_vals hx'.out
          refine (wpIn_wide (n := 5)).1 ?_
          refine Rng.rangeW (gf := 34) (lb := #[.pointer (some ⟨w1.heap.size + 1, 0, none⟩), .pointer (some ⟨w1.heap.size + 1 + 1, 0, none⟩)]) rfl (enters_of Try.func34 (by kernel_rfl) rfl)
            (num_chunk_seq (w1.heap.size + 1) (w1.heap.size + 1 + 1) g m cap A hA hcapm hcapx _ (by rw [HM.out]; exact b1.alloc _) b2) (Below.refl _ _) (fun r h => h.elim) (fun r h => by rcases h with rfl | rfl <;> simp) (fun _ => rfl)
            (fun pre W => (∃ v, Boxed W w1.heap.size 39 v ∧ W.ownsRow wr.heap.size 5 1 v pre.length ((numPairs ((numWorths a0.data.toList).take (2 * pre.length))).map (Value.int .u8)) ∧ True) ∧ Below wr.heap.size wr W ∧ Boxed W (w1.heap.size + 1) 39 (.slice A (2 * m) cap) ∧ Boxed W (w1.heap.size + 1 + 1) 3 (.int .i64 2))
            (fun _ _ _ => False)
            (Rng.Owns.and (Rng.Owns.holds wr.heap.size w1.heap.size 39 5 1 (fun pre : List Nat => pre.length) (fun pre => (numPairs ((numWorths a0.data.toList).take (2 * pre.length))).map (Value.int .u8)) (fun _ _ => True) (fun h => h) (fun r h => h.elim)) (Rng.Owns.and (Rng.Owns.below (Nat.le_refl _) (by simp; omega) (fun r h => h.elim)) (Rng.Owns.and (Rng.Owns.blk (fun _ => w1.heap.size + 1) (fun _ => .cells #[.slice A (2 * m) cap] 39 (0, 0)) (fun _ h => h) (fun _ => rfl)) (Rng.Owns.blk (fun _ => w1.heap.size + 1 + 1) (fun _ => .cells #[.int .i64 2] 3 (0, 0)) (fun _ h => h) (fun _ => rfl)))))
            (fun _ => Rng.Owns.never)
            ⟨⟨_, (b0.alloc _).alloc _, by simpa [numPairs] using ((hown1.alloc _).alloc _).alloc _, trivial⟩, hB2, (by rw [HM.out]; exact b1.alloc _), b2⟩
            (fun x => { tmps := #[.string a0, undef, u2, u3, u4, .slice A a0.size cap, u6, u7, .pointer (some ⟨w1.heap.size, 0, none⟩), .slice (some ⟨g, x, none⟩) 2 2, .string a0, .int .i64 a0.size, .int .i64 a0.size, .bool false, u14, u15, u16, u17, u18, u19, u20, u21, u22, u23, u24, u25, u26, u27, .slice A a0.size cap, .int .i64 a0.size, .int .i64 0, .bool false, undef, undef, .slice A a0.size cap, .int .i64 a0.size, .int .i64 m, .slice (some ⟨wr.heap.size, 0, none⟩) 0 m, .slice A a0.size cap, .func (.func 34) #[] #[.pointer (some ⟨w1.heap.size + 1, 0, none⟩), .pointer (some ⟨w1.heap.size + 1 + 1, 0, none⟩)], .slice (some ⟨g, x, none⟩) 2 2, undef, undef, undef, undef, undef, undef, undef, undef, undef, undef, undef, undef, undef, undef], defers := [] }) ?assign ?body ?done ?stop
          case assign =>
            intro l x W K hK
            gi_wp2
            exact hK
          case body =>
            rintro l pre x W ⟨⟨v, hv, hrowv, _⟩, hBW, hbx1, hbx2⟩ ⟨j, hjm, hpx⟩ hsz
            obtain ⟨hjl, hx2⟩ := numEvens_last hpx
            have hm0 : 0 < m := by omega
            obtain ⟨hgb, cur, hgc, hcur⟩ := hwsr hm0
            have hglt : g < wr.heap.size := (Array.getElem?_eq_some_iff.1 hgc).1
            have hgW : W.heap[g]? = some (.cells cur 5 (0, 0)) := (hBW.block g hglt).trans hgc
            have hax := hvals x (by rw [HM.out]; omega)
            have hbx := hvals (x + 1) (by rw [HM.out]; omega)
            obtain ⟨a, ha⟩ : ∃ a, a = (numWorths a0.data.toList).getD x 0 := ⟨_, rfl⟩
            obtain ⟨b, hb⟩ : ∃ b, b = (numWorths a0.data.toList).getD (x + 1) 0 := ⟨_, rfl⟩
            have hca : W.cell? ⟨g, x, none⟩ = some (.int .u8 a) := by rw [ha, blk_cell hgW]; exact hcur x (by rw [HM.out]; omega)
            have hcb : W.cell? ⟨g, x + 1, none⟩ = some (.int .u8 b) := by rw [hb, blk_cell hgW]; exact hcur (x + 1) (by rw [HM.out]; omega)
            have hnew : numPairs ((numWorths a0.data.toList).take (2 * (pre.length + 1))) = numPairs ((numWorths a0.data.toList).take (2 * pre.length)) ++ [a * 16 + b] := by
              rw [ha, hb, numPairs_take _ _ (by simp [numWorths]; have := HM.out; omega), ← hx2]
            rw [← ha] at hax
            rw [← hb] at hbx
            have hor := num_or a b hax hbx
            have hwr : IntKind.u8.wrap (a * 16) = a * 16 := by
              simp only [IntKind.wrap, IntKind.signed, IntKind.bits, Bool.false_and, Bool.false_eq_true, if_false]
              omega
            have hc0 := hv.cell
            have hvd : Boxed W.drew w1.heap.size 39 v := hv
            have hrowd : W.drew.ownsRow wr.heap.size 5 1 v pre.length ((numPairs ((numWorths a0.data.toList).take (2 * pre.length))).map (Value.int .u8)) := hrowv
            have hrow2 : (W.alloc (.cells #[.int .u8 (a * 16 + b)] 5)).drew.ownsRow wr.heap.size 5 1 v pre.length ((numPairs ((numWorths a0.data.toList).take (2 * pre.length))).map (Value.int .u8)) := hrowd.alloc (.cells #[.int .u8 (a * 16 + b)] 5)
            have hB0 : wr.heap.size ≤ w1.heap.size := by omega
            have HQ2 := Lib.hid (And.intro (show pre.length + 1 ≤ maxLen by unfold maxLen; omega) (And.intro (show (pre.length + 1) * 1 ≤ 140737488355328 by omega) (show wr.heap.size ≤ (W.alloc (.cells #[.int .u8 (a * 16 + b)] 5)).drew.heap.size by have := hBW.size; simp; omega)))
            have HN := Lib.hid hnew
            clear hnew ha hb hjl hx2 hpx
            gi_wp2
            refine Rng.start_round (r := l) (n := 12) (S := fun w' => w'.cell? ⟨w1.heap.size, 0, none⟩ = some v ∧ w'.cell? ⟨g, x, none⟩ = some (.int .u8 a) ∧ w'.cell? ⟨g, x + 1, none⟩ = some (.int .u8 b)) (ds := [11]) #[false, false, false, false, false, false, false, false, false, false, false, false] (by kernel_rfl) rfl rfl ⟨hc0, hca, hcb⟩ (by rintro ⟨_, _, h⟩; exact h) (by kernel_rfl) (fun hHeld => ?_)
            refine pure_ (i := 1) (N := some 42) (v := ?_) (a' := ?_) #[false, true, false, false, false, false, false, false, false, false, false, false] rfl rfl (by kernel_rfl) (fun _ _ _ h => h) (Or.inl ⟨by rfl, ?_⟩) ?_ ?_
            rotate_left
            · intro w'
              go_simp
              with_reducible rfl
            rotate_left
            · simp only [Act.put, List.setIfInBounds_toArray, List.set_cons_zero, List.set_cons_succ, i64_w, i32_w]
              rfl
            refine pure_ (i := 2) (N := some 43) (v := ?_) (a' := ?_) #[false, true, true, false, false, false, false, false, false, false, false, false] rfl rfl (by kernel_rfl) (fun _ _ _ h => h) (Or.inl ⟨by rfl, ?_⟩) ?_ ?_
            rotate_left
            · intro w'
              go_simp
              with_reducible rfl
            rotate_left
            · simp only [Act.put, List.setIfInBounds_toArray, List.set_cons_zero, List.set_cons_succ, i64_w, i32_w]
              rfl
            refine pure_ (i := 5) (N := some 46) (v := ?_) (a' := ?_) #[false, true, true, false, false, true, false, false, false, false, false, false] rfl rfl (by kernel_rfl) (fun _ _ _ h => h) (Or.inl ⟨by rfl, ?_⟩) ?_ ?_
            rotate_left
            · intro w'
              go_simp
              with_reducible rfl
            rotate_left
            · simp only [Act.put, List.setIfInBounds_toArray, List.set_cons_zero, List.set_cons_succ, i64_w, i32_w]
              rfl
            refine pure_ (i := 6) (N := some 47) (v := ?_) (a' := ?_) #[false, true, true, false, false, true, true, false, false, false, false, false] rfl rfl (by kernel_rfl) (fun _ _ _ h => h) (Or.inl ⟨by rfl, ?_⟩) ?_ ?_
            rotate_left
            · intro w'
              go_simp
              with_reducible rfl
            rotate_left
            · simp only [Act.put, List.setIfInBounds_toArray, List.set_cons_zero, List.set_cons_succ, i64_w, i32_w]
              rfl
            refine take_ (i := 0) (N := some 41) (v := ?_) (a' := ?_) #[true, true, true, false, false, true, true, false, false, false, false, false] rfl rfl (by kernel_rfl) (fun _ _ _ h => h) (Or.inl ⟨by rfl, ?_⟩) hHeld ?_ ?_
            rotate_left
            · rintro w' ⟨s0, s1, s2⟩
              go_simp
              with_reducible rfl
            rotate_left
            · simp only [Act.put, List.setIfInBounds_toArray, List.set_cons_zero, List.set_cons_succ, i64_w, i32_w]
              rfl
            refine take_ (i := 3) (N := some 44) (v := ?_) (a' := ?_) #[true, true, true, true, false, true, true, false, false, false, false, false] rfl rfl (by kernel_rfl) (fun _ _ _ h => h) (Or.inl ⟨by rfl, ?_⟩) hHeld ?_ ?_
            rotate_left
            · rintro w' ⟨s0, s1, s2⟩
              go_simp
              with_reducible rfl
            rotate_left
            · simp only [Act.put, List.setIfInBounds_toArray, List.set_cons_zero, List.set_cons_succ, i64_w, i32_w]
              rfl
            refine pure_ (i := 4) (N := some 45) (v := ?_) (a' := ?_) #[true, true, true, true, true, true, true, false, false, false, false, false] rfl rfl (by kernel_rfl) (fun _ _ _ h => h) (Or.inl ⟨by rfl, ?_⟩) ?_ ?_
            rotate_left
            · intro w'
              go_simp
              with_reducible rfl
            rotate_left
            · simp only [Act.put, List.setIfInBounds_toArray, List.set_cons_zero, List.set_cons_succ, i64_w, i32_w]
              rfl
            refine take_ (i := 7) (N := some 48) (v := ?_) (a' := ?_) #[true, true, true, true, true, true, true, true, false, false, false, false] rfl rfl (by kernel_rfl) (fun _ _ _ h => h) (Or.inl ⟨by rfl, ?_⟩) hHeld ?_ ?_
            rotate_left
            · rintro w' ⟨s0, s1, s2⟩
              go_simp
              with_reducible rfl
            rotate_left
            · simp only [Act.put, List.setIfInBounds_toArray, List.set_cons_zero, List.set_cons_succ, i64_w, i32_w]
              rfl
            refine pure_ (i := 8) (N := some 49) (v := ?_) (a' := ?_) #[true, true, true, true, true, true, true, true, true, false, false, false] rfl rfl (by kernel_rfl) (fun _ _ _ h => h) (Or.inl ⟨by rfl, ?_⟩) ?_ ?_
            rotate_left
            · intro w'
              go_simp
              with_reducible rfl
            rotate_left
            · simp only [Act.put, List.setIfInBounds_toArray, List.set_cons_zero, List.set_cons_succ, i64_w, i32_w]
              rfl
            refine one_ (i := 9) (N := some 50) #[true, true, true, true, true, true, true, true, true, true, false, false] rfl rfl (by kernel_rfl) (by decide) (fun K hK => ?_)
            refine value_ (w1 := ?_) (v := ?_) (by rfl) rfl ?_ ?_
            rotate_left 2
            · go_simp
              constructor
              · rfl
              · rfl
            refine hK.out _ _ ⟨(pw_cell_below (below_alloc (Below.refl _ _) _) hHeld.1), (pw_cell_below (below_alloc (Below.refl _ _) _) hHeld.2.1), (pw_cell_below (below_alloc (Below.refl _ _) _) hHeld.2.2)⟩ (fun hHeld => ?_)
            clear hK K
            refine norm_ (a' := ?_) ?_ ?_
            rotate_left
            · show Act.put _ (some 50) _ = _
              simp only [Act.put, List.setIfInBounds_toArray, List.set_cons_zero, List.set_cons_succ, i64_w, i32_w]
              rfl
            refine one_ (i := 10) (N := some 51) #[true, true, true, true, true, true, true, true, true, true, true, false] rfl rfl (by kernel_rfl) (by decide) (fun K hK => ?_)
            refine Rng.wanted_ (by rfl) ?_
            refine wp_append_own _ _ _ 39 rfl wr.heap.size 5 i0 (.int .u8 0) 1 1 Try.underlying39 hinf hz0 hz1 hz2 rfl (by decide) v pre.length _ rfl hrow2 ⟨W.heap.size, 0, none⟩ 1 1 [.int .u8 (a * 16 + b)] rfl rfl (cell_one_new _ _ _) (by simp [Value.oneCell']) HQ2.out.1 HQ2.out.2.1 HQ2.out.2.2 ?_
            intro v' w3 hown' hgrow _
            obtain ⟨g', cap', rfl⟩ := ownsRow_succ hown'
            obtain ⟨hv1, hv2, hr2, hk2, hb2⟩ := hvd.appended (show (39 : TypeId) ≠ 5 by decide) hrowd hBW.size hB0 hown' (show (W.drew.alloc (.cells #[.int .u8 (a * 16 + b)] 5)).grownBy w3 v.ownBlock from hgrow)
            have hf1 := hv1.frozen
            have hb1 : Below wr.heap.size W.drew w3 := ((Below.refl _ W.drew).alloc hBW.size (.cells #[.int .u8 (a * 16 + b)] 5)).grown hgrow HQ2.out.2.2 (fun k hk => (hrow2.lt k hk).1)
            refine hK.out _ _ ⟨hv1.cell, ((hb1.cell (p := ⟨g, x, none⟩) hglt).trans hca), ((hb1.cell (p := ⟨g, x + 1, none⟩) hglt).trans hcb)⟩ (fun hHeld => ?_)
            clear hK K
            refine norm_ (a' := ?_) ?_ ?_
            rotate_left
            · show Act.put _ (some 51) _ = _
              simp only [Act.put, List.setIfInBounds_toArray, List.set_cons_zero, List.set_cons_succ, i64_w, i32_w]
              rfl
            refine last_ (i := 11) (N := none) #[true, true, true, true, true, true, true, true, true, true, true, true] rfl rfl (by kernel_rfl) (by decide) (fun K hK => ?_)
            refine skip_ (w1 := ?_) (by rfl) rfl ?_ ?_
            rotate_left
            · go_simp
              rfl
            refine hK.out _ _ ?_
            clear hK K
            refine done_ (by kernel_rfl) ?_
            have hs2 : Rng.Same (fun k => k = w1.heap.size + 1 ∨ k = w1.heap.size + 1 + 1) W (w3.setCell ⟨w1.heap.size, 0, none⟩ (.slice (some ⟨g', 0, none⟩) (pre.length + 1) cap')) := by
              refine (((Rng.Same.drew _ W).trans (Rng.Same.alloc _ W.drew (.cells #[.int .u8 (a * 16 + b)] 5))).trans (Rng.Same.grown hgrow (fun r e h => ?_))).trans (Rng.Same.setCell w3 (by simp; omega) _)
              rcases h with h | h
              · exact hbx1.not_row (by decide) hrowv (by rw [e, h])
              · exact hbx2.not_row (by decide) hrowv (by rw [e, h])
            refine ⟨(KeepsOthers.drew W).trans hk2, hs2, ⟨_, hv2, ?_, trivial⟩, hBW.trans ((Below.refl _ W).drew.trans hb2), (hs2.same _ (.inl rfl) hbx1.lt).trans hbx1, (hs2.same _ (.inr rfl) hbx2.lt).trans hbx2⟩
            rw [List.length_append, List.length_singleton, HN.out, List.map_append]
            exact hr2
          case done =>
            rintro D xs W hD rfl ⟨⟨v, hv, hrowv, _⟩, hBW, _, _⟩ hK
            have hc0 := hv.cell
            have hBw2 : Below w.heap.size w W := hB.trans (hBW.mono hB.size)
            rw [numEvens_len, List.take_of_length_le (by simp [numWorths]; have := HM.out; omega)] at hrowv
            gi_wp2
            go_wp2
            refine ⟨by simp, .inl ⟨_, _, rfl, run_takeDeferred hK, ?_⟩⟩
            simp only [World.size_alloc] at hD
            have hwD : w.heap.size ≤ D := by have := hBw.size; omega
            have hrow9 := ownsRow_putObj hrowv (.deferred none) hK rfl
            have hRR : Kd.R (Kd.int .u8) 5 (W.putObj D (.deferred none)) w.heap.size (fun _ => True) v (numPairs (numWorths a0.data.toList)) :=
              Kd.R_of_own (enc := Value.int .u8) (h1 := fun _ => rfl) (by rw [numPairs_len m _ (by simp [numWorths]; exact HM.out)]; exact Joins.ownsRow_le hrow9 hB.size) (fun _ _ => trivial)
            exact ⟨_, results_tmp3 rfl _ _ _, v, rfl, hRR, hBw2.trans (belowK_b (w := w) (Nat.le_refl _) W D _ _ hwD hK rfl rfl)⟩
          case stop =>
            rintro D c pre W _ _ h _
            exact h.elim

/-! ### millraceplain_CopyBytes: function 18 -/
def millraceplain_CopyBytes.f (l0 : List Int) : Option (List Int) := if ([] : List Int).length + l0.length < 140737488355328 then (some (([] : List Int) ++ l0)) else (none)
set_option maxHeartbeats 8000000 in
set_option maxRecDepth 100000 in
theorem millraceplain_CopyBytes.calls (A0 : Option Addr) (c0 : Nat) (l0 : List Int) (r : List Int) (w : World) (hr0 : Kd.C (Kd.int .u8) w A0 l0.length l0) (hc0 : l0.length ≤ c0) (h : millraceplain_CopyBytes.f l0 = some r) :
    Calls Try.prog 18 #[.slice A0 l0.length c0] w fun e w' => ∃ v0_ : Value, e = .returned (v0_) ∧ Kd.R (Kd.int .u8) 5 w' w.heap.size (fun _ => True) v0_ r ∧ Below w.heap.size w w' := by
  have HR0 := Aside0.mk hr0
  have HC0 := Aside0.mk hc0
  clear hr0 hc0
  have HB := Aside0.mk (Below.refl w.heap.size w)
  have H : (if ([] : List Int).length + l0.length < 140737488355328 then (some (([] : List Int) ++ l0)) else (none)) = some r := h
  clear h
  by_cases c2 : ([] : List Int).length + l0.length < 140737488355328
  · rw [if_pos c2] at H
    have LMc2 := Aside0.mk c2
    clear c2
    obtain ⟨y169, hy169⟩ : ∃ y_ : List Int, y_ = (([] : List Int) ++ l0) := ⟨_, rfl⟩
    replace H : (some y169) = some r := by first | (rw [hy169]; with_reducible exact H) | (have H2_ := (Option.bind_some _ _).symm.trans H; rw [hy169]; with_reducible exact H2_) | (have H2_ := (Option.bind_some _ _).symm.trans H; with_reducible exact H2_) | with_reducible exact H | (rw [hy169]; exact H) | exact H
    have Ny169 := Aside0.mk hy169
    clear hy169
    obtain rfl := Option.some.inj H
    go_enter Try.func18, Try.ntmps18
    go_wp2_with (first | ((with_reducible refine gate_builtin (b := .append) (xs := #[.tmp 4, .tmp 5]) rfl ?_); at_builtin; refine Kd.R_append_rows (Kd.int .u8) (w0 := w) w.heap.size rfl (.tmp 4) (.tmp 5) 39 5 (.int .u8 0) 1 rfl Try.underlying39 info5 rfl (by decide) (by omega) (.slice none 0 0) ([] : List Int) l0 _ _ _ (fun _ => True) (fun _ => False) rfl rfl ?aO ?aR (fun _ _ h => h) (fun _ h => h.elim) ?aF ?aB ?aS ?aL ?_; (case aR => repeat (first | exact HR0.out | (with_reducible refine Kd.C_alloc ?_ _) | (with_reducible refine Kd.C_drewN ?_ _) | (with_reducible refine Kd.C_drew ?_))); (case aB => exact (by repeat (first | (with_reducible first | exact HB.out | apply below_alloc | apply pw_below_drewN | apply below_drew1) | exact HB.out))); (case aF => exact (fun _ _ => trivial)); (case aO => exact ((Kd.R_nil _ _ _ _ (fun _ => True)))); (case aS => exact (below_size (by repeat (first | (with_reducible first | exact HB.out | apply below_alloc | apply pw_below_drewN | apply below_drew1) | exact HB.out)))); (case aL => have := LMc2.out; omega); intro v170 w3 ho hb hg hat; rw [← Ny169.out] at ho; have n0_ := Aside0.mk (hb); have n1_ := Aside0.mk (ho); clear HB; have HB := n0_; have HO171 := n1_; clear n0_ n1_; clear ho hb hg hat))
    go_ret
    exact ⟨_, by first | rfl | (simp [errW_none, errW_some] <;> rfl) | (simp [*, errW_none, errW_some] <;> rfl), by (with_reducible repeat (first | apply Kd.R_alloc | apply Kd.R_drewN | apply Kd.R_drew)); exact HO171.out, by repeat (first | (with_reducible first | exact HB.out | apply below_alloc | apply pw_below_drewN | apply below_drew1) | exact HB.out)⟩
  · rw [if_neg c2] at H
    exact absurd H (by simp)

/-! ### millraceplain_Spoil: function 19 -/
def millraceplain_Spoil.l0 : Nat → List Int → Int → Option (List Int)
  | 0, _, _ => none
  | k + 1, x0, x2 => if x2 < (x0.length : Int) then (if 0 ≤ x2 then (millraceplain_Spoil.l0 k (x0.set (x2 : Int).toNat (Go.bits .xor .u8 (rd x0 x2) 85)) (wrap64 (x2 + 1))) else (none)) else (some x0)
def millraceplain_Spoil.f (k : Nat) (l0 : List Int) : Option (List Int) := millraceplain_Spoil.l0 k l0 0
theorem millraceplain_Spoil.mono_l : ∀ k, (∀ y0 y1, LeO (millraceplain_Spoil.l0 k y0 y1) (millraceplain_Spoil.l0 (k + 1) y0 y1))
  | 0 => fun _ _ r h => by simp [millraceplain_Spoil.l0] at h
  | k + 1 => by
    have ih0 := millraceplain_Spoil.mono_l k
    · intro y0 y1
      unfold millraceplain_Spoil.l0
      repeat' first
      | (with_reducible exact ih0 _ _)
      | (with_reducible exact LeO.refl _)
      | (with_reducible exact LeO.none _)
      | (with_reducible refine LeO.ite ?_ ?_)
      | (with_reducible refine LeO.bind ?_ (fun _ => ?_))
      | exact ih0 _ _
      | exact LeO.none _
      | refine LeO.ite ?_ ?_
      | refine LeO.bind ?_ (fun _ => ?_)
theorem millraceplain_Spoil.mono : ∀ a0 k, LeO (millraceplain_Spoil.f k a0) (millraceplain_Spoil.f (k + 1) a0) := by
  intro a0 k
  have ih0 := millraceplain_Spoil.mono_l k
  unfold millraceplain_Spoil.f
  repeat' first
      | (with_reducible exact ih0 _ _)
      | (with_reducible exact LeO.refl _)
      | (with_reducible exact LeO.none _)
      | (with_reducible refine LeO.ite ?_ ?_)
      | (with_reducible refine LeO.bind ?_ (fun _ => ?_))
      | exact ih0 _ _
      | exact LeO.none _
      | refine LeO.ite ?_ ?_
      | refine LeO.bind ?_ (fun _ => ?_)
set_option maxHeartbeats 8000000 in
set_option maxRecDepth 100000 in
theorem millraceplain_Spoil.calls (k : Nat) (P0_ : Nat → Prop) (u9000_ : Value) (l0 : List Int) (r : List Int) (w0 w : World) (hB : Below w0.heap.size w0 w) (ho0 : Kd.R (Kd.int .u8) 5 w w0.heap.size P0_ u9000_ l0) (h : millraceplain_Spoil.f k l0 = some r) :
    Calls Try.prog 19 #[u9000_] w fun e w' => e = .returned (.tuple #[]) ∧ Kd.R (Kd.int .u8) 5 w' w0.heap.size (fun k_ => (P0_ k_ ∨ w.heap.size ≤ k_)) u9000_ r ∧ Below w0.heap.size w0 w' ∧ Kept w w' (fun k_ => P0_ k_) := by
  have HO0 := Aside0.mk (show Kd.R (Kd.int .u8) 5 w w0.heap.size (fun k_ => (P0_ k_ ∨ w.heap.size ≤ k_)) u9000_ l0 from Kd.R_mono ho0 (fun k_ hk => (.inl hk)))
  have HK := Aside0.mk (Kept.refl w (fun k_ => P0_ k_))
  have HW0 := Aside0.mk hB.size
  have HB := Aside0.mk hB
  clear hB
  have H : (millraceplain_Spoil.l0 k l0 0) = some r := h
  clear h
  have H' := Aside0.mk H
  clear H
  go_enter Try.func19, Try.ntmps19
  go_wp2
  go_loopg [2] k (fun kq v2 w' => ∃ (x0_1 : List Int) (x2_1 : Int), v2 = .int .i64 x2_1 ∧ Aside0 (millraceplain_Spoil.l0 kq x0_1 x2_1 = some r) ∧ Aside0 (kq ≤ k) ∧ Aside0 (Kd.R (Kd.int .u8) 5 w' w0.heap.size (fun k_ => (P0_ k_ ∨ w.heap.size ≤ k_)) u9000_ x0_1) ∧ Aside0 (Kept w w' (fun k_ => P0_ k_)) ∧ Aside0 (Below w0.heap.size w0 w'))
  case atStart => exact ⟨(l0), (0), (by first | rfl | (simp; done) | (simp [*]; done)), H', ⟨Nat.le_refl _⟩, ⟨by (with_reducible repeat (first | apply Kd.R_alloc | apply Kd.R_drewN | apply Kd.R_drew)); exact HO0.out⟩, ⟨by repeat (first | (with_reducible first | exact HK.out | apply Kept.alloc | apply Kept.drewN | apply Kept.drew) | exact HK.out)⟩, ⟨by repeat (first | (with_reducible first | exact HB.out | apply below_alloc | apply pw_below_drewN | apply below_drew1) | exact HB.out)⟩⟩
  case round =>
    clear H'
    try clear c1
    obtain ⟨x0_1, x2_1, rfl, HA, HK1, HO_0, HK, HB⟩ := hrel
    cases gk with
    | zero => exact absurd HA.out (by simp [millraceplain_Spoil.l0])
    | succ k1 =>
      have H := HA.out
      clear HA
      simp only [millraceplain_Spoil.l0] at H
      by_cases c2 : x2_1 < (x0_1.length : Int)
      · rw [if_pos c2] at H
        have c2b0 : decide (x2_1 < (x0_1.length : Int)) = true := decide_eq_true c2
        clear c2
        by_cases c3 : 0 ≤ x2_1
        · rw [if_pos c3] at H
          have c3b0 : decide (0 ≤ x2_1) = true := decide_eq_true c3
          clear c3
          obtain ⟨y173, hy173⟩ : ∃ y_ : List Int, y_ = (x0_1.set (x2_1 : Int).toNat (Go.bits .xor .u8 (rd x0_1 x2_1) 85)) := ⟨_, rfl⟩
          replace H : (millraceplain_Spoil.l0 k1 y173 (wrap64 (x2_1 + 1))) = some r := by first | (rw [hy173]; with_reducible exact H) | (have H2_ := (Option.bind_some _ _).symm.trans H; rw [hy173]; with_reducible exact H2_) | (have H2_ := (Option.bind_some _ _).symm.trans H; with_reducible exact H2_) | with_reducible exact H | (rw [hy173]; exact H) | exact H
          have Ny173 := Aside0.mk hy173
          clear hy173
          have H' := Aside0.mk H
          clear H
          obtain ⟨Ao5, co5, eo5⟩ := Kd.R_slice HO_0.out
          subst eo5
          have p172 : 0 ≤ (x2_1 : Int) := of_decide_eq_true (by first | (with_reducible assumption) | assumption)
          have q172 : x2_1 < (x0_1.length : Int) := of_decide_eq_true (by first | (with_reducible assumption) | assumption)
          obtain ⟨ad172, e172, hx172_0⟩ := Kd.at_int (Kd.R_reads' HO_0.out).2.2 x2_1 p172 q172
          cases e172
          replace p172 := eq_true p172
          replace q172 := eq_true q172
          have p4 : 0 ≤ (x2_1 : Int) := of_decide_eq_true (by first | (with_reducible assumption) | assumption)
          have q4 : (x2_1 : Int) < ((x0_1.length : Int) : Int) := of_decide_eq_true (by first | (with_reducible assumption) | assumption)
          obtain ⟨go4, co4, eo4, gb4, gl4, cl4, HG4⟩ := Kd.R_form HO_0.out (by omega)
          (first | cases eo4 | (injection eo4 with ea_ en_ ec_; (first | subst ea_ | (injection ea_ with ea_; subst ea_)); subst ec_; clear en_))
          have GB4 := Aside0.mk gb4
          have GG4 := Aside0.mk HG4
          clear gb4 gl4 HG4
          have HMgo4 := Aside0.mk (show (P0_ go4 ∨ w.heap.size ≤ go4) from (HO_0.out.1 _ rfl))
          (first | simp only [add_plain] at hx172_0 | skip)
          obtain ⟨hx4_0, hf4_0⟩ := Kd.R_celln 0 HO_0.out (x2_1 : Int) p4 q4
          replace p4 := eq_true p4
          replace q4 := eq_true q4
          have HP6 := Kd.R_putg HO_0.out (x2_1 : Int) (Go.bits .xor .u8 (rd x0_1 x2_1) 85)
          go_wp2_with (first | ((with_reducible refine gate_store (t := 5) (p := 14) rfl ?_); refine store_event (t := 5) (p := 14) (v := ?vo_w7) (w1 := (wr.setCell ⟨go4, (x2_1 : Int).toNat, none⟩ (.int .u8 (Go.bits .xor .u8 (rd x0_1 x2_1) 85)))) ?hg ?ho ?hn ?hr ?_; (case ho => rfl); (case hg => rfl); (case hn => rfl); (case hr => first | (go_simp; done) | (go_simp; rfl)); intro w7 hw; have hg : wr.grownBy w7 (some go4) := (by rw [hw]; exact HP6.2); have hp_ : Kd.R (Kd.int .u8) 5 w7 w0.heap.size (fun k_ => (P0_ k_ ∨ w.heap.size ≤ k_)) (.slice (some ⟨go4, 0, none⟩) x0_1.length co5) y173 := (by rw [hw, Ny173.out]; exact HP6.1); clear HP6; have n0_ := Aside0.mk (hp_); have n1_ := Aside0.mk ((by rw [hw]; exact below_set (HB.out) GB4.out : Below w0.heap.size w0 w7)); have n2_ := Aside0.mk (Kept.of_grown (S := (fun k_ => P0_ k_)) hg (by repeat (first | (with_reducible first | exact HK.out | apply Kept.alloc | apply Kept.drewN | apply Kept.drew) | exact HK.out)) (fun k_ e_ => (HO_0.out.1 k_ e_))); clear HO_0; clear HB; clear HK; have HO_0 := n0_; have HB := n1_; have HK := n2_; clear n0_ n1_ n2_; clear hg hw hp_))
          go_roundg k1
          case measure => have := HK1.out; omega
          case rel => exact ⟨(y173), (wrap64 (x2_1 + 1)), (by first | rfl | (simp; done) | (simp [*]; done)), H', ⟨by have := HK1.out; omega⟩, ⟨by (with_reducible repeat (first | apply Kd.R_alloc | apply Kd.R_drewN | apply Kd.R_drew)); exact HO_0.out⟩, ⟨by repeat (first | (with_reducible first | exact HK.out | apply Kept.alloc | apply Kept.drewN | apply Kept.drew) | exact HK.out)⟩, ⟨by repeat (first | (with_reducible first | exact HB.out | apply below_alloc | apply pw_below_drewN | apply below_drew1) | exact HB.out)⟩⟩
        · rw [if_neg c3] at H
          exact absurd H (by simp)
      · rw [if_neg c2] at H
        have c2b0 : decide (x2_1 < (x0_1.length : Int)) = false := decide_eq_false c2
        clear c2
        obtain rfl := Option.some.inj H
        obtain ⟨Ao8, co8, eo8⟩ := Kd.R_slice HO_0.out
        subst eo8
        go_wp2
        first | go_end0 | ((try simp only [Exit.inBlock, Exit.then]); refine bodyPost_ret (results_none rfl _ _ _) rfl ?_)
        exact ⟨by first | rfl | (simp [errW_none, errW_some] <;> rfl) | (simp [*, errW_none, errW_some] <;> rfl), by (with_reducible repeat (first | apply Kd.R_alloc | apply Kd.R_drewN | apply Kd.R_drew)); exact HO_0.out, by repeat (first | (with_reducible first | exact HB.out | apply below_alloc | apply pw_below_drewN | apply below_drew1) | exact HB.out), by repeat (first | (with_reducible first | exact HK.out | apply Kept.alloc | apply Kept.drewN | apply Kept.drew) | exact HK.out)⟩

/-! ### millraceplain_SameBytes: function 20 -/
def millraceplain_SameBytes.l0 : Nat → List Int → List Int → Int → Option (Bool)
  | 0, _, _, _ => none
  | k + 1, x0, x1, x5 => if x5 < (x0.length : Int) then (if 0 ≤ x5 then (if x5 < (x1.length : Int) then (if (rd x0 x5) = (rd x1 x5) then (millraceplain_SameBytes.l0 k x0 x1 (wrap64 (x5 + 1))) else (some false)) else (none)) else (none)) else (some true)
def millraceplain_SameBytes.f (k : Nat) (l0 : List Int) (l1 : List Int) : Option (Bool) := if (l0.length : Int) = (l1.length : Int) then (millraceplain_SameBytes.l0 k l0 l1 0) else (some false)
theorem millraceplain_SameBytes.mono_l : ∀ k, (∀ y0 y1 y2, LeO (millraceplain_SameBytes.l0 k y0 y1 y2) (millraceplain_SameBytes.l0 (k + 1) y0 y1 y2))
  | 0 => fun _ _ _ r h => by simp [millraceplain_SameBytes.l0] at h
  | k + 1 => by
    have ih0 := millraceplain_SameBytes.mono_l k
    · intro y0 y1 y2
      unfold millraceplain_SameBytes.l0
      repeat' first
      | (with_reducible exact ih0 _ _ _)
      | (with_reducible exact LeO.refl _)
      | (with_reducible exact LeO.none _)
      | (with_reducible refine LeO.ite ?_ ?_)
      | (with_reducible refine LeO.bind ?_ (fun _ => ?_))
      | exact ih0 _ _ _
      | exact LeO.none _
      | refine LeO.ite ?_ ?_
      | refine LeO.bind ?_ (fun _ => ?_)
theorem millraceplain_SameBytes.mono : ∀ a0 a1 k, LeO (millraceplain_SameBytes.f k a0 a1) (millraceplain_SameBytes.f (k + 1) a0 a1) := by
  intro a0 a1 k
  have ih0 := millraceplain_SameBytes.mono_l k
  unfold millraceplain_SameBytes.f
  repeat' first
      | (with_reducible exact ih0 _ _ _)
      | (with_reducible exact LeO.refl _)
      | (with_reducible exact LeO.none _)
      | (with_reducible refine LeO.ite ?_ ?_)
      | (with_reducible refine LeO.bind ?_ (fun _ => ?_))
      | exact ih0 _ _ _
      | exact LeO.none _
      | refine LeO.ite ?_ ?_
      | refine LeO.bind ?_ (fun _ => ?_)
set_option maxHeartbeats 8000000 in
set_option maxRecDepth 100000 in
theorem millraceplain_SameBytes.calls (k : Nat) (A0 : Option Addr) (c0 : Nat) (l0 : List Int) (A1 : Option Addr) (c1 : Nat) (l1 : List Int) (r : Bool) (w : World) (hr0 : Kd.C (Kd.int .u8) w A0 l0.length l0) (hc0 : l0.length ≤ c0) (hr1 : Kd.C (Kd.int .u8) w A1 l1.length l1) (hc1 : l1.length ≤ c1) (h : millraceplain_SameBytes.f k l0 l1 = some r) :
    Calls Try.prog 20 #[.slice A0 l0.length c0, .slice A1 l1.length c1] w fun e w' => e = .returned (.bool r) ∧ Drawn0 w w' := by
  have HR0 := Aside0.mk hr0
  have HC0 := Aside0.mk hc0
  clear hr0 hc0
  have HR1 := Aside0.mk hr1
  have HC1 := Aside0.mk hc1
  clear hr1 hc1
  have H : (if (l0.length : Int) = (l1.length : Int) then (millraceplain_SameBytes.l0 k l0 l1 0) else (some false)) = some r := h
  clear h
  by_cases c3 : (l0.length : Int) = (l1.length : Int)
  · rw [if_pos c3] at H
    have c3b0 : ((l0.length : Int) == (l1.length : Int)) = true := beq_iff_eq.mpr c3
    have c3b1 : ((l0.length : Int) != (l1.length : Int)) = false := bne_eq_false_iff_eq.mpr c3
    have c3b2 : (l0.length == l1.length) = true := by first | simpa using c3 | (simp at c3 ⊢; omega)
    clear c3
    have H' := Aside0.mk H
    clear H
    go_enter Try.func20, Try.ntmps20
    go_wp2
    repeat (go_quiet (fail); try go_wp2)
    go_loopg [5] k (fun kq v5 w' => ∃ (x5_1 : Int), v5 = .int .i64 x5_1 ∧ Aside0 (millraceplain_SameBytes.l0 kq l0 l1 x5_1 = some r) ∧ Aside0 (kq ≤ k) ∧ Drawn0 w w')
    case atStart => exact ⟨(0), (by first | rfl | (simp; done) | (simp [*]; done)), H', ⟨Nat.le_refl _⟩, by repeat (first | exact Drawn0.refl _ | apply Drawn0.step)⟩
    case round =>
      clear H'
      try clear c1
      try clear c2
      try clear p2
      try clear c3
      try clear c3b0
      try clear c3b1
      try clear c3b2
      obtain ⟨x5_1, rfl, HA, HK1, ⟨m1, rfl⟩⟩ := hrel
      cases gk with
      | zero => exact absurd HA.out (by simp [millraceplain_SameBytes.l0])
      | succ k1 =>
        have H := HA.out
        clear HA
        simp only [millraceplain_SameBytes.l0] at H
        by_cases c4 : x5_1 < (l0.length : Int)
        · rw [if_pos c4] at H
          have c4b0 : decide (x5_1 < (l0.length : Int)) = true := decide_eq_true c4
          clear c4
          by_cases c5 : 0 ≤ x5_1
          · rw [if_pos c5] at H
            have c5b0 : decide (0 ≤ x5_1) = true := decide_eq_true c5
            clear c5
            by_cases c6 : x5_1 < (l1.length : Int)
            · rw [if_pos c6] at H
              have c6b0 : decide (x5_1 < (l1.length : Int)) = true := decide_eq_true c6
              clear c6
              by_cases c7 : (rd l0 x5_1) = (rd l1 x5_1)
              · rw [if_pos c7] at H
                have c7b0 : ((rd l0 x5_1) == (rd l1 x5_1)) = true := beq_iff_eq.mpr c7
                have c7b1 : ((rd l0 x5_1) != (rd l1 x5_1)) = false := bne_eq_false_iff_eq.mpr c7
                clear c7
                have H' := Aside0.mk H
                clear H
                have p174 : 0 ≤ (x5_1 : Int) := of_decide_eq_true (by first | (with_reducible assumption) | assumption)
                have q174 : x5_1 < (l0.length : Int) := of_decide_eq_true (by first | (with_reducible assumption) | assumption)
                obtain ⟨ad174, e174, hx174_0⟩ := Kd.at_int HR0.out x5_1 p174 q174
                cases e174
                replace p174 := eq_true p174
                replace q174 := eq_true q174
                have p175 : 0 ≤ (x5_1 : Int) := of_decide_eq_true (by first | (with_reducible assumption) | assumption)
                have q175 : x5_1 < (l1.length : Int) := of_decide_eq_true (by first | (with_reducible assumption) | assumption)
                obtain ⟨ad175, e175, hx175_0⟩ := Kd.at_int HR1.out x5_1 p175 q175
                cases e175
                replace p175 := eq_true p175
                replace q175 := eq_true q175
                go_wp2
                repeat (go_quiet (fail); try go_wp2)
                go_roundg k1
                case measure => have := HK1.out; omega
                case rel => exact ⟨(wrap64 (x5_1 + 1)), (by first | rfl | (simp; done) | (simp [*]; done)), H', ⟨by have := HK1.out; omega⟩, by repeat (first | exact Drawn0.refl _ | apply Drawn0.step)⟩
              · rw [if_neg c7] at H
                have c7b0 : ((rd l0 x5_1) == (rd l1 x5_1)) = false := beq_eq_false_iff_ne.mpr c7
                have c7b1 : ((rd l0 x5_1) != (rd l1 x5_1)) = true := bne_iff_ne.mpr c7
                obtain rfl := Option.some.inj H
                have p174 : 0 ≤ (x5_1 : Int) := of_decide_eq_true (by first | (with_reducible assumption) | assumption)
                have q174 : x5_1 < (l0.length : Int) := of_decide_eq_true (by first | (with_reducible assumption) | assumption)
                obtain ⟨ad174, e174, hx174_0⟩ := Kd.at_int HR0.out x5_1 p174 q174
                cases e174
                replace p174 := eq_true p174
                replace q174 := eq_true q174
                have p175 : 0 ≤ (x5_1 : Int) := of_decide_eq_true (by first | (with_reducible assumption) | assumption)
                have q175 : x5_1 < (l1.length : Int) := of_decide_eq_true (by first | (with_reducible assumption) | assumption)
                obtain ⟨ad175, e175, hx175_0⟩ := Kd.at_int HR1.out x5_1 p175 q175
                cases e175
                replace p175 := eq_true p175
                replace q175 := eq_true q175
                go_wp2
                repeat (go_quiet (fail); try go_wp2)
                go_ret
                exact ⟨by first | rfl | (simp; done) | (simp [*]; done), by repeat (first | exact Drawn0.refl _ | apply Drawn0.step)⟩
            · rw [if_neg c6] at H
              exact absurd H (by simp)
          · rw [if_neg c5] at H
            exact absurd H (by simp)
        · rw [if_neg c4] at H
          have c4b0 : decide (x5_1 < (l0.length : Int)) = false := decide_eq_false c4
          clear c4
          obtain rfl := Option.some.inj H
          go_wp2
          repeat (go_quiet (fail); try go_wp2)
          go_ret
          exact ⟨by first | rfl | (simp; done) | (simp [*]; done), by repeat (first | exact Drawn0.refl _ | apply Drawn0.step)⟩
  · rw [if_neg c3] at H
    have c3b0 : ((l0.length : Int) == (l1.length : Int)) = false := beq_eq_false_iff_ne.mpr c3
    have c3b1 : ((l0.length : Int) != (l1.length : Int)) = true := bne_iff_ne.mpr c3
    have c3b2 : (l0.length == l1.length) = false := by first | simpa using c3 | (simp at c3 ⊢; omega)
    obtain rfl := Option.some.inj H
    go_enter Try.func20, Try.ntmps20
    go_wp2
    repeat (go_quiet (fail); try go_wp2)
    go_ret
    exact ⟨by first | rfl | (simp; done) | (simp [*]; done), by repeat (first | exact Drawn0.refl _ | apply Drawn0.step)⟩

/-! ### millracelaw01_NumOwn: function 5 -/
def millracelaw01_NumOwn.f (k : Nat) (a0 : ByteArray) : Option (Bool) := (millracelaw01_alive.f k).bind fun t176 => (if t176 = true then ((num_Unhex.f a0).bind fun bt177 => ((millraceplain_CopyBytes.f bt177.1).bind fun t182 => ((num_Unhex.f a0).bind fun bt185 => ((millraceplain_Spoil.f k bt185.1).bind fun t190 => ((millraceplain_SameBytes.f k bt177.1 t182).bind fun t191 => (some t191)))))) else (some false))
theorem millracelaw01_NumOwn.mono : ∀ a0 k, LeO (millracelaw01_NumOwn.f k a0) (millracelaw01_NumOwn.f (k + 1) a0) := by
  intro a0 k
  unfold millracelaw01_NumOwn.f
  repeat' first
      | (with_reducible exact millracelaw01_alive.mono _)
      | (with_reducible exact millraceplain_SameBytes.mono _ _ _)
      | (with_reducible exact millraceplain_Spoil.mono _ _)
      | (with_reducible exact LeO.refl _)
      | (with_reducible exact LeO.none _)
      | (with_reducible refine LeO.ite ?_ ?_)
      | (with_reducible refine LeO.bind ?_ (fun _ => ?_))
      | exact millracelaw01_alive.mono _
      | exact millraceplain_SameBytes.mono _ _ _
      | exact millraceplain_Spoil.mono _ _
      | exact LeO.none _
      | refine LeO.ite ?_ ?_
      | refine LeO.bind ?_ (fun _ => ?_)
set_option maxHeartbeats 8000000 in
set_option maxRecDepth 100000 in
theorem millracelaw01_NumOwn.calls (k : Nat) (a0 : ByteArray) (r : Bool) (w : World) (h : millracelaw01_NumOwn.f k a0 = some r) :
    Calls Try.prog 5 #[.string a0] w fun e w' => e = .returned (.bool r) ∧ Below w.heap.size w w' := by
  have HB := Aside0.mk (Below.refl w.heap.size w)
  have H : ((millracelaw01_alive.f k).bind fun t176 => (if t176 = true then ((num_Unhex.f a0).bind fun bt177 => ((millraceplain_CopyBytes.f bt177.1).bind fun t182 => ((num_Unhex.f a0).bind fun bt185 => ((millraceplain_Spoil.f k bt185.1).bind fun t190 => ((millraceplain_SameBytes.f k bt177.1 t182).bind fun t191 => (some t191)))))) else (some false))) = some r := h
  clear h
  replace H := Option.bind_eq_some_iff.mp H
  obtain ⟨t176, A20, H⟩ := H
  replace H : (if t176 = true then ((num_Unhex.f a0).bind fun bt177 => ((millraceplain_CopyBytes.f bt177.1).bind fun t182 => ((num_Unhex.f a0).bind fun bt185 => ((millraceplain_Spoil.f k bt185.1).bind fun t190 => ((millraceplain_SameBytes.f k bt177.1 t182).bind fun t191 => (some t191)))))) else (some false)) = some r := H
  have A2 := Aside0.mk A20
  clear A20
  by_cases c3 : t176 = true
  · subst c3
    have H1 : ((num_Unhex.f a0).bind fun bt177 => ((millraceplain_CopyBytes.f bt177.1).bind fun t182 => ((num_Unhex.f a0).bind fun bt185 => ((millraceplain_Spoil.f k bt185.1).bind fun t190 => ((millraceplain_SameBytes.f k bt177.1 t182).bind fun t191 => (some t191)))))) = some r := by rw [if_pos rfl] at H; exact H
    clear H
    have H := H1
    clear H1
    replace H := Option.bind_eq_some_iff.mp H
    obtain ⟨⟨t177, t178, t179⟩, A40, H⟩ := H
    replace H : ((millraceplain_CopyBytes.f t177).bind fun t182 => ((num_Unhex.f a0).bind fun bt185 => ((millraceplain_Spoil.f k bt185.1).bind fun t190 => ((millraceplain_SameBytes.f k t177 t182).bind fun t191 => (some t191))))) = some r := H
    have A4 := Aside0.mk A40
    clear A40
    replace H := Option.bind_eq_some_iff.mp H
    obtain ⟨t182, A50, H⟩ := H
    replace H : ((num_Unhex.f a0).bind fun bt185 => ((millraceplain_Spoil.f k bt185.1).bind fun t190 => ((millraceplain_SameBytes.f k t177 t182).bind fun t191 => (some t191)))) = some r := H
    have A5 := Aside0.mk A50
    clear A50
    replace H := Option.bind_eq_some_iff.mp H
    obtain ⟨⟨t185, t186, t187⟩, A60, H⟩ := H
    replace H : ((millraceplain_Spoil.f k t185).bind fun t190 => ((millraceplain_SameBytes.f k t177 t182).bind fun t191 => (some t191))) = some r := H
    have A6 := Aside0.mk A60
    clear A60
    replace H := Option.bind_eq_some_iff.mp H
    obtain ⟨t190, A70, H⟩ := H
    replace H : ((millraceplain_SameBytes.f k t177 t182).bind fun t191 => (some t191)) = some r := H
    have A7 := Aside0.mk A70
    clear A70
    replace H := Option.bind_eq_some_iff.mp H
    obtain ⟨t191, A80, H⟩ := H
    replace H : (some t191) = some r := H
    have A8 := Aside0.mk A80
    clear A80
    obtain rfl := Option.some.inj H
    go_enter Try.func5, Try.ntmps5
    go_wp2_with (first | ((with_reducible refine gate_callee (f := 16) rfl ?_); refine goesL_ (some 10) rfl rfl Try.func16 (by kernel_rfl) rfl #[] rfl (by (try simp only [List.map_toArray, List.map_cons, List.map_nil]); first | done | rfl | (simp only [List.length_drop, List.length_take]; rfl)) ?_; (with_reducible refine (millracelaw01_alive.calls k  true _ A2.out).mono ?_); rintro e w9 ⟨rfl, hb⟩; refine ⟨_, rfl, ?_⟩; have n0_ := Aside0.mk (below_step (by repeat (first | (with_reducible first | exact HB.out | apply below_alloc | apply pw_below_drewN | apply below_drew1) | exact HB.out)) hb); clear HB; have HB := n0_; clear n0_; (try clear hb); (try clear hb2); (try clear hk); (try clear hi)) | ((with_reducible refine gate_callee (f := 17) rfl ?_); refine goesL_ (some 14) rfl rfl Try.func17 (by kernel_rfl) rfl #[.string a0] rfl (by (try simp only [List.map_toArray, List.map_cons, List.map_nil]); first | done | rfl | (simp only [List.length_drop, List.length_take]; rfl)) ?_; (with_reducible refine (num_Unhex.calls a0 t177 t178 t179 _ A4.out).mono ?_); rintro e w10 ⟨v180, rfl, ho0, hb⟩; refine ⟨_, rfl, ?_⟩; have n0_ := Aside0.mk (Kd.R_lower ho0 (below_size (by repeat (first | (with_reducible first | exact HB.out | apply below_alloc | apply pw_below_drewN | apply below_drew1) | exact HB.out)))); have n1_ := Aside0.mk (below_step (by repeat (first | (with_reducible first | exact HB.out | apply below_alloc | apply pw_below_drewN | apply below_drew1) | exact HB.out)) hb); clear HB; have HO181 := n0_; have HB := n1_; clear n0_ n1_; (try clear hb); (try clear hb2); (try clear hk); (try clear hi); (try clear ho0); obtain ⟨Ao11, co11, eo11⟩ := Kd.R_slice HO181.out; subst eo11) | ((with_reducible refine gate_callee (f := 18) rfl ?_); refine goesL_ (some 19) rfl rfl Try.func18 (by kernel_rfl) rfl #[.slice Ao11 t177.length co11] rfl (by (try simp only [List.map_toArray, List.map_cons, List.map_nil]); first | done | rfl | (simp only [List.length_drop, List.length_take]; rfl)) ?_; (with_reducible refine (millraceplain_CopyBytes.calls _ _ t177 t182 _ ?side1 ?side2 A5.out).mono ?_); (case side1 => repeat (first | exact (Kd.R_reads' HO181.out).2.2 | (with_reducible refine Kd.C_alloc ?_ _) | (with_reducible refine Kd.C_drewN ?_ _) | (with_reducible refine Kd.C_drew ?_))); (case side2 => exact (Kd.R_reads' HO181.out).2.1); rintro e w12 ⟨v183, rfl, ho0, hb⟩; refine ⟨_, rfl, ?_⟩; have n0_ := Aside0.mk (Kd.R_elder' (by (with_reducible repeat (first | apply Kd.R_alloc | apply Kd.R_drewN | apply Kd.R_drew)); exact HO181.out) (Kd.R_base ho0) hb); have n1_ := Aside0.mk (Kd.R_lower (Kd.R_new' ho0 (Kd.R_lt (by (with_reducible repeat (first | apply Kd.R_alloc | apply Kd.R_drewN | apply Kd.R_drew)); exact HO181.out))) (below_size (by repeat (first | (with_reducible first | exact HB.out | apply below_alloc | apply pw_below_drewN | apply below_drew1) | exact HB.out)))); have n2_ := Aside0.mk (below_step (by repeat (first | (with_reducible first | exact HB.out | apply below_alloc | apply pw_below_drewN | apply below_drew1) | exact HB.out)) hb); clear HO181; clear HB; have HO181 := n0_; have HO184 := n1_; have HB := n2_; clear n0_ n1_ n2_; (try clear hb); (try clear hb2); (try clear hk); (try clear hi); (try clear ho0)) | ((with_reducible refine gate_callee (f := 17) rfl ?_); refine goesL_ (some 22) rfl rfl Try.func17 (by kernel_rfl) rfl #[.string a0] rfl (by (try simp only [List.map_toArray, List.map_cons, List.map_nil]); first | done | rfl | (simp only [List.length_drop, List.length_take]; rfl)) ?_; (with_reducible refine (num_Unhex.calls a0 t185 t186 t187 _ A6.out).mono ?_); rintro e w13 ⟨v188, rfl, ho0, hb⟩; refine ⟨_, rfl, ?_⟩; have n0_ := Aside0.mk (Kd.R_elder' (by (with_reducible repeat (first | apply Kd.R_alloc | apply Kd.R_drewN | apply Kd.R_drew)); exact HO181.out) (Kd.R_base ho0) hb); have n1_ := Aside0.mk (Kd.R_elder' (by (with_reducible repeat (first | apply Kd.R_alloc | apply Kd.R_drewN | apply Kd.R_drew)); exact HO184.out) (Kd.R_base ho0) hb); have n2_ := Aside0.mk (Kd.R_lower (Kd.R_new' (Kd.R_new' ho0 (Kd.R_lt (by (with_reducible repeat (first | apply Kd.R_alloc | apply Kd.R_drewN | apply Kd.R_drew)); exact HO181.out))) (Kd.R_lt (by (with_reducible repeat (first | apply Kd.R_alloc | apply Kd.R_drewN | apply Kd.R_drew)); exact HO184.out))) (below_size (by repeat (first | (with_reducible first | exact HB.out | apply below_alloc | apply pw_below_drewN | apply below_drew1) | exact HB.out)))); have n3_ := Aside0.mk (below_step (by repeat (first | (with_reducible first | exact HB.out | apply below_alloc | apply pw_below_drewN | apply below_drew1) | exact HB.out)) hb); clear HO181; clear HO184; clear HB; have HO181 := n0_; have HO184 := n1_; have HO189 := n2_; have HB := n3_; clear n0_ n1_ n2_ n3_; (try clear hb); (try clear hb2); (try clear hk); (try clear hi); (try clear ho0); obtain ⟨Ao14, co14, eo14⟩ := Kd.R_slice HO189.out; subst eo14) | ((with_reducible refine gate_callee (f := 19) rfl ?_); refine goesL_ (some 27) rfl rfl Try.func19 (by kernel_rfl) rfl #[.slice Ao14 t185.length co14] rfl (by (try simp only [List.map_toArray, List.map_cons, List.map_nil]); first | done | rfl | (simp only [List.length_drop, List.length_take]; rfl)) ?_; (with_reducible refine (millraceplain_Spoil.calls k (fun k_ => some k_ = (.slice Ao14 t185.length co14 : Value).ownBlock) (.slice Ao14 t185.length co14) t185 t190 w _ ?side1 ?side2 A7.out).mono ?_); (case side1 => repeat (first | (with_reducible first | exact HB.out | apply below_alloc | apply pw_below_drewN | apply below_drew1) | exact HB.out)); (case side2 => exact Kd.R_tight rfl HO189.out); rintro e w15 ⟨rfl, hy0, hb, hkp⟩; refine ⟨_, rfl, ?_⟩; have n0_ := Aside0.mk (Kd.R_mono (ok' := fun k_ => some k_ ≠ (v183 : Value).ownBlock ∧ some k_ ≠ (.slice Ao14 t185.length co14 : Value).ownBlock) (Kd.R_keptB (HO181.out) hkp (fun k_ hk_ hs_ => (hk_.2) hs_)) (fun k_ hk_ => ⟨hk_.1.1.2, hk_.1.2⟩)); have n1_ := Aside0.mk (Kd.R_mono (ok' := fun k_ => some k_ ≠ (.slice Ao11 t177.length co11 : Value).ownBlock ∧ some k_ ≠ (.slice Ao14 t185.length co14 : Value).ownBlock) (Kd.R_keptB (HO184.out) hkp (fun k_ hk_ hs_ => (hk_.2) hs_)) (fun k_ hk_ => ⟨hk_.1.1.2, hk_.1.2⟩)); have n2_ := Aside0.mk (Kd.R_reok rfl hy0 (fun k_ e_ => HO189.out.1 k_ e_)); have n3_ := Aside0.mk (hb); clear HO181; clear HO184; clear HO189; clear HB; have HO181 := n0_; have HO184 := n1_; have HO189 := n2_; have HB := n3_; clear n0_ n1_ n2_ n3_; (try clear hb); (try clear hkp); (try clear hy0); obtain ⟨Ao16, co16, eo16⟩ := Kd.R_slice HO184.out; subst eo16) | ((with_reducible refine gate_callee (f := 20) rfl ?_); refine goesL_ (some 30) rfl rfl Try.func20 (by kernel_rfl) rfl #[.slice Ao11 t177.length co11, .slice Ao16 t182.length co16] rfl (by (try simp only [List.map_toArray, List.map_cons, List.map_nil]); first | done | rfl | (simp only [List.length_drop, List.length_take]; rfl)) ?_; (with_reducible refine (millraceplain_SameBytes.calls k _ _ t177 _ _ t182 t191 _ ?side1 ?side2 ?side3 ?side4 A8.out).mono ?_); (case side1 => repeat (first | exact (Kd.R_reads' HO181.out).2.2 | (with_reducible refine Kd.C_alloc ?_ _) | (with_reducible refine Kd.C_drewN ?_ _) | (with_reducible refine Kd.C_drew ?_))); (case side2 => exact (Kd.R_reads' HO181.out).2.1); (case side3 => repeat (first | exact (Kd.R_reads' HO184.out).2.2 | (with_reducible refine Kd.C_alloc ?_ _) | (with_reducible refine Kd.C_drewN ?_ _) | (with_reducible refine Kd.C_drew ?_))); (case side4 => exact (Kd.R_reads' HO184.out).2.1); rintro e w' ⟨rfl, ⟨nd, rfl⟩⟩; refine ⟨_, rfl, ?_⟩))
    go_ret
    exact ⟨by first | rfl | (simp [errW_none, errW_some] <;> rfl) | (simp [*, errW_none, errW_some] <;> rfl), by repeat (first | (with_reducible first | exact HB.out | apply below_alloc | apply pw_below_drewN | apply below_drew1) | exact HB.out)⟩
  · replace c3 := Bool.eq_false_iff.mpr c3
    subst c3
    have H1 : (some false) = some r := by rw [if_neg (show ¬ (false = true) by decide)] at H; exact H
    clear H
    have H := H1
    clear H1
    obtain rfl := Option.some.inj H
    go_enter Try.func5, Try.ntmps5
    go_wp2_with (first | ((with_reducible refine gate_callee (f := 16) rfl ?_); refine goesL_ (some 10) rfl rfl Try.func16 (by kernel_rfl) rfl #[] rfl (by (try simp only [List.map_toArray, List.map_cons, List.map_nil]); first | done | rfl | (simp only [List.length_drop, List.length_take]; rfl)) ?_; (with_reducible refine (millracelaw01_alive.calls k  false _ A2.out).mono ?_); rintro e w17 ⟨rfl, hb⟩; refine ⟨_, rfl, ?_⟩; have n0_ := Aside0.mk (below_step (by repeat (first | (with_reducible first | exact HB.out | apply below_alloc | apply pw_below_drewN | apply below_drew1) | exact HB.out)) hb); clear HB; have HB := n0_; clear n0_; (try clear hb); (try clear hb2); (try clear hk); (try clear hi)))
    go_ret
    exact ⟨by first | rfl | (simp [errW_none, errW_some] <;> rfl) | (simp [*, errW_none, errW_some] <;> rfl), by repeat (first | (with_reducible first | exact HB.out | apply below_alloc | apply pw_below_drewN | apply below_drew1) | exact HB.out)⟩

/-- THE ONE PURE STATEMENT of millracelaw01_NumOwn: yours. -/
def millracelaw01_NumOwn.Pure : Prop := ∀ (a0 : ByteArray), a0.size ≤ 140737488351232 → ∃ k, millracelaw01_NumOwn.f k a0 = some true
theorem millracelaw01_NumOwn.walk (P : millracelaw01_NumOwn.Pure) (a0 : ByteArray) (w : World) (w0 : a0.size ≤ 140737488351232) :
    Calls Try.prog 5 #[.string a0] w fun e w' => e = .returned (.bool true) ∧ Below w.heap.size w w' := by
  obtain ⟨k, h⟩ := P a0 w0
  refine (millracelaw01_NumOwn.calls k a0 true w h).mono ?_
  rintro e w' ⟨rfl, hd⟩
  exact ⟨rfl, hd⟩

end Go.Proofs.Ytlfahlmhkndllaa.PNum
