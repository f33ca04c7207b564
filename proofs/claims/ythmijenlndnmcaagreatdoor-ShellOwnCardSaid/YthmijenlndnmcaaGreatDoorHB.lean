/-
  Hand-made contracts of functions of the program: Lines, ThroughState, Through.
-/
import Derived.Test.YthmijenlndnmcaaGreatDoorHA
import Derived.Test.YthmijenlndnmcaaGreatDoorRange
import Derived.Test.YthmijenlndnmcaaGreatDoorRound
import Derived.Test.YthmijenlndnmcaaGreatDoorShx0
namespace Go.Proofs.YthmijenlndnmcaaGreatDoor.Sh
open Go.RowKit Go.Proofs.YthmijenlndnmcaaGreatDoorW.PrintWords Go.Proofs.YthmijenlndnmcaaGreatDoorW.PrintLast Go.Proofs.YthmijenlndnmcaaGreatDoorW.PrintMore
attribute [local go_sem] max2_int min2_int max_two min_two max_three min_three max_four min_four
set_option linter.unusedVariables false
set_option linter.unusedSimpArgs false
def firstLen (l : List Int) : Nat := if 0 ≤ Lib.indexByte (Lib.bytesOf l) 10 then (Lib.indexByte (Lib.bytesOf l) 10).toNat + 1 else l.length
theorem idx_lt : ∀ (l : List UInt8) (c : UInt8), Lib.indexByte l c < l.length := by
  intro l c
  induction l with
  | nil => simp [Lib.indexByte]
  | cons x r ih =>
    simp only [Lib.indexByte]
    repeat' split
    all_goals (simp only [List.length_cons]; omega)
theorem firstLen_le (l : List Int) : firstLen l ≤ l.length := by
  unfold firstLen
  have := idx_lt (Lib.bytesOf l) 10
  rw [Lib.bytesOf_length] at this
  split <;> omega
theorem firstLen_pos {l : List Int} (h : 0 < l.length) : 0 < firstLen l := by
  unfold firstLen; split <;> omega
def spansF : Nat → Nat → List Int → List (Nat × Nat)
  | 0, _, _ => []
  | f + 1, o, l => if l = [] then [] else (o, firstLen l) :: spansF f (o + firstLen l) (l.drop (firstLen l))
theorem spansF_more : ∀ (f g o : Nat) (l : List Int), l.length ≤ f → l.length ≤ g → spansF f o l = spansF g o l := by
  intro f
  induction f with
  | zero =>
    intro g o l h1 h2
    obtain rfl : l = [] := List.eq_nil_of_length_eq_zero (by omega)
    cases g with
    | zero => rfl
    | succ g => simp [spansF]
  | succ f ih =>
    intro g o l h1 h2
    cases g with
    | zero =>
      obtain rfl : l = [] := List.eq_nil_of_length_eq_zero (by omega)
      simp [spansF]
    | succ g =>
      simp only [spansF]
      by_cases hl : l = []
      · rw [if_pos hl, if_pos hl]
      · rw [if_neg hl, if_neg hl]
        have hp := firstLen_pos (List.length_pos_iff.2 hl)
        rw [ih g _ _ (by simp; omega) (by simp; omega)]
def spans (l : List Int) : List (Nat × Nat) := spansF l.length 0 l
theorem spans_at (l : List Int) (o : Nat) (h : o < l.length) : spansF (l.length - o) o (l.drop o) = (o, firstLen (l.drop o)) :: spansF (l.length - (o + firstLen (l.drop o))) (o + firstLen (l.drop o)) (l.drop (o + firstLen (l.drop o))) := by
  obtain ⟨f, hf⟩ : ∃ f, l.length - o = f + 1 := ⟨l.length - o - 1, by omega⟩
  have hne : l.drop o ≠ [] := by
    intro e
    have := congrArg List.length e
    simp at this; omega
  have hp := firstLen_pos (List.length_pos_iff.2 hne)
  rw [hf, spansF, if_neg hne, List.drop_drop]
  rw [spansF_more f (l.length - (o + firstLen (l.drop o))) _ _ (by simp; omega) (by simp)]
def LineBox (ad : Addr) (n c o : Nat) (v : Value) : Prop := (o < n ∧ v = .slice (some (ad.add o)) (n - o) (c - o)) ∨ (o = n ∧ ∃ x y, v = .slice x 0 y)
theorem add_blockL (a : Addr) (x : Nat) : (a.add x).block = a.block := by unfold Addr.add; split <;> rfl
theorem wadd9 (n : Nat) (h : n ≤ 2000000000) : wrap64 ((n : Int) + 1) = ((n + 1 : Nat) : Int) := by unfold wrap64; omega
theorem grown_set (w : World) (B : Nat) (v : Value) : w.grownBy (w.setCell ⟨B, 0, none⟩ v).drew (some B) := by
  have g := grownBy_setCell' w B v
  exact ⟨g.os, g.tape, g.output, g.size, g.block⟩
theorem grown_set1 (w : World) (B : Nat) (v : Value) : w.grownBy (w.setCell ⟨B, 0, none⟩ v) (some B) := grownBy_setCell' w B v
theorem boxed_set {w : World} {B : Nat} {t : TypeId} {v : Value} (h : Boxed w B t v) (u : Value) : Boxed (w.setCell ⟨B, 0, none⟩ u) B t u := blk_set h 0 u
attribute [local go_sem] Oper.semAt_some Rng.wide_fn Rng.wide_depth Rng.wide_alive
set_option maxHeartbeats 2000000 in
set_option maxRecDepth 100000 in
theorem lines1 (l Bs n c : Nat) (ad : Addr) (t : List Int) (hn : t.length = n) (hc : n ≤ c) (hmax : n ≤ 2000000000) (T : World → Prop) (ht : ∀ W, T W → ∀ j, j < n → W.cell? (ad.add j) = some (.int .u8 (t.getD j 0))) (J Jx : List (Nat × Nat) → World → Prop)
    (hJ : ∀ pre W W', J pre W → W.grownBy W' (some Bs) → J pre W')
    (hJb : ∀ pre W, J pre W → T W)
    (hY : ∀ pre o m W, J pre W → pre ++ (o, m) :: spansF (n - (o + m)) (o + m) (t.drop (o + m)) = spans t → o + m ≤ n → 0 < m → Rng.YieldW Tryz.prog l #[.slice (some (ad.add o)) m m] W fun e W' =>
      (e = .returned (.bool true) ∧ J (pre ++ [(o, m)]) W' ∧ W'.heap[Bs]? = W.heap[Bs]?) ∨ (e = .returned (.bool false) ∧ Jx (pre ++ [(o, m)]) W'))
    (W : World) (v : Value) (hv : LineBox ad n c 0 v) (h1 : Boxed W Bs 23 v) (h0 : J [] W) :
    Calls Tryz.prog 91 #[.func (.yield l) #[] #[], .pointer (some ⟨Bs, 0, none⟩)] W fun e W' => (∃ v, e = .returned v) ∧ (J (spans t) W' ∨ ∃ pre, Jx pre W') := by
  refine (callsIn_wide (n := 1)).1 ?_
  refine callsIn_of_wp Tryz.func91 rfl trivial ?_ rfl
  simp only [Tryz.ntmps91, List.size_toArray, List.length_cons, List.length_nil, Nat.reduceAdd, Nat.reduceSub, Array.replicate_succ, Array.replicate_zero, List.push_toArray, List.append_toArray, List.nil_append, List.cons_append]
  gi_wp2
  gi_loopg [3] n (fun k v3 wr => ∃ (o : Nat) (pre : List (Nat × Nat)) (v : Value), k = n - o ∧ o ≤ n ∧ pre ++ spansF (n - o) o (t.drop o) = spans t ∧ LineBox ad n c o v ∧ Boxed wr Bs 23 v ∧ J pre wr)
  case atStart => exact ⟨0, [], v, rfl, by omega, by rw [spans, hn]; rfl, hv, h1, h0⟩
  case round =>
    obtain ⟨o, pre, v, hk, ho, hpre, hvb, hb, hj⟩ := hrel
    have c1 := hb.cell
    rcases hvb with ⟨hlt, rfl⟩ | ⟨rfl, x, y, rfl⟩
    · have HIX := Lib.hid (fun W (hW : T W) => Tryz.bytes_IndexByte_at (ad.add o) (n - o) (c - o) (t.drop o) 10 W (by simp; omega) (fun i hi => by
        rw [Go.Deep.add_add, ht W hW (o + i) (by omega)]
        simp [List.getD_eq_getElem?_getD]))
      have hBw := hJb _ _ hj
      have hfl : firstLen (t.drop o) = if 0 ≤ Lib.indexByte (Lib.bytesOf (t.drop o)) 10 then (Lib.indexByte (Lib.bytesOf (t.drop o)) 10).toNat + 1 else n - o := by
        unfold firstLen; rw [List.length_drop, hn]
      have hfle := firstLen_le (t.drop o)
      have hilt := idx_lt (Lib.bytesOf (t.drop o)) 10
      rw [Lib.bytesOf_length, List.length_drop, hn] at hilt
      rw [List.length_drop, hn] at hfle
      have hsp := spans_at t o (by omega)
      rw [hn] at hsp
      rw [hsp] at hpre
      have e10 : (10 : Int).toNat.toUInt8 = 10 := rfl
      rw [e10] at HIX
      obtain ⟨ix, hix⟩ : ∃ ix, Lib.indexByte (Lib.bytesOf (t.drop o)) 10 = ix := ⟨_, rfl⟩
      rw [hix] at HIX hfl hilt
      obtain ⟨nn, hnn⟩ : ∃ nn, n - o = nn := ⟨_, rfl⟩
      obtain ⟨cc, hcc⟩ : ∃ cc, c - o = cc := ⟨_, rfl⟩
      obtain ⟨A, hA⟩ : ∃ A, ad.add o = A := ⟨_, rfl⟩
      rw [hnn, hcc, hA] at HIX c1 hb
      have hncc : nn ≤ cc := by omega
      have hnn0 : 0 < nn := by omega
      have hnnb : nn ≤ 2000000000 := by omega
      rw [hnn] at hfl hilt
      have HY := Lib.hid (fun W2 hj2 => hY pre o (firstLen (t.drop o)) W2 hj2 hpre)
      have HJ := Lib.hid (fun W2 hg => hJ pre wr W2 hj hg)
      rw [hA] at HY
      have HH := Lib.hid (And.intro hpre (And.intro hj (And.intro hBw (And.intro hk (And.intro hnn (And.intro hcc (And.intro hA hix)))))))
      clear hsp hpre hj hk hnn hcc hA hix hY hJ hJb ht
      by_cases hneg : ix < 0
      · have d1 : decide ((0 : Int) < (nn : Int)) = true := by simp; omega
        have d2 : decide ((0 : Int) ≤ ix) = false := by simp; omega
        have hfm : firstLen (t.drop o) = nn := by rw [hfl, if_neg (by omega)]
        rw [hfm] at HY
        have q2 : (nn : Int) ≤ (cc : Int) := by omega
        have HM := Lib.hid (And.intro hfm (And.intro hncc (And.intro hn (And.intro hc (And.intro hnn0 ho)))))
        have fz := hb.frozen
        clear hfm hfl hfle hilt hneg hncc hnnb hn hc hmax
        gi_wp2_with (gi_at_call 92; go_must (refine (callsIn_wide.2 (HIX.out _ HH.out.2.2.1)).mono ?_); go_must (rintro e w' ⟨rfl, rfl⟩; have hj2 := HJ.out _ (grown_set1 w' Bs (.slice none 0 0)); obtain ⟨fn, tmps, assign, body, hy, hR⟩ := HY.out _ hj2 (by have := HH.out.2.2.2.2.1; have := HM.out.2.2.2.2.1; omega) HM.out.2.2.2.2.1 0; have HR := Lib.hid hR; have hb2 := boxed_set hb (.slice none 0 0); clear hR hj2))
        refine HR.out.mono ?_
        rintro e W3 (⟨rfl, hJ3, hk3⟩ | ⟨rfl, hJx3⟩)
        · have hb3 : Boxed W3 Bs 23 (.slice none 0 0) := hk3.trans hb2
          gi_wp2
          go_roundg (n - (o + nn))
          case measure => have := HH.out.2.2.2.1; have := HH.out.2.2.2.2.1; have := HM.out.2.2.2.2.1; omega
          case rel =>
            have hle := HM.out.2.2.2.2.2
            have hnn := HH.out.2.2.2.2.1
            refine ⟨o + nn, pre ++ [(o, nn)], _, rfl, by omega, ?_, .inr ⟨by omega, _, _, rfl⟩, hb3, hJ3⟩
            have h1 := HH.out.1
            rw [HM.out.1] at h1
            rw [List.append_assoc]; exact h1
        · gi_wp2
          refine bodyPost_ret (results_none rfl _ _ _) rfl ?_
          exact ⟨⟨_, rfl⟩, .inr ⟨_, hJx3⟩⟩
      · obtain ⟨p, rfl⟩ := Int.eq_ofNat_of_zero_le (show 0 ≤ ix by omega)
        have hfm0 : firstLen (t.drop o) = p + 1 := by rw [hfl, if_pos (by omega), Int.toNat_natCast]
        rw [hfm0] at HY
        have hp1 : p + 1 ≤ nn := by omega
        have hp2 : p + 1 ≤ cc := by omega
        have hp3 : ((p : Int) + 1) ≤ (nn : Int) := by omega
        have hp4 : ((p : Int) + 1) ≤ (cc : Int) := by omega
        have hp5 : (nn : Int) ≤ (cc : Int) := by omega
        have d1 : decide ((0 : Int) < (nn : Int)) = true := by simp; omega
        have d2 : decide ((0 : Int) ≤ (p : Int)) = true := by simp
        have hpb : (p : Int) ≤ 2000000000 := by omega
        gi_wp2_with (gi_at_call 92; go_must (refine (callsIn_wide.2 (HIX.out _ HH.out.2.2.1)).mono ?_); go_must (rintro e w' ⟨rfl, rfl⟩))
        have fz := hb.frozen
        obtain ⟨m, hm⟩ : ∃ m, p + 1 = m := ⟨_, rfl⟩
        rw [hm] at HY
        rw [hm] at hfm0
        have q0 : (0 : Int) ≤ (m : Int) := by omega
        have q1 : (m : Int) ≤ (nn : Int) := by omega
        have q2 : (m : Int) ≤ (cc : Int) := by omega
        have hwp : wrap64 ((p : Int) + 1) = (m : Int) := by rw [← hm]; exact wadd9 p (Nat.le_trans (by omega) hnnb)
        have HM := Lib.hid (And.intro hm (And.intro hfm0 (And.intro hfle (And.intro hp1 (And.intro hncc (And.intro hn (And.intro hc hmax)))))))
        clear hm hfl hfm0 hfle hp1 hp2 hp3 hp4 hpb hn hc hmax hilt hneg hncc hnn0 hnnb
        refine wpIn_wide.2 ?_
        refine start_ (n := 10) (S := fun w' => w'.cell? ⟨Bs, 0, none⟩ = some (.slice (some A) nn cc)) (ds := [9]) #[false, false, false, false, false, false, false, false, false, false] (by kernel_rfl) rfl rfl (c1) (fun hHeld => ?_)
        refine pure_ (i := 1) (N := some 13) (v := ?_) (a' := ?_) #[false, true, false, false, false, false, false, false, false, false] rfl rfl (by kernel_rfl) (fun _ _ _ h => h) (Or.inl ⟨by rfl, ?_⟩) ?_ ?_
        rotate_left
        · intro w'
          go_simp
          with_reducible rfl
        rotate_left
        · simp only [Act.put, List.setIfInBounds_toArray, List.set_cons_zero, List.set_cons_succ, i64_w, i32_w]
          rfl
        refine pure_ (i := 2) (N := some 14) (v := ?_) (a' := ?_) #[false, true, true, false, false, false, false, false, false, false] rfl rfl (by kernel_rfl) (fun _ _ _ h => h) (Or.inl ⟨by rfl, ?_⟩) ?_ ?_
        rotate_left
        · intro w'
          go_simp
          with_reducible rfl
        rotate_left
        · simp only [Act.put, List.setIfInBounds_toArray, List.set_cons_zero, List.set_cons_succ, i64_w, i32_w]
          rfl
        refine pure_ (i := 5) (N := some 17) (v := ?_) (a' := ?_) #[false, true, true, false, false, true, false, false, false, false] rfl rfl (by kernel_rfl) (fun _ _ _ h => h) (Or.inl ⟨by rfl, ?_⟩) ?_ ?_
        rotate_left
        · intro w'
          go_simp
          with_reducible rfl
        rotate_left
        · simp only [Act.put, List.setIfInBounds_toArray, List.set_cons_zero, List.set_cons_succ, i64_w, i32_w]
          rfl
        refine pure_ (i := 6) (N := some 18) (v := ?_) (a' := ?_) #[false, true, true, false, false, true, true, false, false, false] rfl rfl (by kernel_rfl) (fun _ _ _ h => h) (Or.inl ⟨by rfl, ?_⟩) ?_ ?_
        rotate_left
        · intro w'
          go_simp
          with_reducible rfl
        rotate_left
        · simp only [Act.put, List.setIfInBounds_toArray, List.set_cons_zero, List.set_cons_succ, i64_w, i32_w]
          rfl
        refine take_ (i := 0) (N := some 12) (v := ?_) (a' := ?_) #[true, true, true, false, false, true, true, false, false, false] rfl rfl (by kernel_rfl) (fun _ _ _ h => h) (Or.inl ⟨by rfl, ?_⟩) hHeld ?_ ?_
        rotate_left
        · intro w' s0
          go_simp
          with_reducible rfl
        rotate_left
        · simp only [Act.put, List.setIfInBounds_toArray, List.set_cons_zero, List.set_cons_succ, i64_w, i32_w]
          rfl
        refine pure_ (i := 3) (N := some 15) (v := ?_) (a' := ?_) #[true, true, true, true, false, true, true, false, false, false] rfl rfl (by kernel_rfl) (fun _ _ _ h => h) (Or.inl ⟨by rfl, ?_⟩) ?_ ?_
        rotate_left
        · intro w'
          go_simp
          with_reducible rfl
        rotate_left
        · simp only [Act.put, List.setIfInBounds_toArray, List.set_cons_zero, List.set_cons_succ, i64_w, i32_w]
          rfl
        refine pure_ (i := 8) (N := some 3) (v := ?_) (a' := ?_) #[true, true, true, true, false, true, true, false, true, false] rfl rfl (by kernel_rfl) (fun _ _ _ h => h) (Or.inl ⟨by rfl, ?_⟩) ?_ ?_
        rotate_left
        · intro w'
          go_simp
          with_reducible rfl
        rotate_left
        · simp only [Act.put, List.setIfInBounds_toArray, List.set_cons_zero, List.set_cons_succ, i64_w, i32_w]
          rfl
        refine take_ (i := 4) (N := some 16) (v := ?_) (a' := ?_) #[true, true, true, true, true, true, true, false, true, false] rfl rfl (by kernel_rfl) (fun _ _ _ h => h) (Or.inl ⟨by rfl, ?_⟩) hHeld ?_ ?_
        rotate_left
        · intro w' s0
          go_simp
          with_reducible rfl
        rotate_left
        · simp only [Act.put, List.setIfInBounds_toArray, List.set_cons_zero, List.set_cons_succ, i64_w, i32_w]
          rfl
        refine pure_ (i := 7) (N := some 19) (v := ?_) (a' := ?_) #[true, true, true, true, true, true, true, true, true, false] rfl rfl (by kernel_rfl) (fun _ _ _ h => h) (Or.inl ⟨by rfl, ?_⟩) ?_ ?_
        rotate_left
        · intro w'
          go_simp
          with_reducible rfl
        rotate_left
        · simp only [Act.put, List.setIfInBounds_toArray, List.set_cons_zero, List.set_cons_succ, i64_w, i32_w]
          rfl
        refine last_ (i := 9) (N := none) #[true, true, true, true, true, true, true, true, true, true] rfl rfl (by kernel_rfl) (by decide) (fun K hK => ?_)
        refine skip_ (w1 := ?_) (by rfl) rfl ?_ ?_
        rotate_left
        · go_simp
          rfl
        refine hK.out _ _ ?_
        clear hK K
        refine done_ (by kernel_rfl) ?_
        generalize hv2 : (Value.slice (if cc = m then some A else some (A.add m)) (nn - m) (cc - m)) = v2 at *
        have HV := Lib.hid hv2
        clear hv2
        have hj2 := HJ.out _ (grown_set w' Bs v2)
        have hb2 : Boxed ((w'.setCell { block := Bs, off := 0 } v2).drew) Bs 23 v2 := blk_drew (boxed_set hb _)
        generalize (w'.setCell { block := Bs, off := 0 } v2).drew = W2 at *
        have hpos : o + m ≤ n := by have := HM.out.1; have := HM.out.2.2.2.1; have := HH.out.2.2.2.2.1; omega
        have hm0 : 0 < m := by have := HM.out.1; omega
        obtain ⟨fn, tmps, assign, body, hy, hR⟩ := HY.out W2 hj2 hpos hm0 0
        have HR := Lib.hid hR
        have HP := Lib.hid (And.intro hpos hm0)
        clear hR hj2 hpos hm0
        gi_wp2
        refine HR.out.mono ?_
        rintro e W3 (⟨rfl, hJ3, hk3⟩ | ⟨rfl, hJx3⟩)
        · have hb3 : Boxed W3 Bs 23 v2 := hk3.trans hb2
          gi_wp2
          obtain ⟨hpos, hm0⟩ := HP.out
          go_roundg (n - (o + m))
          case measure => have := HH.out.2.2.2.1; omega
          case rel =>
            refine ⟨o + m, pre ++ [(o, m)], v2, rfl, hpos, ?_, ?_, hb3, hJ3⟩
            · have h1 := HH.out.1
              rw [HM.out.2.1] at h1
              rw [List.append_assoc]; exact h1
            · have hm := HM.out.1; have hp1 := HM.out.2.2.2.1; have hncc := HM.out.2.2.2.2.1
              have hnn := HH.out.2.2.2.2.1; have hcc := HH.out.2.2.2.2.2.1; have hA := HH.out.2.2.2.2.2.2.1
              by_cases hlt2 : o + m < n
              · refine .inl ⟨hlt2, ?_⟩
                rw [← HV.out, if_neg (by omega), ← hA, Go.Deep.add_add, ← hnn, ← hcc]
                have e1 : n - o - m = n - (o + m) := by omega
                have e2 : c - o - m = c - (o + m) := by omega
                rw [e1, e2]
              · refine .inr ⟨by omega, ?_⟩
                have e1 : nn - m = 0 := by omega
                rw [← HV.out, e1]
                exact ⟨_, _, rfl⟩
        · gi_wp2
          refine bodyPost_ret (results_none rfl _ _ _) rfl ?_
          exact ⟨⟨_, rfl⟩, .inr ⟨_, hJx3⟩⟩
    · have hsp : spansF (o - o) o (t.drop o) = [] := by simp [spansF]
      rw [hsp, List.append_nil] at hpre
      rw [hpre] at hj
      have HJJ := Lib.hid hj
      clear hY hJ hJb hj hpre hsp ht
      gi_wp2
      go_end0
      exact ⟨⟨_, rfl⟩, .inl HJJ.out⟩
theorem lines_seq (Bs n c : Nat) (ad : Addr) (t : List Int) (hn : t.length = n) (hc : n ≤ c) (hmax : n ≤ 2000000000) (w : World) (v : Value) (hv : LineBox ad n c 0 v) (hne : ad.block ≠ Bs) (hlt : ad.block < w.heap.size)
    (ht : ∀ j, j < n → w.cell? (ad.add j) = some (.int .u8 (t.getD j 0))) (h1 : Boxed w Bs 23 v) :
    Rng.SeqW Tryz.prog 91 #[.pointer (some ⟨Bs, 0, none⟩)] (fun x : Nat × Nat => #[Value.slice (some (ad.add x.1)) x.2 x.2]) (fun r => r = Bs) (fun k => k = Bs ∨ k = ad.block) (fun xs => xs = spans t)
      (fun pre => ∃ p o m suf, pre = p ++ [(o, m)] ∧ pre ++ suf = spans t ∧ o + m ≤ n ∧ 0 < m) w := by
  intro l J Jx W hW hJ hJx hY h0
  have g1 : Boxed W Bs 23 v := (hW.block Bs h1.lt).trans h1
  have gb : W.heap[ad.block]? = w.heap[ad.block]? := hW.block _ hlt
  have hl0 : ad.block < W.heap.size := Nat.lt_of_lt_of_le hlt hW.size
  refine (lines1 l Bs n c ad t hn hc hmax (fun W' => W'.heap[ad.block]? = w.heap[ad.block]?) ?_ (fun pre W' => J pre W' ∧ Bs < W'.heap.size ∧ ad.block < W'.heap.size ∧ W'.heap[ad.block]? = w.heap[ad.block]?)
    (fun pre W' => (∃ p o m suf, pre = p ++ [(o, m)] ∧ pre ++ suf = spans t ∧ o + m ≤ n ∧ 0 < m) ∧ Jx pre W') ?_ ?_ ?_ W v hv g1 ⟨h0, g1.lt, hl0, gb⟩).mono ?_
  · intro W' hW' j hj
    rw [← ht j hj]
    exact World.cell?_of_block (w := w) (a := ad.add j) (by rw [add_blockL]; exact hW')
  · rintro pre A B ⟨hj, hs1, hs2, hb⟩ hg
    refine ⟨hJ pre A B (some Bs) hj hg (fun r e => .inl (by cases e; rfl)), Nat.lt_of_lt_of_le hs1 hg.size, Nat.lt_of_lt_of_le hs2 hg.size, (hg.block _ hs2 (fun e => hne (Option.some.inj e))).trans hb⟩
  · rintro pre A ⟨_, _, _, hb⟩
    exact hb
  · rintro pre o m A ⟨hj, hs1, hs2, hb⟩ hsp hle hm0 q
    have hps : ∃ p o' m' suf, pre ++ [(o, m)] = p ++ [(o', m')] ∧ pre ++ [(o, m)] ++ suf = spans t ∧ o' + m' ≤ n ∧ 0 < m' := ⟨pre, o, m, _, rfl, by rw [List.append_assoc]; exact hsp, hle, hm0⟩
    obtain ⟨fn, tmps, assign, body, hy, hR⟩ := hY pre (o, m) A hj hps q
    refine ⟨fn, tmps, assign, body, hy, hR.mono ?_⟩
    rintro e B (⟨rfl, hj', hk, hs⟩ | ⟨rfl, hx'⟩)
    · exact .inl ⟨rfl, ⟨hj', Nat.lt_of_lt_of_le hs1 hs.size, Nat.lt_of_lt_of_le hs2 hs.size, (hs.same _ (.inr rfl) hs2).trans hb⟩, hs.same _ (.inl rfl) hs1⟩
    · exact .inr ⟨rfl, hps, hx'⟩
  · rintro e B ⟨hv', ⟨hj, _⟩ | ⟨pre, hp, hx⟩⟩
    · exact ⟨hv', .inl ⟨_, rfl, hj⟩⟩
    · exact ⟨hv', .inr ⟨pre, hp, hx⟩⟩
theorem run_R_append {base : Nat} {W : World} {v : Value} {xs ys : List Int} {A : Option Addr} {m c : Nat} (hR : Kd.R (Kd.int .u8) 5 W base (fun _ => True) v xs) (hC : Kd.C (Kd.int .u8) W A m ys) (hbase : base ≤ W.heap.size) (hl : xs.length + m ≤ 100000000) :
    ∃ v1 w1, (Builtin.append_ #[23, 23] 23 #[v, .slice A m c]).run Tryz.prog W = .ok v1 w1 ∧ Kd.R (Kd.int .u8) 5 w1 base (fun _ => True) v1 (xs ++ ys) ∧ W.grownBy w1 v.ownBlock ∧ (v1.ownBlock = v.ownBlock ∨ v1.ownBlock = some W.heap.size) := by
  obtain ⟨i0, hi, hz0, hz1, hz2⟩ := info_parts info5
  have hown := Kd.own_of_R hR
  have hm : ys.length = m := hC.1
  cases A with
  | none =>
    have h0 : m = 0 := by
      rcases Nat.eq_zero_or_pos m with h0 | h0
      · exact h0
      · obtain ⟨ad, h, _⟩ := hC.2.2 h0; cases h
    subst h0
    obtain rfl : ys = [] := List.eq_nil_of_length_eq_zero hm
    refine ⟨v, W, ?_, by rw [List.append_nil]; exact hR, World.grownBy.refl W _, .inl rfl⟩
    have ht := Tryz.underlying23
    rcases hown.2 with ⟨rfl, hn⟩ | ⟨g, cap, cur, rfl, _, _, hnc, _⟩
    · simp [Builtin.append_, run_underlying ht, sizeOf, typeInfo, hi, Builtin.lenOf, Builtin.firstCells]
    · simp [Builtin.append_, run_underlying ht, sizeOf, typeInfo, hi, Builtin.lenOf, Builtin.firstCells, hnc, storeCells]
  | some ad =>
    have hnews : ∀ j u, (ys.map (Value.int .u8))[j]? = some u → W.cell? (ad.add j) = some u := by
      intro j u hu
      have hj : j < ys.length := by
        have := (List.getElem?_eq_some_iff.1 hu).1
        simpa using this
      have hC' : Kd.C (Kd.int .u8) W (some ad) m ys := hC
      obtain ⟨ad', e, hc⟩ := Kd.at_int hC' (j : Int) (by omega) (by omega)
      cases e
      rw [Int.toNat_natCast] at hc
      rw [hc, ← hu]
      simp [rd, hj]
    obtain ⟨v1, w1, hrun, h2, hg, _, hat⟩ := run_append_own_at (P := Tryz.prog) W base 23 23 5 i0 (.int .u8 0) 1 1 Tryz.underlying23 hi hz0 hz1 hz2 rfl (by decide) v xs.length _ hown ad m c (ys.map (Value.int .u8)) (by simp [hm]) hnews (by intro u hu; simp at hu; obtain ⟨a, _, rfl⟩ := hu; rfl) (by unfold maxLen; omega) (by omega) hbase
    refine ⟨v1, w1, hrun, ?_, hg, hat⟩
    refine Kd.R_of_own (enc := Value.int .u8) (h1 := fun _ => rfl) ?_ (fun _ _ => trivial)
    rw [List.length_append, hm]
    have e : encs (Value.int .u8) (xs ++ ys) = encs (Value.int .u8) xs ++ ys.map (Value.int .u8) := by simp [encs]
    rw [e]; exact h2
structure TS (N : Nat) (w : World) (tool : Obj) (W : World) (v : Value) (out : List Int) (vs : Value) (st : List Int) (n : Int) (mr : Bool) (er : Int) : Prop where
  bo : Boxed W (N + 3) 23 v
  ro : Kd.R (Kd.int .u8) 5 W (N + 8) (fun _ => True) v out
  bs : Boxed W (N + 4) 23 vs
  fs : Fresh W (N + 8) vs st
  ne : ∀ ad a b, vs = .slice (some ad) a b → 0 < st.length → v.ownBlock ≠ some ad.block
  bn : Boxed W (N + 5) 3 (.int .i64 n)
  bm : Boxed W (N + 6) 4 (.bool mr)
  bt : W.heap[N]? = some tool
  br : Boxed W (N + 1) 23 (.slice none 0 0)
  be : Boxed W (N + 2) 41 (.int .i64 er)
  bl : Below N w W
  sz : N + 8 ≤ W.heap.size
theorem TS.below {N : Nat} {w : World} {tool : Obj} {W W' : World} {v : Value} {out : List Int} {vs : Value} {st : List Int} {n : Int} {mr : Bool} {er : Int} (h : TS N w tool W v out vs st n mr er) (hb : Below W.heap.size W W') : TS N w tool W' v out vs st n mr er :=
  ⟨blk_below h.bo hb, Kd.R_below h.ro hb, blk_below h.bs hb, h.fs.below hb, h.ne, blk_below h.bn hb, blk_below h.bm hb, blk_below h.bt hb, blk_below h.br hb, blk_below h.be hb, h.bl.trans (hb.mono (by have := h.sz; omega)), Nat.le_trans h.sz hb.size⟩
def Calm (Bs : Nat) (W : World) (row : Option Nat) : Prop := ∀ r, row = some r → r = Bs ∨ ∃ o : Obj, W.heap[r]? = some o ∧ o.isCells = false
theorem Calm.keeps {Bs : Nat} {W W' : World} {row : Option Nat} (hr : Calm Bs W row) (hg : W.grownBy W' row) {k : Nat} {cs : Array Value} {ty : TypeId} {fr : Nat × Nat} (hk : k ≠ Bs) (h : W.heap[k]? = some (.cells cs ty fr)) : W'.heap[k]? = some (.cells cs ty fr) := by
  refine (hg.block k (blk_lt h) ?_).trans h
  intro e
  rcases hr k e.symm with h1 | ⟨o, ho, hc⟩
  · exact hk h1
  · rw [h] at ho; cases ho; cases hc
theorem Calm.fresh {Bs : Nat} {W W' : World} {row : Option Nat} (hr : Calm Bs W row) (hg : W.grownBy W' row) {base : Nat} (hb : Bs < base) {v : Value} {l : List Int} (h : Fresh W base v l) : Fresh W' base v l := by
  obtain ⟨A, c, h1, h2, h3, h4⟩ := h
  refine ⟨A, c, h1, h2, ⟨h3.1, h3.2.1, fun hn => ?_⟩, h4⟩
  obtain ⟨ad, e, hc⟩ := h3.2.2 hn
  have hbk := h4 ad e
  refine ⟨ad, e, fun j x hj => ?_⟩
  obtain ⟨cs, k1, k2, k3⟩ := hc j x hj
  refine ⟨cs, k1, k2, fun i u' hu' => ?_⟩
  have h5 := k3 i u' hu'
  rw [← h5]
  obtain ⟨c0, hc0⟩ : ∃ o, W.heap[ad.block]? = some o := by
    have := World.block_lt_of_cell? W _ h5
    rw [add_block] at this
    exact ⟨_, Array.getElem?_eq_getElem this⟩
  refine World.cell?_of_block (w := W) (a := ad.add (j * (Kd.int .u8).sz + i)) ?_
  rw [add_block]
  cases c0 with
  | cells cs' ty fr => exact (hr.keeps hg (by omega) hc0).trans hc0.symm
  | _ => exfalso; simp [World.cell?, add_block, hc0] at h5
theorem Calm.own {Bs : Nat} {W W' : World} {row : Option Nat} (hr : Calm Bs W row) (hg : W.grownBy W' row) {base : Nat} (hb : Bs < base) {v : Value} {l : List Int} (h : Kd.R (Kd.int .u8) 5 W base (fun _ => True) v l) : Kd.R (Kd.int .u8) 5 W' base (fun _ => True) v l := by
  refine Kd.R_mono (Kd.R_grown (Kd.R_bound h) hg ?_) (fun _ _ => trivial)
  rintro k ⟨_, h1, _, q, _, cells, hc⟩ e
  rcases hr k e.symm with h2 | ⟨o, ho, hcl⟩
  · omega
  · rw [hc] at ho; cases ho; cases hcl
theorem TS.calm {N : Nat} {w : World} {cs0 : Array Value} {ty0 : TypeId} {W W' : World} {v : Value} {out : List Int} {vs : Value} {st : List Int} {n : Int} {mr : Bool} {er : Int} (h : TS N w (.cells cs0 ty0 (0, 0)) W v out vs st n mr er) {row : Option Nat} (hr : Calm (N + 7) W row) (hg : W.grownBy W' row) (hN : ∀ r, row = some r → N ≤ r) : TS N w (.cells cs0 ty0 (0, 0)) W' v out vs st n mr er :=
  ⟨hr.keeps hg (by omega) h.bo, hr.own hg (by omega) h.ro, hr.keeps hg (by omega) h.bs, hr.fresh hg (by omega) h.fs, h.ne, hr.keeps hg (by omega) h.bn, hr.keeps hg (by omega) h.bm, hr.keeps hg (by omega) h.bt, hr.keeps hg (by omega) h.br, hr.keeps hg (by omega) h.be,
    h.bl.grown hg (by have := h.sz; omega) hN, Nat.le_trans h.sz hg.size⟩
theorem own_setCell' {W : World} {base : Nat} {v : Value} {l : List Int} (h : Kd.R (Kd.int .u8) 5 W base (fun _ => True) v l) {p : Addr} (hp : p.block < base) (u : Value) : Kd.R (Kd.int .u8) 5 (W.setCell p u) base (fun _ => True) v l :=
  Kd.R_mono (Kd.R_far (Kd.R_bound h) (fun k hk => by have := hk.2.1; omega) u) (fun _ _ => trivial)
theorem blk_other {W : World} {k B : Nat} {o : Obj} (h : W.heap[k]? = some o) (hne : k ≠ B) (u : Value) : (W.setCell ⟨B, 0, none⟩ u).heap[k]? = some o := (Below.heap_setCell W ⟨B, 0, none⟩ u k hne).trans h
theorem size_setCell (W : World) (B : Nat) (u : Value) : W.heap.size ≤ (W.setCell ⟨B, 0, none⟩ u).heap.size := (KeepsOthers.setCell W ⟨B, 0, none⟩ u).size
section
variable {N : Nat} {w : World} {tool : Obj} {W : World} {v : Value} {out : List Int} {vs : Value} {st : List Int} {n : Int} {mr : Bool} {er : Int}
theorem TS.setState (h : TS N w tool W v out vs st n mr er) {base : Nat} {vn : Value} {st' : List Int} (hf : Fresh W base vn st') (hb : N + 8 ≤ base) (hv : ∀ k, v.ownBlock = some k → k < base) : TS N w tool (W.setCell ⟨N + 4, 0, none⟩ vn) v out vn st' n mr er :=
  ⟨blk_other h.bo (by omega) _, own_setCell' h.ro (by show N + 4 < N + 8; omega) _, h.bs.set _, (hf.mono hb).setCell (by show N + 4 < N + 8; omega) _,
    fun ad a b e _ hk => by
      obtain ⟨A, c, h1, _, _, h4⟩ := hf
      rw [h1] at e
      injection e with e1 e2 e3
      have := h4 ad e1
      have := hv _ hk
      omega,
    blk_other h.bn (by omega) _, blk_other h.bm (by omega) _, blk_other h.bt (by omega) _, blk_other h.br (by omega) _, blk_other h.be (by omega) _, h.bl.setCell (by show N ≤ N + 4; omega) _, Nat.le_trans h.sz (size_setCell _ _ _)⟩
theorem TS.setCount (h : TS N w tool W v out vs st n mr er) (m : Int) : TS N w tool (W.setCell ⟨N + 5, 0, none⟩ (.int .i64 m)) v out vs st m mr er :=
  ⟨blk_other h.bo (by omega) _, own_setCell' h.ro (by show N + 5 < N + 8; omega) _, blk_other h.bs (by omega) _, h.fs.setCell (by show N + 5 < N + 8; omega) _, h.ne, h.bn.set _, blk_other h.bm (by omega) _, blk_other h.bt (by omega) _, blk_other h.br (by omega) _, blk_other h.be (by omega) _, h.bl.setCell (by show N ≤ N + 5; omega) _, Nat.le_trans h.sz (size_setCell _ _ _)⟩
theorem TS.setMore (h : TS N w tool W v out vs st n mr er) (m : Bool) : TS N w tool (W.setCell ⟨N + 6, 0, none⟩ (.bool m)) v out vs st n m er :=
  ⟨blk_other h.bo (by omega) _, own_setCell' h.ro (by show N + 6 < N + 8; omega) _, blk_other h.bs (by omega) _, h.fs.setCell (by show N + 6 < N + 8; omega) _, h.ne, blk_other h.bn (by omega) _, h.bm.set _, blk_other h.bt (by omega) _, blk_other h.br (by omega) _, blk_other h.be (by omega) _, h.bl.setCell (by show N ≤ N + 6; omega) _, Nat.le_trans h.sz (size_setCell _ _ _)⟩
theorem TS.setRet (h : TS N w tool W v out vs st n mr er) : TS N w tool (W.setCell ⟨N + 1, 0, none⟩ (.slice none 0 0)) v out vs st n mr er :=
  ⟨blk_other h.bo (by omega) _, own_setCell' h.ro (by show N + 1 < N + 8; omega) _, blk_other h.bs (by omega) _, h.fs.setCell (by show N + 1 < N + 8; omega) _, h.ne, blk_other h.bn (by omega) _, blk_other h.bm (by omega) _, blk_other h.bt (by omega) _, h.br.set _, blk_other h.be (by omega) _, h.bl.setCell (by show N ≤ N + 1; omega) _, Nat.le_trans h.sz (size_setCell _ _ _)⟩
theorem TS.setErr (h : TS N w tool W v out vs st n mr er) (e : Int) : TS N w tool (W.setCell ⟨N + 2, 0, none⟩ (.int .i64 e)) v out vs st n mr e :=
  ⟨blk_other h.bo (by omega) _, own_setCell' h.ro (by show N + 2 < N + 8; omega) _, blk_other h.bs (by omega) _, h.fs.setCell (by show N + 2 < N + 8; omega) _, h.ne, blk_other h.bn (by omega) _, blk_other h.bm (by omega) _, blk_other h.bt (by omega) _, blk_other h.br (by omega) _, h.be.set _, h.bl.setCell (by show N ≤ N + 2; omega) _, Nat.le_trans h.sz (size_setCell _ _ _)⟩
theorem fresh_grown {base g : Nat} {W1 : World} {u : Value} {l : List Int} (hf : Fresh W base u l) (hg : W.grownBy W1 v.ownBlock) (hne : ∀ ad a b, u = .slice (some ad) a b → 0 < l.length → v.ownBlock ≠ some ad.block) : Fresh W1 base u l := by
  obtain ⟨A, c, h1, h2, h3, h4⟩ := hf
  refine ⟨A, c, h1, h2, ⟨h3.1, h3.2.1, fun hn => ?_⟩, h4⟩
  obtain ⟨ad, e, hc⟩ := h3.2.2 hn
  refine ⟨ad, e, fun j x hj => ?_⟩
  obtain ⟨cs, k1, k2, k3⟩ := hc j x hj
  refine ⟨cs, k1, k2, fun i u' hu' => ?_⟩
  have h5 := k3 i u' hu'
  rw [← h5]
  refine World.cell?_of_block (w := W) (a := ad.add (j * (Kd.int .u8).sz + i)) ?_
  have hlt := World.block_lt_of_cell? W _ h5
  rw [add_block] at hlt ⊢
  exact hg.block _ hlt (fun e2 => hne ad _ _ (by rw [h1, e]) hn e2.symm)
theorem TS.append {cs0 : Array Value} {ty0 : TypeId} (h : TS N w (.cells cs0 ty0 (0, 0)) W v out vs st n mr er) {W1 : World} {v1 : Value} {l : List Int} (hR : Kd.R (Kd.int .u8) 5 W1 (N + 8) (fun _ => True) v1 l) (hg : W.grownBy W1 v.ownBlock) (hat : v1.ownBlock = v.ownBlock ∨ v1.ownBlock = some W.heap.size)
    (hvs : ∀ ad a b, vs = .slice (some ad) a b → 0 < st.length → ad.block < W.heap.size) : TS N w (.cells cs0 ty0 (0, 0)) (W1.setCell ⟨N + 3, 0, none⟩ v1) v1 l vs st n mr er := by
  have hown := Kd.own_of_R h.ro
  have hb : ∀ k, k < N + 8 → some k ≠ v.ownBlock := fun k hk e => by have := own_base hown k e.symm; omega
  have hk : ∀ {k : Nat} {o : Obj}, W.heap[k]? = some o → k < N + 8 → W1.heap[k]? = some o := fun ho hlt => (hg.block _ (blk_lt ho) (hb _ hlt)).trans ho
  have bo1 : Boxed W1 (N + 3) 23 v := hk h.bo (by omega)
  have bs1 : Boxed W1 (N + 4) 23 vs := hk h.bs (by omega)
  have bn1 : Boxed W1 (N + 5) 3 (.int .i64 n) := hk h.bn (by omega)
  have bm1 : Boxed W1 (N + 6) 4 (.bool mr) := hk h.bm (by omega)
  have br1 : Boxed W1 (N + 1) 23 (.slice none 0 0) := hk h.br (by omega)
  have be1 : Boxed W1 (N + 2) 41 (.int .i64 er) := hk h.be (by omega)
  have bt1 := hk h.bt (by omega)
  have bl1 : Below N w W1 := h.bl.grown hg (by have := h.sz; omega) (fun k e => by have := own_base hown k e; omega)
  refine ⟨bo1.set _, own_setCell' hR (by show N + 3 < N + 8; omega) _, blk_other bs1 (by omega) _, (fresh_grown (g := 0) h.fs hg h.ne).setCell (by show N + 3 < N + 8; omega) _, ?_, blk_other bn1 (by omega) _, blk_other bm1 (by omega) _, blk_other bt1 (by omega) _, blk_other br1 (by omega) _, blk_other be1 (by omega) _, bl1.setCell (by show N ≤ N + 3; omega) _, Nat.le_trans (Nat.le_trans h.sz hg.size) (size_setCell _ _ _)⟩
  intro ad a b e hsl hk2
  rcases hat with hat | hat
  · rw [hat] at hk2; exact h.ne ad a b e hsl hk2
  · rw [hat] at hk2
    have := hvs ad a b e hsl
    have := Option.some.inj hk2
    omega
end
theorem bytes_Lines.calls (A : Option Addr) (n c : Nat) (w : World) :
    Calls Tryz.prog 62 #[.slice A n c] w fun e w' => e = .returned (.func (.func 91) #[] #[.pointer (some ⟨w.heap.size, 0, none⟩)]) ∧ w' = w.alloc (.cells #[.slice A n c] 23) := by
  go_enter Tryz.func62, Tryz.ntmps62
  go_wp2
  go_ret
  exact ⟨rfl, rfl⟩
def goL (F : List Int → Int → List Int → List Int × List Int × Int × Bool) : List (List Int) → List Int → List Int → Int → Bool → Int × List Int × List Int × Int
  | [], out, st, n, _ => (0, out, st, n)
  | li :: r, out, st, n, more =>
    if more = false then (0, out, st, n) else if 65536 < li.length then (5, [], st, n)
    else if 1048576 < (out ++ (F st n li).1).length then (31, [], st, n) else goL F r (out ++ (F st n li).1) (F st n li).2.1 (F st n li).2.2.1 (F st n li).2.2.2
def lineAt (t : List Int) (x : Nat × Nat) : List Int := (t.drop x.1).take x.2
def throughOf (F : List Int → Int → List Int → List Int × List Int × Int × Bool) (E : List Int → Int → List Int) (more : Bool) (t : List Int) : Int × List Int :=
  let q := goL F ((spans t).map (lineAt t)) [] [] 0 more
  if q.1 ≠ 0 then (q.1, []) else if 1048576 < (q.2.1 ++ E q.2.2.1 q.2.2.2).length then (31, []) else (0, q.2.1 ++ E q.2.2.1 q.2.2.2)
theorem addr_zero (a : Addr) : a.add 0 = a := by unfold Addr.add; simp
theorem text_ad {w : World} {At : Option Addr} {ct : Nat} {t : List Int} (ht : Kd.C (Kd.int .u8) w At t.length t) (hct : t.length ≤ ct) :
    ∃ ad, LineBox ad t.length ct 0 (.slice At t.length ct) ∧ ad.block ≤ w.heap.size ∧ (0 < t.length → ad.block < w.heap.size) ∧ ∀ W, Below w.heap.size w W → ∀ j, j < t.length → W.cell? (ad.add j) = some (.int .u8 (t.getD j 0)) := by
  by_cases h0 : 0 < t.length
  · obtain ⟨ad, e, hc⟩ := Kd.at_int ht 0 (by omega) (by omega)
    have hlt := World.block_lt_of_cell? w _ hc
    rw [add_block] at hlt
    refine ⟨ad, .inl ⟨h0, by rw [e, addr_zero]; rfl⟩, Nat.le_of_lt hlt, fun _ => hlt, fun W hW j hj => ?_⟩
    obtain ⟨ad', e', hc'⟩ := Kd.at_int ht (j : Int) (by omega) (by omega)
    rw [e] at e'; cases e'
    rw [Int.toNat_natCast] at hc'
    rw [pw_cell_below hW hc']
    simp [rd]
  · exact ⟨⟨w.heap.size, 0, none⟩, .inr ⟨by omega, At, ct, by rw [show t.length = 0 by omega]⟩, Nat.le_refl _, fun h => absurd h h0, fun W hW j hj => by omega⟩
theorem line_C {W : World} {ad : Addr} {t : List Int} {o m : Nat} (hT : ∀ j, j < t.length → W.cell? (ad.add j) = some (.int .u8 (t.getD j 0))) (hle : o + m ≤ t.length) (hlen : (lineAt t (o, m)).length = m) (hmx : t.length ≤ 9223372036854775807) :
    Kd.C (Kd.int .u8) W (some (ad.add o)) (lineAt t (o, m)).length (lineAt t (o, m)) := by
  rw [hlen]
  refine Kd.C_of_reads (d := (0 : Int)) (h1 := fun _ => rfl) ⟨hlen, by omega, fun _ => ⟨_, rfl, fun j hj => ?_⟩⟩
  rw [Go.Deep.add_add, hT (o + j) (by omega)]
  simp [lineAt, List.getD_eq_getElem?_getD, List.getElem?_take, hj]
theorem calm_le {N S r : Nat} (hS : S = N + 8) (h : r = N + 7 ∨ S ≤ r) : N ≤ r := by rcases h with h | h <;> omega
theorem own_lt {W : World} {base : Nat} {v : Value} {l : List Int} (h : Kd.R (Kd.int .u8) 5 W base (fun _ => True) v l) {k : Nat} (e : v.ownBlock = some k) : k < W.heap.size :=
  ((Kd.own_of_R h).lt k e).2
theorem wpListIn_append_run {F : Fence} {n : Nat} {P : Program} (w : World) {ops : Array Oper} {rest : List Oper} {o : Oper} {a : Act} {Q : Exit → Act → World → Prop}
    (hg : o.guard = none) (s x : Operand) (t : TypeId) (hop : o.op = Op.call { callee := Callee.builtin Builtin.append, args := #[s, x], argTypes := #[t, t] })
    (v : Value) (hs : a.eval s = v) (y : Value) (hx : a.eval x = y) (v1 : Value) (w1 : World) (hrun : (Builtin.append_ #[t, t] o.type #[v, y]).run P w = .ok v1 w1)
    (hK : wpListIn F n P ops Q rest (a.put o.dst v1) w1) : wpListIn F n P ops Q (o :: rest) a w := by
  refine wpListIn_plain hg fun K hK' => ?_
  unfold Oper.wpIn
  refine ⟨?_, ?_⟩
  · simp [Oper.about, hop, resolve, Target.leads, Sem.run_pure]
  · rw [Oper.semAt_plain F _ _ (by rw [hop]; intro c hc'; cases hc')]
    simp [execOp, hop, resolve, invoke, builtin, hs, hx, hrun, Result.andThen]
    exact hK' _ _ hK
theorem keepsOthers_below {W W1 : World} (hb : Below W.heap.size W W1) : KeepsOthers W W1 := ⟨hb.size, fun k o hk _ => (hb.block k (blk_lt hk)).trans hk⟩
theorem keepsOthers_own {W W1 : World} {base : Nat} {v : Value} {l : List Int} (h : Kd.R (Kd.int .u8) 5 W base (fun _ => True) v l) (hg : W.grownBy W1 v.ownBlock) : KeepsOthers W W1 :=
  KeepsOthers.of_grownBy hg fun j o ej hj => by
    obtain ⟨cs, hcs⟩ := own_typed (Kd.own_of_R h) j ej
    rw [hj] at hcs; cases hcs; rfl
theorem through_round {N : Nat} {w : World} {cs0 : Array Value} {ty0 : TypeId} {W W1 : World} {v : Value} {out : List Int} {vs : Value} {st : List Int} {n : Int} {mr : Bool} {er : Int} (h : TS N w (.cells cs0 ty0 (0, 0)) W v out vs st n mr er) {ks : Nat → Prop}
    {Ao : Option Addr} {co : Nat} {lo : List Int} {An : Option Addr} {cn : Nat} {ln : List Int} (ho : Fresh W1 W.heap.size (.slice Ao lo.length co) lo) (hn : Fresh W1 W.heap.size (.slice An ln.length cn) ln) (hb : Below W.heap.size W W1) (n' : Int) (mr' : Bool) (o2 : List Int) (ho2 : o2 = out ++ lo) (hl : out.length + lo.length ≤ 100000000) :
    ∃ v1 W5, (Builtin.append_ #[23, 23] 23 #[v, .slice Ao lo.length co]).run Tryz.prog (((W1.setCell ⟨N + 4, 0, none⟩ (.slice An ln.length cn)).setCell ⟨N + 5, 0, none⟩ (.int .i64 n')).setCell ⟨N + 6, 0, none⟩ (.bool mr')) = .ok v1 W5 ∧
      TS N w (.cells cs0 ty0 (0, 0)) (W5.setCell ⟨N + 3, 0, none⟩ v1) v1 o2 (.slice An ln.length cn) ln n' mr' er ∧
      (KeepsOthers W (W5.setCell ⟨N + 3, 0, none⟩ v1) ∧ ((∀ k, ks k → k < N + 8 ∧ k ≠ N + 3 ∧ k ≠ N + 4 ∧ k ≠ N + 5 ∧ k ≠ N + 6) → Rng.Same ks W (W5.setCell ⟨N + 3, 0, none⟩ v1))) ∧
      W5.cell? ⟨N + 1 + 1 + 1, 0, none⟩ = some v ∧ W5.frozen? ⟨N + 1 + 1 + 1, 0, none⟩ = false ∧ W5.cell? ⟨N + 1, 0, none⟩ = some (.slice none 0 0) ∧ W5.frozen? ⟨N + 1, 0, none⟩ = false ∧ W5.cell? ⟨N + 1 + 1, 0, none⟩ = some (.int .i64 er) ∧ W5.frozen? ⟨N + 1 + 1, 0, none⟩ = false ∧
      ∃ A1 k1, v1 = .slice A1 o2.length k1 := by
  subst ho2
  have hsz := h.sz
  have hT1 := h.below hb
  have hv1 : ∀ k, v.ownBlock = some k → k < W.heap.size := fun k e => own_lt h.ro e
  have hT4 := ((hT1.setState hn hsz hv1).setCount n').setMore mr'
  have ho4 := ((ho.setCell (p := ⟨N + 4, 0, none⟩) (by show N + 4 < _; omega) (.slice An ln.length cn)).setCell (p := ⟨N + 5, 0, none⟩) (by show N + 5 < _; omega) (.int .i64 n')).setCell (p := ⟨N + 6, 0, none⟩) (by show N + 6 < _; omega) (.bool mr')
  have hn4 := ((hn.setCell (p := ⟨N + 4, 0, none⟩) (by show N + 4 < _; omega) (.slice An ln.length cn)).setCell (p := ⟨N + 5, 0, none⟩) (by show N + 5 < _; omega) (.int .i64 n')).setCell (p := ⟨N + 6, 0, none⟩) (by show N + 6 < _; omega) (.bool mr')
  have hKO : KeepsOthers W (((W1.setCell ⟨N + 4, 0, none⟩ (.slice An ln.length cn)).setCell ⟨N + 5, 0, none⟩ (.int .i64 n')).setCell ⟨N + 6, 0, none⟩ (.bool mr')) := (((keepsOthers_below hb).trans (KeepsOthers.setCell _ _ _)).trans (KeepsOthers.setCell _ _ _)).trans (KeepsOthers.setCell _ _ _)
  have hSA : (∀ k, ks k → k < N + 8 ∧ k ≠ N + 3 ∧ k ≠ N + 4 ∧ k ≠ N + 5 ∧ k ≠ N + 6) → Rng.Same ks W (((W1.setCell ⟨N + 4, 0, none⟩ (.slice An ln.length cn)).setCell ⟨N + 5, 0, none⟩ (.int .i64 n')).setCell ⟨N + 6, 0, none⟩ (.bool mr')) := fun hk =>
    (((Rng.Same.below hb (fun k h => by have := (hk k h).1; omega)).trans (Rng.Same.setCell _ (fun h => (hk _ h).2.2.1 rfl) _)).trans (Rng.Same.setCell _ (fun h => (hk _ h).2.2.2.1 rfl) _)).trans (Rng.Same.setCell _ (fun h => (hk _ h).2.2.2.2 rfl) _)
  obtain ⟨Ao', co', hae, hco, hCo, hAo⟩ := ho4
  cases hae
  generalize ((W1.setCell ⟨N + 4, 0, none⟩ (.slice An ln.length cn)).setCell ⟨N + 5, 0, none⟩ (.int .i64 n')).setCell ⟨N + 6, 0, none⟩ (.bool mr') = W4 at *
  obtain ⟨v1, W5, hrun, hR5, hg5, hat5⟩ := run_R_append hT4.ro hCo hT4.sz hl
  have hown := Kd.own_of_R hT4.ro
  have hbk : ∀ {k : Nat} {o : Obj}, W4.heap[k]? = some o → k < N + 8 → W5.heap[k]? = some o := fun {k} {o} ho hlt => (hg5.block _ (blk_lt ho) (fun e => by have := own_base hown k e.symm; omega)).trans ho
  have b3 : Boxed W5 (N + 3) 23 v := hbk hT4.bo (by omega)
  have b1 : Boxed W5 (N + 1) 23 (.slice none 0 0) := hbk hT4.br (by omega)
  have b2 : Boxed W5 (N + 2) 41 (.int .i64 er) := hbk hT4.be (by omega)
  refine ⟨v1, W5, hrun, hT4.append hR5 hg5 hat5 (fun ad a b e hsl => ?_), ⟨(hKO.trans (keepsOthers_own hT4.ro hg5)).trans (KeepsOthers.setCell _ _ _), fun hk => ((hSA hk).trans (Rng.Same.grown hg5 (fun r e h => by have := own_base hown r e; have := (hk r h).1; omega))).trans (Rng.Same.setCell _ (fun h => (hk _ h).2.1 rfl) _)⟩, b3.cell, b3.frozen, b1.cell, b1.frozen, b2.cell, b2.frozen, ?_⟩
  · obtain ⟨A', c', e1, e2, e3, e4⟩ := hn4
    cases e1; cases e
    obtain ⟨ad', e5, hc5⟩ := Kd.at_int e3 0 (by omega) (by omega)
    cases e5
    have := World.block_lt_of_cell? _ _ hc5
    rw [add_block] at this
    exact this
  · obtain ⟨A, c, e⟩ := Kd.R_slice hR5
    exact ⟨A, c, e⟩
theorem through_last {N : Nat} {w : World} {cs0 : Array Value} {ty0 : TypeId} {W W1 : World} {v : Value} {out : List Int} {vs : Value} {st : List Int} {n : Int} {mr : Bool} {er : Int} (h : TS N w (.cells cs0 ty0 (0, 0)) W v out vs st n mr er)
    {Ao : Option Addr} {co : Nat} {lo : List Int} (ho : Fresh W1 W.heap.size (.slice Ao lo.length co) lo) (hb : Below W.heap.size W W1) (o2 : List Int) (ho2 : o2 = out ++ lo) (hl : out.length + lo.length ≤ 100000000) {D : Nat} (hK : W.heap[D]? = some (.deferred (some []))) (hD : N + 8 ≤ D) :
    ∃ v1 W5, (Builtin.append_ #[23, 23] 23 #[v, .slice Ao lo.length co]).run Tryz.prog W1 = .ok v1 W5 ∧
      TS N w (.cells cs0 ty0 (0, 0)) (W5.setCell ⟨N + 3, 0, none⟩ v1) v1 o2 vs st n mr er ∧
      (W5.setCell ⟨N + 3, 0, none⟩ v1).heap[D]? = some (.deferred (some [])) ∧
      W5.cell? ⟨N + 1 + 1 + 1, 0, none⟩ = some v ∧ W5.frozen? ⟨N + 1 + 1 + 1, 0, none⟩ = false ∧ W5.cell? ⟨N + 1, 0, none⟩ = some (.slice none 0 0) ∧ W5.frozen? ⟨N + 1, 0, none⟩ = false ∧ W5.cell? ⟨N + 1 + 1, 0, none⟩ = some (.int .i64 er) ∧ W5.frozen? ⟨N + 1 + 1, 0, none⟩ = false ∧
      ∃ A1 k1, v1 = .slice A1 o2.length k1 := by
  subst ho2
  have hsz := h.sz
  have hT1 := h.below hb
  have hK1 : W1.heap[D]? = some (.deferred (some [])) := blk_below hK hb
  obtain ⟨Ao', co', hae, hco, hCo, hAo⟩ := ho
  cases hae
  have hvs : ∀ ad a b, vs = .slice (some ad) a b → 0 < st.length → ad.block < W1.heap.size := fun ad a b e hsl => by
    obtain ⟨A', c', e1, e2, e3, e4⟩ := hT1.fs
    rw [e] at e1; cases e1
    obtain ⟨ad', e5, hc5⟩ := Kd.at_int e3 0 (by omega) (by omega)
    cases e5
    have := World.block_lt_of_cell? _ _ hc5
    rw [add_block] at this
    exact this
  obtain ⟨v1, W5, hrun, hR5, hg5, hat5⟩ := run_R_append hT1.ro hCo hT1.sz hl
  have hown := Kd.own_of_R hT1.ro
  have hbk : ∀ {k : Nat} {o : Obj}, W1.heap[k]? = some o → k < N + 8 → W5.heap[k]? = some o := fun {k} {o} ho hlt => (hg5.block _ (blk_lt ho) (fun e => by have := own_base hown k e.symm; omega)).trans ho
  have b3 : Boxed W5 (N + 3) 23 v := hbk hT1.bo (by omega)
  have b1 : Boxed W5 (N + 1) 23 (.slice none 0 0) := hbk hT1.br (by omega)
  have b2 : Boxed W5 (N + 2) 41 (.int .i64 er) := hbk hT1.be (by omega)
  have hK5 : W5.heap[D]? = some (.deferred (some [])) := (hg5.block _ (blk_lt hK1) (fun e => by
    obtain ⟨cs, hcs⟩ := own_typed hown D e.symm
    rw [hK1] at hcs; cases hcs)).trans hK1
  refine ⟨v1, W5, hrun, hT1.append hR5 hg5 hat5 hvs, blk_other hK5 (by omega) _, b3.cell, b3.frozen, b1.cell, b1.frozen, b2.cell, b2.frozen, ?_⟩
  obtain ⟨A, c, e⟩ := Kd.R_slice hR5
  exact ⟨A, c, e⟩
theorem agg_slice (w : World) : (isAgg 23).run Tryz.prog w = .ok false w := by simp [isAgg, run_underlying Tryz.underlying23]
theorem agg_errno (w : World) : (isAgg 41).run Tryz.prog w = .ok false w := by simp [isAgg, run_underlying Tryz.underlying41]
theorem results_ss {P : Program} {fn : Func} {p p' : Tmp} {ty ty' : TypeId} (h : fn.results = #[.cell p ty, .cell p' ty']) (tmps : Array Value) (w : World) (g g' : Nat) (v v' : Value)
    (hp : tmps.getD p undef = .pointer (some ⟨g, 0, none⟩)) (hp' : tmps.getD p' undef = .pointer (some ⟨g', 0, none⟩)) (ha : ∀ w, (isAgg ty).run P w = .ok false w) (ha' : ∀ w, (isAgg ty').run P w = .ok false w)
    (hc : w.cell? ⟨g, 0, none⟩ = some v) (hc' : w.cell? ⟨g', 0, none⟩ = some v') : (results fn tmps).run P w = .ok (.tuple #[v, v']) w := by
  have h1 : tmps[p]?.getD undef = .pointer (some ⟨g, 0, none⟩) := by simpa using hp
  have h2 : tmps[p']?.getD undef = .pointer (some ⟨g', 0, none⟩) := by simpa using hp'
  simp [results, h, h1, h2, loadVar, ha, ha', asAddr, hc, hc', Result.andThen]
theorem through_good {N : Nat} {w : World} {tool : Obj} {W : World} {v : Value} {out : List Int} {vs : Value} {st : List Int} {n : Int} {mr : Bool} {er : Int} (h : TS N w tool W v out vs st n mr er) :
    Below N w ((W.setCell ⟨N + 1, 0, none⟩ v).setCell ⟨N + 2, 0, none⟩ (.int .i64 0)) ∧ Boxed ((W.setCell ⟨N + 1, 0, none⟩ v).setCell ⟨N + 2, 0, none⟩ (.int .i64 0)) (N + 1) 23 v ∧ Boxed ((W.setCell ⟨N + 1, 0, none⟩ v).setCell ⟨N + 2, 0, none⟩ (.int .i64 0)) (N + 2) 41 (.int .i64 0) ∧ Fresh ((W.setCell ⟨N + 1, 0, none⟩ v).setCell ⟨N + 2, 0, none⟩ (.int .i64 0)) (N + 1) v out := by
  have be1 : Boxed (W.setCell ⟨N + 1, 0, none⟩ v) (N + 2) 41 (.int .i64 er) := blk_other h.be (by omega) _
  exact ⟨(h.bl.setCell (by show N ≤ N + 1; omega) _).setCell (by show N ≤ N + 2; omega) _, blk_other (h.br.set v) (by omega) _, be1.set _, (Fresh.of_R (own_setCell' (own_setCell' h.ro (by show N + 1 < N + 8; omega) _) (by show N + 2 < N + 8; omega) _)).mono (by omega)⟩
theorem through_fin {N : Nat} {w W : World} {D : Nat} {rv : Value} {l : List Int} {er : Int} {fn : Func} {tmps : Array Value} (hres : fn.results = #[.cell 4 23, .cell 5 41])
    (hp : tmps.getD 4 undef = .pointer (some ⟨N + 1, 0, none⟩)) (hp' : tmps.getD 5 undef = .pointer (some ⟨N + 2, 0, none⟩)) (hbl : Below N w W) (h1 : Boxed W (N + 1) 23 rv) (h2 : Boxed W (N + 2) 41 (.int .i64 er)) (hF : Fresh W (N + 1) rv l) (hK : W.heap[D]? = some (.deferred (some []))) (hD : N + 8 ≤ D) :
    ∃ r, (results fn tmps).run Tryz.prog (W.putObj D (.deferred none)) = .ok r (W.putObj D (.deferred none)) ∧ ∃ v, Ending.returned r = .returned (.tuple #[v, .int .i64 er]) ∧ Fresh (W.putObj D (.deferred none)) N v l ∧ Below N w (W.putObj D (.deferred none)) := by
  have k1 : Boxed (W.putObj D (.deferred none)) (N + 1) 23 rv := (World.putObj_heap_other (by omega)).trans h1
  have k2 : Boxed (W.putObj D (.deferred none)) (N + 2) 41 (.int .i64 er) := (World.putObj_heap_other (by omega)).trans h2
  refine ⟨_, results_ss hres tmps _ (N + 1) (N + 2) _ _ hp hp' agg_slice agg_errno k1.cell k2.cell, rv, rfl, ?_, ?_⟩
  · exact (Calm.fresh (Bs := N) (fun r e => by cases e; exact .inr ⟨_, hK, rfl⟩) (grownBy_putObj' W D (.deferred none)) (by omega) hF).mono (by omega)
  · exact hbl.grown (grownBy_putObj' W D (.deferred none)) (by have := h1.lt; omega) (fun r e => by cases e; omega)
theorem spansF_le : ∀ (f o : Nat) (l : List Int), (spansF f o l).length ≤ f
  | 0, _, _ => by simp [spansF]
  | f + 1, o, l => by
    have := spansF_le f (o + firstLen l) (l.drop (firstLen l))
    simp only [spansF]
    split
    · simp
    · simp only [List.length_cons]; omega
theorem spans_le (t : List Int) : (spans t).length ≤ t.length := spansF_le _ _ _
theorem ts0 (w : World) (cs0 : Array Value) (ty0 : TypeId) (m0 : Bool) (A : Option Addr) (n c : Nat) :
    TS w.heap.size w (.cells cs0 ty0 (0, 0)) ((((((((w.alloc (Obj.cells cs0 ty0)).alloc (Obj.cells #[.slice none 0 0] 23)).alloc (Obj.cells #[.int .i64 0] 41)).alloc (Obj.cells #[.slice none 0 0] 23)).alloc (Obj.cells #[.slice none 0 0] 23)).alloc (Obj.cells #[.int .i64 0] 3)).alloc (Obj.cells #[.bool m0] 4)).alloc (Obj.cells #[.slice A n c] 23)) (.slice none 0 0) [] (.slice none 0 0) [] 0 m0 0 ∧
    Boxed ((((((((w.alloc (Obj.cells cs0 ty0)).alloc (Obj.cells #[.slice none 0 0] 23)).alloc (Obj.cells #[.int .i64 0] 41)).alloc (Obj.cells #[.slice none 0 0] 23)).alloc (Obj.cells #[.slice none 0 0] 23)).alloc (Obj.cells #[.int .i64 0] 3)).alloc (Obj.cells #[.bool m0] 4)).alloc (Obj.cells #[.slice A n c] 23)) (w.heap.size + 7) 23 (.slice A n c) ∧
    ((((((((w.alloc (Obj.cells cs0 ty0)).alloc (Obj.cells #[.slice none 0 0] 23)).alloc (Obj.cells #[.int .i64 0] 41)).alloc (Obj.cells #[.slice none 0 0] 23)).alloc (Obj.cells #[.slice none 0 0] 23)).alloc (Obj.cells #[.int .i64 0] 3)).alloc (Obj.cells #[.bool m0] 4)).alloc (Obj.cells #[.slice A n c] 23)).heap.size = w.heap.size + 8 ∧ True := by
  have h0 := blk_new w (Obj.cells cs0 ty0)
  have s0 : (w.alloc (Obj.cells cs0 ty0)).heap.size = w.heap.size + 1 := by simp
  have b0 := below_alloc (Below.refl w.heap.size w) (Obj.cells cs0 ty0)
  generalize w.alloc (Obj.cells cs0 ty0) = W1 at *
  have h1 := blk_new' W1 (Obj.cells #[.slice none 0 0] 23) s0.symm
  have g1 := fun k o (h : W1.heap[k]? = some o) => blk_alloc h (Obj.cells #[.slice none 0 0] 23)
  have s1 : (W1.alloc (Obj.cells #[.slice none 0 0] 23)).heap.size = w.heap.size + 2 := by simp [s0]
  have b1 := below_alloc b0 (Obj.cells #[.slice none 0 0] 23)
  generalize W1.alloc (Obj.cells #[.slice none 0 0] 23) = W2 at *
  have h2 := blk_new' W2 (Obj.cells #[.int .i64 0] 41) s1.symm
  have g2 := fun k o (h : W2.heap[k]? = some o) => blk_alloc h (Obj.cells #[.int .i64 0] 41)
  have s2 : (W2.alloc (Obj.cells #[.int .i64 0] 41)).heap.size = w.heap.size + 3 := by simp [s1]
  have b2 := below_alloc b1 (Obj.cells #[.int .i64 0] 41)
  generalize W2.alloc (Obj.cells #[.int .i64 0] 41) = W3 at *
  have h3 := blk_new' W3 (Obj.cells #[.slice none 0 0] 23) s2.symm
  have g3 := fun k o (h : W3.heap[k]? = some o) => blk_alloc h (Obj.cells #[.slice none 0 0] 23)
  have s3 : (W3.alloc (Obj.cells #[.slice none 0 0] 23)).heap.size = w.heap.size + 4 := by simp [s2]
  have b3 := below_alloc b2 (Obj.cells #[.slice none 0 0] 23)
  generalize W3.alloc (Obj.cells #[.slice none 0 0] 23) = W4 at *
  have h4 := blk_new' W4 (Obj.cells #[.slice none 0 0] 23) s3.symm
  have g4 := fun k o (h : W4.heap[k]? = some o) => blk_alloc h (Obj.cells #[.slice none 0 0] 23)
  have s4 : (W4.alloc (Obj.cells #[.slice none 0 0] 23)).heap.size = w.heap.size + 5 := by simp [s3]
  have b4 := below_alloc b3 (Obj.cells #[.slice none 0 0] 23)
  generalize W4.alloc (Obj.cells #[.slice none 0 0] 23) = W5 at *
  have h5 := blk_new' W5 (Obj.cells #[.int .i64 0] 3) s4.symm
  have g5 := fun k o (h : W5.heap[k]? = some o) => blk_alloc h (Obj.cells #[.int .i64 0] 3)
  have s5 : (W5.alloc (Obj.cells #[.int .i64 0] 3)).heap.size = w.heap.size + 6 := by simp [s4]
  have b5 := below_alloc b4 (Obj.cells #[.int .i64 0] 3)
  generalize W5.alloc (Obj.cells #[.int .i64 0] 3) = W6 at *
  have h6 := blk_new' W6 (Obj.cells #[.bool m0] 4) s5.symm
  have g6 := fun k o (h : W6.heap[k]? = some o) => blk_alloc h (Obj.cells #[.bool m0] 4)
  have s6 : (W6.alloc (Obj.cells #[.bool m0] 4)).heap.size = w.heap.size + 7 := by simp [s5]
  have b6 := below_alloc b5 (Obj.cells #[.bool m0] 4)
  generalize W6.alloc (Obj.cells #[.bool m0] 4) = W7 at *
  have h7 := blk_new' W7 (Obj.cells #[.slice A n c] 23) s6.symm
  have g7 := fun k o (h : W7.heap[k]? = some o) => blk_alloc h (Obj.cells #[.slice A n c] 23)
  have s7 : (W7.alloc (Obj.cells #[.slice A n c] 23)).heap.size = w.heap.size + 8 := by simp [s6]
  have b7 := below_alloc b6 (Obj.cells #[.slice A n c] 23)
  generalize W7.alloc (Obj.cells #[.slice A n c] 23) = W8 at *
  refine ⟨⟨?_, Kd.R_nil _ _ _ _ _, ?_, Fresh.nil _ _, fun ad a b e _ => (by cases e), ?_, ?_, ?_, ?_, ?_, b7, by omega⟩, h7, s7, trivial⟩
  · exact g7 _ _ (g6 _ _ (g5 _ _ (g4 _ _ h3)))
  · exact g7 _ _ (g6 _ _ (g5 _ _ h4))
  · exact g7 _ _ (g6 _ _ h5)
  · exact g7 _ _ h6
  · exact g7 _ _ (g6 _ _ (g5 _ _ (g4 _ _ (g3 _ _ (g2 _ _ (g1 _ _ h0))))))
  · exact g7 _ _ (g6 _ _ (g5 _ _ (g4 _ _ (g3 _ _ (g2 _ _ h1)))))
  · exact g7 _ _ (g6 _ _ (g5 _ _ (g4 _ _ (g3 _ _ h2))))
attribute [local go_sem] Oper.semAt_some Rng.wide_fn Rng.wide_depth Rng.wide_alive
set_option maxHeartbeats 4000000 in
set_option maxRecDepth 100000 in
theorem through_other (x : S74) (hname : (x.f0.toList == ([104, 101, 97, 100] : List UInt8)) = false) (F : List Int → Int → List Int → List Int × List Int × Int × Bool) (E : List Int → Int → List Int) (Inv : Nat → List Int → Int → Prop) (At : Option Addr) (ct : Nat) (t : List Int) (w : World)
    (ht : Kd.C (Kd.int .u8) w At t.length t) (hct : t.length ≤ ct) (hmx : t.length ≤ 2000000000) (hi0 : Inv 0 [] 0)
    (hF : ∀ j st n li W As cs Al cl, Below w.heap.size w W → j < t.length → Inv j st n → 0 < li.length → (∀ z ∈ li, z ∈ t) → li.length ≤ 65536 → Kd.C (Kd.int .u8) W As st.length st → st.length ≤ cs → Kd.C (Kd.int .u8) W Al li.length li → li.length ≤ cl →
      Calls Tryz.prog 63 #[.agg #[.string x.f0, .int .i64 x.f1, .string x.f2], .slice As st.length cs, .int .i64 n, .slice Al li.length cl] W (fun e w' => FeedPost W w' e (F st n li).1 (F st n li).2.1 (F st n li).2.2.1 (F st n li).2.2.2) ∧ Inv (j + 1) (F st n li).2.1 (F st n li).2.2.1 ∧ (F st n li).1.length ≤ 2000000)
    (hE : ∀ j st n W As cs, Below w.heap.size w W → j ≤ t.length → Inv j st n → Kd.C (Kd.int .u8) W As st.length st → st.length ≤ cs →
      Calls Tryz.prog 64 #[.agg #[.string x.f0, .int .i64 x.f1, .string x.f2], .slice As st.length cs, .int .i64 n] W fun e w' => ∃ v, e = .returned (.tuple #[v, .int .i64 0]) ∧ Fresh w' W.heap.size v (E st n) ∧ (E st n).length ≤ 2000000 ∧ Below W.heap.size W w') :
    Calls Tryz.prog 32 #[.agg #[.string x.f0, .int .i64 x.f1, .string x.f2], .slice At t.length ct] w fun e w' =>
      ∃ v, e = .returned (.tuple #[v, .int .i64 (throughOf F E (true) t).1]) ∧ Fresh w' w.heap.size v (throughOf F E (true) t).2 ∧ Below w.heap.size w w' := by
  have hu := Tryz.underlying74
  have HF := Lib.hid hF
  have HE := Lib.hid hE
  have HT := Lib.hid (And.intro hct (And.intro hmx hi0))
  obtain ⟨ad, hLB, hadN, hadc, hadK⟩ := text_ad ht hct
  clear hF hE ht hct hmx hi0
  obtain ⟨Q, hQ⟩ : ∃ Q, Q = goL F ((spans t).map (lineAt t)) [] [] 0 (true) := ⟨_, rfl⟩
  have hgoal : throughOf F E (true) t = if Q.1 ≠ 0 then (Q.1, []) else if 1048576 < (Q.2.1 ++ E Q.2.2.1 Q.2.2.2).length then (31, []) else (0, Q.2.1 ++ E Q.2.2.1 Q.2.2.2) := by rw [hQ]; rfl
  obtain ⟨TO, hTO⟩ : ∃ TO, TO = throughOf F E (true) t := ⟨_, rfl⟩
  rw [← hTO] at hgoal ⊢
  have HTO := Lib.hid hgoal
  clear hgoal hTO
  have HQ := Lib.hid hQ
  clear hQ
  have HTX := Lib.hid (And.intro hLB (And.intro hadN (And.intro hadc hadK)))
  clear hLB hadN hadc hadK
  refine (callsIn_wide (n := 5)).1 ?_
  refine callsIn_of_wp_marks Tryz.func32 rfl trivial ?_ rfl
  simp only [Tryz.ntmps32, List.size_toArray, List.length_cons, List.length_nil, Nat.reduceAdd, Nat.reduceSub, Array.replicate_succ, Array.replicate_zero, List.push_toArray, List.append_toArray, List.nil_append, List.cons_append]
  gi_wp2_with (gi_at_call 62; refine (callsIn_wide.2 (bytes_Lines.calls _ _ _ _)).mono ?_; rintro e w' ⟨rfl, rfl⟩)
  obtain ⟨hT0, hB0, hs0, hK0⟩ := ts0 w #[.string x.f0, .int .i64 x.f1, .string x.f2] 74 (true) At t.length ct
  generalize hW0 : ((((((((w.alloc (Obj.cells #[.string x.f0, .int .i64 x.f1, .string x.f2] 74)).alloc (Obj.cells #[.slice none 0 0] 23)).alloc (Obj.cells #[.int .i64 0] 41)).alloc (Obj.cells #[.slice none 0 0] 23)).alloc (Obj.cells #[.slice none 0 0] 23)).alloc (Obj.cells #[.int .i64 0] 3)).alloc (Obj.cells #[.bool (true)] 4)).alloc (Obj.cells #[.slice At t.length ct] 23)) = W0 at *
  clear hW0
  have HZ := Lib.hid (And.intro hT0 (And.intro hB0 (And.intro hs0 hK0)))
  refine Rng.rangeW (gf := 91) (lb := #[.pointer (some ⟨w.heap.size + 1 + 1 + 1 + 1 + 1 + 1 + 1, 0, none⟩)]) rfl (enters_of Tryz.func91 (by kernel_rfl) rfl)
    (lines_seq (w.heap.size + 1 + 1 + 1 + 1 + 1 + 1 + 1) t.length ct ad t rfl HT.out.1 HT.out.2.1 W0 (.slice At t.length ct) HTX.out.1 (by have := HTX.out.2.1; omega) (by have := HTX.out.2.1; omega) (fun j hj => HTX.out.2.2.2 W0 HZ.out.1.bl j hj) HZ.out.2.1)
    (Below.refl _ _) (fun r h => by subst h; omega) (fun r h => by rcases h with rfl | rfl; · omega
                                                                   · have := HTX.out.2.1; omega) (fun _ => rfl)
    (fun pre W => ∃ v out vs st n mr, TS w.heap.size w (Obj.cells #[.string x.f0, .int .i64 x.f1, .string x.f2] 74 (0, 0)) W v out vs st n mr 0 ∧ Inv pre.length st n ∧ out.length ≤ 1048576 ∧ goL F (((spans t).drop pre.length).map (lineAt t)) out st n mr = Q)
    (fun c pre W => (c = .exit 0 ∧ ∃ v out vs st n mr, TS w.heap.size w (Obj.cells #[.string x.f0, .int .i64 x.f1, .string x.f2] 74 (0, 0)) W v out vs st n mr 0 ∧ (∃ j, j ≤ t.length ∧ Inv j st n) ∧ out.length ≤ 1048576 ∧ Q = (0, out, st, n)) ∨
      (c = .ret ∧ ∃ v out vs st n mr er, TS w.heap.size w (Obj.cells #[.string x.f0, .int .i64 x.f1, .string x.f2] 74 (0, 0)) W v out vs st n mr er ∧ Q.1 = er ∧ er ≠ 0))
    ?hI ?hIx ?h0 ?a1 ?assign ?body ?done ?stop
  case a1 => exact fun y => { tmps := #[.agg #[.string x.f0, .int .i64 x.f1, .string x.f2], .slice At t.length ct, .pointer (some ⟨w.heap.size, 0, none⟩), undef, .pointer (some ⟨w.heap.size + 1, 0, none⟩), .pointer (some ⟨w.heap.size + 1 + 1, 0, none⟩), .pointer (some ⟨w.heap.size + 1 + 1 + 1, 0, none⟩), .pointer (some ⟨w.heap.size + 1 + 1 + 1 + 1, 0, none⟩), .pointer (some ⟨w.heap.size + 1 + 1 + 1 + 1 + 1, 0, none⟩), .pointer (some ⟨w.heap.size + 1 + 1 + 1 + 1 + 1 + 1, 0, none⟩), .slice (some (ad.add y.1)) y.2 y.2, undef, undef, undef, .pointer (some ⟨w.heap.size, 0, none⟩), .string x.f0, .bool true, .bool true, undef, undef, undef, .bool (true), .slice At t.length ct, .func (.func 91) #[] #[.pointer (some ⟨w.heap.size + 1 + 1 + 1 + 1 + 1 + 1 + 1, 0, none⟩)], .slice (some (ad.add y.1)) y.2 y.2, undef, undef, undef, undef, undef, undef, undef, undef, undef, undef, undef, undef, undef, undef, undef, undef, undef, undef, undef, undef, undef, undef, undef, undef, undef, undef, undef, undef, undef, undef, undef, undef, undef, undef, undef, undef], defers := [] }
  case hI =>
    rintro s A B row ⟨v, out, vs, st, n, mr, hT, h2, h3, h4⟩ hg hr
    exact ⟨v, out, vs, st, n, mr, hT.calm (fun r e => (hr r e).imp id (fun h => h.2)) hg (fun r e => calm_le HZ.out.2.2.1 ((hr r e).imp id (fun h => h.1))), h2, h3, h4⟩
  case hIx =>
    rintro c s A B row (⟨hc, v, out, vs, st, n, mr, hT, h2⟩ | ⟨hc, v, out, vs, st, n, mr, er, hT, h2⟩) hg hr
    · exact .inl ⟨hc, v, out, vs, st, n, mr, hT.calm (fun r e => (hr r e).imp id (fun h => h.2)) hg (fun r e => calm_le HZ.out.2.2.1 ((hr r e).imp id (fun h => h.1))), h2⟩
    · exact .inr ⟨hc, v, out, vs, st, n, mr, er, hT.calm (fun r e => (hr r e).imp id (fun h => h.2)) hg (fun r e => calm_le HZ.out.2.2.1 ((hr r e).imp id (fun h => h.1))), h2⟩
  case h0 => exact ⟨_, [], _, [], 0, _, HZ.out.1, HT.out.2.2, by simp, by simpa using HQ.out.symm⟩
  case assign =>
    intro l y W K hK
    gi_wp2
    exact hK
  case body =>
    rintro l pre ⟨o, m⟩ W ⟨v, out, vs, st, n, mr, hT, hinv, hol, hq⟩ ⟨p, o', m', suf, hp, hsuf, hle, hm0⟩ hsz
    obtain ⟨rfl, h2⟩ := List.append_inj' hp rfl
    cases h2
    have hdrop : (spans t).drop pre.length = (o, m) :: suf := by rw [← hsuf, List.append_assoc]; simp
    have hpl : pre.length < t.length := by have := spans_le t; have h2 := congrArg List.length hsuf; simp only [List.length_append, List.length_cons] at h2; omega
    have hdrop2 : (spans t).drop (pre ++ [(o, m)]).length = suf := by rw [← hsuf]; simp
    have hlen : (lineAt t (o, m)).length = m := by simp [lineAt]; omega
    rw [hdrop, List.map_cons, goL] at hq
    have hTK := HTX.out.2.2.2 W hT.bl
    have hLC : Kd.C (Kd.int .u8) W (some (ad.add o)) (lineAt t (o, m)).length (lineAt t (o, m)) := line_C hTK hle hlen (by have := HT.out.2.1; omega)
    have hmem : ∀ z ∈ lineAt t (o, m), z ∈ t := fun z hz => List.mem_of_mem_drop (List.mem_of_mem_take hz)
    generalize lineAt t (o, m) = li at *
    have HMEM := Lib.hid hmem
    clear hmem
    rw [← hlen] at hm0 hdrop2 ⊢
    have HX := Lib.hid (And.intro hdrop2 (And.intro hinv (And.intro hol (And.intro hle (And.intro hLC hpl)))))
    have HTT := Lib.hid hT
    have HM := Lib.hid (show 0 < li.length from hm0)
    have c2a : W.cell? ⟨w.heap.size, 0, none⟩ = some (.string x.f0) := blk_cell hT.bt 0
    have c2b : W.cell? ⟨w.heap.size, 1, none⟩ = some (.int .i64 x.f1) := blk_cell hT.bt 1
    have c2c : W.cell? ⟨w.heap.size, 2, none⟩ = some (.string x.f2) := blk_cell hT.bt 2
    have c9 : W.cell? ⟨w.heap.size + 1 + 1 + 1 + 1 + 1 + 1, 0, none⟩ = some (.bool mr) := hT.bm.cell
    clear hpl hdrop hdrop2 hlen hinv hol hle hLC hTK hsuf hT hp hm0
    cases mr with
    | false =>
      rw [if_pos rfl] at hq
      have HQQ := Lib.hid hq
      clear hq
      gi_wp2
      refine ⟨KeepsOthers.refl _, .inl ⟨rfl, v, out, vs, st, n, false, HTT.out, ⟨_, Nat.le_of_lt HX.out.2.2.2.2.2, HX.out.2.1⟩, HX.out.2.2.1, HQQ.out.symm⟩⟩
    | true =>
      rw [if_neg (by simp)] at hq
      have HQQ := Lib.hid hq
      clear hq
      have c3 : W.cell? ⟨w.heap.size + 1 + 1 + 1, 0, none⟩ = some v := HTT.out.bo.cell
      have c4 : W.cell? ⟨w.heap.size + 1 + 1 + 1 + 1, 0, none⟩ = some vs := HTT.out.bs.cell
      have c5 : W.cell? ⟨w.heap.size + 1 + 1 + 1 + 1 + 1, 0, none⟩ = some (.int .i64 n) := HTT.out.bn.cell
      have c1 : W.cell? ⟨w.heap.size + 1, 0, none⟩ = some (.slice none 0 0) := HTT.out.br.cell
      have c2 : W.cell? ⟨w.heap.size + 1 + 1, 0, none⟩ = some (.int .i64 0) := HTT.out.be.cell
      have f1 : W.frozen? ⟨w.heap.size + 1, 0, none⟩ = false := HTT.out.br.frozen
      have f2 : W.frozen? ⟨w.heap.size + 1 + 1, 0, none⟩ = false := HTT.out.be.frozen
      by_cases hL : 65536 < li.length
      · have hd : decide ((li.length : Int) > 65536) = true := by simp; omega
        have HH := Lib.hid hL
        clear hL
        gi_wp2
        have hq2 := HQQ.out
        rw [if_pos HH.out] at hq2
        exact ⟨(KeepsOthers.setCell _ _ _).trans (KeepsOthers.setCell _ _ _), .inr ⟨rfl, v, out, vs, st, n, true, 5, (HTT.out.setRet).setErr 5, by rw [← hq2], by decide⟩⟩
      · have hd : decide ((li.length : Int) > 65536) = false := by simp; omega
        have hq2 := HQQ.out
        rw [if_neg hL] at hq2
        obtain ⟨As, cs, rfl, hcs, hCs, hAs⟩ := HTT.out.fs
        obtain ⟨hfc, hinv', hlo⟩ := HF.out pre.length st n li W As cs (some (ad.add o)) li.length HTT.out.bl HX.out.2.2.2.2.2 HX.out.2.1 HM.out HMEM.out (by omega) hCs hcs HX.out.2.2.2.2.1 (Nat.le_refl _)
        generalize hF4 : F st n li = F4 at *
        obtain ⟨lo, ln, n', mr'⟩ := F4
        simp only at hfc hinv' hq2 hlo
        obtain ⟨o2, ho2⟩ : ∃ o2, o2 = out ++ lo := ⟨_, rfl⟩
        rw [← ho2] at hq2
        have HO2 := Lib.hid ho2
        have HI := Lib.hid hinv'
        have HFC := Lib.hid hfc
        have HQ2 := Lib.hid hq2
        have HTT := Lib.hid HTT.out
        have HLO : Hid (lo.length ≤ 2000000) := hlo
        clear hL hCs hcs hAs hfc hinv' hq2 hF4 ho2 hlo
        by_cases hL2 : 1048576 < o2.length
        · have hd2 : decide ((o2.length : Int) > 1048576) = true := by simp; omega
          have HH2 := Lib.hid hL2
          clear hL2
          gi_wp2_with (first
            | (gi_at_call 63; go_must (refine ((callsIn_wide.2 HFC.out).inRound l).mono ?_); go_must (
                rintro e W1 ⟨vo, vn, rfl, ho, hn, hb⟩
                obtain ⟨An, cn, rfl, hnr⟩ : ∃ An cn, vn = .slice An ln.length cn ∧ True := by obtain ⟨A, c, h, _⟩ := hn; exact ⟨A, c, h, trivial⟩
                obtain ⟨Ao, co, rfl, hor⟩ : ∃ An cn, vo = .slice An lo.length cn ∧ True := by obtain ⟨A, c, h, _⟩ := ho; exact ⟨A, c, h, trivial⟩
                clear hnr hor
                have hT1 := HTT.out.below hb
                have d3 : W1.cell? ⟨w.heap.size + 1 + 1 + 1, 0, none⟩ = some v := hT1.bo.cell
                have d4 : W1.cell? ⟨w.heap.size + 1 + 1 + 1 + 1, 0, none⟩ = some _ := hT1.bs.cell
                have d5 : W1.cell? ⟨w.heap.size + 1 + 1 + 1 + 1 + 1, 0, none⟩ = some _ := hT1.bn.cell
                have d6 : W1.cell? ⟨w.heap.size + 1 + 1 + 1 + 1 + 1 + 1, 0, none⟩ = some _ := hT1.bm.cell
                have g4 : W1.frozen? ⟨w.heap.size + 1 + 1 + 1 + 1, 0, none⟩ = false := hT1.bs.frozen
                have g5 : W1.frozen? ⟨w.heap.size + 1 + 1 + 1 + 1 + 1, 0, none⟩ = false := hT1.bn.frozen
                have g6 : W1.frozen? ⟨w.heap.size + 1 + 1 + 1 + 1 + 1 + 1, 0, none⟩ = false := hT1.bm.frozen
                have HT1 := Lib.hid hT1
                have HHN := Lib.hid (And.intro ho (And.intro hn hb))
                clear hT1 ho hn hb))
            | (gi_at_builtin; go_must (
                obtain ⟨v1, W5, hrun, hT6, hKP, k1, k2, k3, k4, k5, k6, ⟨A1, k1', rfl⟩⟩ := through_round (ks := fun k => k = w.heap.size + 1 + 1 + 1 + 1 + 1 + 1 + 1 ∨ k = ad.block) HTT.out HHN.out.1 HHN.out.2.1 HHN.out.2.2 n' mr' o2 HO2.out (by have := HX.out.2.2.1; have := HLO.out; omega)
                have HT6 := Lib.hid hT6
                have HKP := Lib.hid hKP
                clear hT6 hKP
                refine wpListIn_append_run _ rfl _ _ 23 rfl _ rfl _ rfl _ W5 hrun ?_; clear hrun)))
          have hq3 := HQ2.out
          rw [if_pos HH2.out] at hq3
          exact ⟨HKP.out.1.trans ((KeepsOthers.setCell _ _ _).trans (KeepsOthers.setCell _ _ _)), .inr ⟨rfl, _, o2, _, ln, n', mr', 31, (HT6.out.setRet).setErr 31, by rw [← hq3], by decide⟩⟩
        · have hd2 : decide ((o2.length : Int) > 1048576) = false := by simp; omega
          have HH2 := Lib.hid hL2
          clear hL2
          gi_wp2_with (first
            | (gi_at_call 63; go_must (refine ((callsIn_wide.2 HFC.out).inRound l).mono ?_); go_must (
                rintro e W1 ⟨vo, vn, rfl, ho, hn, hb⟩
                obtain ⟨An, cn, rfl, hnr⟩ : ∃ An cn, vn = .slice An ln.length cn ∧ True := by obtain ⟨A, c, h, _⟩ := hn; exact ⟨A, c, h, trivial⟩
                obtain ⟨Ao, co, rfl, hor⟩ : ∃ An cn, vo = .slice An lo.length cn ∧ True := by obtain ⟨A, c, h, _⟩ := ho; exact ⟨A, c, h, trivial⟩
                clear hnr hor
                have hT1 := HTT.out.below hb
                have d3 : W1.cell? ⟨w.heap.size + 1 + 1 + 1, 0, none⟩ = some v := hT1.bo.cell
                have d4 : W1.cell? ⟨w.heap.size + 1 + 1 + 1 + 1, 0, none⟩ = some _ := hT1.bs.cell
                have d5 : W1.cell? ⟨w.heap.size + 1 + 1 + 1 + 1 + 1, 0, none⟩ = some _ := hT1.bn.cell
                have d6 : W1.cell? ⟨w.heap.size + 1 + 1 + 1 + 1 + 1 + 1, 0, none⟩ = some _ := hT1.bm.cell
                have g4 : W1.frozen? ⟨w.heap.size + 1 + 1 + 1 + 1, 0, none⟩ = false := hT1.bs.frozen
                have g5 : W1.frozen? ⟨w.heap.size + 1 + 1 + 1 + 1 + 1, 0, none⟩ = false := hT1.bn.frozen
                have g6 : W1.frozen? ⟨w.heap.size + 1 + 1 + 1 + 1 + 1 + 1, 0, none⟩ = false := hT1.bm.frozen
                have HT1 := Lib.hid hT1
                have HHN := Lib.hid (And.intro ho (And.intro hn hb))
                clear hT1 ho hn hb))
            | (gi_at_builtin; go_must (
                obtain ⟨v1, W5, hrun, hT6, hKP, k1, k2, k3, k4, k5, k6, ⟨A1, k1', rfl⟩⟩ := through_round (ks := fun k => k = w.heap.size + 1 + 1 + 1 + 1 + 1 + 1 + 1 ∨ k = ad.block) HTT.out HHN.out.1 HHN.out.2.1 HHN.out.2.2 n' mr' o2 HO2.out (by have := HX.out.2.2.1; have := HLO.out; omega)
                have HT6 := Lib.hid hT6
                have HKP := Lib.hid hKP
                clear hT6 hKP
                refine wpListIn_append_run _ rfl _ _ 23 rfl _ rfl _ rfl _ W5 hrun ?_; clear hrun)))
          have hq3 := HQ2.out
          rw [if_neg HH2.out] at hq3
          refine ⟨HKP.out.1, HKP.out.2 ?_, _, o2, _, ln, n', mr', HT6.out, by simpa using HI.out, by have := HH2.out; omega, ?_⟩
          · intro k hk
            have := HTX.out.2.1
            rcases hk with rfl | rfl <;> omega
          · rw [HX.out.1]; exact hq3
  case done =>
    rintro D xs W hD hxs ⟨v, out, vs, st, n, mr, hT, hinv, hol, hq⟩ hK
    have hxs' : xs = spans t := hxs
    subst hxs'
    have hQ2 : Q = (0, out, st, n) := by rw [← hq]; simp [goL]
    have hD' : w.heap.size + 8 ≤ D := by have := HZ.out.2.2.1; omega
    have hinv : ∃ j, j ≤ t.length ∧ Inv j st n := ⟨_, spans_le t, hinv⟩
    clear hq hD hxs
    obtain ⟨As, cs, rfl, hcs, hCs, hAs⟩ := hT.fs
    obtain ⟨j, hj, hinv⟩ := hinv
    have HEC := Lib.hid (HE.out j st n W As cs hT.bl hj hinv hCs hcs)
    have HTT := Lib.hid hT
    have hTO := HTO.out
    rw [hQ2] at hTO
    simp only at hTO
    rw [if_neg (by simp)] at hTO
    generalize hF4 : E st n = lo at *
    obtain ⟨o2, ho2⟩ : ∃ o2, o2 = out ++ lo := ⟨_, rfl⟩
    have c2a : W.cell? ⟨w.heap.size, 0, none⟩ = some (.string x.f0) := blk_cell hT.bt 0
    have c2b : W.cell? ⟨w.heap.size, 1, none⟩ = some (.int .i64 x.f1) := blk_cell hT.bt 1
    have c2c : W.cell? ⟨w.heap.size, 2, none⟩ = some (.string x.f2) := blk_cell hT.bt 2
    have c4 : W.cell? ⟨w.heap.size + 1 + 1 + 1 + 1, 0, none⟩ = some (.slice As st.length cs) := hT.bs.cell
    have c5 : W.cell? ⟨w.heap.size + 1 + 1 + 1 + 1 + 1, 0, none⟩ = some (.int .i64 n) := hT.bn.cell
    rw [← ho2] at hTO
    have HTQ := Lib.hid hTO
    have HO2 := Lib.hid (And.intro ho2 (And.intro hol (And.intro hK hD')))
    clear hF4 hT hinv hj hol ho2 hCs hcs hAs hK hD' hTO hQ2
    by_cases hL2 : 1048576 < o2.length
    · have hd2 : decide ((o2.length : Int) > 1048576) = true := by simp; omega
      have HH2 := Lib.hid hL2
      clear hL2
      gi_wp2_with (first
        | (gi_at_call 64; go_must (refine (callsIn_wide.2 HEC.out).mono ?_); go_must (
            rintro e W1 ⟨vo, rfl, ho, hlo, hb⟩
            obtain ⟨Ao, co, rfl, hor⟩ : ∃ An cn, vo = .slice An lo.length cn ∧ True := by obtain ⟨A, c, h, _⟩ := ho; exact ⟨A, c, h, trivial⟩
            clear hor
            have d3 : W1.cell? ⟨w.heap.size + 1 + 1 + 1, 0, none⟩ = some v := (HTT.out.below hb).bo.cell
            have HHN := Lib.hid (And.intro ho (And.intro hlo hb))
            clear ho hlo hb))
        | (gi_at_builtin; go_must (
            obtain ⟨v1, W5, hrun, hT6, hK6, k1, k2, k3, k4, k5, k6, ⟨A1, k1', rfl⟩⟩ := through_last HTT.out HHN.out.1 HHN.out.2.2 o2 HO2.out.1 (by have := HO2.out.2.1; have := HHN.out.2.1; omega) HO2.out.2.2.1 HO2.out.2.2.2
            have HT6 := Lib.hid (And.intro hT6 hK6)
            clear hT6 hK6
            refine wpListIn_append_run _ rfl _ _ 23 rfl _ rfl _ rfl _ W5 hrun ?_; clear hrun)))
      have hTO := HTQ.out
      rw [if_pos HH2.out] at hTO
      subst hTO
      have h8 := (HT6.out.1.setRet).setErr 31
      exact ⟨by simp, .inl ⟨_, _, rfl, run_takeDeferred (blk_other (blk_other HT6.out.2 (by have := HO2.out.2.2.2; omega) _) (by have := HO2.out.2.2.2; omega) _), through_fin rfl rfl rfl h8.bl h8.br h8.be (Fresh.nil _ _) (blk_other (blk_other HT6.out.2 (by have := HO2.out.2.2.2; omega) _) (by have := HO2.out.2.2.2; omega) _) HO2.out.2.2.2⟩⟩
    · have hd2 : decide ((o2.length : Int) > 1048576) = false := by simp; omega
      have HH2 := Lib.hid hL2
      clear hL2
      gi_wp2_with (first
        | (gi_at_call 64; go_must (refine (callsIn_wide.2 HEC.out).mono ?_); go_must (
            rintro e W1 ⟨vo, rfl, ho, hlo, hb⟩
            obtain ⟨Ao, co, rfl, hor⟩ : ∃ An cn, vo = .slice An lo.length cn ∧ True := by obtain ⟨A, c, h, _⟩ := ho; exact ⟨A, c, h, trivial⟩
            clear hor
            have d3 : W1.cell? ⟨w.heap.size + 1 + 1 + 1, 0, none⟩ = some v := (HTT.out.below hb).bo.cell
            have HHN := Lib.hid (And.intro ho (And.intro hlo hb))
            clear ho hlo hb))
        | (gi_at_builtin; go_must (
            obtain ⟨v1, W5, hrun, hT6, hK6, k1, k2, k3, k4, k5, k6, ⟨A1, k1', rfl⟩⟩ := through_last HTT.out HHN.out.1 HHN.out.2.2 o2 HO2.out.1 (by have := HO2.out.2.1; have := HHN.out.2.1; omega) HO2.out.2.2.1 HO2.out.2.2.2
            have HT6 := Lib.hid (And.intro hT6 hK6)
            clear hT6 hK6
            refine wpListIn_append_run _ rfl _ _ 23 rfl _ rfl _ rfl _ W5 hrun ?_; clear hrun)))
      have hTO := HTQ.out
      rw [if_neg HH2.out] at hTO
      subst hTO
      obtain ⟨h8a, h8b, h8c, h8d⟩ := through_good HT6.out.1
      exact ⟨by simp, .inl ⟨_, _, rfl, run_takeDeferred (blk_other (blk_other HT6.out.2 (by have := HO2.out.2.2.2; omega) _) (by have := HO2.out.2.2.2; omega) _), through_fin rfl rfl rfl h8a h8b h8c h8d (blk_other (blk_other HT6.out.2 (by have := HO2.out.2.2.2; omega) _) (by have := HO2.out.2.2.2; omega) _) HO2.out.2.2.2⟩⟩
  case stop =>
    rintro D c pre W hD hsp (⟨rfl, v, out, vs, st, n, mr, hT, hinv, hol, hQ2⟩ | ⟨rfl, v, out, vs, st, n, mr, er, hT, hq, her⟩) hK
    · have hD' : w.heap.size + 8 ≤ D := by have := HZ.out.2.2.1; omega
      clear hD hsp
      obtain ⟨As, cs, rfl, hcs, hCs, hAs⟩ := hT.fs
      obtain ⟨j, hj, hinv⟩ := hinv
      have HEC := Lib.hid (HE.out j st n W As cs hT.bl hj hinv hCs hcs)
      have HTT := Lib.hid hT
      have hTO := HTO.out
      rw [hQ2] at hTO
      simp only at hTO
      rw [if_neg (by simp)] at hTO
      generalize hF4 : E st n = lo at *
      obtain ⟨o2, ho2⟩ : ∃ o2, o2 = out ++ lo := ⟨_, rfl⟩
      have c2a : W.cell? ⟨w.heap.size, 0, none⟩ = some (.string x.f0) := blk_cell hT.bt 0
      have c2b : W.cell? ⟨w.heap.size, 1, none⟩ = some (.int .i64 x.f1) := blk_cell hT.bt 1
      have c2c : W.cell? ⟨w.heap.size, 2, none⟩ = some (.string x.f2) := blk_cell hT.bt 2
      have c4 : W.cell? ⟨w.heap.size + 1 + 1 + 1 + 1, 0, none⟩ = some (.slice As st.length cs) := hT.bs.cell
      have c5 : W.cell? ⟨w.heap.size + 1 + 1 + 1 + 1 + 1, 0, none⟩ = some (.int .i64 n) := hT.bn.cell
      rw [← ho2] at hTO
      have HTQ := Lib.hid hTO
      have HO2 := Lib.hid (And.intro ho2 (And.intro hol (And.intro hK hD')))
      clear hF4 hT hinv hj hol ho2 hCs hcs hAs hK hD' hTO hQ2
      by_cases hL2 : 1048576 < o2.length
      · have hd2 : decide ((o2.length : Int) > 1048576) = true := by simp; omega
        have HH2 := Lib.hid hL2
        clear hL2
        gi_wp2_with (first
          | (gi_at_call 64; go_must (refine (callsIn_wide.2 HEC.out).mono ?_); go_must (
              rintro e W1 ⟨vo, rfl, ho, hlo, hb⟩
              obtain ⟨Ao, co, rfl, hor⟩ : ∃ An cn, vo = .slice An lo.length cn ∧ True := by obtain ⟨A, c, h, _⟩ := ho; exact ⟨A, c, h, trivial⟩
              clear hor
              have d3 : W1.cell? ⟨w.heap.size + 1 + 1 + 1, 0, none⟩ = some v := (HTT.out.below hb).bo.cell
              have HHN := Lib.hid (And.intro ho (And.intro hlo hb))
              clear ho hlo hb))
          | (gi_at_builtin; go_must (
              obtain ⟨v1, W5, hrun, hT6, hK6, k1, k2, k3, k4, k5, k6, ⟨A1, k1', rfl⟩⟩ := through_last HTT.out HHN.out.1 HHN.out.2.2 o2 HO2.out.1 (by have := HO2.out.2.1; have := HHN.out.2.1; omega) HO2.out.2.2.1 HO2.out.2.2.2
              have HT6 := Lib.hid (And.intro hT6 hK6)
              clear hT6 hK6
              refine wpListIn_append_run _ rfl _ _ 23 rfl _ rfl _ rfl _ W5 hrun ?_; clear hrun)))
        have hTO := HTQ.out
        rw [if_pos HH2.out] at hTO
        subst hTO
        have h8 := (HT6.out.1.setRet).setErr 31
        exact ⟨by simp, .inl ⟨_, _, rfl, run_takeDeferred (blk_other (blk_other HT6.out.2 (by have := HO2.out.2.2.2; omega) _) (by have := HO2.out.2.2.2; omega) _), through_fin rfl rfl rfl h8.bl h8.br h8.be (Fresh.nil _ _) (blk_other (blk_other HT6.out.2 (by have := HO2.out.2.2.2; omega) _) (by have := HO2.out.2.2.2; omega) _) HO2.out.2.2.2⟩⟩
      · have hd2 : decide ((o2.length : Int) > 1048576) = false := by simp; omega
        have HH2 := Lib.hid hL2
        clear hL2
        gi_wp2_with (first
          | (gi_at_call 64; go_must (refine (callsIn_wide.2 HEC.out).mono ?_); go_must (
              rintro e W1 ⟨vo, rfl, ho, hlo, hb⟩
              obtain ⟨Ao, co, rfl, hor⟩ : ∃ An cn, vo = .slice An lo.length cn ∧ True := by obtain ⟨A, c, h, _⟩ := ho; exact ⟨A, c, h, trivial⟩
              clear hor
              have d3 : W1.cell? ⟨w.heap.size + 1 + 1 + 1, 0, none⟩ = some v := (HTT.out.below hb).bo.cell
              have HHN := Lib.hid (And.intro ho (And.intro hlo hb))
              clear ho hlo hb))
          | (gi_at_builtin; go_must (
              obtain ⟨v1, W5, hrun, hT6, hK6, k1, k2, k3, k4, k5, k6, ⟨A1, k1', rfl⟩⟩ := through_last HTT.out HHN.out.1 HHN.out.2.2 o2 HO2.out.1 (by have := HO2.out.2.1; have := HHN.out.2.1; omega) HO2.out.2.2.1 HO2.out.2.2.2
              have HT6 := Lib.hid (And.intro hT6 hK6)
              clear hT6 hK6
              refine wpListIn_append_run _ rfl _ _ 23 rfl _ rfl _ rfl _ W5 hrun ?_; clear hrun)))
        have hTO := HTQ.out
        rw [if_neg HH2.out] at hTO
        subst hTO
        obtain ⟨h8a, h8b, h8c, h8d⟩ := through_good HT6.out.1
        exact ⟨by simp, .inl ⟨_, _, rfl, run_takeDeferred (blk_other (blk_other HT6.out.2 (by have := HO2.out.2.2.2; omega) _) (by have := HO2.out.2.2.2; omega) _), through_fin rfl rfl rfl h8a h8b h8c h8d (blk_other (blk_other HT6.out.2 (by have := HO2.out.2.2.2; omega) _) (by have := HO2.out.2.2.2; omega) _) HO2.out.2.2.2⟩⟩
    · have hD' : w.heap.size + 8 ≤ D := by have := HZ.out.2.2.1; omega
      have hTO := HTO.out
      rw [if_pos (by rw [hq]; exact her), hq] at hTO
      subst hTO
      clear hD hsp hq her
      have HTT := Lib.hid hT
      clear hT
      gi_wp2
      exact ⟨by simp, .inl ⟨_, _, rfl, run_takeDeferred hK, through_fin rfl rfl rfl HTT.out.bl HTT.out.br HTT.out.be (Fresh.nil _ _) hK hD'⟩⟩
set_option maxHeartbeats 4000000 in
set_option maxRecDepth 100000 in
theorem through_head (x : S74) (hname : (x.f0.toList == ([104, 101, 97, 100] : List UInt8)) = true) (F : List Int → Int → List Int → List Int × List Int × Int × Bool) (E : List Int → Int → List Int) (Inv : Nat → List Int → Int → Prop) (At : Option Addr) (ct : Nat) (t : List Int) (w : World)
    (ht : Kd.C (Kd.int .u8) w At t.length t) (hct : t.length ≤ ct) (hmx : t.length ≤ 2000000000) (hi0 : Inv 0 [] 0)
    (hF : ∀ j st n li W As cs Al cl, Below w.heap.size w W → j < t.length → Inv j st n → 0 < li.length → (∀ z ∈ li, z ∈ t) → li.length ≤ 65536 → Kd.C (Kd.int .u8) W As st.length st → st.length ≤ cs → Kd.C (Kd.int .u8) W Al li.length li → li.length ≤ cl →
      Calls Tryz.prog 63 #[.agg #[.string x.f0, .int .i64 x.f1, .string x.f2], .slice As st.length cs, .int .i64 n, .slice Al li.length cl] W (fun e w' => FeedPost W w' e (F st n li).1 (F st n li).2.1 (F st n li).2.2.1 (F st n li).2.2.2) ∧ Inv (j + 1) (F st n li).2.1 (F st n li).2.2.1 ∧ (F st n li).1.length ≤ 2000000)
    (hE : ∀ j st n W As cs, Below w.heap.size w W → j ≤ t.length → Inv j st n → Kd.C (Kd.int .u8) W As st.length st → st.length ≤ cs →
      Calls Tryz.prog 64 #[.agg #[.string x.f0, .int .i64 x.f1, .string x.f2], .slice As st.length cs, .int .i64 n] W fun e w' => ∃ v, e = .returned (.tuple #[v, .int .i64 0]) ∧ Fresh w' W.heap.size v (E st n) ∧ (E st n).length ≤ 2000000 ∧ Below W.heap.size W w') :
    Calls Tryz.prog 32 #[.agg #[.string x.f0, .int .i64 x.f1, .string x.f2], .slice At t.length ct] w fun e w' =>
      ∃ v, e = .returned (.tuple #[v, .int .i64 (throughOf F E (decide (0 < x.f1)) t).1]) ∧ Fresh w' w.heap.size v (throughOf F E (decide (0 < x.f1)) t).2 ∧ Below w.heap.size w w' := by
  have hu := Tryz.underlying74
  have HF := Lib.hid hF
  have HE := Lib.hid hE
  have HT := Lib.hid (And.intro hct (And.intro hmx hi0))
  obtain ⟨ad, hLB, hadN, hadc, hadK⟩ := text_ad ht hct
  clear hF hE ht hct hmx hi0
  obtain ⟨Q, hQ⟩ : ∃ Q, Q = goL F ((spans t).map (lineAt t)) [] [] 0 (decide (0 < x.f1)) := ⟨_, rfl⟩
  have hgoal : throughOf F E (decide (0 < x.f1)) t = if Q.1 ≠ 0 then (Q.1, []) else if 1048576 < (Q.2.1 ++ E Q.2.2.1 Q.2.2.2).length then (31, []) else (0, Q.2.1 ++ E Q.2.2.1 Q.2.2.2) := by rw [hQ]; rfl
  obtain ⟨TO, hTO⟩ : ∃ TO, TO = throughOf F E (decide (0 < x.f1)) t := ⟨_, rfl⟩
  rw [← hTO] at hgoal ⊢
  have HTO := Lib.hid hgoal
  clear hgoal hTO
  have HQ := Lib.hid hQ
  clear hQ
  have HTX := Lib.hid (And.intro hLB (And.intro hadN (And.intro hadc hadK)))
  clear hLB hadN hadc hadK
  refine (callsIn_wide (n := 5)).1 ?_
  refine callsIn_of_wp_marks Tryz.func32 rfl trivial ?_ rfl
  simp only [Tryz.ntmps32, List.size_toArray, List.length_cons, List.length_nil, Nat.reduceAdd, Nat.reduceSub, Array.replicate_succ, Array.replicate_zero, List.push_toArray, List.append_toArray, List.nil_append, List.cons_append]
  gi_wp2_with (gi_at_call 62; refine (callsIn_wide.2 (bytes_Lines.calls _ _ _ _)).mono ?_; rintro e w' ⟨rfl, rfl⟩)
  obtain ⟨hT0, hB0, hs0, hK0⟩ := ts0 w #[.string x.f0, .int .i64 x.f1, .string x.f2] 74 (decide (0 < x.f1)) At t.length ct
  generalize hW0 : ((((((((w.alloc (Obj.cells #[.string x.f0, .int .i64 x.f1, .string x.f2] 74)).alloc (Obj.cells #[.slice none 0 0] 23)).alloc (Obj.cells #[.int .i64 0] 41)).alloc (Obj.cells #[.slice none 0 0] 23)).alloc (Obj.cells #[.slice none 0 0] 23)).alloc (Obj.cells #[.int .i64 0] 3)).alloc (Obj.cells #[.bool (decide (0 < x.f1))] 4)).alloc (Obj.cells #[.slice At t.length ct] 23)) = W0 at *
  clear hW0
  have HZ := Lib.hid (And.intro hT0 (And.intro hB0 (And.intro hs0 hK0)))
  refine Rng.rangeW (gf := 91) (lb := #[.pointer (some ⟨w.heap.size + 1 + 1 + 1 + 1 + 1 + 1 + 1, 0, none⟩)]) rfl (enters_of Tryz.func91 (by kernel_rfl) rfl)
    (lines_seq (w.heap.size + 1 + 1 + 1 + 1 + 1 + 1 + 1) t.length ct ad t rfl HT.out.1 HT.out.2.1 W0 (.slice At t.length ct) HTX.out.1 (by have := HTX.out.2.1; omega) (by have := HTX.out.2.1; omega) (fun j hj => HTX.out.2.2.2 W0 HZ.out.1.bl j hj) HZ.out.2.1)
    (Below.refl _ _) (fun r h => by subst h; omega) (fun r h => by rcases h with rfl | rfl; · omega
                                                                   · have := HTX.out.2.1; omega) (fun _ => rfl)
    (fun pre W => ∃ v out vs st n mr, TS w.heap.size w (Obj.cells #[.string x.f0, .int .i64 x.f1, .string x.f2] 74 (0, 0)) W v out vs st n mr 0 ∧ Inv pre.length st n ∧ out.length ≤ 1048576 ∧ goL F (((spans t).drop pre.length).map (lineAt t)) out st n mr = Q)
    (fun c pre W => (c = .exit 0 ∧ ∃ v out vs st n mr, TS w.heap.size w (Obj.cells #[.string x.f0, .int .i64 x.f1, .string x.f2] 74 (0, 0)) W v out vs st n mr 0 ∧ (∃ j, j ≤ t.length ∧ Inv j st n) ∧ out.length ≤ 1048576 ∧ Q = (0, out, st, n)) ∨
      (c = .ret ∧ ∃ v out vs st n mr er, TS w.heap.size w (Obj.cells #[.string x.f0, .int .i64 x.f1, .string x.f2] 74 (0, 0)) W v out vs st n mr er ∧ Q.1 = er ∧ er ≠ 0))
    ?hI ?hIx ?h0 ?a1 ?assign ?body ?done ?stop
  case a1 => exact fun y => { tmps := #[.agg #[.string x.f0, .int .i64 x.f1, .string x.f2], .slice At t.length ct, .pointer (some ⟨w.heap.size, 0, none⟩), undef, .pointer (some ⟨w.heap.size + 1, 0, none⟩), .pointer (some ⟨w.heap.size + 1 + 1, 0, none⟩), .pointer (some ⟨w.heap.size + 1 + 1 + 1, 0, none⟩), .pointer (some ⟨w.heap.size + 1 + 1 + 1 + 1, 0, none⟩), .pointer (some ⟨w.heap.size + 1 + 1 + 1 + 1 + 1, 0, none⟩), .pointer (some ⟨w.heap.size + 1 + 1 + 1 + 1 + 1 + 1, 0, none⟩), .slice (some (ad.add y.1)) y.2 y.2, undef, undef, undef, .pointer (some ⟨w.heap.size, 0, none⟩), .string x.f0, .bool false, .bool false, .pointer (some ⟨w.heap.size, 1, none⟩), .int .i64 x.f1, .bool (decide (0 < x.f1)), .bool (decide (0 < x.f1)), .slice At t.length ct, .func (.func 91) #[] #[.pointer (some ⟨w.heap.size + 1 + 1 + 1 + 1 + 1 + 1 + 1, 0, none⟩)], .slice (some (ad.add y.1)) y.2 y.2, undef, undef, undef, undef, undef, undef, undef, undef, undef, undef, undef, undef, undef, undef, undef, undef, undef, undef, undef, undef, undef, undef, undef, undef, undef, undef, undef, undef, undef, undef, undef, undef, undef, undef, undef, undef], defers := [] }
  case hI =>
    rintro s A B row ⟨v, out, vs, st, n, mr, hT, h2, h3, h4⟩ hg hr
    exact ⟨v, out, vs, st, n, mr, hT.calm (fun r e => (hr r e).imp id (fun h => h.2)) hg (fun r e => calm_le HZ.out.2.2.1 ((hr r e).imp id (fun h => h.1))), h2, h3, h4⟩
  case hIx =>
    rintro c s A B row (⟨hc, v, out, vs, st, n, mr, hT, h2⟩ | ⟨hc, v, out, vs, st, n, mr, er, hT, h2⟩) hg hr
    · exact .inl ⟨hc, v, out, vs, st, n, mr, hT.calm (fun r e => (hr r e).imp id (fun h => h.2)) hg (fun r e => calm_le HZ.out.2.2.1 ((hr r e).imp id (fun h => h.1))), h2⟩
    · exact .inr ⟨hc, v, out, vs, st, n, mr, er, hT.calm (fun r e => (hr r e).imp id (fun h => h.2)) hg (fun r e => calm_le HZ.out.2.2.1 ((hr r e).imp id (fun h => h.1))), h2⟩
  case h0 => exact ⟨_, [], _, [], 0, _, HZ.out.1, HT.out.2.2, by simp, by simpa using HQ.out.symm⟩
  case assign =>
    intro l y W K hK
    gi_wp2
    exact hK
  case body =>
    rintro l pre ⟨o, m⟩ W ⟨v, out, vs, st, n, mr, hT, hinv, hol, hq⟩ ⟨p, o', m', suf, hp, hsuf, hle, hm0⟩ hsz
    obtain ⟨rfl, h2⟩ := List.append_inj' hp rfl
    cases h2
    have hdrop : (spans t).drop pre.length = (o, m) :: suf := by rw [← hsuf, List.append_assoc]; simp
    have hpl : pre.length < t.length := by have := spans_le t; have h2 := congrArg List.length hsuf; simp only [List.length_append, List.length_cons] at h2; omega
    have hdrop2 : (spans t).drop (pre ++ [(o, m)]).length = suf := by rw [← hsuf]; simp
    have hlen : (lineAt t (o, m)).length = m := by simp [lineAt]; omega
    rw [hdrop, List.map_cons, goL] at hq
    have hTK := HTX.out.2.2.2 W hT.bl
    have hLC : Kd.C (Kd.int .u8) W (some (ad.add o)) (lineAt t (o, m)).length (lineAt t (o, m)) := line_C hTK hle hlen (by have := HT.out.2.1; omega)
    have hmem : ∀ z ∈ lineAt t (o, m), z ∈ t := fun z hz => List.mem_of_mem_drop (List.mem_of_mem_take hz)
    generalize lineAt t (o, m) = li at *
    have HMEM := Lib.hid hmem
    clear hmem
    rw [← hlen] at hm0 hdrop2 ⊢
    have HX := Lib.hid (And.intro hdrop2 (And.intro hinv (And.intro hol (And.intro hle (And.intro hLC hpl)))))
    have HTT := Lib.hid hT
    have HM := Lib.hid (show 0 < li.length from hm0)
    have c2a : W.cell? ⟨w.heap.size, 0, none⟩ = some (.string x.f0) := blk_cell hT.bt 0
    have c2b : W.cell? ⟨w.heap.size, 1, none⟩ = some (.int .i64 x.f1) := blk_cell hT.bt 1
    have c2c : W.cell? ⟨w.heap.size, 2, none⟩ = some (.string x.f2) := blk_cell hT.bt 2
    have c9 : W.cell? ⟨w.heap.size + 1 + 1 + 1 + 1 + 1 + 1, 0, none⟩ = some (.bool mr) := hT.bm.cell
    clear hpl hdrop hdrop2 hlen hinv hol hle hLC hTK hsuf hT hp hm0
    cases mr with
    | false =>
      rw [if_pos rfl] at hq
      have HQQ := Lib.hid hq
      clear hq
      gi_wp2
      refine ⟨KeepsOthers.refl _, .inl ⟨rfl, v, out, vs, st, n, false, HTT.out, ⟨_, Nat.le_of_lt HX.out.2.2.2.2.2, HX.out.2.1⟩, HX.out.2.2.1, HQQ.out.symm⟩⟩
    | true =>
      rw [if_neg (by simp)] at hq
      have HQQ := Lib.hid hq
      clear hq
      have c3 : W.cell? ⟨w.heap.size + 1 + 1 + 1, 0, none⟩ = some v := HTT.out.bo.cell
      have c4 : W.cell? ⟨w.heap.size + 1 + 1 + 1 + 1, 0, none⟩ = some vs := HTT.out.bs.cell
      have c5 : W.cell? ⟨w.heap.size + 1 + 1 + 1 + 1 + 1, 0, none⟩ = some (.int .i64 n) := HTT.out.bn.cell
      have c1 : W.cell? ⟨w.heap.size + 1, 0, none⟩ = some (.slice none 0 0) := HTT.out.br.cell
      have c2 : W.cell? ⟨w.heap.size + 1 + 1, 0, none⟩ = some (.int .i64 0) := HTT.out.be.cell
      have f1 : W.frozen? ⟨w.heap.size + 1, 0, none⟩ = false := HTT.out.br.frozen
      have f2 : W.frozen? ⟨w.heap.size + 1 + 1, 0, none⟩ = false := HTT.out.be.frozen
      by_cases hL : 65536 < li.length
      · have hd : decide ((li.length : Int) > 65536) = true := by simp; omega
        have HH := Lib.hid hL
        clear hL
        gi_wp2
        have hq2 := HQQ.out
        rw [if_pos HH.out] at hq2
        exact ⟨(KeepsOthers.setCell _ _ _).trans (KeepsOthers.setCell _ _ _), .inr ⟨rfl, v, out, vs, st, n, true, 5, (HTT.out.setRet).setErr 5, by rw [← hq2], by decide⟩⟩
      · have hd : decide ((li.length : Int) > 65536) = false := by simp; omega
        have hq2 := HQQ.out
        rw [if_neg hL] at hq2
        obtain ⟨As, cs, rfl, hcs, hCs, hAs⟩ := HTT.out.fs
        obtain ⟨hfc, hinv', hlo⟩ := HF.out pre.length st n li W As cs (some (ad.add o)) li.length HTT.out.bl HX.out.2.2.2.2.2 HX.out.2.1 HM.out HMEM.out (by omega) hCs hcs HX.out.2.2.2.2.1 (Nat.le_refl _)
        generalize hF4 : F st n li = F4 at *
        obtain ⟨lo, ln, n', mr'⟩ := F4
        simp only at hfc hinv' hq2 hlo
        obtain ⟨o2, ho2⟩ : ∃ o2, o2 = out ++ lo := ⟨_, rfl⟩
        rw [← ho2] at hq2
        have HO2 := Lib.hid ho2
        have HI := Lib.hid hinv'
        have HFC := Lib.hid hfc
        have HQ2 := Lib.hid hq2
        have HTT := Lib.hid HTT.out
        have HLO : Hid (lo.length ≤ 2000000) := hlo
        clear hL hCs hcs hAs hfc hinv' hq2 hF4 ho2 hlo
        by_cases hL2 : 1048576 < o2.length
        · have hd2 : decide ((o2.length : Int) > 1048576) = true := by simp; omega
          have HH2 := Lib.hid hL2
          clear hL2
          gi_wp2_with (first
            | (gi_at_call 63; go_must (refine ((callsIn_wide.2 HFC.out).inRound l).mono ?_); go_must (
                rintro e W1 ⟨vo, vn, rfl, ho, hn, hb⟩
                obtain ⟨An, cn, rfl, hnr⟩ : ∃ An cn, vn = .slice An ln.length cn ∧ True := by obtain ⟨A, c, h, _⟩ := hn; exact ⟨A, c, h, trivial⟩
                obtain ⟨Ao, co, rfl, hor⟩ : ∃ An cn, vo = .slice An lo.length cn ∧ True := by obtain ⟨A, c, h, _⟩ := ho; exact ⟨A, c, h, trivial⟩
                clear hnr hor
                have hT1 := HTT.out.below hb
                have d3 : W1.cell? ⟨w.heap.size + 1 + 1 + 1, 0, none⟩ = some v := hT1.bo.cell
                have d4 : W1.cell? ⟨w.heap.size + 1 + 1 + 1 + 1, 0, none⟩ = some _ := hT1.bs.cell
                have d5 : W1.cell? ⟨w.heap.size + 1 + 1 + 1 + 1 + 1, 0, none⟩ = some _ := hT1.bn.cell
                have d6 : W1.cell? ⟨w.heap.size + 1 + 1 + 1 + 1 + 1 + 1, 0, none⟩ = some _ := hT1.bm.cell
                have g4 : W1.frozen? ⟨w.heap.size + 1 + 1 + 1 + 1, 0, none⟩ = false := hT1.bs.frozen
                have g5 : W1.frozen? ⟨w.heap.size + 1 + 1 + 1 + 1 + 1, 0, none⟩ = false := hT1.bn.frozen
                have g6 : W1.frozen? ⟨w.heap.size + 1 + 1 + 1 + 1 + 1 + 1, 0, none⟩ = false := hT1.bm.frozen
                have HT1 := Lib.hid hT1
                have HHN := Lib.hid (And.intro ho (And.intro hn hb))
                clear hT1 ho hn hb))
            | (gi_at_builtin; go_must (
                obtain ⟨v1, W5, hrun, hT6, hKP, k1, k2, k3, k4, k5, k6, ⟨A1, k1', rfl⟩⟩ := through_round (ks := fun k => k = w.heap.size + 1 + 1 + 1 + 1 + 1 + 1 + 1 ∨ k = ad.block) HTT.out HHN.out.1 HHN.out.2.1 HHN.out.2.2 n' mr' o2 HO2.out (by have := HX.out.2.2.1; have := HLO.out; omega)
                have HT6 := Lib.hid hT6
                have HKP := Lib.hid hKP
                clear hT6 hKP
                refine wpListIn_append_run _ rfl _ _ 23 rfl _ rfl _ rfl _ W5 hrun ?_; clear hrun)))
          have hq3 := HQ2.out
          rw [if_pos HH2.out] at hq3
          exact ⟨HKP.out.1.trans ((KeepsOthers.setCell _ _ _).trans (KeepsOthers.setCell _ _ _)), .inr ⟨rfl, _, o2, _, ln, n', mr', 31, (HT6.out.setRet).setErr 31, by rw [← hq3], by decide⟩⟩
        · have hd2 : decide ((o2.length : Int) > 1048576) = false := by simp; omega
          have HH2 := Lib.hid hL2
          clear hL2
          gi_wp2_with (first
            | (gi_at_call 63; go_must (refine ((callsIn_wide.2 HFC.out).inRound l).mono ?_); go_must (
                rintro e W1 ⟨vo, vn, rfl, ho, hn, hb⟩
                obtain ⟨An, cn, rfl, hnr⟩ : ∃ An cn, vn = .slice An ln.length cn ∧ True := by obtain ⟨A, c, h, _⟩ := hn; exact ⟨A, c, h, trivial⟩
                obtain ⟨Ao, co, rfl, hor⟩ : ∃ An cn, vo = .slice An lo.length cn ∧ True := by obtain ⟨A, c, h, _⟩ := ho; exact ⟨A, c, h, trivial⟩
                clear hnr hor
                have hT1 := HTT.out.below hb
                have d3 : W1.cell? ⟨w.heap.size + 1 + 1 + 1, 0, none⟩ = some v := hT1.bo.cell
                have d4 : W1.cell? ⟨w.heap.size + 1 + 1 + 1 + 1, 0, none⟩ = some _ := hT1.bs.cell
                have d5 : W1.cell? ⟨w.heap.size + 1 + 1 + 1 + 1 + 1, 0, none⟩ = some _ := hT1.bn.cell
                have d6 : W1.cell? ⟨w.heap.size + 1 + 1 + 1 + 1 + 1 + 1, 0, none⟩ = some _ := hT1.bm.cell
                have g4 : W1.frozen? ⟨w.heap.size + 1 + 1 + 1 + 1, 0, none⟩ = false := hT1.bs.frozen
                have g5 : W1.frozen? ⟨w.heap.size + 1 + 1 + 1 + 1 + 1, 0, none⟩ = false := hT1.bn.frozen
                have g6 : W1.frozen? ⟨w.heap.size + 1 + 1 + 1 + 1 + 1 + 1, 0, none⟩ = false := hT1.bm.frozen
                have HT1 := Lib.hid hT1
                have HHN := Lib.hid (And.intro ho (And.intro hn hb))
                clear hT1 ho hn hb))
            | (gi_at_builtin; go_must (
                obtain ⟨v1, W5, hrun, hT6, hKP, k1, k2, k3, k4, k5, k6, ⟨A1, k1', rfl⟩⟩ := through_round (ks := fun k => k = w.heap.size + 1 + 1 + 1 + 1 + 1 + 1 + 1 ∨ k = ad.block) HTT.out HHN.out.1 HHN.out.2.1 HHN.out.2.2 n' mr' o2 HO2.out (by have := HX.out.2.2.1; have := HLO.out; omega)
                have HT6 := Lib.hid hT6
                have HKP := Lib.hid hKP
                clear hT6 hKP
                refine wpListIn_append_run _ rfl _ _ 23 rfl _ rfl _ rfl _ W5 hrun ?_; clear hrun)))
          have hq3 := HQ2.out
          rw [if_neg HH2.out] at hq3
          refine ⟨HKP.out.1, HKP.out.2 ?_, _, o2, _, ln, n', mr', HT6.out, by simpa using HI.out, by have := HH2.out; omega, ?_⟩
          · intro k hk
            have := HTX.out.2.1
            rcases hk with rfl | rfl <;> omega
          · rw [HX.out.1]; exact hq3
  case done =>
    rintro D xs W hD hxs ⟨v, out, vs, st, n, mr, hT, hinv, hol, hq⟩ hK
    have hxs' : xs = spans t := hxs
    subst hxs'
    have hQ2 : Q = (0, out, st, n) := by rw [← hq]; simp [goL]
    have hD' : w.heap.size + 8 ≤ D := by have := HZ.out.2.2.1; omega
    have hinv : ∃ j, j ≤ t.length ∧ Inv j st n := ⟨_, spans_le t, hinv⟩
    clear hq hD hxs
    obtain ⟨As, cs, rfl, hcs, hCs, hAs⟩ := hT.fs
    obtain ⟨j, hj, hinv⟩ := hinv
    have HEC := Lib.hid (HE.out j st n W As cs hT.bl hj hinv hCs hcs)
    have HTT := Lib.hid hT
    have hTO := HTO.out
    rw [hQ2] at hTO
    simp only at hTO
    rw [if_neg (by simp)] at hTO
    generalize hF4 : E st n = lo at *
    obtain ⟨o2, ho2⟩ : ∃ o2, o2 = out ++ lo := ⟨_, rfl⟩
    have c2a : W.cell? ⟨w.heap.size, 0, none⟩ = some (.string x.f0) := blk_cell hT.bt 0
    have c2b : W.cell? ⟨w.heap.size, 1, none⟩ = some (.int .i64 x.f1) := blk_cell hT.bt 1
    have c2c : W.cell? ⟨w.heap.size, 2, none⟩ = some (.string x.f2) := blk_cell hT.bt 2
    have c4 : W.cell? ⟨w.heap.size + 1 + 1 + 1 + 1, 0, none⟩ = some (.slice As st.length cs) := hT.bs.cell
    have c5 : W.cell? ⟨w.heap.size + 1 + 1 + 1 + 1 + 1, 0, none⟩ = some (.int .i64 n) := hT.bn.cell
    rw [← ho2] at hTO
    have HTQ := Lib.hid hTO
    have HO2 := Lib.hid (And.intro ho2 (And.intro hol (And.intro hK hD')))
    clear hF4 hT hinv hj hol ho2 hCs hcs hAs hK hD' hTO hQ2
    by_cases hL2 : 1048576 < o2.length
    · have hd2 : decide ((o2.length : Int) > 1048576) = true := by simp; omega
      have HH2 := Lib.hid hL2
      clear hL2
      gi_wp2_with (first
        | (gi_at_call 64; go_must (refine (callsIn_wide.2 HEC.out).mono ?_); go_must (
            rintro e W1 ⟨vo, rfl, ho, hlo, hb⟩
            obtain ⟨Ao, co, rfl, hor⟩ : ∃ An cn, vo = .slice An lo.length cn ∧ True := by obtain ⟨A, c, h, _⟩ := ho; exact ⟨A, c, h, trivial⟩
            clear hor
            have d3 : W1.cell? ⟨w.heap.size + 1 + 1 + 1, 0, none⟩ = some v := (HTT.out.below hb).bo.cell
            have HHN := Lib.hid (And.intro ho (And.intro hlo hb))
            clear ho hlo hb))
        | (gi_at_builtin; go_must (
            obtain ⟨v1, W5, hrun, hT6, hK6, k1, k2, k3, k4, k5, k6, ⟨A1, k1', rfl⟩⟩ := through_last HTT.out HHN.out.1 HHN.out.2.2 o2 HO2.out.1 (by have := HO2.out.2.1; have := HHN.out.2.1; omega) HO2.out.2.2.1 HO2.out.2.2.2
            have HT6 := Lib.hid (And.intro hT6 hK6)
            clear hT6 hK6
            refine wpListIn_append_run _ rfl _ _ 23 rfl _ rfl _ rfl _ W5 hrun ?_; clear hrun)))
      have hTO := HTQ.out
      rw [if_pos HH2.out] at hTO
      subst hTO
      have h8 := (HT6.out.1.setRet).setErr 31
      exact ⟨by simp, .inl ⟨_, _, rfl, run_takeDeferred (blk_other (blk_other HT6.out.2 (by have := HO2.out.2.2.2; omega) _) (by have := HO2.out.2.2.2; omega) _), through_fin rfl rfl rfl h8.bl h8.br h8.be (Fresh.nil _ _) (blk_other (blk_other HT6.out.2 (by have := HO2.out.2.2.2; omega) _) (by have := HO2.out.2.2.2; omega) _) HO2.out.2.2.2⟩⟩
    · have hd2 : decide ((o2.length : Int) > 1048576) = false := by simp; omega
      have HH2 := Lib.hid hL2
      clear hL2
      gi_wp2_with (first
        | (gi_at_call 64; go_must (refine (callsIn_wide.2 HEC.out).mono ?_); go_must (
            rintro e W1 ⟨vo, rfl, ho, hlo, hb⟩
            obtain ⟨Ao, co, rfl, hor⟩ : ∃ An cn, vo = .slice An lo.length cn ∧ True := by obtain ⟨A, c, h, _⟩ := ho; exact ⟨A, c, h, trivial⟩
            clear hor
            have d3 : W1.cell? ⟨w.heap.size + 1 + 1 + 1, 0, none⟩ = some v := (HTT.out.below hb).bo.cell
            have HHN := Lib.hid (And.intro ho (And.intro hlo hb))
            clear ho hlo hb))
        | (gi_at_builtin; go_must (
            obtain ⟨v1, W5, hrun, hT6, hK6, k1, k2, k3, k4, k5, k6, ⟨A1, k1', rfl⟩⟩ := through_last HTT.out HHN.out.1 HHN.out.2.2 o2 HO2.out.1 (by have := HO2.out.2.1; have := HHN.out.2.1; omega) HO2.out.2.2.1 HO2.out.2.2.2
            have HT6 := Lib.hid (And.intro hT6 hK6)
            clear hT6 hK6
            refine wpListIn_append_run _ rfl _ _ 23 rfl _ rfl _ rfl _ W5 hrun ?_; clear hrun)))
      have hTO := HTQ.out
      rw [if_neg HH2.out] at hTO
      subst hTO
      obtain ⟨h8a, h8b, h8c, h8d⟩ := through_good HT6.out.1
      exact ⟨by simp, .inl ⟨_, _, rfl, run_takeDeferred (blk_other (blk_other HT6.out.2 (by have := HO2.out.2.2.2; omega) _) (by have := HO2.out.2.2.2; omega) _), through_fin rfl rfl rfl h8a h8b h8c h8d (blk_other (blk_other HT6.out.2 (by have := HO2.out.2.2.2; omega) _) (by have := HO2.out.2.2.2; omega) _) HO2.out.2.2.2⟩⟩
  case stop =>
    rintro D c pre W hD hsp (⟨rfl, v, out, vs, st, n, mr, hT, hinv, hol, hQ2⟩ | ⟨rfl, v, out, vs, st, n, mr, er, hT, hq, her⟩) hK
    · have hD' : w.heap.size + 8 ≤ D := by have := HZ.out.2.2.1; omega
      clear hD hsp
      obtain ⟨As, cs, rfl, hcs, hCs, hAs⟩ := hT.fs
      obtain ⟨j, hj, hinv⟩ := hinv
      have HEC := Lib.hid (HE.out j st n W As cs hT.bl hj hinv hCs hcs)
      have HTT := Lib.hid hT
      have hTO := HTO.out
      rw [hQ2] at hTO
      simp only at hTO
      rw [if_neg (by simp)] at hTO
      generalize hF4 : E st n = lo at *
      obtain ⟨o2, ho2⟩ : ∃ o2, o2 = out ++ lo := ⟨_, rfl⟩
      have c2a : W.cell? ⟨w.heap.size, 0, none⟩ = some (.string x.f0) := blk_cell hT.bt 0
      have c2b : W.cell? ⟨w.heap.size, 1, none⟩ = some (.int .i64 x.f1) := blk_cell hT.bt 1
      have c2c : W.cell? ⟨w.heap.size, 2, none⟩ = some (.string x.f2) := blk_cell hT.bt 2
      have c4 : W.cell? ⟨w.heap.size + 1 + 1 + 1 + 1, 0, none⟩ = some (.slice As st.length cs) := hT.bs.cell
      have c5 : W.cell? ⟨w.heap.size + 1 + 1 + 1 + 1 + 1, 0, none⟩ = some (.int .i64 n) := hT.bn.cell
      rw [← ho2] at hTO
      have HTQ := Lib.hid hTO
      have HO2 := Lib.hid (And.intro ho2 (And.intro hol (And.intro hK hD')))
      clear hF4 hT hinv hj hol ho2 hCs hcs hAs hK hD' hTO hQ2
      by_cases hL2 : 1048576 < o2.length
      · have hd2 : decide ((o2.length : Int) > 1048576) = true := by simp; omega
        have HH2 := Lib.hid hL2
        clear hL2
        gi_wp2_with (first
          | (gi_at_call 64; go_must (refine (callsIn_wide.2 HEC.out).mono ?_); go_must (
              rintro e W1 ⟨vo, rfl, ho, hlo, hb⟩
              obtain ⟨Ao, co, rfl, hor⟩ : ∃ An cn, vo = .slice An lo.length cn ∧ True := by obtain ⟨A, c, h, _⟩ := ho; exact ⟨A, c, h, trivial⟩
              clear hor
              have d3 : W1.cell? ⟨w.heap.size + 1 + 1 + 1, 0, none⟩ = some v := (HTT.out.below hb).bo.cell
              have HHN := Lib.hid (And.intro ho (And.intro hlo hb))
              clear ho hlo hb))
          | (gi_at_builtin; go_must (
              obtain ⟨v1, W5, hrun, hT6, hK6, k1, k2, k3, k4, k5, k6, ⟨A1, k1', rfl⟩⟩ := through_last HTT.out HHN.out.1 HHN.out.2.2 o2 HO2.out.1 (by have := HO2.out.2.1; have := HHN.out.2.1; omega) HO2.out.2.2.1 HO2.out.2.2.2
              have HT6 := Lib.hid (And.intro hT6 hK6)
              clear hT6 hK6
              refine wpListIn_append_run _ rfl _ _ 23 rfl _ rfl _ rfl _ W5 hrun ?_; clear hrun)))
        have hTO := HTQ.out
        rw [if_pos HH2.out] at hTO
        subst hTO
        have h8 := (HT6.out.1.setRet).setErr 31
        exact ⟨by simp, .inl ⟨_, _, rfl, run_takeDeferred (blk_other (blk_other HT6.out.2 (by have := HO2.out.2.2.2; omega) _) (by have := HO2.out.2.2.2; omega) _), through_fin rfl rfl rfl h8.bl h8.br h8.be (Fresh.nil _ _) (blk_other (blk_other HT6.out.2 (by have := HO2.out.2.2.2; omega) _) (by have := HO2.out.2.2.2; omega) _) HO2.out.2.2.2⟩⟩
      · have hd2 : decide ((o2.length : Int) > 1048576) = false := by simp; omega
        have HH2 := Lib.hid hL2
        clear hL2
        gi_wp2_with (first
          | (gi_at_call 64; go_must (refine (callsIn_wide.2 HEC.out).mono ?_); go_must (
              rintro e W1 ⟨vo, rfl, ho, hlo, hb⟩
              obtain ⟨Ao, co, rfl, hor⟩ : ∃ An cn, vo = .slice An lo.length cn ∧ True := by obtain ⟨A, c, h, _⟩ := ho; exact ⟨A, c, h, trivial⟩
              clear hor
              have d3 : W1.cell? ⟨w.heap.size + 1 + 1 + 1, 0, none⟩ = some v := (HTT.out.below hb).bo.cell
              have HHN := Lib.hid (And.intro ho (And.intro hlo hb))
              clear ho hlo hb))
          | (gi_at_builtin; go_must (
              obtain ⟨v1, W5, hrun, hT6, hK6, k1, k2, k3, k4, k5, k6, ⟨A1, k1', rfl⟩⟩ := through_last HTT.out HHN.out.1 HHN.out.2.2 o2 HO2.out.1 (by have := HO2.out.2.1; have := HHN.out.2.1; omega) HO2.out.2.2.1 HO2.out.2.2.2
              have HT6 := Lib.hid (And.intro hT6 hK6)
              clear hT6 hK6
              refine wpListIn_append_run _ rfl _ _ 23 rfl _ rfl _ rfl _ W5 hrun ?_; clear hrun)))
        have hTO := HTQ.out
        rw [if_neg HH2.out] at hTO
        subst hTO
        obtain ⟨h8a, h8b, h8c, h8d⟩ := through_good HT6.out.1
        exact ⟨by simp, .inl ⟨_, _, rfl, run_takeDeferred (blk_other (blk_other HT6.out.2 (by have := HO2.out.2.2.2; omega) _) (by have := HO2.out.2.2.2; omega) _), through_fin rfl rfl rfl h8a h8b h8c h8d (blk_other (blk_other HT6.out.2 (by have := HO2.out.2.2.2; omega) _) (by have := HO2.out.2.2.2; omega) _) HO2.out.2.2.2⟩⟩
    · have hD' : w.heap.size + 8 ≤ D := by have := HZ.out.2.2.1; omega
      have hTO := HTO.out
      rw [if_pos (by rw [hq]; exact her), hq] at hTO
      subst hTO
      clear hD hsp hq her
      have HTT := Lib.hid hT
      clear hT
      gi_wp2
      exact ⟨by simp, .inl ⟨_, _, rfl, run_takeDeferred hK, through_fin rfl rfl rfl HTT.out.bl HTT.out.br HTT.out.be (Fresh.nil _ _) hK hD'⟩⟩
end Go.Proofs.YthmijenlndnmcaaGreatDoor.Sh
