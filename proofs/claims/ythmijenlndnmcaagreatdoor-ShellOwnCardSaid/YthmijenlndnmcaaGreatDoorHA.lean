/-
  Hand-made contracts of functions of the program: Rev, Feed, Concat, FeedTools.
-/
import Derived.Lib.SlBytesRowKit2
import Derived.Sort.WalkB12
import Derived.Lib.SlicesMore
import Derived.Test.YthmijenlndnmcaaGreatDoorShx2
import Derived.Test.YthmijenlndnmcaaGreatDoorShx3
import Derived.Test.YthmijenlndnmcaaGreatDoorShx4
import Derived.Test.YthmijenlndnmcaaGreatDoorShx5
import Derived.Test.YthmijenlndnmcaaGreatDoorShx0
namespace Go.Proofs.YthmijenlndnmcaaGreatDoor.Sh
open Go.RowKit Go.Proofs.YthmijenlndnmcaaGreatDoorW.PrintWords Go.Proofs.YthmijenlndnmcaaGreatDoorW.PrintLast Go.Proofs.YthmijenlndnmcaaGreatDoorW.PrintMore
attribute [local go_sem] max2_int min2_int max_two min_two max_three min_three max_four min_four
set_option linter.unusedVariables false
set_option linter.unusedSimpArgs false
abbrev encB : Int → Value := Value.int .u8
set_option maxHeartbeats 1600000 in
set_option maxRecDepth 1000000 in
open Go.Sort Go.Lib in
theorem reverse_arr (blk off cap : Nat) (d : Array Int) (w : World) (hH : Holds encB w blk off d) (hsz : d.size ≤ 9223372036854775807) :
    Calls Tryz.prog 96 #[.slice (some ⟨blk, off, none⟩) d.size cap] w fun e w' => e = .returned (.tuple #[]) ∧ ∃ n, w' = putRow encB (Sort.ahead w n) blk off d.reverse := by
  have mixed : Tryz.prog.follows Departure.mixedOrders = true := by kernel_rfl
  go_enter Tryz.func96, Tryz.ntmps96
  go_wp2
  go_loopg [2, 3] d.size (fun k s2 s3 wr => ∃ (i jn : Nat) (jz : Int) (dk : Array Int) (n : Nat), s2 = .int .i64 i ∧ s3 = .int .i64 jz ∧ ((i : Int) < jz → jz = jn ∧ jn < d.size) ∧ (¬ (i : Int) < jz → ¬ i < jn) ∧ jn - i ≤ k ∧
    dk.size = d.size ∧ wr = putRow encB (Sort.ahead w n) blk off dk ∧ reverseLoop i jn dk = reverseLoop 0 (d.size - 1) d)
  case atStart => exact ⟨0, d.size - 1, (d.size : Int) - 1, d, 0, rfl, rfl, fun h => ⟨by omega, by omega⟩, fun h => by omega, by omega, rfl, (putRow_self encB w blk off d hH).symm, rfl⟩
  case round =>
    obtain ⟨i, jn, jz, dk, n, rfl, rfl, h1, h2, hk, hds, hwr, heq⟩ := hrel
    by_cases hlt : (i : Int) < jz
    · obtain ⟨rfl, hjn⟩ := h1 hlt
      have hij : i < jn := by omega
      have hHk : Holds encB wr blk off dk := by rw [hwr]; exact holds_putRow encB _ blk off d dk (holds_ahead encB w n blk off d hH) hds
      obtain ⟨ci, fi⟩ := hHk i (by omega)
      obtain ⟨cj, fj⟩ := hHk jn (by omega)
      have A : Aside (wr = putRow encB (Sort.ahead w n) blk off dk) := hwr
      replace ci : wr.cell? ⟨blk, off + i, none⟩ = some (.int .u8 dk[i]!) := ci
      replace cj : wr.cell? ⟨blk, off + jn, none⟩ = some (.int .u8 dk[jn]!) := cj
      clear hwr hHk hH h1 h2
      go_wp2_with fail
      go_region_o
      go_wp2
      go_roundg (jn - 1 - (i + 1))
      case measure => omega
      case rel =>
        rw [reverseLoop, if_pos hij] at heq
        exact ⟨i + 1, jn - 1, (jn : Int) - 1, swp dk i jn, n + 1, by simp, rfl, fun h => ⟨by omega, by omega⟩, fun h => by omega, Nat.le_refl _, by rw [size_swp]; exact hds,
          swap_world encB (by omega) (by omega) A.out (by first | rfl | simp [encB, getElem!_pos, show jn < dk.size by omega]) (by first | rfl | simp [encB, getElem!_pos, show i < dk.size by omega]), heq⟩
    · have hnot := h2 hlt
      go_wp2
      go_end0
      refine ⟨rfl, n, ?_⟩
      rw [reverseLoop, if_neg hnot] at heq
      rw [← reverseLoop_reverse, ← heq]
def Fresh (w : World) (base : Nat) (v : Value) (l : List Int) : Prop := ∃ A c, v = .slice A l.length c ∧ l.length ≤ c ∧ Kd.C (Kd.int .u8) w A l.length l ∧ ∀ ad, A = some ad → base ≤ ad.block
theorem Fresh.nil (w : World) (base : Nat) : Fresh w base (.slice none 0 0) [] := ⟨none, 0, rfl, Nat.le_refl _, Kd.C_nil _ _, fun _ h => by cases h⟩
theorem Fresh.below {w W : World} {base : Nat} {v : Value} {l : List Int} (h : Fresh w base v l) (hb : Below w.heap.size w W) : Fresh W base v l := by
  obtain ⟨A, c, h1, h2, h3, h4⟩ := h
  exact ⟨A, c, h1, h2, Kd.C_below h3 hb, h4⟩
theorem Fresh.mono {w : World} {base base' : Nat} {v : Value} {l : List Int} (h : Fresh w base v l) (hb : base' ≤ base) : Fresh w base' v l := by
  obtain ⟨A, c, h1, h2, h3, h4⟩ := h
  exact ⟨A, c, h1, h2, h3, fun ad e => Nat.le_trans hb (h4 ad e)⟩
theorem Fresh.of_R {w : World} {base : Nat} {ok : Nat → Prop} {v : Value} {l : List Int} (h : Kd.R (Kd.int .u8) 5 w base ok v l) : Fresh w base v l := by
  obtain ⟨A, c, rfl⟩ := Kd.R_slice h
  obtain ⟨_, h2, h3⟩ := Kd.R_reads' h
  obtain ⟨inner, ho⟩ := Kd.R_own h
  exact ⟨A, c, rfl, h2, h3, fun ad e => own_base ho ad.block (by rw [e]; rfl)⟩
theorem bytesIn_of_C {w : World} {A : Option Addr} {l : List Int} (h : Kd.C (Kd.int .u8) w A l.length l) : Lib.BytesIn w A l.length l := by
  cases A with
  | none =>
    have h0 : l = [] := by
      cases l with
      | nil => rfl
      | cons a r => obtain ⟨ad, e, _⟩ := h.2.2 (by simp); cases e
    subst h0
    exact Lib.BytesIn.nil _ _ _
  | some ad =>
    refine Lib.BytesIn.of_cells fun i hi => ?_
    obtain ⟨ad', e, hc⟩ := Kd.at_int h (i : Int) (by omega) (by omega)
    cases e
    rw [Int.toNat_natCast] at hc
    rw [hc]; simp [rd]
def ended (l : List Int) : Bool := Lib.hasSuffix (Lib.bytesOf l) [10]
def endLen (l : List Int) : Nat := if ended l then 1 else 0
theorem C_one {w : World} {t : TypeId} {n : Nat} (x : Int) (h : w.heap[n]? = some (.cells #[.int .u8 x] t (0, 0))) : Kd.C (Kd.int .u8) w (some ⟨n, 0, none⟩) 1 [x] := by
  refine Kd.C_of_reads (d := (0 : Int)) (h1 := fun _ => rfl) ⟨rfl, by decide, fun _ => ⟨_, rfl, fun j hj => ?_⟩⟩
  obtain rfl : j = 0 := by omega
  have := blk_cell h 0
  simpa [Addr.add] using this
set_option maxRecDepth 100000 in
theorem parted_len (A : Option Addr) (c : Nat) (l : List Int) (w : World) (hr : Kd.C (Kd.int .u8) w A l.length l) (hc : l.length ≤ c) :
    Calls Tryz.prog 94 #[.slice A l.length c] w fun e w' => (∃ A2 c2, e = .returned (.tuple #[.slice A (l.length - endLen l) c, .slice A2 (endLen l) c2])) ∧ Below w.heap.size w w' := by
  have hmax : l.length ≤ 9223372036854775807 := hr.2.1
  have HC := Lib.hid (fun W (hW : Below w.heap.size w W) B (hB : W.heap[B]? = some (.cells #[.int .u8 10] 5 (0, 0))) => Tryz.bytes_CutSuffix_all A (some ⟨B, 0, none⟩) l.length c 1 1 l [10] W rfl rfl hc hmax (bytesIn_of_C (Kd.C_below hr hW)) (bytesIn_of_C (C_one 10 hB)))
  have hv : Lib.trimSuffixV A l.length c l [10] = .slice A (l.length - endLen l) c := by
    rw [trimSuffixV_eq rfl (bytesIn_of_C hr)]
    unfold endLen ended
    have : Lib.bytesOf [10] = [10] := rfl
    rw [this]
    split <;> simp
  rw [hv] at HC
  have he : Lib.hasSuffix (Lib.bytesOf l) (Lib.bytesOf [10]) = ended l := rfl
  rw [he] at HC
  unfold endLen at HC ⊢
  clear hv he hr hc hmax
  generalize hn : l.length = n at *
  cases hb : ended l with
  | false =>
    rw [hb] at HC
    clear hb hn
    go_enter Tryz.func94, Tryz.ntmps94
    go_wp2_with (go_at_call 124; go_must (refine (HC.out _ (below_alloc (Below.refl _ _) _) _ (blk_new w _)).mono ?_); go_must (rintro e w2 ⟨rfl, rfl⟩))
    go_ret2
    exact ⟨⟨_, _, rfl⟩, by repeat (first | with_reducible exact Below.refl _ _ | with_reducible apply below_alloc | with_reducible apply Below.drew)⟩
  | true =>
    rw [hb] at HC
    clear hb hn
    go_enter Tryz.func94, Tryz.ntmps94
    go_wp2_with (go_at_call 124; go_must (refine (HC.out _ (below_alloc (Below.refl _ _) _) _ (blk_new w _)).mono ?_); go_must (rintro e w2 ⟨rfl, rfl⟩))
    go_ret2
    exact ⟨⟨_, _, rfl⟩, by repeat (first | with_reducible exact Below.refl _ _ | with_reducible apply below_alloc | with_reducible apply Below.drew)⟩
set_option maxRecDepth 100000 in
theorem grow_nil.calls (n : Nat) (h0 : 0 < n) (hn : n ≤ 1099511627776) (w : World) :
    Calls Tryz.prog 65 #[.slice none 0 0, .int .i64 n] w fun e w' => ∃ v, e = .returned v ∧ Kd.R (Kd.int .u8) 5 w' w.heap.size (fun _ => True) v [] ∧ Below w.heap.size w w' := by
  have tb : Tryz.t5.bytes = 1 := by kernel_rfl
  have hns : Builtin.nextslicecap n 0 = n := by simp [Builtin.nextslicecap]; omega
  have hge := grownCap_ge w n 0 5
  have hle := grownCap_le_maxLen w n 0 5 (by unfold maxLen; omega)
  have HG := Lib.hid (And.intro hge hle)
  have g : decide ((n : Int) < 0) = false := by simp
  have g2 : decide ((0 : Int) < (n : Int)) = true := by simp; omega
  have TB := Lib.hid (And.intro tb hns)
  clear tb hns hge hle
  go_enter Tryz.func65, Tryz.ntmps65
  go_wp2
  any_goals (exfalso; simp only [TB.out.1, TB.out.2] at *; omega)
  all_goals go_ret
  all_goals
    obtain ⟨hge, hle⟩ := HG.out
    have e0 : (Question.appendCap n 0 5).cut (w.tape w.drawn (Question.appendCap n 0 5)) = grownCap w n 0 5 := rfl
    rw [e0]
    generalize grownCap w n 0 5 = cap at *
    refine ⟨_, rfl, ⟨fun _ _ => trivial, [], ⟨rfl, .inr ⟨w.heap.size, cap, _, rfl, Nat.le_refl _, blk_drew (blk_new w _), Nat.zero_le _, hle, ?_, rfl⟩⟩, Reps.none _ _⟩, ((Below.refl _ _).alloc (Nat.le_refl _) _).drew⟩
    have hz : (Kd.int .u8).sz = 1 := rfl
    rw [hz, Array.size_append, size_zeroCells, size_zeroCells]
    simp; omega
set_option maxHeartbeats 2000000 in
set_option maxRecDepth 100000 in
theorem concat3.calls (B : Nat) (A1 A2 A3 : Option Addr) (c1 c2 c3 : Nat) (l1 l2 l3 : List Int) (w : World) (hb : w.heap[B]? = some (.cells #[.slice A1 l1.length c1, .slice A2 l2.length c2, .slice A3 l3.length c3] 23 (0, 0)))
    (h1 : Kd.C (Kd.int .u8) w A1 l1.length l1) (h2 : Kd.C (Kd.int .u8) w A2 l2.length l2) (h3 : Kd.C (Kd.int .u8) w A3 l3.length l3) (hp : 0 < l1.length + l2.length + l3.length) (hz : l1.length + l2.length + l3.length ≤ 1000000) :
    Calls Tryz.prog 33 #[.slice (some ⟨B, 0, none⟩) 3 3] w fun e w' => ∃ v, e = .returned v ∧ Kd.R (Kd.int .u8) 5 w' w.heap.size (fun _ => True) v (l1 ++ l2 ++ l3) ∧ Below w.heap.size w w' := by
  have d0 := blk_cell hb 0
  have d1 := blk_cell hb 1
  have d2 := blk_cell hb 2
  have H1 := Lib.hid h1
  have H2 := Lib.hid h2
  have H3 := Lib.hid h3
  have HB := Lib.hid hb
  clear h1 h2 h3 hb
  obtain ⟨n1, hn1⟩ : ∃ n1, n1 = l1.length := ⟨_, rfl⟩
  obtain ⟨n2, hn2⟩ : ∃ n2, n2 = l2.length := ⟨_, rfl⟩
  obtain ⟨n3, hn3⟩ : ∃ n3, n3 = l3.length := ⟨_, rfl⟩
  rw [← hn1, ← hn2, ← hn3] at hp hz
  rw [← hn1] at d0
  rw [← hn2] at d1
  rw [← hn3] at d2
  have HNN := Lib.hid (And.intro hn1 (And.intro hn2 hn3))
  clear hn1 hn2 hn3
  have HG := Lib.hid (fun W => grow_nil.calls (n1 + n2 + n3) hp (by omega) W)
  have esum : ((n1 + n2 + n3 : Nat) : Int) = (n1 : Int) + (n2 : Int) + (n3 : Int) := by omega
  rw [esum] at HG
  have D := Lib.hid (And.intro (fun W (hW : Below w.heap.size w W) => pw_cell_below hW d0) (And.intro (fun W (hW : Below w.heap.size w W) => pw_cell_below hW d1) (fun W (hW : Below w.heap.size w W) => pw_cell_below hW d2)))
  clear esum
  go_enter Tryz.func33, Tryz.ntmps33
  go_wp2
  go_loopg [3, 11] 3 (fun k v3 v11 wr => wr = w ∧ ((k = 3 ∧ v11 = .int .i64 0 ∧ v3 = .int .i64 0) ∨ (k = 2 ∧ v11 = .int .i64 1 ∧ v3 = .int .i64 n1) ∨ (k = 1 ∧ v11 = .int .i64 2 ∧ v3 = .int .i64 ((n1 : Int) + (n2 : Int))) ∨ (k = 0 ∧ v11 = .int .i64 3 ∧ v3 = .int .i64 ((n1 : Int) + (n2 : Int) + (n3 : Int)))))
  case atStart => exact ⟨rfl, .inl ⟨rfl, rfl, rfl⟩⟩
  case round =>
    obtain ⟨hwr, hc⟩ := hrel
    rcases hc with ⟨rfl, rfl, rfl⟩ | ⟨rfl, rfl, rfl⟩ | ⟨rfl, rfl, rfl⟩ | ⟨rfl, rfl, rfl⟩
    · subst hwr
      go_wp2
      go_roundg 2
      case measure => omega
      case rel => exact ⟨rfl, .inr (.inl ⟨rfl, rfl, by simp⟩)⟩
    · subst hwr
      go_wp2
      go_roundg 1
      case measure => omega
      case rel => exact ⟨rfl, .inr (.inr (.inl ⟨rfl, rfl, rfl⟩))⟩
    · subst hwr
      go_wp2
      go_roundg 0
      case measure => omega
      case rel => exact ⟨rfl, .inr (.inr (.inr ⟨rfl, rfl, rfl⟩))⟩
    · rw [hwr]
      clear d0 d1 d2 hwr
      go_wp2_with (go_at_call 65; go_must (refine (HG.out _).mono ?_); go_must (rintro e w1 ⟨v, rfl, hv, hB1⟩))
      have HV := Lib.hid (And.intro hv hB1)
      clear hv hB1
      go_loopg [6, 27] 3 (fun k v6 v27 wr => Below w.heap.size w wr ∧ ((k = 3 ∧ v27 = .int .i64 0 ∧ Kd.R (Kd.int .u8) 5 wr w.heap.size (fun _ => True) v6 []) ∨ (k = 2 ∧ v27 = .int .i64 1 ∧ Kd.R (Kd.int .u8) 5 wr w.heap.size (fun _ => True) v6 l1) ∨ (k = 1 ∧ v27 = .int .i64 2 ∧ Kd.R (Kd.int .u8) 5 wr w.heap.size (fun _ => True) v6 (l1 ++ l2)) ∨ (k = 0 ∧ v27 = .int .i64 3 ∧ Kd.R (Kd.int .u8) 5 wr w.heap.size (fun _ => True) v6 (l1 ++ l2 ++ l3))))
      case atStart => exact ⟨HV.out.2, .inl ⟨rfl, rfl, HV.out.1⟩⟩
      case round =>
        clear HV HG
        obtain ⟨hB, hc⟩ := hrel
        rcases hc with ⟨rfl, rfl, hv⟩ | ⟨rfl, rfl, hv⟩ | ⟨rfl, rfl, hv⟩ | ⟨rfl, rfl, hv⟩
        · have dd := D.out.1 _ hB
          have hC := Kd.C_below H1.out hB
          rw [← HNN.out.1] at hC
          have HO := Lib.hid (And.intro hB (And.intro hv hC))
          clear hB hv hC
          go_wp2_with ((with_reducible refine gate_builtin (b := .append) (xs := #[.tmp 31, .tmp 32]) rfl ?_); at_builtin; refine Kd.R_append_rows (Kd.int .u8) (w0 := w) w.heap.size rfl (.tmp 31) (.tmp 32) 23 5 (.int .u8 0) 1 rfl Tryz.underlying23 info5 rfl (by decide) (by omega) _ ([] : List Int) l1 _ _ _ (fun _ => True) (fun _ => False) rfl rfl ?aO ?aR (fun _ _ h => h) (fun _ h => h.elim) ?aF ?aB ?aS ?aL ?_; (case aR => exact HO.out.2.2); (case aB => exact HO.out.1); (case aF => exact (fun _ _ => trivial)); (case aO => exact HO.out.2.1); (case aS => exact HO.out.1.size); (case aL => have := HNN.out; simp; omega); intro v1 w3 ho hb hg hat)
          go_roundg 2
          case measure => omega
          case rel => exact ⟨hb, .inr (.inl ⟨rfl, rfl, by simpa using ho⟩)⟩
        · have dd := D.out.2.1 _ hB
          have hC := Kd.C_below H2.out hB
          rw [← HNN.out.2.1] at hC
          have HO := Lib.hid (And.intro hB (And.intro hv hC))
          clear hB hv hC
          go_wp2_with ((with_reducible refine gate_builtin (b := .append) (xs := #[.tmp 31, .tmp 32]) rfl ?_); at_builtin; refine Kd.R_append_rows (Kd.int .u8) (w0 := w) w.heap.size rfl (.tmp 31) (.tmp 32) 23 5 (.int .u8 0) 1 rfl Tryz.underlying23 info5 rfl (by decide) (by omega) _ l1 l2 _ _ _ (fun _ => True) (fun _ => False) rfl rfl ?aO ?aR (fun _ _ h => h) (fun _ h => h.elim) ?aF ?aB ?aS ?aL ?_; (case aR => exact HO.out.2.2); (case aB => exact HO.out.1); (case aF => exact (fun _ _ => trivial)); (case aO => exact HO.out.2.1); (case aS => exact HO.out.1.size); (case aL => have := HNN.out; simp; omega); intro v1 w3 ho hb hg hat)
          go_roundg 1
          case measure => omega
          case rel => exact ⟨hb, .inr (.inr (.inl ⟨rfl, rfl, ho⟩))⟩
        · have dd := D.out.2.2 _ hB
          have hC := Kd.C_below H3.out hB
          rw [← HNN.out.2.2] at hC
          have HO := Lib.hid (And.intro hB (And.intro hv hC))
          clear hB hv hC
          go_wp2_with ((with_reducible refine gate_builtin (b := .append) (xs := #[.tmp 31, .tmp 32]) rfl ?_); at_builtin; refine Kd.R_append_rows (Kd.int .u8) (w0 := w) w.heap.size rfl (.tmp 31) (.tmp 32) 23 5 (.int .u8 0) 1 rfl Tryz.underlying23 info5 rfl (by decide) (by omega) _ (l1 ++ l2) l3 _ _ _ (fun _ => True) (fun _ => False) rfl rfl ?aO ?aR (fun _ _ h => h) (fun _ h => h.elim) ?aF ?aB ?aS ?aL ?_; (case aR => exact HO.out.2.2); (case aB => exact HO.out.1); (case aF => exact (fun _ _ => trivial)); (case aO => exact HO.out.2.1); (case aS => exact HO.out.1.size); (case aL => have := HNN.out; simp; omega); intro v1 w3 ho hb hg hat)
          go_roundg 0
          case measure => omega
          case rel => exact ⟨hb, .inr (.inr (.inr ⟨rfl, rfl, ho⟩))⟩
        · clear HNN D
          go_wp2
          go_ret
          rw [List.append_assoc] at hv
          refine ⟨_, ?_, hv, hB⟩
          rfl
theorem concat3n.calls (B : Nat) (A1 A2 A3 : Option Addr) (c1 c2 c3 n1 n2 n3 : Nat) (l1 l2 l3 : List Int) (w : World) (e1 : l1.length = n1) (e2 : l2.length = n2) (e3 : l3.length = n3) (hb : w.heap[B]? = some (.cells #[.slice A1 n1 c1, .slice A2 n2 c2, .slice A3 n3 c3] 23 (0, 0)))
    (h1 : Kd.C (Kd.int .u8) w A1 n1 l1) (h2 : Kd.C (Kd.int .u8) w A2 n2 l2) (h3 : Kd.C (Kd.int .u8) w A3 n3 l3) (hp : 0 < n1 + n2 + n3) (hz : n1 + n2 + n3 ≤ 1000000) :
    Calls Tryz.prog 33 #[.slice (some ⟨B, 0, none⟩) 3 3] w fun e w' => ∃ v, e = .returned v ∧ Kd.R (Kd.int .u8) 5 w' w.heap.size (fun _ => True) v (l1 ++ l2 ++ l3) ∧ Below w.heap.size w w' := by
  subst e1 e2 e3
  exact concat3.calls B A1 A2 A3 c1 c2 c3 l1 l2 l3 w hb h1 h2 h3 hp hz
theorem results_tmp5 {fn : Func} {t u v x y : Tmp} (h : fn.results = #[.tmp t, .tmp u, .tmp v, .tmp x, .tmp y]) (tmps : Array Value) (P : Program) (w : World) :
    (results fn tmps).run P w = .ok (.tuple #[tmps.getD t undef, tmps.getD u undef, tmps.getD v undef, tmps.getD x undef, tmps.getD y undef]) w := by
  simp [results, h]
theorem fresh_conv (W : World) (s : ByteArray) (hs : s.size ≤ 100) : Fresh (Lib.bytesWorld W 5 s) W.heap.size (.slice (some ⟨W.heap.size, 0, none⟩) s.size (grownCap W s.size 0 5)) (bytesOf s) := by
  have h := bytes_reads W 5 s (by omega)
  refine ⟨_, _, by rw [bytesOf_length], ?_, ?_, fun ad e => by cases e; exact Nat.le_refl _⟩
  · rw [bytesOf_length]; exact grownCap_ge _ _ _ _
  · rw [bytesOf_length]; exact Kd.C_of_reads (d := (0 : Int)) (h1 := fun _ => rfl) h
theorem Fresh.C_conv (W : World) (s : ByteArray) (hs : s.size ≤ 100) : Kd.C (Kd.int .u8) (Lib.bytesWorld W 5 s) (some ⟨W.heap.size, 0, none⟩) s.size (bytesOf s) := Kd.C_of_reads (d := (0 : Int)) (h1 := fun _ => rfl) (bytes_reads W 5 s (by omega))
theorem add_block (a : Addr) (x : Nat) : (a.add x).block = a.block := by unfold Addr.add; split <;> rfl
theorem Fresh.setCell {w : World} {base : Nat} {v : Value} {l : List Int} (h : Fresh w base v l) {p : Addr} (hp : p.block < base) (u : Value) : Fresh (w.setCell p u) base v l := by
  obtain ⟨A, c, h1, h2, h3, h4⟩ := h
  refine ⟨A, c, h1, h2, ⟨h3.1, h3.2.1, fun hn => ?_⟩, h4⟩
  obtain ⟨ad, e, hc⟩ := h3.2.2 hn
  have hb := h4 ad e
  refine ⟨ad, e, fun j x hj => ?_⟩
  obtain ⟨cs, k1, k2, k3⟩ := hc j x hj
  refine ⟨cs, k1, k2, fun i u' hu' => ?_⟩
  rw [← k3 i u' hu']
  exact World.cell?_setCell_other _ _ _ _ (fun e => by have := congrArg Addr.block e; rw [add_block] at this; omega)
theorem wadd1 (n : Nat) (h : n ≤ 1000000) : wrap64 ((n : Int) + 1) = ((n + 1 : Nat) : Int) := by unfold wrap64; omega
def bigOf (c : Int) : Int := if 97 ≤ c ∧ c ≤ 122 then (((c - 97) % 256) + 65) % 256 else c
theorem shell_big_is (c : Int) : shell_big.f c = some (bigOf c) := by
  unfold shell_big.f bigOf
  by_cases h1 : c ≥ 97
  · by_cases h2 : c ≤ 122
    · rw [if_pos h1, if_pos h2, if_pos ⟨h1, h2⟩]
    · rw [if_pos h1, if_neg h2, if_neg (by omega)]
  · rw [if_neg h1, if_neg (by omega)]
theorem up_at (l : List Int) (i : Nat) (h : i < l.length) : rdOf (0 : Int) ((l.take i).map bigOf ++ l.drop i) (i : Int) = l[i] := by
  simp [rdOf, List.getD_eq_getElem?_getD, List.getElem?_append, h, Nat.min_eq_left (Nat.le_of_lt h)]
theorem up_set (l : List Int) (i : Nat) (h : i < l.length) : ((l.take i).map bigOf ++ l.drop i).set i (bigOf l[i]) = (l.take (i + 1)).map bigOf ++ l.drop (i + 1) := by
  rw [List.drop_eq_getElem_cons h, List.take_succ_eq_append_getElem h, List.map_append]
  rw [List.set_append_right _ _ (by simp; omega)]
  have e : i - ((l.take i).map bigOf).length = 0 := by simp; omega
  rw [e, List.set_cons_zero, List.append_assoc]
  rfl
def sameB (a b : List Int) : Bool := (strOfNums a).toList == (strOfNums b).toList
def FeedPost (w w' : World) (e : Ending) (lo ln : List Int) (m : Int) (more : Bool) : Prop :=
  ∃ vo vn, e = .returned (.tuple #[vo, vn, .int .i64 m, .bool more, .int .i64 0]) ∧ Fresh w' w.heap.size vo lo ∧ Fresh w' w.heap.size vn ln ∧ Below w.heap.size w w'
theorem num_concat (w5 : World) (d : ByteArray) (hds : d.size ≤ 100) (Al : Option Addr) (cl : Nat) (li : List Int) (hl : Kd.C (Kd.int .u8) w5 Al li.length li) (hlz : li.length ≤ 65536) :
    Calls Tryz.prog 33 #[.slice (some ⟨w5.heap.size + 1 + 1, 0, none⟩) 3 3] (((Lib.bytesWorld w5 5 d).alloc (.cells #[.int .u8 32] 5)).alloc (.cells #[.slice (some ⟨w5.heap.size, 0, none⟩) d.size (grownCap w5 d.size 0 5), .slice (some ⟨w5.heap.size + 1, 0, none⟩) 1 1, .slice Al li.length cl] 23)) fun e w' =>
      ∃ v, e = .returned v ∧ Fresh w' w5.heap.size v (bytesOf d ++ [32] ++ li) ∧ Below w5.heap.size w5 w' := by
  have hbs := Lib.bytesWorld_size w5 5 d
  have q0 := bytes_below (Below.refl w5.heap.size w5) (Nat.le_refl _) 5 d
  have hC0 := Fresh.C_conv w5 d hds
  generalize Lib.bytesWorld w5 5 d = W0 at *
  have hC1 : Kd.C (Kd.int .u8) (W0.alloc (.cells #[.int .u8 32] 5)) (some ⟨w5.heap.size + 1, 0, none⟩) 1 [32] := C_one 32 (blk_new' _ _ hbs.symm)
  have q1 := below_alloc (Below.refl W0.heap.size W0) (.cells #[.int .u8 32] 5)
  have hs1 : (W0.alloc (.cells #[.int .u8 32] 5)).heap.size = w5.heap.size + 1 + 1 := by simp [hbs]
  generalize W0.alloc (.cells #[.int .u8 32] 5) = W1 at *
  have hb2 := blk_new' W1 (.cells #[.slice (some ⟨w5.heap.size, 0, none⟩) d.size (grownCap w5 d.size 0 5), .slice (some ⟨w5.heap.size + 1, 0, none⟩) 1 1, .slice Al li.length cl] 23) hs1.symm
  have q2 := below_alloc (Below.refl W1.heap.size W1) (.cells #[.slice (some ⟨w5.heap.size, 0, none⟩) d.size (grownCap w5 d.size 0 5), .slice (some ⟨w5.heap.size + 1, 0, none⟩) 1 1, .slice Al li.length cl] 23)
  generalize W1.alloc (.cells #[.slice (some ⟨w5.heap.size, 0, none⟩) d.size (grownCap w5 d.size 0 5), .slice (some ⟨w5.heap.size + 1, 0, none⟩) 1 1, .slice Al li.length cl] 23) = W2 at *
  have q02 : Below w5.heap.size w5 W2 := below_step (below_step q0 q1) q2
  refine (concat3n.calls _ _ _ _ _ _ _ d.size 1 li.length (bytesOf d) [32] li W2 (bytesOf_length d) rfl rfl hb2 (Kd.C_below (Kd.C_below hC0 q1) q2) (Kd.C_below hC1 q2) (Kd.C_below hl q02) (by omega) (by omega)).mono ?_
  rintro e w' ⟨v, rfl, hv, q3⟩
  exact ⟨v, rfl, (Fresh.of_R hv).mono q02.size, below_step q02 q3⟩
set_option maxHeartbeats 2000000 in
set_option maxRecDepth 100000 in
theorem feed_cat (k : Nat) (N : Int) (X : ByteArray) (As : Option Addr) (cs : Nat) (st : List Int) (n : Int) (Al : Option Addr) (cl : Nat) (li : List Int) (w : World)
    (hs : Kd.C (Kd.int .u8) w As st.length st) (hcs : st.length ≤ cs) (hl : Kd.C (Kd.int .u8) w Al li.length li) (hcl : li.length ≤ cl) (hn0 : 0 ≤ n) (hn : n ≤ 1099511627776) (hsz : st.length ≤ 65536) (hlz : li.length ≤ 65536)
    (ha : shell_Tool_asked.f k (⟨#[99, 97, 116]⟩ : ByteArray) N X st n li = some 0) :
    Calls Tryz.prog 63 #[.agg #[.string (⟨#[99, 97, 116]⟩ : ByteArray), .int .i64 N, .string X], .slice As st.length cs, .int .i64 n, .slice Al li.length cl] w fun e w' => FeedPost w w' e (li) (st) (n + 1) true := by
  have hu := Tryz.underlying74
  have HA := Lib.hid (fun W (hB : Below w.heap.size w W) => shell_Tool_asked.calls k (⟨#[99, 97, 116]⟩ : ByteArray) N X As cs st n Al cl li 0 W (Kd.C_below hs hB) hcs (Kd.C_below hl hB) hcl ha)
  have HP := Lib.hid (fun W (hB : Below w.heap.size w W) => parted_len Al cl li W (Kd.C_below hl hB) hcl)
  have HCL := Lib.hid (fun W (hB : Below w.heap.size w W) => bytes_Clone.calls Al cl li li W (Kd.C_below hl hB) hcl (by rw [bytes_Clone.f, if_pos (by omega)]))
  have HCS := Lib.hid (fun W (hB : Below w.heap.size w W) => bytes_Clone.calls As cs st st W (Kd.C_below hs hB) hcs (by rw [bytes_Clone.f, if_pos (by omega)]))
  have hw : wrap64 (n + 1) = n + 1 := by unfold wrap64; omega
  have HS := Lib.hid hs
  have HL := Lib.hid hl
  have HSZ := Lib.hid (And.intro hsz hlz)
  clear ha hs hl hcs hcl hsz hlz
  go_enter Tryz.func63, Tryz.ntmps63
  go_wp2_with (first
    | (go_at_call 93; go_must (refine (HA.out _ (below_alloc (Below.refl _ _) _)).mono ?_); go_must (rintro e w1 ⟨rfl, q1⟩); have b1 := below_step (below_alloc (Below.refl _ _) _) q1; have k1 := blk_below (blk_new w _) q1)
    | (go_at_call 94; go_must (refine (HP.out _ b1).mono ?_); go_must (rintro e w2 ⟨⟨A2, c2, rfl⟩, q2⟩); have b2 := below_step b1 q2; have k2 := blk_below k1 q2)
    | (go_at_call 34; first | (with_reducible refine (HCL.out _ b2).mono ?_; go_must (rintro e w3 ⟨vo, rfl, ho, q3⟩); have b3 := below_step b2 q3; have k3 := blk_below k2 q3; obtain ⟨Ao, co, rfl⟩ := Kd.R_slice ho) | (with_reducible refine (HCS.out _ b3).mono ?_; go_must (rintro e w4 ⟨vn, rfl, hv, q4⟩); have b4 := below_step b3 q4; have k4 := blk_below k3 q4; obtain ⟨An, cn, rfl⟩ := Kd.R_slice hv; have t0 := blk_cell k4 0; have t1 := blk_cell k4 1; have t2 := blk_cell k4 2))
    | go_in)
  refine bodyPost_ret (results_tmp5 rfl _ _ _) rfl ?_
  exact ⟨_, _, rfl, (Fresh.of_R ho).below q4 |>.mono b2.size, (Fresh.of_R hv).mono b3.size, b4⟩
set_option maxHeartbeats 2000000 in
set_option maxRecDepth 100000 in
theorem feed_head (k : Nat) (N : Int) (X : ByteArray) (As : Option Addr) (cs : Nat) (st : List Int) (n : Int) (Al : Option Addr) (cl : Nat) (li : List Int) (w : World)
    (hs : Kd.C (Kd.int .u8) w As st.length st) (hcs : st.length ≤ cs) (hl : Kd.C (Kd.int .u8) w Al li.length li) (hcl : li.length ≤ cl) (hn0 : 0 ≤ n) (hn : n ≤ 1099511627776) (hsz : st.length ≤ 65536) (hlz : li.length ≤ 65536)
    (ha : shell_Tool_asked.f k (⟨#[104, 101, 97, 100]⟩ : ByteArray) N X st n li = some 0) :
    Calls Tryz.prog 63 #[.agg #[.string (⟨#[104, 101, 97, 100]⟩ : ByteArray), .int .i64 N, .string X], .slice As st.length cs, .int .i64 n, .slice Al li.length cl] w fun e w' => FeedPost w w' e (if n + 1 ≤ N then li else []) (st) (n + 1) (decide (n + 1 < N)) := by
  have hu := Tryz.underlying74
  have HA := Lib.hid (fun W (hB : Below w.heap.size w W) => shell_Tool_asked.calls k (⟨#[104, 101, 97, 100]⟩ : ByteArray) N X As cs st n Al cl li 0 W (Kd.C_below hs hB) hcs (Kd.C_below hl hB) hcl ha)
  have HP := Lib.hid (fun W (hB : Below w.heap.size w W) => parted_len Al cl li W (Kd.C_below hl hB) hcl)
  have HCL := Lib.hid (fun W (hB : Below w.heap.size w W) => bytes_Clone.calls Al cl li li W (Kd.C_below hl hB) hcl (by rw [bytes_Clone.f, if_pos (by omega)]))
  have HCS := Lib.hid (fun W (hB : Below w.heap.size w W) => bytes_Clone.calls As cs st st W (Kd.C_below hs hB) hcs (by rw [bytes_Clone.f, if_pos (by omega)]))
  have hw : wrap64 (n + 1) = n + 1 := by unfold wrap64; omega
  have HS := Lib.hid hs
  have HL := Lib.hid hl
  have HSZ := Lib.hid (And.intro hsz hlz)
  clear ha hs hl hcs hcl hsz hlz
  by_cases hg : n + 1 ≤ N
  · rw [if_pos hg]
    have g : decide (n + 1 ≤ N) = true := decide_eq_true hg
    have HG := Lib.hid hg
    clear hg
    go_enter Tryz.func63, Tryz.ntmps63
    go_wp2_with (first
      | (go_at_call 93; go_must (refine (HA.out _ (below_alloc (Below.refl _ _) _)).mono ?_); go_must (rintro e w1 ⟨rfl, q1⟩); have b1 := below_step (below_alloc (Below.refl _ _) _) q1; have k1 := blk_below (blk_new w _) q1)
      | (go_at_call 94; go_must (refine (HP.out _ b1).mono ?_); go_must (rintro e w2 ⟨⟨A2, c2, rfl⟩, q2⟩); have b2 := below_step b1 q2; have k2 := blk_below k1 q2)
      | (go_at_call 34; first | (with_reducible refine (HCL.out _ b2).mono ?_; go_must (rintro e w3 ⟨vo, rfl, ho, q3⟩); have b3 := below_step b2 q3; have k3 := blk_below k2 q3; obtain ⟨Ao, co, rfl⟩ := Kd.R_slice ho) | (with_reducible refine (HCS.out _ b3).mono ?_; go_must (rintro e w4 ⟨vn, rfl, hv, q4⟩); have b4 := below_step b3 q4; have k4 := blk_below k3 q4; obtain ⟨An, cn, rfl⟩ := Kd.R_slice hv; have t0 := blk_cell k4 0; have t1 := blk_cell k4 1; have t2 := blk_cell k4 2))
      | go_in)
    go_quiet (fail)
    go_wp2
    refine bodyPost_ret (results_tmp5 rfl _ _ _) rfl ?_
    exact ⟨_, _, rfl, (((Fresh.of_R ho).below q4).below (pw_below_drewN (Below.refl _ _) _)).mono b2.size, ((Fresh.of_R hv).below (pw_below_drewN (Below.refl _ _) _)).mono b3.size, pw_below_drewN b4 _⟩
  · rw [if_neg hg]
    have g : decide (n + 1 ≤ N) = false := decide_eq_false hg
    have HG := Lib.hid hg
    clear hg
    go_enter Tryz.func63, Tryz.ntmps63
    go_wp2_with (first
      | (go_at_call 93; go_must (refine (HA.out _ (below_alloc (Below.refl _ _) _)).mono ?_); go_must (rintro e w1 ⟨rfl, q1⟩); have b1 := below_step (below_alloc (Below.refl _ _) _) q1; have k1 := blk_below (blk_new w _) q1)
      | (go_at_call 94; go_must (refine (HP.out _ b1).mono ?_); go_must (rintro e w2 ⟨⟨A2, c2, rfl⟩, q2⟩); have b2 := below_step b1 q2; have k2 := blk_below k1 q2)
      | (go_at_call 34; first | (with_reducible refine (HCL.out _ b2).mono ?_; go_must (rintro e w3 ⟨vo, rfl, ho, q3⟩); have b3 := below_step b2 q3; have k3 := blk_below k2 q3; obtain ⟨Ao, co, rfl⟩ := Kd.R_slice ho) | (with_reducible refine (HCS.out _ b3).mono ?_; go_must (rintro e w4 ⟨vn, rfl, hv, q4⟩); have b4 := below_step b3 q4; have k4 := blk_below k3 q4; obtain ⟨An, cn, rfl⟩ := Kd.R_slice hv; have t0 := blk_cell k4 0; have t1 := blk_cell k4 1; have t2 := blk_cell k4 2))
      | go_in)
    go_quiet (fail)
    go_wp2
    refine bodyPost_ret (results_tmp5 rfl _ _ _) rfl ?_
    exact ⟨_, _, rfl, Fresh.nil _ _, ((Fresh.of_R hv).below (pw_below_drewN (Below.refl _ _) _)).mono b3.size, pw_below_drewN b4 _⟩
set_option maxHeartbeats 2000000 in
set_option maxRecDepth 100000 in
theorem feed_skip (k : Nat) (N : Int) (X : ByteArray) (As : Option Addr) (cs : Nat) (st : List Int) (n : Int) (Al : Option Addr) (cl : Nat) (li : List Int) (w : World)
    (hs : Kd.C (Kd.int .u8) w As st.length st) (hcs : st.length ≤ cs) (hl : Kd.C (Kd.int .u8) w Al li.length li) (hcl : li.length ≤ cl) (hn0 : 0 ≤ n) (hn : n ≤ 1099511627776) (hsz : st.length ≤ 65536) (hlz : li.length ≤ 65536)
    (ha : shell_Tool_asked.f k (⟨#[115, 107, 105, 112]⟩ : ByteArray) N X st n li = some 0) :
    Calls Tryz.prog 63 #[.agg #[.string (⟨#[115, 107, 105, 112]⟩ : ByteArray), .int .i64 N, .string X], .slice As st.length cs, .int .i64 n, .slice Al li.length cl] w fun e w' => FeedPost w w' e (if N < n + 1 then li else []) (st) (n + 1) true := by
  have hu := Tryz.underlying74
  have HA := Lib.hid (fun W (hB : Below w.heap.size w W) => shell_Tool_asked.calls k (⟨#[115, 107, 105, 112]⟩ : ByteArray) N X As cs st n Al cl li 0 W (Kd.C_below hs hB) hcs (Kd.C_below hl hB) hcl ha)
  have HP := Lib.hid (fun W (hB : Below w.heap.size w W) => parted_len Al cl li W (Kd.C_below hl hB) hcl)
  have HCL := Lib.hid (fun W (hB : Below w.heap.size w W) => bytes_Clone.calls Al cl li li W (Kd.C_below hl hB) hcl (by rw [bytes_Clone.f, if_pos (by omega)]))
  have HCS := Lib.hid (fun W (hB : Below w.heap.size w W) => bytes_Clone.calls As cs st st W (Kd.C_below hs hB) hcs (by rw [bytes_Clone.f, if_pos (by omega)]))
  have hw : wrap64 (n + 1) = n + 1 := by unfold wrap64; omega
  have HS := Lib.hid hs
  have HL := Lib.hid hl
  have HSZ := Lib.hid (And.intro hsz hlz)
  clear ha hs hl hcs hcl hsz hlz
  by_cases hg : N < n + 1
  · rw [if_pos hg]
    have g : decide (N < n + 1) = true := decide_eq_true hg
    have HG := Lib.hid hg
    clear hg
    go_enter Tryz.func63, Tryz.ntmps63
    go_wp2_with (first
      | (go_at_call 93; go_must (refine (HA.out _ (below_alloc (Below.refl _ _) _)).mono ?_); go_must (rintro e w1 ⟨rfl, q1⟩); have b1 := below_step (below_alloc (Below.refl _ _) _) q1; have k1 := blk_below (blk_new w _) q1)
      | (go_at_call 94; go_must (refine (HP.out _ b1).mono ?_); go_must (rintro e w2 ⟨⟨A2, c2, rfl⟩, q2⟩); have b2 := below_step b1 q2; have k2 := blk_below k1 q2)
      | (go_at_call 34; first | (with_reducible refine (HCL.out _ b2).mono ?_; go_must (rintro e w3 ⟨vo, rfl, ho, q3⟩); have b3 := below_step b2 q3; have k3 := blk_below k2 q3; obtain ⟨Ao, co, rfl⟩ := Kd.R_slice ho) | (with_reducible refine (HCS.out _ b3).mono ?_; go_must (rintro e w4 ⟨vn, rfl, hv, q4⟩); have b4 := below_step b3 q4; have k4 := blk_below k3 q4; obtain ⟨An, cn, rfl⟩ := Kd.R_slice hv; have t0 := blk_cell k4 0; have t1 := blk_cell k4 1; have t2 := blk_cell k4 2))
      | go_in)
    refine bodyPost_ret (results_tmp5 rfl _ _ _) rfl ?_
    exact ⟨_, _, rfl, (Fresh.of_R ho).below q4 |>.mono b2.size, (Fresh.of_R hv).mono b3.size, b4⟩
  · rw [if_neg hg]
    have g : decide (N < n + 1) = false := decide_eq_false hg
    have HG := Lib.hid hg
    clear hg
    go_enter Tryz.func63, Tryz.ntmps63
    go_wp2_with (first
      | (go_at_call 93; go_must (refine (HA.out _ (below_alloc (Below.refl _ _) _)).mono ?_); go_must (rintro e w1 ⟨rfl, q1⟩); have b1 := below_step (below_alloc (Below.refl _ _) _) q1; have k1 := blk_below (blk_new w _) q1)
      | (go_at_call 94; go_must (refine (HP.out _ b1).mono ?_); go_must (rintro e w2 ⟨⟨A2, c2, rfl⟩, q2⟩); have b2 := below_step b1 q2; have k2 := blk_below k1 q2)
      | (go_at_call 34; first | (with_reducible refine (HCL.out _ b2).mono ?_; go_must (rintro e w3 ⟨vo, rfl, ho, q3⟩); have b3 := below_step b2 q3; have k3 := blk_below k2 q3; obtain ⟨Ao, co, rfl⟩ := Kd.R_slice ho) | (with_reducible refine (HCS.out _ b3).mono ?_; go_must (rintro e w4 ⟨vn, rfl, hv, q4⟩); have b4 := below_step b3 q4; have k4 := blk_below k3 q4; obtain ⟨An, cn, rfl⟩ := Kd.R_slice hv; have t0 := blk_cell k4 0; have t1 := blk_cell k4 1; have t2 := blk_cell k4 2))
      | go_in)
    refine bodyPost_ret (results_tmp5 rfl _ _ _) rfl ?_
    exact ⟨_, _, rfl, Fresh.nil _ _, (Fresh.of_R hv).mono b3.size, b4⟩
set_option maxHeartbeats 2000000 in
set_option maxRecDepth 100000 in
theorem feed_wc (k : Nat) (N : Int) (X : ByteArray) (As : Option Addr) (cs : Nat) (st : List Int) (n : Int) (Al : Option Addr) (cl : Nat) (li : List Int) (w : World) (ks : Nat) (z : Int) (bz : Bool) (d : ByteArray)
    (hs : Kd.C (Kd.int .u8) w As st.length st) (hcs : st.length ≤ cs) (hl : Kd.C (Kd.int .u8) w Al li.length li) (hcl : li.length ≤ cl) (hn0 : 0 ≤ n) (hn : n ≤ 1099511627776) (hsz : st.length ≤ 65536) (hlz : li.length ≤ 65536)
    (ha : shell_Tool_asked.f k (⟨#[119, 99]⟩ : ByteArray) N X st n li = some 0)
    (hz : shell_sized.f ks st = some (z, bz)) (hz0 : 0 ≤ z) (hz1 : z ≤ 1099511627776) (hd : num_Decimal.f (z + (li.length : Int)) = some d) (hds : d.size ≤ 100) :
    Calls Tryz.prog 63 #[.agg #[.string (⟨#[119, 99]⟩ : ByteArray), .int .i64 N, .string X], .slice As st.length cs, .int .i64 n, .slice Al li.length cl] w fun e w' => FeedPost w w' e ([]) (bytesOf d) (n + ((endLen li : Int))) true := by
  have hu := Tryz.underlying74
  have HA := Lib.hid (fun W (hB : Below w.heap.size w W) => shell_Tool_asked.calls k (⟨#[119, 99]⟩ : ByteArray) N X As cs st n Al cl li 0 W (Kd.C_below hs hB) hcs (Kd.C_below hl hB) hcl ha)
  have HP := Lib.hid (fun W (hB : Below w.heap.size w W) => parted_len Al cl li W (Kd.C_below hl hB) hcl)
  have HCL := Lib.hid (fun W (hB : Below w.heap.size w W) => bytes_Clone.calls Al cl li li W (Kd.C_below hl hB) hcl (by rw [bytes_Clone.f, if_pos (by omega)]))
  have HCS := Lib.hid (fun W (hB : Below w.heap.size w W) => bytes_Clone.calls As cs st st W (Kd.C_below hs hB) hcs (by rw [bytes_Clone.f, if_pos (by omega)]))
  have hw : wrap64 (n + 1) = n + 1 := by unfold wrap64; omega
  have HZ := Lib.hid (fun W (hB : Below w.heap.size w W) => shell_sized.calls ks As cs st z bz W (Kd.C_below hs hB) hcs hz)
  have HD := Lib.hid (fun W => num_Decimal.calls _ d W hd)
  have hcv := fun W => Lib.run_convert_string_bytes (P := Tryz.prog) W 9 23 5 d Tryz.underlying9 Tryz.underlying23 Tryz.underlying5
  have hwz : wrap64 (z + (li.length : Int)) = z + (li.length : Int) := by unfold wrap64; omega
  have hel : endLen li ≤ 1 := by unfold endLen; split <;> omega
  clear hz hd
  have HS := Lib.hid hs
  have HL := Lib.hid hl
  have HSZ := Lib.hid (And.intro hsz hlz)
  clear ha hs hl hcs hcl hsz hlz
  go_enter Tryz.func63, Tryz.ntmps63
  go_wp2_with (first
    | (go_at_call 93; go_must (refine (HA.out _ (below_alloc (Below.refl _ _) _)).mono ?_); go_must (rintro e w1 ⟨rfl, q1⟩); have b1 := below_step (below_alloc (Below.refl _ _) _) q1; have k1 := blk_below (blk_new w _) q1)
    | (go_at_call 94; go_must (refine (HP.out _ b1).mono ?_); go_must (rintro e w2 ⟨⟨A2, c2, rfl⟩, q2⟩); have b2 := below_step b1 q2; have k2 := blk_below k1 q2)
    | (go_at_call 34; first | (with_reducible refine (HCL.out _ b2).mono ?_; go_must (rintro e w3 ⟨vo, rfl, ho, q3⟩); have b3 := below_step b2 q3; have k3 := blk_below k2 q3; obtain ⟨Ao, co, rfl⟩ := Kd.R_slice ho) | (with_reducible refine (HCS.out _ b3).mono ?_; go_must (rintro e w4 ⟨vn, rfl, hv, q4⟩); have b4 := below_step b3 q4; have k4 := blk_below k3 q4; obtain ⟨An, cn, rfl⟩ := Kd.R_slice hv; have t0 := blk_cell k4 0; have t1 := blk_cell k4 1; have t2 := blk_cell k4 2))
    | (go_at_call 99; go_must (refine (HZ.out _ b4).mono ?_); go_must (rintro e w5 ⟨rfl, q5⟩); have b5 := below_step b4 q5)
    | (go_at_call 70; go_must (refine (HD.out _).mono ?_); go_must (rintro e w6 ⟨rfl, q6⟩); have b6 := below_step b5 q6)
    | go_in)
  rw [show n + (endLen li : Int) = n + 1 + ((endLen li : Int) - 1) by omega]
  refine bodyPost_ret (results_tmp5 rfl _ _ _) rfl ?_
  exact ⟨_, _, rfl, Fresh.nil _ _, (fresh_conv w6 d hds).mono (b6.size), bytes_below b6 b6.size _ _⟩
set_option maxHeartbeats 2000000 in
set_option maxRecDepth 100000 in
theorem feed_uniq (k : Nat) (N : Int) (X : ByteArray) (As : Option Addr) (cs : Nat) (st : List Int) (n : Int) (Al : Option Addr) (cl : Nat) (li : List Int) (w : World)
    (hs : Kd.C (Kd.int .u8) w As st.length st) (hcs : st.length ≤ cs) (hl : Kd.C (Kd.int .u8) w Al li.length li) (hcl : li.length ≤ cl) (hn0 : 0 ≤ n) (hn : n ≤ 1099511627776) (hsz : st.length ≤ 65536) (hlz : li.length ≤ 65536)
    (ha : shell_Tool_asked.f k (⟨#[117, 110, 105, 113]⟩ : ByteArray) N X st n li = some 0) :
    Calls Tryz.prog 63 #[.agg #[.string (⟨#[117, 110, 105, 113]⟩ : ByteArray), .int .i64 N, .string X], .slice As st.length cs, .int .i64 n, .slice Al li.length cl] w fun e w' => FeedPost w w' e (if n = 0 ∨ sameB li st = false then li else []) (li) (n + 1) true := by
  have hu := Tryz.underlying74
  have HA := Lib.hid (fun W (hB : Below w.heap.size w W) => shell_Tool_asked.calls k (⟨#[117, 110, 105, 113]⟩ : ByteArray) N X As cs st n Al cl li 0 W (Kd.C_below hs hB) hcs (Kd.C_below hl hB) hcl ha)
  have HP := Lib.hid (fun W (hB : Below w.heap.size w W) => parted_len Al cl li W (Kd.C_below hl hB) hcl)
  have HCL := Lib.hid (fun W (hB : Below w.heap.size w W) => bytes_Clone.calls Al cl li li W (Kd.C_below hl hB) hcl (by rw [bytes_Clone.f, if_pos (by omega)]))
  have HCS := Lib.hid (fun W (hB : Below w.heap.size w W) => bytes_Clone.calls As cs st st W (Kd.C_below hs hB) hcs (by rw [bytes_Clone.f, if_pos (by omega)]))
  have hw : wrap64 (n + 1) = n + 1 := by unfold wrap64; omega
  have HE := Lib.hid (fun W (hB : Below w.heap.size w W) => bytes_Equal.calls Al cl li As cs st (sameB li st) W (Kd.C_below hl hB) hcl (Kd.C_below hs hB) hcs rfl)
  have HS := Lib.hid hs
  have HL := Lib.hid hl
  have HSZ := Lib.hid (And.intro hsz hlz)
  clear ha hs hl hcs hcl hsz hlz
  by_cases hn1 : n = 0
  · subst hn1
    rw [if_pos (.inl rfl)]
    go_enter Tryz.func63, Tryz.ntmps63
    go_wp2_with (first
      | (go_at_call 93; go_must (refine (HA.out _ (below_alloc (Below.refl _ _) _)).mono ?_); go_must (rintro e w1 ⟨rfl, q1⟩); have b1 := below_step (below_alloc (Below.refl _ _) _) q1; have k1 := blk_below (blk_new w _) q1)
      | (go_at_call 94; go_must (refine (HP.out _ b1).mono ?_); go_must (rintro e w2 ⟨⟨A2, c2, rfl⟩, q2⟩); have b2 := below_step b1 q2; have k2 := blk_below k1 q2)
      | (go_at_call 34; first | (with_reducible refine (HCL.out _ b2).mono ?_; go_must (rintro e w3 ⟨vo, rfl, ho, q3⟩); have b3 := below_step b2 q3; have k3 := blk_below k2 q3; obtain ⟨Ao, co, rfl⟩ := Kd.R_slice ho) | (with_reducible refine (HCS.out _ b3).mono ?_; go_must (rintro e w4 ⟨vn, rfl, hv, q4⟩); have b4 := below_step b3 q4; have k4 := blk_below k3 q4; obtain ⟨An, cn, rfl⟩ := Kd.R_slice hv; have t0 := blk_cell k4 0; have t1 := blk_cell k4 1; have t2 := blk_cell k4 2))
      | (go_at_call 98; go_must (refine (HE.out _ b4).mono ?_); go_must (rintro e w5 ⟨rfl, ⟨nd5, rfl⟩⟩); have b5 := pw_below_drewN b4 nd5)
      | (go_at_call 34; with_reducible refine (HCL.out _ b4).mono ?_; go_must (rintro e w6 ⟨vx, rfl, hx, q6⟩); have b6 := below_step b4 q6; obtain ⟨Ax, cx, rfl⟩ := Kd.R_slice hx)
      | go_in)
    refine bodyPost_ret (results_tmp5 rfl _ _ _) rfl ?_
    exact ⟨_, _, rfl, (((Fresh.of_R ho).below q4).below q6).mono b2.size, (Fresh.of_R hx).mono b4.size, b6⟩
  · have g1 : (n + 1 == 1) = false := by simp; omega
    cases hg : sameB li st with
    | false =>
      rw [hg] at HE
      rw [if_pos (.inr rfl)]
      clear hg
      go_enter Tryz.func63, Tryz.ntmps63
      go_wp2_with (first
        | (go_at_call 93; go_must (refine (HA.out _ (below_alloc (Below.refl _ _) _)).mono ?_); go_must (rintro e w1 ⟨rfl, q1⟩); have b1 := below_step (below_alloc (Below.refl _ _) _) q1; have k1 := blk_below (blk_new w _) q1)
        | (go_at_call 94; go_must (refine (HP.out _ b1).mono ?_); go_must (rintro e w2 ⟨⟨A2, c2, rfl⟩, q2⟩); have b2 := below_step b1 q2; have k2 := blk_below k1 q2)
        | (go_at_call 34; first | (with_reducible refine (HCL.out _ b2).mono ?_; go_must (rintro e w3 ⟨vo, rfl, ho, q3⟩); have b3 := below_step b2 q3; have k3 := blk_below k2 q3; obtain ⟨Ao, co, rfl⟩ := Kd.R_slice ho) | (with_reducible refine (HCS.out _ b3).mono ?_; go_must (rintro e w4 ⟨vn, rfl, hv, q4⟩); have b4 := below_step b3 q4; have k4 := blk_below k3 q4; obtain ⟨An, cn, rfl⟩ := Kd.R_slice hv; have t0 := blk_cell k4 0; have t1 := blk_cell k4 1; have t2 := blk_cell k4 2))
        | (go_at_call 98; go_must (refine (HE.out _ b4).mono ?_); go_must (rintro e w5 ⟨rfl, ⟨nd5, rfl⟩⟩); have b5 := pw_below_drewN b4 nd5)
        | (go_at_call 34; with_reducible refine (HCL.out _ b5).mono ?_; go_must (rintro e w6 ⟨vx, rfl, hx, q6⟩); have b6 := below_step b5 q6; obtain ⟨Ax, cx, rfl⟩ := Kd.R_slice hx)
        | go_in)
      refine bodyPost_ret (results_tmp5 rfl _ _ _) rfl ?_
      exact ⟨_, _, rfl, ((((Fresh.of_R ho).below q4).below (pw_below_drewN (Below.refl _ _) _)).below q6).mono b2.size, (Fresh.of_R hx).mono b5.size, b6⟩
    | true =>
      rw [hg] at HE
      rw [if_neg (by simp; omega)]
      clear hg
      go_enter Tryz.func63, Tryz.ntmps63
      go_wp2_with (first
        | (go_at_call 93; go_must (refine (HA.out _ (below_alloc (Below.refl _ _) _)).mono ?_); go_must (rintro e w1 ⟨rfl, q1⟩); have b1 := below_step (below_alloc (Below.refl _ _) _) q1; have k1 := blk_below (blk_new w _) q1)
        | (go_at_call 94; go_must (refine (HP.out _ b1).mono ?_); go_must (rintro e w2 ⟨⟨A2, c2, rfl⟩, q2⟩); have b2 := below_step b1 q2; have k2 := blk_below k1 q2)
        | (go_at_call 34; first | (with_reducible refine (HCL.out _ b2).mono ?_; go_must (rintro e w3 ⟨vo, rfl, ho, q3⟩); have b3 := below_step b2 q3; have k3 := blk_below k2 q3; obtain ⟨Ao, co, rfl⟩ := Kd.R_slice ho) | (with_reducible refine (HCS.out _ b3).mono ?_; go_must (rintro e w4 ⟨vn, rfl, hv, q4⟩); have b4 := below_step b3 q4; have k4 := blk_below k3 q4; obtain ⟨An, cn, rfl⟩ := Kd.R_slice hv; have t0 := blk_cell k4 0; have t1 := blk_cell k4 1; have t2 := blk_cell k4 2))
        | (go_at_call 98; go_must (refine (HE.out _ b4).mono ?_); go_must (rintro e w5 ⟨rfl, ⟨nd5, rfl⟩⟩); have b5 := pw_below_drewN b4 nd5)
        | (go_at_call 34; with_reducible refine (HCL.out _ b5).mono ?_; go_must (rintro e w6 ⟨vx, rfl, hx, q6⟩); have b6 := below_step b5 q6; obtain ⟨Ax, cx, rfl⟩ := Kd.R_slice hx)
        | go_in)
      refine bodyPost_ret (results_tmp5 rfl _ _ _) rfl ?_
      exact ⟨_, _, rfl, Fresh.nil _ _, (Fresh.of_R hx).mono b5.size, b6⟩
set_option maxHeartbeats 2000000 in
set_option maxRecDepth 100000 in
theorem feed_grep (k : Nat) (N : Int) (X : ByteArray) (As : Option Addr) (cs : Nat) (st : List Int) (n : Int) (Al : Option Addr) (cl : Nat) (li : List Int) (w : World) (g : Bool) (hX : X.size ≤ 100)
    (hs : Kd.C (Kd.int .u8) w As st.length st) (hcs : st.length ≤ cs) (hl : Kd.C (Kd.int .u8) w Al li.length li) (hcl : li.length ≤ cl) (hn0 : 0 ≤ n) (hn : n ≤ 1099511627776) (hsz : st.length ≤ 65536) (hlz : li.length ≤ 65536)
    (ha : shell_Tool_asked.f k (⟨#[103, 114, 101, 112]⟩ : ByteArray) N X st n li = some 0)
    (hcon : ∀ W B c, Below w.heap.size w W → Kd.C (Kd.int .u8) W (some ⟨B, 0, none⟩) X.size (bytesOf X) → X.size ≤ c → Calls Tryz.prog 97 #[.slice Al li.length cl, .slice (some ⟨B, 0, none⟩) X.size c] W fun e w' => e = .returned (.bool g) ∧ ∃ q, w' = W.drewN q) :
    Calls Tryz.prog 63 #[.agg #[.string (⟨#[103, 114, 101, 112]⟩ : ByteArray), .int .i64 N, .string X], .slice As st.length cs, .int .i64 n, .slice Al li.length cl] w fun e w' => FeedPost w w' e (if g then li else []) (st) (n + 1) true := by
  have hu := Tryz.underlying74
  have HA := Lib.hid (fun W (hB : Below w.heap.size w W) => shell_Tool_asked.calls k (⟨#[103, 114, 101, 112]⟩ : ByteArray) N X As cs st n Al cl li 0 W (Kd.C_below hs hB) hcs (Kd.C_below hl hB) hcl ha)
  have HP := Lib.hid (fun W (hB : Below w.heap.size w W) => parted_len Al cl li W (Kd.C_below hl hB) hcl)
  have HCL := Lib.hid (fun W (hB : Below w.heap.size w W) => bytes_Clone.calls Al cl li li W (Kd.C_below hl hB) hcl (by rw [bytes_Clone.f, if_pos (by omega)]))
  have HCS := Lib.hid (fun W (hB : Below w.heap.size w W) => bytes_Clone.calls As cs st st W (Kd.C_below hs hB) hcs (by rw [bytes_Clone.f, if_pos (by omega)]))
  have hw : wrap64 (n + 1) = n + 1 := by unfold wrap64; omega
  have hcv := fun W => Lib.run_convert_string_bytes (P := Tryz.prog) W 9 23 5 X Tryz.underlying9 Tryz.underlying23 Tryz.underlying5
  have HX := Lib.hid hcon
  clear hcon
  have HS := Lib.hid hs
  have HL := Lib.hid hl
  have HSZ := Lib.hid (And.intro hsz hlz)
  clear ha hs hl hcs hcl hsz hlz
  cases g with
  | false =>
    go_enter Tryz.func63, Tryz.ntmps63
    go_wp2_with (first
      | (go_at_call 93; go_must (refine (HA.out _ (below_alloc (Below.refl _ _) _)).mono ?_); go_must (rintro e w1 ⟨rfl, q1⟩); have b1 := below_step (below_alloc (Below.refl _ _) _) q1; have k1 := blk_below (blk_new w _) q1)
      | (go_at_call 94; go_must (refine (HP.out _ b1).mono ?_); go_must (rintro e w2 ⟨⟨A2, c2, rfl⟩, q2⟩); have b2 := below_step b1 q2; have k2 := blk_below k1 q2)
      | (go_at_call 34; first | (with_reducible refine (HCL.out _ b2).mono ?_; go_must (rintro e w3 ⟨vo, rfl, ho, q3⟩); have b3 := below_step b2 q3; have k3 := blk_below k2 q3; obtain ⟨Ao, co, rfl⟩ := Kd.R_slice ho) | (with_reducible refine (HCS.out _ b3).mono ?_; go_must (rintro e w4 ⟨vn, rfl, hv, q4⟩); have b4 := below_step b3 q4; have k4 := blk_below k3 q4; obtain ⟨An, cn, rfl⟩ := Kd.R_slice hv; have t0 := blk_cell k4 0; have t1 := blk_cell k4 1; have t2 := blk_cell k4 2))
      | (go_at_call 97; go_must (refine (HX.out _ _ _ (bytes_below b4 b4.size _ _) (Fresh.C_conv w4 X hX) (grownCap_ge _ _ _ _)).mono ?_); go_must (rintro e w5 ⟨rfl, ⟨nd5, rfl⟩⟩); have q5 := pw_below_drewN (bytes_below (Below.refl w4.heap.size w4) (Nat.le_refl _) 5 X) nd5; have b5 := below_step b4 q5)
      | go_in)
    refine bodyPost_ret (results_tmp5 rfl _ _ _) rfl ?_
    exact ⟨_, _, rfl, Fresh.nil _ _, ((Fresh.of_R hv).below q5).mono b3.size, b5⟩
  | true =>
    go_enter Tryz.func63, Tryz.ntmps63
    go_wp2_with (first
      | (go_at_call 93; go_must (refine (HA.out _ (below_alloc (Below.refl _ _) _)).mono ?_); go_must (rintro e w1 ⟨rfl, q1⟩); have b1 := below_step (below_alloc (Below.refl _ _) _) q1; have k1 := blk_below (blk_new w _) q1)
      | (go_at_call 94; go_must (refine (HP.out _ b1).mono ?_); go_must (rintro e w2 ⟨⟨A2, c2, rfl⟩, q2⟩); have b2 := below_step b1 q2; have k2 := blk_below k1 q2)
      | (go_at_call 34; first | (with_reducible refine (HCL.out _ b2).mono ?_; go_must (rintro e w3 ⟨vo, rfl, ho, q3⟩); have b3 := below_step b2 q3; have k3 := blk_below k2 q3; obtain ⟨Ao, co, rfl⟩ := Kd.R_slice ho) | (with_reducible refine (HCS.out _ b3).mono ?_; go_must (rintro e w4 ⟨vn, rfl, hv, q4⟩); have b4 := below_step b3 q4; have k4 := blk_below k3 q4; obtain ⟨An, cn, rfl⟩ := Kd.R_slice hv; have t0 := blk_cell k4 0; have t1 := blk_cell k4 1; have t2 := blk_cell k4 2))
      | (go_at_call 97; go_must (refine (HX.out _ _ _ (bytes_below b4 b4.size _ _) (Fresh.C_conv w4 X hX) (grownCap_ge _ _ _ _)).mono ?_); go_must (rintro e w5 ⟨rfl, ⟨nd5, rfl⟩⟩); have q5 := pw_below_drewN (bytes_below (Below.refl w4.heap.size w4) (Nat.le_refl _) 5 X) nd5; have b5 := below_step b4 q5)
      | go_in)
    refine bodyPost_ret (results_tmp5 rfl _ _ _) rfl ?_
    exact ⟨_, _, rfl, (((Fresh.of_R ho).below q4).below q5).mono b2.size, ((Fresh.of_R hv).below q5).mono b3.size, b5⟩
set_option maxHeartbeats 2000000 in
set_option maxRecDepth 100000 in
theorem feed_num (k : Nat) (N : Int) (X : ByteArray) (As : Option Addr) (cs : Nat) (st : List Int) (n : Int) (Al : Option Addr) (cl : Nat) (li : List Int) (w : World) (d : ByteArray) (hds : d.size ≤ 100)
    (hs : Kd.C (Kd.int .u8) w As st.length st) (hcs : st.length ≤ cs) (hl : Kd.C (Kd.int .u8) w Al li.length li) (hcl : li.length ≤ cl) (hn0 : 0 ≤ n) (hn : n ≤ 1099511627776) (hsz : st.length ≤ 65536) (hlz : li.length ≤ 65536)
    (ha : shell_Tool_asked.f k (⟨#[110, 117, 109]⟩ : ByteArray) N X st n li = some 0)
    (hd : num_Decimal.f (n + 1) = some d) :
    Calls Tryz.prog 63 #[.agg #[.string (⟨#[110, 117, 109]⟩ : ByteArray), .int .i64 N, .string X], .slice As st.length cs, .int .i64 n, .slice Al li.length cl] w fun e w' => FeedPost w w' e (bytesOf d ++ [32] ++ li) (st) (n + 1) true := by
  have hu := Tryz.underlying74
  have HA := Lib.hid (fun W (hB : Below w.heap.size w W) => shell_Tool_asked.calls k (⟨#[110, 117, 109]⟩ : ByteArray) N X As cs st n Al cl li 0 W (Kd.C_below hs hB) hcs (Kd.C_below hl hB) hcl ha)
  have HP := Lib.hid (fun W (hB : Below w.heap.size w W) => parted_len Al cl li W (Kd.C_below hl hB) hcl)
  have HCL := Lib.hid (fun W (hB : Below w.heap.size w W) => bytes_Clone.calls Al cl li li W (Kd.C_below hl hB) hcl (by rw [bytes_Clone.f, if_pos (by omega)]))
  have HCS := Lib.hid (fun W (hB : Below w.heap.size w W) => bytes_Clone.calls As cs st st W (Kd.C_below hs hB) hcs (by rw [bytes_Clone.f, if_pos (by omega)]))
  have hw : wrap64 (n + 1) = n + 1 := by unfold wrap64; omega
  have HD := Lib.hid (fun W => num_Decimal.calls _ d W hd)
  have hcv := fun W => Lib.run_convert_string_bytes (P := Tryz.prog) W 9 23 5 d Tryz.underlying9 Tryz.underlying23 Tryz.underlying5
  have hbs := fun W => Lib.bytesWorld_size W 5 d
  have HDS := Lib.hid hds
  clear hd hds
  have HS := Lib.hid hs
  have HL := Lib.hid hl
  have HSZ := Lib.hid (And.intro hsz hlz)
  clear ha hs hl hcs hcl hsz hlz
  go_enter Tryz.func63, Tryz.ntmps63
  go_wp2_with (first
    | (go_at_call 93; go_must (refine (HA.out _ (below_alloc (Below.refl _ _) _)).mono ?_); go_must (rintro e w1 ⟨rfl, q1⟩); have b1 := below_step (below_alloc (Below.refl _ _) _) q1; have k1 := blk_below (blk_new w _) q1)
    | (go_at_call 94; go_must (refine (HP.out _ b1).mono ?_); go_must (rintro e w2 ⟨⟨A2, c2, rfl⟩, q2⟩); have b2 := below_step b1 q2; have k2 := blk_below k1 q2)
    | (go_at_call 34; first | (with_reducible refine (HCL.out _ b2).mono ?_; go_must (rintro e w3 ⟨vo, rfl, ho, q3⟩); have b3 := below_step b2 q3; have k3 := blk_below k2 q3; obtain ⟨Ao, co, rfl⟩ := Kd.R_slice ho) | (with_reducible refine (HCS.out _ b3).mono ?_; go_must (rintro e w4 ⟨vn, rfl, hv, q4⟩); have b4 := below_step b3 q4; have k4 := blk_below k3 q4; obtain ⟨An, cn, rfl⟩ := Kd.R_slice hv; have t0 := blk_cell k4 0; have t1 := blk_cell k4 1; have t2 := blk_cell k4 2))
    | (go_at_call 70; go_must (refine (HD.out _).mono ?_); go_must (rintro e w5 ⟨rfl, q5⟩); have b5 := below_step b4 q5)
    | (go_at_call 33; go_must (refine (num_concat w5 d HDS.out Al cl li (Kd.C_below HL.out b5) HSZ.out.2).mono ?_); go_must (rintro e w6 ⟨vx, rfl, hx, q6⟩); have b6 := below_step b5 q6)
    | go_in)
  refine bodyPost_ret (results_tmp5 rfl _ _ _) rfl ?_
  refine ⟨_, _, ?_, hx.mono b5.size, (((Fresh.of_R hv).below q5).below q6).mono b3.size, b6⟩
  rfl
set_option maxHeartbeats 2000000 in
set_option maxRecDepth 100000 in
theorem feed_upper (k : Nat) (N : Int) (X : ByteArray) (As : Option Addr) (cs : Nat) (st : List Int) (n : Int) (Al : Option Addr) (cl : Nat) (li : List Int) (w : World) (hli : 0 < li.length)
    (hs : Kd.C (Kd.int .u8) w As st.length st) (hcs : st.length ≤ cs) (hl : Kd.C (Kd.int .u8) w Al li.length li) (hcl : li.length ≤ cl) (hn0 : 0 ≤ n) (hn : n ≤ 1099511627776) (hsz : st.length ≤ 65536) (hlz : li.length ≤ 65536)
    (ha : shell_Tool_asked.f k (⟨#[117, 112, 112, 101, 114]⟩ : ByteArray) N X st n li = some 0) :
    Calls Tryz.prog 63 #[.agg #[.string (⟨#[117, 112, 112, 101, 114]⟩ : ByteArray), .int .i64 N, .string X], .slice As st.length cs, .int .i64 n, .slice Al li.length cl] w fun e w' => FeedPost w w' e (li.map bigOf) (st) (n + 1) true := by
  have hu := Tryz.underlying74
  have HA := Lib.hid (fun W (hB : Below w.heap.size w W) => shell_Tool_asked.calls k (⟨#[117, 112, 112, 101, 114]⟩ : ByteArray) N X As cs st n Al cl li 0 W (Kd.C_below hs hB) hcs (Kd.C_below hl hB) hcl ha)
  have HP := Lib.hid (fun W (hB : Below w.heap.size w W) => parted_len Al cl li W (Kd.C_below hl hB) hcl)
  have HCL := Lib.hid (fun W (hB : Below w.heap.size w W) => bytes_Clone.calls Al cl li li W (Kd.C_below hl hB) hcl (by rw [bytes_Clone.f, if_pos (by omega)]))
  have HCS := Lib.hid (fun W (hB : Below w.heap.size w W) => bytes_Clone.calls As cs st st W (Kd.C_below hs hB) hcs (by rw [bytes_Clone.f, if_pos (by omega)]))
  have hw : wrap64 (n + 1) = n + 1 := by unfold wrap64; omega
  have HS := Lib.hid hs
  have HL := Lib.hid hl
  have HSZ := Lib.hid (And.intro hsz hlz)
  clear ha hs hl hcs hcl hsz hlz
  go_enter Tryz.func63, Tryz.ntmps63
  go_wp2_with (first
    | (go_at_call 93; go_must (refine (HA.out _ (below_alloc (Below.refl _ _) _)).mono ?_); go_must (rintro e w1 ⟨rfl, q1⟩); have b1 := below_step (below_alloc (Below.refl _ _) _) q1; have k1 := blk_below (blk_new w _) q1)
    | (go_at_call 94; go_must (refine (HP.out _ b1).mono ?_); go_must (rintro e w2 ⟨⟨A2, c2, rfl⟩, q2⟩); have b2 := below_step b1 q2; have k2 := blk_below k1 q2)
    | (go_at_call 34; first | (with_reducible refine (HCL.out _ b2).mono ?_; go_must (rintro e w3 ⟨vo, rfl, ho, q3⟩); have b3 := below_step b2 q3; have k3 := blk_below k2 q3; obtain ⟨Ao, co, rfl⟩ := Kd.R_slice ho) | (with_reducible refine (HCS.out _ b3).mono ?_; go_must (rintro e w4 ⟨vn, rfl, hv, q4⟩); have b4 := below_step b3 q4; have k4 := blk_below k3 q4; obtain ⟨An, cn, rfl⟩ := Kd.R_slice hv; have t0 := blk_cell k4 0; have t1 := blk_cell k4 1; have t2 := blk_cell k4 2))
    | go_in)
  obtain ⟨g, cap, eo, hg1, hg2, _⟩ := Kd.R_form ho hli
  cases eo
  have hfv := Fresh.of_R hv
  have hR := Kd.R_below ho q4
  have HH := Lib.hid (And.intro hR (And.intro hfv b4))
  have hb23 := b2.size
  clear ho hv q4 q3 q2 q1 k1 k2 k3 k4 t0 t1 t2 hR hfv b4 HA HP HCL HCS HS HL
  go_loopg [49] li.length (fun k v wr => ∃ i : Nat, v = .int .i64 i ∧ i ≤ li.length ∧ k = li.length - i ∧ Kd.R (Kd.int .u8) 5 wr w2.heap.size (fun _ => True) (.slice (some ⟨g, 0, none⟩) li.length co) ((li.take i).map bigOf ++ li.drop i) ∧ Fresh wr w3.heap.size (.slice An st.length cn) st ∧ Below w.heap.size w wr)
  case atStart => exact ⟨0, rfl, by omega, by omega, by simpa using HH.out.1, HH.out.2.1, HH.out.2.2⟩
  case round =>
    clear HH
    obtain ⟨i, rfl, hi, hk, hR, hf, hB⟩ := hrel
    by_cases hlt : i < li.length
    · obtain ⟨hc, hz⟩ := Kd.R_celln (0 : Int) hR (i : Int) (by omega) (by omega)
      rw [up_at li i hlt, Int.toNat_natCast] at hc
      rw [Int.toNat_natCast] at hz
      have hset := up_set li i hlt
      obtain ⟨c, hcc⟩ : ∃ c, c = li[i] := ⟨_, rfl⟩
      rw [← hcc] at hc hset
      have HBG := Lib.hid (fun W => shell_big.calls c (bigOf c) W (shell_big_is c))
      have d1 : decide ((i : Int) < (li.length : Int)) = true := by simp; omega
      have d2 : (i : Int) < (li.length : Int) := by omega
      have d3 : i < li.length := hlt
      have HR := Lib.hid (And.intro hR (And.intro hf (And.intro hB hset)))
      have HK := Lib.hid hk
      clear hR hf hB hset hcc hk
      go_wp2_with (go_at_call 95; go_must (refine (HBG.out _).mono ?_); go_must (rintro e w5 ⟨rfl, ⟨nd, rfl⟩⟩))
      have hk := HK.out
      go_roundg (li.length - (i + 1))
      case measure => exact Nat.lt_of_lt_of_eq (Nat.sub_lt_sub_left d3 (Nat.lt_succ_self i)) hk.symm
      case rel =>
        obtain ⟨hR, hf, hB, hset⟩ := HR.out
        have hz2 := HSZ.out.2
        have hwi := wadd1 i (Nat.le_trans hi (Nat.le_trans hz2 (by decide)))
        refine ⟨i + 1, by first | rfl | rw [hwi] | simp, Nat.succ_le_of_lt d3, rfl, ?_, ?_, ?_⟩
        · rw [← hset]
          have := Kd.R_putn (Kd.R_drewN hR nd) (i : Int) (bigOf c)
          rwa [Int.toNat_natCast] at this
        · exact (hf.below (pw_below_drewN (Below.refl _ _) nd)).setCell hg2 _
        · exact (pw_below_drewN hB nd).setCell (by show w.heap.size ≤ g; omega) _
    · have d1 : decide ((i : Int) < (li.length : Int)) = false := by simp; omega
      obtain rfl : i = li.length := by omega
      have HR := Lib.hid (And.intro hR (And.intro hf hB))
      clear hR hf hB
      go_wp2
      refine bodyPost_ret (results_tmp5 rfl _ _ _) rfl ?_
      obtain ⟨hR, hf, hB⟩ := HR.out
      have e : (li.take li.length).map bigOf ++ li.drop li.length = li.map bigOf := by simp
      rw [e] at hR
      have hq := (Fresh.of_R hR).mono b2.size
      have hfm := hf.mono b3.size
      refine ⟨_, _, ?_, hq, hfm, hB⟩
      rfl
open Go.Sort in
theorem below_putRow {base : Nat} {w : World} {blk : Nat} (hb : base ≤ blk) (n : Nat) (d : Array Int) : Below base w (putRow encB (Sort.ahead w n) blk 0 d) :=
  ⟨rfl, rfl, rfl, by simp [Sort.ahead], fun k hk => by
    simp only [putRow, mapBlock, Sort.ahead, Array.getElem?_modify]
    rw [if_neg (by omega)]⟩
open Go.Sort in
theorem fresh_putRow {w : World} {base : Nat} {v : Value} {l : List Int} (h : Fresh w base v l) {blk : Nat} (hp : blk < base) (n : Nat) (d : Array Int) : Fresh (putRow encB (Sort.ahead w n) blk 0 d) base v l := by
  obtain ⟨A, c, h1, h2, h3, h4⟩ := h
  refine ⟨A, c, h1, h2, ⟨h3.1, h3.2.1, fun hn => ?_⟩, h4⟩
  obtain ⟨ad, e, hc⟩ := h3.2.2 hn
  have hb := h4 ad e
  refine ⟨ad, e, fun j x hj => ?_⟩
  obtain ⟨cs, k1, k2, k3⟩ := hc j x hj
  refine ⟨cs, k1, k2, fun i u' hu' => ?_⟩
  rw [cell?_putRow_other _ _ _ _ _ _ (.inl (by rw [add_block]; omega))]
  exact k3 i u' hu'
def turnOf (l : List Int) (m : Nat) : List Int := (l.take m).reverse ++ l.drop m
theorem turn_len (l : List Int) (m : Nat) : (turnOf l m).length = l.length := by simp [turnOf]; omega
open Go.Sort in
theorem holds_take {w : World} {g n c base : Nat} {ok : Nat → Prop} {l : List Int} (h : Kd.R (Kd.int .u8) 5 w base ok (.slice (some ⟨g, 0, none⟩) n c) l) (hl : l.length = n) (m : Nat) (hm : m ≤ n) : Holds encB w g 0 (l.take m).toArray := by
  intro j hj
  have hj' : j < m := by simp at hj; omega
  obtain ⟨h1, h2⟩ := Kd.R_celln (0 : Int) h (j : Int) (by omega) (by omega)
  rw [Int.toNat_natCast] at h1 h2
  rw [Nat.zero_add]
  refine ⟨?_, h2⟩
  rw [h1]
  have hjl : j < l.length := by omega
  have e1 : rdOf (0 : Int) l (j : Int) = l[j] := by simp [rdOf, hjl]
  have e2 : (l.take m).toArray[j]! = l[j] := by
    rw [getElem!_pos _ j (by simpa using hj)]
    simp
  rw [e1, e2]
open Go.Sort in
theorem fresh_turn {w : World} {g n c base : Nat} {ok : Nat → Prop} {l : List Int} (h : Kd.R (Kd.int .u8) 5 w base ok (.slice (some ⟨g, 0, none⟩) n c) l) (hl : l.length = n) (hnc : n ≤ c) (hnx : n ≤ 9223372036854775807) (m : Nat) (hm : m ≤ n) (hg : base ≤ g) (q : Nat) :
    Fresh (putRow encB (Sort.ahead w q) g 0 (l.take m).toArray.reverse) base (.slice (some ⟨g, 0, none⟩) n c) (turnOf l m) := by
  have hH := holds_take h hl m hm
  refine ⟨_, _, by rw [turn_len, hl], by rw [turn_len, hl]; exact hnc, ?_, fun ad e => by cases e; exact hg⟩
  rw [turn_len, hl]
  refine Kd.C_of_reads (d := (0 : Int)) (h1 := fun _ => rfl) ⟨by rw [turn_len, hl], hnx, fun _ => ⟨_, rfl, fun j hj => ?_⟩⟩
  have ea : (⟨g, 0, none⟩ : Addr).add j = ⟨g, j, none⟩ := add_plain g j
  rw [ea]
  have hsz : ((l.take m).toArray.reverse).size = m := by simp; omega
  by_cases hjm : j < m
  · have := cell?_putRow encB (Sort.ahead w q) g 0 (l.take m).toArray (l.take m).toArray.reverse (holds_ahead _ _ _ _ _ _ hH) (by simp) j (by omega)
    rw [Nat.zero_add] at this
    rw [this, getElem!_pos _ j (by omega)]
    have e : (turnOf l m).getD j 0 = ((l.take m).reverse)[j]'(by simp; omega) := by
      rw [turnOf, List.getD_eq_getElem?_getD, List.getElem?_append_left (by simp; omega), List.getElem?_eq_getElem (by simp; omega)]
      rfl
    rw [e]
    simp
  · rw [cell?_putRow_other _ _ _ _ _ _ (.inr (.inr (by rw [hsz]; show 0 + m ≤ j; omega)))]
    obtain ⟨h1, _⟩ := Kd.R_celln (0 : Int) h (j : Int) (by omega) (by omega)
    rw [Int.toNat_natCast] at h1
    have h1' : (Sort.ahead w q).cell? ⟨g, j, none⟩ = _ := h1
    rw [h1']
    have hjl : j < l.length := by omega
    have e1 : rdOf (0 : Int) l (j : Int) = l[j] := by simp [rdOf, hjl]
    have e : (turnOf l m).getD j 0 = l[j] := by
      have hml : (l.take m).reverse.length = m := by simp; omega
      rw [turnOf, List.getD_eq_getElem?_getD, List.getElem?_append_right (by omega), hml, List.getElem?_drop]
      have : m + (j - m) = j := by omega
      rw [this]; simp [hjl]
    rw [e1, e]
open Go.Sort in
theorem rev_call {w : World} {g n c base : Nat} {ok : Nat → Prop} {l : List Int} (h : Kd.R (Kd.int .u8) 5 w base ok (.slice (some ⟨g, 0, none⟩) n c) l) (hl : l.length = n) (hnx : n ≤ 9223372036854775807) (m : Nat) (hm : m ≤ n) :
    Calls Tryz.prog 96 #[.slice (some ⟨g, 0, none⟩) m c] w fun e w' => e = .returned (.tuple #[]) ∧ ∃ q, w' = putRow encB (Sort.ahead w q) g 0 (l.take m).toArray.reverse := by
  have hs : (l.take m).toArray.size = m := by simp; omega
  have := reverse_arr g 0 c (l.take m).toArray w (holds_take h hl m hm) (by omega)
  rwa [hs] at this
set_option maxHeartbeats 2000000 in
set_option maxRecDepth 100000 in
theorem feed_rev (k : Nat) (N : Int) (X : ByteArray) (As : Option Addr) (cs : Nat) (st : List Int) (n : Int) (Al : Option Addr) (cl : Nat) (li : List Int) (w : World) (hli : 0 < li.length)
    (hs : Kd.C (Kd.int .u8) w As st.length st) (hcs : st.length ≤ cs) (hl : Kd.C (Kd.int .u8) w Al li.length li) (hcl : li.length ≤ cl) (hn0 : 0 ≤ n) (hn : n ≤ 1099511627776) (hsz : st.length ≤ 65536) (hlz : li.length ≤ 65536)
    (ha : shell_Tool_asked.f k (⟨#[114, 101, 118]⟩ : ByteArray) N X st n li = some 0) :
    Calls Tryz.prog 63 #[.agg #[.string (⟨#[114, 101, 118]⟩ : ByteArray), .int .i64 N, .string X], .slice As st.length cs, .int .i64 n, .slice Al li.length cl] w fun e w' => FeedPost w w' e (turnOf li (li.length - endLen li)) (st) (n + 1) true := by
  have hu := Tryz.underlying74
  have HA := Lib.hid (fun W (hB : Below w.heap.size w W) => shell_Tool_asked.calls k (⟨#[114, 101, 118]⟩ : ByteArray) N X As cs st n Al cl li 0 W (Kd.C_below hs hB) hcs (Kd.C_below hl hB) hcl ha)
  have HP := Lib.hid (fun W (hB : Below w.heap.size w W) => parted_len Al cl li W (Kd.C_below hl hB) hcl)
  have HCL := Lib.hid (fun W (hB : Below w.heap.size w W) => bytes_Clone.calls Al cl li li W (Kd.C_below hl hB) hcl (by rw [bytes_Clone.f, if_pos (by omega)]))
  have HCS := Lib.hid (fun W (hB : Below w.heap.size w W) => bytes_Clone.calls As cs st st W (Kd.C_below hs hB) hcs (by rw [bytes_Clone.f, if_pos (by omega)]))
  have hw : wrap64 (n + 1) = n + 1 := by unfold wrap64; omega
  have hmx : li.length ≤ 9223372036854775807 := hl.2.1
  have HS := Lib.hid hs
  have HL := Lib.hid hl
  have HSZ := Lib.hid (And.intro hsz hlz)
  clear ha hs hl hcs hcl hsz hlz
  go_enter Tryz.func63, Tryz.ntmps63
  go_wp2_with (first
    | (go_at_call 93; go_must (refine (HA.out _ (below_alloc (Below.refl _ _) _)).mono ?_); go_must (rintro e w1 ⟨rfl, q1⟩); have b1 := below_step (below_alloc (Below.refl _ _) _) q1; have k1 := blk_below (blk_new w _) q1)
    | (go_at_call 94; go_must (refine (HP.out _ b1).mono ?_); go_must (rintro e w2 ⟨⟨A2, c2, rfl⟩, q2⟩); have b2 := below_step b1 q2; have k2 := blk_below k1 q2)
    | (go_at_call 34; first | (with_reducible refine (HCL.out _ b2).mono ?_; go_must (rintro e w3 ⟨vo, rfl, ho, q3⟩); have b3 := below_step b2 q3; have k3 := blk_below k2 q3; obtain ⟨Ao, co, rfl⟩ := Kd.R_slice ho; have hnco : li.length - endLen li ≤ co := Nat.le_trans (Nat.sub_le _ _) (Kd.R_reads' ho).2.1; have hncz : ((li.length - endLen li : Nat) : Int) ≤ (co : Int) := Int.ofNat_le.2 hnco) | (with_reducible refine (HCS.out _ b3).mono ?_; go_must (rintro e w4 ⟨vn, rfl, hv, q4⟩); have b4 := below_step b3 q4; have k4 := blk_below k3 q4; obtain ⟨An, cn, rfl⟩ := Kd.R_slice hv; have t0 := blk_cell k4 0; have t1 := blk_cell k4 1; have t2 := blk_cell k4 2))
    | (go_at_call 96; obtain ⟨g, cap, eo, hg1, hg2, _⟩ := Kd.R_form ho hli; cases eo; go_must (refine (rev_call (Kd.R_below ho q4) rfl hmx (li.length - endLen li) (Nat.sub_le _ _)).mono ?_); go_must (rintro e w5 ⟨rfl, qq, hqq⟩); have HQ := Lib.hid hqq; clear hqq)
    | go_in)
  refine bodyPost_ret (results_tmp5 rfl _ _ _) rfl ?_
  have hnc := (Kd.R_reads' ho).2.1
  have hfo := (fresh_turn (Kd.R_below ho q4) rfl hnc hmx (li.length - endLen li) (Nat.sub_le _ _) hg1 qq).mono b2.size
  have hfn := (fresh_putRow (Fresh.of_R hv) hg2 qq (li.take (li.length - endLen li)).toArray.reverse).mono b3.size
  have hB := b4.trans (below_putRow (Nat.le_trans b2.size hg1) qq (li.take (li.length - endLen li)).toArray.reverse)
  rw [← HQ.out] at hfo hfn hB
  refine ⟨_, _, ?_, hfo, hfn, hB⟩
  rfl
end Go.Proofs.YthmijenlndnmcaaGreatDoor.Sh
