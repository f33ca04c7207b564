/-
  Hand-made contracts of functions of the program: OwnCat.
-/
import Derived.Test.YthmijenlndnmcaaGreatDoorHL
import Derived.Test.YthmijenlndnmcaaGreatDoorHE
import Derived.Test.YthmijenlndnmcaaGreatDoorShx0
namespace Go.Proofs.YthmijenlndnmcaaGreatDoor.Sh
open Go.RowKit Go.Proofs.YthmijenlndnmcaaGreatDoorW.PrintWords Go.Proofs.YthmijenlndnmcaaGreatDoorW.PrintLast Go.Proofs.YthmijenlndnmcaaGreatDoorW.PrintMore
attribute [local go_sem] max2_int min2_int max_two min_two max_three min_three max_four min_four
set_option linter.unusedVariables false
set_option linter.unusedSimpArgs false
set_option maxRecDepth 100000 in
theorem grow_zero.calls (w : World) :
    Calls Tryz.prog 65 #[.slice none 0 0, .int .i64 0] w fun e w' => ∃ v, e = .returned v ∧ Kd.R (Kd.int .u8) 5 w' w.heap.size (fun _ => True) v [] ∧ Below w.heap.size w w' := by
  go_enter Tryz.func65, Tryz.ntmps65
  go_wp2
  all_goals go_ret
  all_goals exact ⟨_, rfl, Kd.R_nil _ _ _ _ _, by repeat (first | exact Below.refl _ _ | apply below_alloc | apply Below.drew)⟩
theorem grow_any.calls (n : Nat) (hn : n ≤ 1099511627776) (w : World) :
    Calls Tryz.prog 65 #[.slice none 0 0, .int .i64 n] w fun e w' => ∃ v, e = .returned v ∧ Kd.R (Kd.int .u8) 5 w' w.heap.size (fun _ => True) v [] ∧ Below w.heap.size w w' := by
  by_cases h0 : 0 < n
  · exact grow_nil.calls n h0 hn w
  · obtain rfl : n = 0 := by omega
    exact grow_zero.calls w
set_option maxHeartbeats 2000000 in
set_option maxRecDepth 100000 in
theorem concat2.calls (B : Nat) (A1 A2 : Option Addr) (c1 c2 : Nat) (l1 l2 : List Int) (w : World) (hb : w.heap[B]? = some (.cells #[.slice A1 l1.length c1, .slice A2 l2.length c2] 23 (0, 0)))
    (h1 : Kd.C (Kd.int .u8) w A1 l1.length l1) (h2 : Kd.C (Kd.int .u8) w A2 l2.length l2) (hz : l1.length + l2.length ≤ 3000000) :
    Calls Tryz.prog 33 #[.slice (some ⟨B, 0, none⟩) 2 2] w fun e w' => ∃ v, e = .returned v ∧ Kd.R (Kd.int .u8) 5 w' w.heap.size (fun _ => True) v (l1 ++ l2) ∧ Below w.heap.size w w' := by
  have d0 := blk_cell hb 0
  have d1 := blk_cell hb 1
  have H1 := Lib.hid h1
  have H2 := Lib.hid h2
  have HB := Lib.hid hb
  clear h1 h2 hb
  obtain ⟨n1, hn1⟩ : ∃ n1, n1 = l1.length := ⟨_, rfl⟩
  obtain ⟨n2, hn2⟩ : ∃ n2, n2 = l2.length := ⟨_, rfl⟩
  rw [← hn1, ← hn2] at hz
  rw [← hn1] at d0
  rw [← hn2] at d1
  have HNN := Lib.hid (And.intro hn1 hn2)
  clear hn1 hn2
  have HG := Lib.hid (fun W => grow_any.calls (n1 + n2) (by omega) W)
  have esum : ((n1 + n2 : Nat) : Int) = (n1 : Int) + (n2 : Int) := by omega
  rw [esum] at HG
  have D := Lib.hid (And.intro (fun W (hW : Below w.heap.size w W) => pw_cell_below hW d0) (fun W (hW : Below w.heap.size w W) => pw_cell_below hW d1))
  clear esum
  go_enter Tryz.func33, Tryz.ntmps33
  go_wp2
  go_loopg [3, 11] 2 (fun k v3 v11 wr => wr = w ∧ ((k = 2 ∧ v11 = .int .i64 0 ∧ v3 = .int .i64 0) ∨ (k = 1 ∧ v11 = .int .i64 1 ∧ v3 = .int .i64 n1) ∨ (k = 0 ∧ v11 = .int .i64 2 ∧ v3 = .int .i64 ((n1 : Int) + (n2 : Int)))))
  case atStart => exact ⟨rfl, .inl ⟨rfl, rfl, rfl⟩⟩
  case round =>
    obtain ⟨hwr, hc⟩ := hrel
    rcases hc with ⟨rfl, rfl, rfl⟩ | ⟨rfl, rfl, rfl⟩ | ⟨rfl, rfl, rfl⟩
    · subst hwr
      go_wp2
      go_roundg 1
      case measure => omega
      case rel => exact ⟨rfl, .inr (.inl ⟨rfl, rfl, by simp⟩)⟩
    · subst hwr
      go_wp2
      go_roundg 0
      case measure => omega
      case rel => exact ⟨rfl, .inr (.inr ⟨rfl, rfl, rfl⟩)⟩
    · rw [hwr]
      clear d0 d1 hwr
      go_wp2_with (go_at_call 65; go_must (refine (HG.out _).mono ?_); go_must (rintro e w1 ⟨v, rfl, hv, hB1⟩))
      have HV := Lib.hid (And.intro hv hB1)
      clear hv hB1
      go_loopg [6, 27] 2 (fun k v6 v27 wr => Below w.heap.size w wr ∧ ((k = 2 ∧ v27 = .int .i64 0 ∧ Kd.R (Kd.int .u8) 5 wr w.heap.size (fun _ => True) v6 []) ∨ (k = 1 ∧ v27 = .int .i64 1 ∧ Kd.R (Kd.int .u8) 5 wr w.heap.size (fun _ => True) v6 l1) ∨ (k = 0 ∧ v27 = .int .i64 2 ∧ Kd.R (Kd.int .u8) 5 wr w.heap.size (fun _ => True) v6 (l1 ++ l2))))
      case atStart => exact ⟨HV.out.2, .inl ⟨rfl, rfl, HV.out.1⟩⟩
      case round =>
        clear HV HG
        obtain ⟨hB, hc⟩ := hrel
        rcases hc with ⟨rfl, rfl, hv⟩ | ⟨rfl, rfl, hv⟩ | ⟨rfl, rfl, hv⟩
        · have dd := D.out.1 _ hB
          have hC := Kd.C_below H1.out hB
          rw [← HNN.out.1] at hC
          have HO := Lib.hid (And.intro hB (And.intro hv hC))
          clear hB hv hC
          go_wp2_with ((with_reducible refine gate_builtin (b := .append) (xs := #[.tmp 31, .tmp 32]) rfl ?_); at_builtin; refine Kd.R_append_rows (Kd.int .u8) (w0 := w) w.heap.size rfl (.tmp 31) (.tmp 32) 23 5 (.int .u8 0) 1 rfl Tryz.underlying23 info5 rfl (by decide) (by omega) _ ([] : List Int) l1 _ _ _ (fun _ => True) (fun _ => False) rfl rfl ?aO ?aR (fun _ _ h => h) (fun _ h => h.elim) ?aF ?aB ?aS ?aL ?_; (case aR => exact HO.out.2.2); (case aB => exact HO.out.1); (case aF => exact (fun _ _ => trivial)); (case aO => exact HO.out.2.1); (case aS => exact HO.out.1.size); (case aL => have := HNN.out; simp; omega); intro v1 w3 ho hb hg hat)
          go_roundg 1
          case measure => omega
          case rel => exact ⟨hb, .inr (.inl ⟨rfl, rfl, by simpa using ho⟩)⟩
        · have dd := D.out.2 _ hB
          have hC := Kd.C_below H2.out hB
          rw [← HNN.out.2] at hC
          have HO := Lib.hid (And.intro hB (And.intro hv hC))
          clear hB hv hC
          go_wp2_with ((with_reducible refine gate_builtin (b := .append) (xs := #[.tmp 31, .tmp 32]) rfl ?_); at_builtin; refine Kd.R_append_rows (Kd.int .u8) (w0 := w) w.heap.size rfl (.tmp 31) (.tmp 32) 23 5 (.int .u8 0) 1 rfl Tryz.underlying23 info5 rfl (by decide) (by omega) _ l1 l2 _ _ _ (fun _ => True) (fun _ => False) rfl rfl ?aO ?aR (fun _ _ h => h) (fun _ h => h.elim) ?aF ?aB ?aS ?aL ?_; (case aR => exact HO.out.2.2); (case aB => exact HO.out.1); (case aF => exact (fun _ _ => trivial)); (case aO => exact HO.out.2.1); (case aS => exact HO.out.1.size); (case aL => have := HNN.out; simp; omega); intro v1 w3 ho hb hg hat)
          go_roundg 0
          case measure => omega
          case rel => exact ⟨hb, .inr (.inr ⟨rfl, rfl, ho⟩)⟩
        · clear HNN D
          go_wp2
          go_ret
          refine ⟨_, ?_, hv, hB⟩
          rfl
end Go.Proofs.YthmijenlndnmcaaGreatDoor.Sh
