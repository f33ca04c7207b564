/-
  Hand-made contracts of functions of the program: RefBefore, RefFeed, RefEnd, RefThrough.
-/
import Derived.Test.YthmijenlndnmcaaGreatDoorHF
import Derived.Test.YthmijenlndnmcaaGreatDoorShx0
namespace Go.Proofs.YthmijenlndnmcaaGreatDoor.Sh
open Go.RowKit Go.Proofs.YthmijenlndnmcaaGreatDoorW.PrintWords Go.Proofs.YthmijenlndnmcaaGreatDoorW.PrintLast Go.Proofs.YthmijenlndnmcaaGreatDoorW.PrintMore
attribute [local go_sem] max2_int min2_int max_two min_two max_three min_three max_four min_four
set_option linter.unusedVariables false
set_option linter.unusedSimpArgs false

/-! ### the page's checks, of cat -/
set_option maxRecDepth 100000 in
theorem ref_known_cat (w : World) : Calls Tryz.prog 29 #[.string (⟨#[99, 97, 116]⟩ : ByteArray)] w fun e w' => e = .returned (.bool true) ∧ Below w.heap.size w w' := by
  go_enter Tryz.func29, Tryz.ntmps29
  go_wp2
  refine wp_loop_rounds 1 ?_
  rw [rounds_succ]
  go_wp2
  go_ret
  exact ⟨rfl, by (repeat (first | with_reducible exact Below.refl _ _ | with_reducible apply below_alloc | with_reducible apply Below.drew | (refine below_step ?_ (by assumption))))⟩
set_option maxRecDepth 100000 in
theorem ref_size_nil (A : Option Addr) (c : Nat) (w : World) : Calls Tryz.prog 55 #[.slice A 0 c] w fun e w' => e = .returned (.tuple #[.int .i64 0, .bool true]) ∧ Below w.heap.size w w' := by
  go_enter Tryz.func55, Tryz.ntmps55
  go_wp2
  go_ret2
  exact ⟨rfl, Below.refl _ _⟩
set_option maxRecDepth 100000 in
theorem ref_check_cat (w : World) : Calls Tryz.prog 14 #[.agg #[.string (⟨#[99, 97, 116]⟩ : ByteArray), .int .i64 0, .string (⟨#[]⟩ : ByteArray)]] w fun e w' => e = .returned (.int .i64 0) ∧ Below w.heap.size w w' := by
  have hu := Tryz.underlying28
  go_enter Tryz.func14, Tryz.ntmps14
  go_wp2_with fail
  refine (ref_known_cat _).mono ?_
  rintro e w1 ⟨rfl, q1⟩
  have k1 := blk_below (blk_new w (.cells #[.string (⟨#[99, 97, 116]⟩ : ByteArray), .int .i64 0, .string (⟨#[]⟩ : ByteArray)] 28)) q1
  have e0 := blk_cell k1 0
  have e1 := blk_cell k1 1
  have e2 := blk_cell k1 2
  have b1 := Lib.hid (below_step (below_alloc (Below.refl w.heap.size w) _) q1)
  clear k1 q1
  simp only []
  go_at_K
  go_wp2
  go_ret
  exact ⟨rfl, b1.out⟩
set_option maxRecDepth 100000 in
theorem ref_before_cat (A : Option Addr) (c : Nat) (n : Int) (A3 : Option Addr) (l3 c3 : Nat) (w : World) (h0 : 0 ≤ n) (h1 : n ≤ 1099511627776) (h3 : l3 ≤ 65536) :
    Calls Tryz.prog 50 #[.agg #[.string (⟨#[99, 97, 116]⟩ : ByteArray), .int .i64 0, .string (⟨#[]⟩ : ByteArray)], .slice A 0 c, .int .i64 n, .slice A3 l3 c3] w fun e w' => e = .returned (.int .i64 0) ∧ Below w.heap.size w w' := by
  have hu := Tryz.underlying28
  have g0 : decide (n < 0) = false := decide_eq_false (by omega)
  have g1 : decide (n > 1099511627776) = false := decide_eq_false (by omega)
  have g3 : decide ((l3 : Int) > 65536) = false := decide_eq_false (by omega)
  clear h0 h1 h3
  go_enter Tryz.func50, Tryz.ntmps50
  go_wp2_with fail
  refine (ref_size_nil A c _).mono ?_
  rintro e w1 ⟨rfl, q1⟩
  have k1 := blk_below (blk_new w (.cells #[.string (⟨#[99, 97, 116]⟩ : ByteArray), .int .i64 0, .string (⟨#[]⟩ : ByteArray)] 28)) q1
  have e0 := blk_cell k1 0
  have e1 := blk_cell k1 1
  have e2 := blk_cell k1 2
  have b1 := below_step (below_alloc (Below.refl w.heap.size w) _) q1
  have K1 := Lib.hid k1
  clear k1 q1
  simp only []
  go_at_K
  go_wp2_with fail
  refine (ref_check_cat _).mono ?_
  rintro e w2 ⟨rfl, q2⟩
  have k2 := blk_below K1.out q2
  have f0 := blk_cell k2 0
  have f1 := blk_cell k2 1
  have f2 := blk_cell k2 2
  have b2 := Lib.hid (below_step b1 q2)
  clear k2 q2 e0 e1 e2
  simp only []
  go_at_K
  go_wp2
  go_ret
  exact ⟨rfl, b2.out⟩
set_option maxRecDepth 100000 in
theorem ref_copied (A : Option Addr) (c : Nat) (l : List Int) (w : World) (hr : Kd.C (Kd.int .u8) w A l.length l) (hl : l.length ≤ 65536) :
    Calls Tryz.prog 51 #[.slice A l.length c] w fun e w' => ∃ v, e = .returned v ∧ Kd.R (Kd.int .u8) 5 w' w.heap.size (fun _ => True) v l ∧ Below w.heap.size w w' := by
  obtain ⟨v6, w6, hrun, hR6, hg6, _⟩ := run_R_append (c := c) (Kd.R_nil (Kd.int .u8) 5 w w.heap.size (fun _ => True)) hr (Nat.le_refl _) (by simp; omega)
  rw [List.nil_append] at hR6
  have H6 := Lib.hid (And.intro hR6 ((Below.refl w.heap.size w).grown hg6 (Nat.le_refl _) (fun k e => by simp [Value.ownBlock] at e)))
  clear hr hl hR6 hg6
  go_enter Tryz.func51, Tryz.ntmps51
  go_wp2_with (at_builtin; refine wpList_append_run w rfl (.tmp 4) (.tmp 5) 23 rfl (.slice none 0 0) rfl (.slice A l.length c) rfl v6 w6 hrun ?_; clear hrun)
  go_ret
  exact ⟨_, rfl, H6.out⟩


/-! ### the page's Feed, of cat -/
set_option maxHeartbeats 2000000 in
set_option maxRecDepth 100000 in
theorem ref_feed_cat (A1 : Option Addr) (c1 : Nat) (a2 : Int) (A3 : Option Addr) (c3 : Nat) (l3 : List Int) (w : World) (hr3 : Kd.C (Kd.int .u8) w A3 l3.length l3) (ha0 : 0 ≤ a2) (ha1 : a2 ≤ 1099511627776) (hl3 : l3.length ≤ 65536) :
    Calls Tryz.prog 27 #[.agg #[.string (⟨#[99, 97, 116]⟩ : ByteArray), .int .i64 0, .string (⟨#[]⟩ : ByteArray)], .slice A1 0 c1, .int .i64 a2, .slice A3 l3.length c3] w fun e w' => ∃ v0_ v1_ : Value, e = .returned (.tuple #[v0_, v1_, .int .i64 (a2 + 1), .bool true, .int .i64 0]) ∧
      Kd.R (Kd.int .u8) 5 w' w.heap.size (fun k_ => some k_ ≠ (v1_ : Value).ownBlock) v0_ l3 ∧ Kd.R (Kd.int .u8) 5 w' w.heap.size (fun k_ => some k_ ≠ (v0_ : Value).ownBlock) v1_ [] ∧ Below w.heap.size w w' := by
  have hu := Tryz.underlying28
  have HB := Lib.hid (fun W => ref_before_cat A1 c1 a2 A3 l3.length c3 W ha0 ha1 hl3)
  have HC1 := Lib.hid (fun W => ref_copied A1 c1 [] W ⟨rfl, by simp, fun h => absurd h (Nat.lt_irrefl 0)⟩ (by simp))
  have HC3 := Lib.hid (fun W (hB : Below w.heap.size w W) => ref_copied A3 c3 l3 W (Kd.C_below hr3 hB) hl3)
  simp only [List.length_nil] at HC1
  have hw1 : wrap64 (a2 + 1) = a2 + 1 := by unfold wrap64; omega
  clear hr3 hl3 ha0 ha1
  go_enter Tryz.func27, Tryz.ntmps27
  go_wp2_with (first
    | (go_at_call 50; go_must (refine (HB.out _).mono ?_); go_must (rintro e w1 ⟨rfl, q1⟩); have b1 := below_step (below_alloc (Below.refl _ _) _) q1; have k1 := blk_below (blk_new w _) q1)
    | (go_at_call 51; first
      | (with_reducible (refine (HC3.out w2 b2).mono ?_); go_must (rintro e w3 ⟨v3, rfl, h3, q3⟩))
      | (go_must (refine (HC1.out w1).mono ?_); go_must (rintro e w2 ⟨v2, rfl, h2, q2⟩); have b2 := below_step b1 q2; have k2 := blk_below k1 q2; have t0 : w2.cell? ⟨w.heap.size, 0, none⟩ = some (.string _) := blk_cell k2 0)))
  refine bodyPost_ret (results_tmp5 rfl _ _ _) rfl ⟨v3, v2, rfl, ?_, ?_, below_step b2 q3⟩
  · refine Kd.R_lower (Kd.R_mono (Kd.R_bound h3) (fun k hk e => ?_)) b2.size
    have h4 := own_lt h2 e.symm
    have := hk.2.1
    omega
  · refine Kd.R_lower (Kd.R_step (Kd.R_mono (Kd.R_bound h2) (fun k hk e => ?_)) (fun i _ hlt => q3.block i hlt)) b1.size
    obtain ⟨inner, ho⟩ := Kd.R_own h3
    have := own_base ho k e.symm
    have := hk.2.2.1
    omega


/-! ### the page's End, of cat -/
set_option maxHeartbeats 2000000 in
set_option maxRecDepth 100000 in
theorem ref_end_cat (A1 : Option Addr) (c1 : Nat) (a2 : Int) (w : World) (h0 : 0 ≤ a2) (h1 : a2 ≤ 1099511627776) :
    Calls Tryz.prog 28 #[.agg #[.string (⟨#[99, 97, 116]⟩ : ByteArray), .int .i64 0, .string (⟨#[]⟩ : ByteArray)], .slice A1 0 c1, .int .i64 a2] w fun e w' => ∃ v0_ : Value, e = .returned (.tuple #[v0_, .int .i64 0]) ∧
      Kd.R (Kd.int .u8) 5 w' w.heap.size (fun _ => True) v0_ [] ∧ Below w.heap.size w w' := by
  have hu := Tryz.underlying28
  have HB := Lib.hid (fun W => ref_before_cat A1 c1 a2 none 0 0 W h0 h1 (by omega))
  clear h0 h1
  go_enter Tryz.func28, Tryz.ntmps28
  go_wp2_with (go_at_call 50; go_must (refine (HB.out _).mono ?_); go_must (rintro e w1 ⟨rfl, q1⟩); have b1 := below_step (below_alloc (Below.refl _ _) _) q1; have k1 := blk_below (blk_new w _) q1; have t0 : w1.cell? ⟨w.heap.size, 0, none⟩ = some (.string _) := blk_cell k1 0)
  go_ret2
  exact ⟨_, rfl, Kd.R_nil _ _ _ _ _, b1⟩


/-! ### the page's Through, of cat -/
/-- A text behind which a new line begins. -/
def Cut (a : List Int) : Prop := ∀ x, ln (a ++ x) = ln a ++ ln x
theorem Cut.nil : Cut [] := fun _ => rfl
theorem Cut.ln_full {a b : List Int} (h : Cut a) (hb : (10 : Int) ∉ b) : ln (a ++ (b ++ [10])) = ln a ++ [b ++ [10]] := by
  rw [h, Sh.ln_full b [] hb]; rfl
theorem Cut.next {a b : List Int} (h : Cut a) (hb : (10 : Int) ∉ b) : Cut (a ++ (b ++ [10])) := by
  intro x
  rw [h.ln_full hb, List.append_assoc, h, List.append_assoc b, List.singleton_append, Sh.ln_full b x hb]
  simp
theorem Cut.last {a b : List Int} (h : Cut a) (hb : (10 : Int) ∉ b) (hne : b ≠ []) : ln (a ++ b) = ln a ++ [b] := by
  rw [h, ln_tail b hb hne]
theorem seg_step {t : List Int} {fr i : Nat} (hf : fr ≤ i) (hi : i < t.length) : (t.take (i + 1)).drop fr = (t.take i).drop fr ++ [t[i]] := by
  rw [List.take_succ_eq_append_getElem hi, List.drop_append_of_le_length (by simp; omega)]
theorem seg_whole {t : List Int} {fr i : Nat} (hf : fr ≤ i) : t.take fr ++ (t.take i).drop fr = t.take i := by
  have : t.take fr = (t.take i).take fr := by rw [List.take_take, Nat.min_eq_left hf]
  rw [this, List.take_append_drop]
theorem slice_var {α : Type} {d : Kd α} {e base : Nat} {ok : Nat → Prop} {W : World} {v : Value} {l : List α} (h : d.R e W base ok v l) : ∃ A n c, n = l.length ∧ v = .slice A n c := by
  obtain ⟨A, c, rfl⟩ := Kd.R_slice h
  exact ⟨A, _, c, rfl, rfl⟩
theorem R_stays {α : Type} {d : Kd α} {e base : Nat} {W W2 : World} {v : Value} {l : List α} (h : d.R e W base (fun _ => True) v l) (hk : ∀ k, base ≤ k → k < W.heap.size → W2.heap[k]? = W.heap[k]?) : d.R e W2 base (fun _ => True) v l :=
  Kd.R_mono (Kd.R_step (Kd.R_bound h) (fun k ho hlt => hk k ho.2.1 hlt)) (fun _ _ => trivial)
theorem infoU8 : (Tryz.prog.info? 5).map (fun i => (i.zero, i.size, i.bytes)) = some (some (.int .u8 0), 1, 1) := by kernel_rfl
set_option maxHeartbeats 40000000 in
set_option maxRecDepth 100000 in
theorem ref_through.calls (A : Option Addr) (c : Nat) (t : List Int) (w : World) (hr : Kd.C (Kd.int .u8) w A t.length t) (hc : t.length ≤ c) :
    Calls Tryz.prog 12 #[.agg #[.string (⟨#[99, 97, 116]⟩ : ByteArray), .int .i64 0, .string (⟨#[]⟩ : ByteArray)], .slice A t.length c] w fun e w' =>
      ∃ v r, e = .returned (.tuple #[v, .int .i64 r]) ∧ Below w.heap.size w w' ∧ (t.length ≤ 1048576 → ¬ shortL t → r ≠ 0) := by
  have hu := Tryz.underlying28
  obtain ⟨i5, hi5, _, hz5, _⟩ := info_parts infoU8
  have hmx : t.length ≤ 9223372036854775807 := hr.2.1
  have HC := Lib.hid (fun W (hB : Below w.heap.size w W) => Kd.C_below hr hB)
  have HMD := Lib.hid (fun (a b : Int) h0 h1 hm => print_mid_int (P := Tryz.prog) (k := .u8) 23 5 Tryz.underlying23 hi5 hz5 A c t a b h0 h1 hm hc)
  have HFD := Lib.hid (fun (A1 : Option Addr) (c1 : Nat) (a2 : Int) (A3 : Option Addr) (c3 : Nat) (l3 : List Int) (W : World) hr3 (h2 : 0 ≤ a2) (h3 : a2 ≤ 1099511627776) (h4 : l3.length ≤ 65536) => ref_feed_cat A1 c1 a2 A3 c3 l3 W hr3 h2 h3 h4)
  have HED := Lib.hid (fun (A1 : Option Addr) (c1 : Nat) (a2 : Int) (W : World) (h2 : 0 ≤ a2) (h3 : a2 ≤ 1099511627776) => ref_end_cat A1 c1 a2 W h2 h3)
  have HR := Lib.hid hr
  have HH := Lib.hid hc
  clear hr hc
  go_enter Tryz.func12, Tryz.ntmps12
  go_wp2
  obtain ⟨W0, hW0⟩ : ∃ W0, W0 = w.alloc (.cells #[.string (⟨#[99, 97, 116]⟩ : ByteArray), .int .i64 0, .string (⟨#[]⟩ : ByteArray)] 28) := ⟨_, rfl⟩
  rw [← hW0]
  have BX : W0.heap[w.heap.size]? = some (.cells #[.string (⟨#[99, 97, 116]⟩ : ByteArray), .int .i64 0, .string (⟨#[]⟩ : ByteArray)] 28 (0, 0)) := by rw [hW0]; exact blk_new w _
  have B0 : Below w.heap.size w W0 := by rw [hW0]; exact below_alloc (Below.refl _ _) _
  have b0 := blk_cell BX 0
  have HB0 := Lib.hid (And.intro BX B0)
  clear hW0 BX B0
  refine start_ (n := 10) (S := fun w' => w'.cell? ⟨w.heap.size, 0, none⟩ = some (.string (⟨#[99, 97, 116]⟩ : ByteArray))) (ds := []) #[false, false, false, false, false, false, false, false, false, false] (by kernel_rfl) rfl rfl (b0) (fun hHeld => ?_)
  refine pure_ (i := 0) (N := some 19) (v := ?_) (a' := ?_) #[true, false, false, false, false, false, false, false, false, false] rfl rfl (by kernel_rfl) (fun _ _ _ h => h) (Or.inl ⟨by rfl, ?_⟩) ?_ ?_
  rotate_left
  · intro w'
    go_simp
    with_reducible rfl
  rotate_left
  · simp only [Act.put, List.setIfInBounds_toArray, List.set_cons_zero, List.set_cons_succ, i64_w, i32_w]
    rfl
  refine take_ (i := 1) (N := some 20) (v := ?_) (a' := ?_) #[true, true, false, false, false, false, false, false, false, false] rfl rfl (by kernel_rfl) (fun _ _ _ h => h) (Or.inl ⟨by rfl, ?_⟩) hHeld ?_ ?_
  rotate_left
  · intro w' s0
    go_simp
    with_reducible rfl
  rotate_left
  · simp only [Act.put, List.setIfInBounds_toArray, List.set_cons_zero, List.set_cons_succ, i64_w, i32_w]
    rfl
  refine pure_ (i := 2) (N := some 21) (v := ?_) (a' := ?_) #[true, true, true, false, false, false, false, false, false, false] rfl rfl (by kernel_rfl) (fun _ _ _ h => h) (Or.inl ⟨by rfl, ?_⟩) ?_ ?_
  rotate_left
  · intro w'
    go_simp
    with_reducible rfl
  rotate_left
  · simp only [Act.put, List.setIfInBounds_toArray, List.set_cons_zero, List.set_cons_succ, i64_w, i32_w]
    rfl
  refine pure_ (i := 3) (N := some 22) (v := ?_) (a' := ?_) #[true, true, true, true, false, false, false, false, false, false] rfl rfl (by kernel_rfl) (fun _ _ _ h => h) (Or.inl ⟨by rfl, ?_⟩) ?_ ?_
  rotate_left
  · intro w'
    go_simp
    with_reducible rfl
  rotate_left
  · simp only [Act.put, List.setIfInBounds_toArray, List.set_cons_zero, List.set_cons_succ, i64_w, i32_w]
    rfl
  refine pure_ (i := 4) (N := some 23) (v := undef) (a' := ?_) #[true, true, true, true, true, false, false, false, false, false] rfl rfl (by kernel_rfl) (fun _ _ _ h => h) (Or.inr ⟨by rfl, rfl⟩) ?_ ?_
  rotate_left
  · simp only [Act.put, List.setIfInBounds_toArray, List.set_cons_zero, List.set_cons_succ, i64_w, i32_w]
    rfl
  refine pure_ (i := 5) (N := some 24) (v := undef) (a' := ?_) #[true, true, true, true, true, true, false, false, false, false] rfl rfl (by kernel_rfl) (fun _ _ _ h => h) (Or.inr ⟨by rfl, rfl⟩) ?_ ?_
  rotate_left
  · simp only [Act.put, List.setIfInBounds_toArray, List.set_cons_zero, List.set_cons_succ, i64_w, i32_w]
    rfl
  refine pure_ (i := 6) (N := some 25) (v := undef) (a' := ?_) #[true, true, true, true, true, true, true, false, false, false] rfl rfl (by kernel_rfl) (fun _ _ _ h => h) (Or.inr ⟨by rfl, rfl⟩) ?_ ?_
  rotate_left
  · simp only [Act.put, List.setIfInBounds_toArray, List.set_cons_zero, List.set_cons_succ, i64_w, i32_w]
    rfl
  refine pure_ (i := 7) (N := some 26) (v := ?_) (a' := ?_) #[true, true, true, true, true, true, true, true, false, false] rfl rfl (by kernel_rfl) (fun _ _ _ h => h) (Or.inl ⟨by rfl, ?_⟩) ?_ ?_
  rotate_left
  · intro w'
    go_simp
    with_reducible rfl
  rotate_left
  · simp only [Act.put, List.setIfInBounds_toArray, List.set_cons_zero, List.set_cons_succ, i64_w, i32_w]
    rfl
  refine pure_ (i := 8) (N := some 8) (v := ?_) (a' := ?_) #[true, true, true, true, true, true, true, true, true, false] rfl rfl (by kernel_rfl) (fun _ _ _ h => h) (Or.inl ⟨by rfl, ?_⟩) ?_ ?_
  rotate_left
  · intro w'
    go_simp
    with_reducible rfl
  rotate_left
  · simp only [Act.put, List.setIfInBounds_toArray, List.set_cons_zero, List.set_cons_succ, i64_w, i32_w]
    rfl
  refine pure_ (i := 9) (N := some 9) (v := ?_) (a' := ?_) #[true, true, true, true, true, true, true, true, true, true] rfl rfl (by kernel_rfl) (fun _ _ _ h => h) (Or.inl ⟨by rfl, ?_⟩) ?_ ?_
  rotate_left
  · intro w'
    go_simp
    with_reducible rfl
  rotate_left
  · simp only [Act.put, List.setIfInBounds_toArray, List.set_cons_zero, List.set_cons_succ, i64_w, i32_w]
    rfl
  refine done_ (by kernel_rfl) ?_
  go_wp2
  go_loopg [6, 7, 8, 9, 10, 11] t.length (fun k v6 v7 v8 v9 v10 v11 wr => ∃ (i fr m : Nat) (A7 : Option Addr) (c7 : Nat), v11 = .int .i64 i ∧ v10 = .int .i64 fr ∧ v8 = .int .i64 m ∧ v9 = .bool true ∧ v7 = .slice A7 0 c7 ∧ (i ≤ t.length ∧ k = t.length - i ∧ fr ≤ i ∧ m ≤ fr ∧ fr ≤ 1048576) ∧
      Kd.R (Kd.int .u8) 5 wr (w.heap.size + 1) (fun _ => True) v6 (t.take fr) ∧ Below w.heap.size w wr ∧ wr.heap[w.heap.size]? = some (.cells #[.string (⟨#[99, 97, 116]⟩ : ByteArray), .int .i64 0, .string (⟨#[]⟩ : ByteArray)] 28 (0, 0)) ∧
      (∀ l ∈ ln (t.take fr), l.length ≤ 65536) ∧ (10 : Int) ∉ (t.take i).drop fr ∧ (Cut (t.take fr) ∨ fr = t.length) ∧ (i = t.length → fr = t.length))
  case atStart => exact ⟨0, 0, 0, none, 0, rfl, rfl, rfl, rfl, rfl, ⟨by omega, by omega, by omega, by omega, by omega⟩, Kd.R_nil _ _ _ _ _, HB0.out.2.drew, HB0.out.1, by simp [ln], by simp, .inl Cut.nil, fun h => h⟩
  case round =>
    clear HB0 b0
    obtain ⟨i, fr, m, A7, c7, rfl, rfl, rfl, rfl, rfl, ⟨hi, hk, hfi, hmf, hfm⟩, hro, hB, hbx, hsh, hno, hcut, hend⟩ := hrel
    obtain ⟨A6, c6, rfl⟩ := Kd.R_slice hro
    have htl : (t.take fr).length = fr := by rw [List.length_take]; omega
    rw [htl] at hro
    have b0 : wr.cell? ⟨w.heap.size, 0, none⟩ = _ := blk_cell hbx 0
    have b1 : wr.cell? ⟨w.heap.size, 1, none⟩ = _ := blk_cell hbx 1
    have b2 : wr.cell? ⟨w.heap.size, 2, none⟩ = _ := blk_cell hbx 2
    have HK := Lib.hid (And.intro hk (And.intro hfi (And.intro hmf hfm)))
    have HS := Lib.hid (And.intro hro (And.intro hB (And.intro hbx (And.intro hsh (And.intro hno (And.intro hcut hend))))))
    clear hk hfi hmf hfm hro hB hbx hsh hno hcut hend
    rw [htl]
    by_cases hlt : i < t.length
    · have g1 : decide ((i : Int) < (t.length : Int)) = true := by simp; omega
      have hwi : wrap64 ((i : Int) + 1) = (i : Int) + 1 := by unfold wrap64; have := hmx; omega
      have hws : wrap64 ((i : Int) + 1 - (fr : Int)) = (i : Int) + 1 - (fr : Int) := by unfold wrap64; have := hmx; have := HK.out; omega
      obtain ⟨ad, eA, hx⟩ := Kd.at_int (HC.out wr HS.out.2.1) (i : Int) (by omega) (by omega)
      subst eA
      rw [Int.toNat_natCast] at hx
      have erd : rd t (i : Int) = t[i] := by simp [rd, hlt]
      rw [erd] at hx
      obtain ⟨x, hxx⟩ : ∃ x, x = t[i] := ⟨_, rfl⟩
      rw [← hxx] at hx
      have p0 : (0 : Int) ≤ (i : Int) := by omega
      have p1 : (i : Int) < (t.length : Int) := by omega
      by_cases hlong : (i : Int) + 1 - (fr : Int) > 65536
      · have g2 : decide ((i : Int) + 1 - (fr : Int) > 65536) = true := decide_eq_true hlong
        have HLO := Lib.hid hlong
        clear hlong hlt erd hxx
        go_wp2
        go_ret2
        exact ⟨_, 5, rfl, HS.out.2.1, fun _ _ => by omega⟩
      · have g2 : decide ((i : Int) + 1 - (fr : Int) > 65536) = false := decide_eq_false hlong
        have hseg := seg_step (t := t) (fr := fr) (i := i) HK.out.2.1 hlt
        rw [← hxx] at hseg
        clear erd hxx
        by_cases hcont : x ≠ 10 ∧ i + 1 < t.length
        · have g3 : (x != 10) = true := by simpa using hcont.1
          have g4 : decide ((i : Int) + 1 < (t.length : Int)) = true := by simp; omega
          have HX := Lib.hid (And.intro hcont hseg)
          clear hcont hseg hlong hlt
          go_wp2
          go_roundg (t.length - (i + 1))
          case measure => have := HK.out.1; omega
          case rel =>
            obtain ⟨hro, hB, hbx, hsh, hno, hcut, hend⟩ := HS.out
            refine ⟨i + 1, fr, m, A7, c7, by simp, rfl, rfl, rfl, rfl, ⟨by omega, rfl, by have := HK.out; omega, by have := HK.out; omega, by have := HK.out; omega⟩, hro, hB, hbx, hsh, ?_, hcut, fun h => by have := HX.out.1.2; omega⟩
            rw [HX.out.2]
            simp only [List.mem_append, List.mem_singleton, not_or]
            exact ⟨hno, fun e => HX.out.1.1 e.symm⟩
        · -- a line's end
          have hseg0 : (10 : Int) ∉ (t.take i).drop fr := HS.out.2.2.2.2.1
          have hln : ((t.take (i + 1)).drop fr).length = i + 1 - fr := by rw [List.length_drop, List.length_take]; omega
          obtain ⟨A', hsl, hrd, hcp⟩ := HMD.out (fr : Int) ((i : Int) + 1) (by omega) (by have := HK.out; omega) (by omega)
          have et1 : ((i : Int) + 1).toNat = i + 1 := by omega
          rw [et1, Int.toNat_natCast] at hsl hrd hcp
          have HRD := Lib.hid (fun W (hW : Below w.heap.size w W) => Kd.C_of_reads (d := (0 : Int)) (h1 := fun _ => rfl) (hrd W (Kd.reads_of_C (d := (0 : Int)) (h1 := fun _ => rfl) (HC.out W hW))))
          have HFE := Lib.hid (fun W (hW : Below wr.heap.size wr W) => HFD.out A7 c7 (m : Int) A' (c - fr) ((t.take (i + 1)).drop fr) W (HRD.out W (HS.out.2.1.trans (hW.mono HS.out.2.1.size))) (by omega) (by have := HK.out; omega) (by rw [hln]; omega))
          have HX := Lib.hid (And.intro hcont (And.intro hseg (And.intro hseg0 (And.intro hln hlong))))
          obtain ⟨sl, hsl0⟩ : ∃ sl, sl = ((t.take (i + 1)).drop fr).length := ⟨_, rfl⟩
          obtain ⟨cf, hcf⟩ : ∃ cf, cf = c - fr := ⟨_, rfl⟩
          rw [← hsl0, ← hcf] at hsl HFE
          clear hsl0 hcf
          by_cases hx10 : x = 10
          · have g3 : (x != 10) = false := by simpa using hx10
            have HX2 := Lib.hid hx10
            clear hcont hseg hseg0 hln hlong hlt hrd hcp et1 hx10 HFD HED HMD HRD HC
            go_wp2
            refine start_ (n := 20) (S := fun w' => w'.cell? ⟨w.heap.size, 0, none⟩ = some (.string (⟨#[99, 97, 116]⟩ : ByteArray)) ∧ w'.cell? ⟨w.heap.size, 1, none⟩ = some (.int .i64 0) ∧ w'.cell? ⟨w.heap.size, 2, none⟩ = some (.string (⟨#[]⟩ : ByteArray))) (ds := []) #[false, false, false, false, false, false, false, false, false, false, false, false, false, false, false, false, false, false, false, false] (by kernel_rfl) rfl rfl ⟨b0, b1, b2⟩ (fun hHeld => ?_)
            refine pure_ (i := 1) (N := some 55) (v := ?_) (a' := ?_) #[false, true, false, false, false, false, false, false, false, false, false, false, false, false, false, false, false, false, false, false] rfl rfl (by kernel_rfl) (fun _ _ _ h => h) (Or.inl ⟨by rfl, ?_⟩) ?_ ?_
            rotate_left
            · intro w'
              go_simp
              with_reducible rfl
            rotate_left
            · simp only [Act.put, List.setIfInBounds_toArray, List.set_cons_zero, List.set_cons_succ, i64_w, i32_w]
              rfl
            refine pure_ (i := 2) (N := some 56) (v := ?_) (a' := ?_) #[false, true, true, false, false, false, false, false, false, false, false, false, false, false, false, false, false, false, false, false] rfl rfl (by kernel_rfl) (fun _ _ _ h => h) (Or.inl ⟨by rfl, ?_⟩) ?_ ?_
            rotate_left
            · intro w'
              go_simp
              with_reducible rfl
            rotate_left
            · simp only [Act.put, List.setIfInBounds_toArray, List.set_cons_zero, List.set_cons_succ, i64_w, i32_w]
              rfl
            refine pure_ (i := 3) (N := some 57) (v := ?_) (a' := ?_) #[false, true, true, true, false, false, false, false, false, false, false, false, false, false, false, false, false, false, false, false] rfl rfl (by kernel_rfl) (fun _ _ _ h => h) (Or.inl ⟨by rfl, ?_⟩) ?_ ?_
            rotate_left
            · intro w'
              go_simp
              with_reducible rfl
            rotate_left
            · simp only [Act.put, List.setIfInBounds_toArray, List.set_cons_zero, List.set_cons_succ, i64_w, i32_w]
              rfl
            refine pure_ (i := 4) (N := some 58) (v := ?_) (a' := ?_) #[false, true, true, true, true, false, false, false, false, false, false, false, false, false, false, false, false, false, false, false] rfl rfl (by kernel_rfl) (fun _ _ _ h => h) (Or.inl ⟨by rfl, ?_⟩) ?_ ?_
            rotate_left
            · intro w'
              go_simp
              with_reducible rfl
            rotate_left
            · simp only [Act.put, List.setIfInBounds_toArray, List.set_cons_zero, List.set_cons_succ, i64_w, i32_w]
              rfl
            refine pure_ (i := 5) (N := some 59) (v := ?_) (a' := ?_) #[false, true, true, true, true, true, false, false, false, false, false, false, false, false, false, false, false, false, false, false] rfl rfl (by kernel_rfl) (fun _ _ _ h => h) (Or.inl ⟨by rfl, ?_⟩) ?_ ?_
            rotate_left
            · intro w'
              go_simp
              with_reducible rfl
            rotate_left
            · simp only [Act.put, List.setIfInBounds_toArray, List.set_cons_zero, List.set_cons_succ, i64_w, i32_w]
              rfl
            refine pure_ (i := 6) (N := some 60) (v := ?_) (a' := ?_) #[false, true, true, true, true, true, true, false, false, false, false, false, false, false, false, false, false, false, false, false] rfl rfl (by kernel_rfl) (fun _ _ _ h => h) (Or.inl ⟨by rfl, ?_⟩) ?_ ?_
            rotate_left
            · intro w'
              go_simp
              with_reducible rfl
            rotate_left
            · simp only [Act.put, List.setIfInBounds_toArray, List.set_cons_zero, List.set_cons_succ, i64_w, i32_w]
              rfl
            refine pure_ (i := 7) (N := some 61) (v := ?_) (a' := ?_) #[false, true, true, true, true, true, true, true, false, false, false, false, false, false, false, false, false, false, false, false] rfl rfl (by kernel_rfl) (fun _ _ _ h => h) (Or.inl ⟨by rfl, ?_⟩) ?_ ?_
            rotate_left
            · intro w'
              go_simp
              with_reducible rfl
            rotate_left
            · simp only [Act.put, List.setIfInBounds_toArray, List.set_cons_zero, List.set_cons_succ, i64_w, i32_w]
              rfl
            refine take_ (i := 0) (N := some 54) (v := ?_) (a' := ?_) #[true, true, true, true, true, true, true, true, false, false, false, false, false, false, false, false, false, false, false, false] rfl rfl (by kernel_rfl) (fun _ _ _ h => h) (Or.inl ⟨by rfl, ?_⟩) hHeld ?_ ?_
            rotate_left
            · rintro w' ⟨s0, s1, s2⟩
              go_simp
              with_reducible rfl
            rotate_left
            · simp only [Act.put, List.setIfInBounds_toArray, List.set_cons_zero, List.set_cons_succ, i64_w, i32_w]
              rfl
            refine one_ (i := 8) (N := some 62) #[true, true, true, true, true, true, true, true, true, false, false, false, false, false, false, false, false, false, false, false] rfl rfl (by kernel_rfl) (by decide) (fun K hK => ?_)
            refine goes_ Tryz.func27 (by kernel_rfl) rfl #[.agg #[.string (⟨#[99, 97, 116]⟩ : ByteArray), .int .i64 0, .string (⟨#[]⟩ : ByteArray)], .slice A7 0 c7, .int .i64 (m : Int), .slice A' sl cf] (by rfl) rfl rfl (by simp only [List.map_toArray, List.map_cons, List.map_nil]; rfl) ?_
            with_reducible refine (HFE.out _ (Below.drew (Below.refl _ _))).mono ?_
            rintro e w5 ⟨v0, v1, rfl, h0, h1, q5⟩
            refine ⟨_, rfl, ?_⟩
            have q5' := below_then (Below.drew (Below.refl wr.heap.size wr)) (Nat.le_refl _) q5
            obtain ⟨A0, n0, c0, hn0, rfl⟩ := slice_var h0
            obtain ⟨A1, n1, c1, hn1, rfl⟩ := slice_var h1
            obtain rfl : n1 = 0 := hn1
            have HN0 := Lib.hid hn0
            clear hn0
            refine hK.out _ _ ⟨(pw_cell_below q5' b0), (pw_cell_below q5' b1), (pw_cell_below q5' b2)⟩ (fun hHeld => ?_)
            clear hK K
            refine norm_ (a' := ?_) ?_ ?_
            rotate_left
            · show Act.put _ (some 62) _ = _
              simp only [Act.put, List.setIfInBounds_toArray, List.set_cons_zero, List.set_cons_succ, i64_w, i32_w]
              rfl
            refine pure_ (i := 9) (N := some 53) (v := ?_) (a' := ?_) #[true, true, true, true, true, true, true, true, true, true, false, false, false, false, false, false, false, false, false, false] rfl rfl (by kernel_rfl) (fun _ _ _ h => h) (Or.inl ⟨by rfl, ?_⟩) ?_ ?_
            rotate_left
            · intro w'
              go_simp
              with_reducible rfl
            rotate_left
            · simp only [Act.put, List.setIfInBounds_toArray, List.set_cons_zero, List.set_cons_succ, i64_w, i32_w]
              rfl
            refine pure_ (i := 10) (N := some 63) (v := ?_) (a' := ?_) #[true, true, true, true, true, true, true, true, true, true, true, false, false, false, false, false, false, false, false, false] rfl rfl (by kernel_rfl) (fun _ _ _ h => h) (Or.inl ⟨by rfl, ?_⟩) ?_ ?_
            rotate_left
            · intro w'
              go_simp
              with_reducible rfl
            rotate_left
            · simp only [Act.put, List.setIfInBounds_toArray, List.set_cons_zero, List.set_cons_succ, i64_w, i32_w]
              rfl
            refine pure_ (i := 11) (N := some 64) (v := ?_) (a' := ?_) #[true, true, true, true, true, true, true, true, true, true, true, true, false, false, false, false, false, false, false, false] rfl rfl (by kernel_rfl) (fun _ _ _ h => h) (Or.inl ⟨by rfl, ?_⟩) ?_ ?_
            rotate_left
            · intro w'
              go_simp
              with_reducible rfl
            rotate_left
            · simp only [Act.put, List.setIfInBounds_toArray, List.set_cons_zero, List.set_cons_succ, i64_w, i32_w]
              rfl
            refine pure_ (i := 12) (N := some 65) (v := ?_) (a' := ?_) #[true, true, true, true, true, true, true, true, true, true, true, true, true, false, false, false, false, false, false, false] rfl rfl (by kernel_rfl) (fun _ _ _ h => h) (Or.inl ⟨by rfl, ?_⟩) ?_ ?_
            rotate_left
            · intro w'
              go_simp
              with_reducible rfl
            rotate_left
            · simp only [Act.put, List.setIfInBounds_toArray, List.set_cons_zero, List.set_cons_succ, i64_w, i32_w]
              rfl
            refine pure_ (i := 13) (N := some 66) (v := ?_) (a' := ?_) #[true, true, true, true, true, true, true, true, true, true, true, true, true, true, false, false, false, false, false, false] rfl rfl (by kernel_rfl) (fun _ _ _ h => h) (Or.inl ⟨by rfl, ?_⟩) ?_ ?_
            rotate_left
            · intro w'
              go_simp
              with_reducible rfl
            rotate_left
            · simp only [Act.put, List.setIfInBounds_toArray, List.set_cons_zero, List.set_cons_succ, i64_w, i32_w]
              rfl
            refine pure_ (i := 14) (N := some 67) (v := ?_) (a' := ?_) #[true, true, true, true, true, true, true, true, true, true, true, true, true, true, true, false, false, false, false, false] rfl rfl (by kernel_rfl) (fun _ _ _ h => h) (Or.inl ⟨by rfl, ?_⟩) ?_ ?_
            rotate_left
            · intro w'
              go_simp
              with_reducible rfl
            rotate_left
            · simp only [Act.put, List.setIfInBounds_toArray, List.set_cons_zero, List.set_cons_succ, i64_w, i32_w]
              rfl
            refine pure_ (i := 15) (N := some 12) (v := ?_) (a' := ?_) #[true, true, true, true, true, true, true, true, true, true, true, true, true, true, true, true, false, false, false, false] rfl rfl (by kernel_rfl) (fun _ _ _ h => h) (Or.inl ⟨by rfl, ?_⟩) ?_ ?_
            rotate_left
            · intro w'
              go_simp
              with_reducible rfl
            rotate_left
            · simp only [Act.put, List.setIfInBounds_toArray, List.set_cons_zero, List.set_cons_succ, i64_w, i32_w]
              rfl
            refine pure_ (i := 16) (N := some 13) (v := ?_) (a' := ?_) #[true, true, true, true, true, true, true, true, true, true, true, true, true, true, true, true, true, false, false, false] rfl rfl (by kernel_rfl) (fun _ _ _ h => h) (Or.inl ⟨by rfl, ?_⟩) ?_ ?_
            rotate_left
            · intro w'
              go_simp
              with_reducible rfl
            rotate_left
            · simp only [Act.put, List.setIfInBounds_toArray, List.set_cons_zero, List.set_cons_succ, i64_w, i32_w]
              rfl
            refine pure_ (i := 17) (N := some 14) (v := ?_) (a' := ?_) #[true, true, true, true, true, true, true, true, true, true, true, true, true, true, true, true, true, true, false, false] rfl rfl (by kernel_rfl) (fun _ _ _ h => h) (Or.inl ⟨by rfl, ?_⟩) ?_ ?_
            rotate_left
            · intro w'
              go_simp
              with_reducible rfl
            rotate_left
            · simp only [Act.put, List.setIfInBounds_toArray, List.set_cons_zero, List.set_cons_succ, i64_w, i32_w]
              rfl
            refine pure_ (i := 18) (N := some 15) (v := ?_) (a' := ?_) #[true, true, true, true, true, true, true, true, true, true, true, true, true, true, true, true, true, true, true, false] rfl rfl (by kernel_rfl) (fun _ _ _ h => h) (Or.inl ⟨by rfl, ?_⟩) ?_ ?_
            rotate_left
            · intro w'
              go_simp
              with_reducible rfl
            rotate_left
            · simp only [Act.put, List.setIfInBounds_toArray, List.set_cons_zero, List.set_cons_succ, i64_w, i32_w]
              rfl
            refine pure_ (i := 19) (N := some 16) (v := ?_) (a' := ?_) #[true, true, true, true, true, true, true, true, true, true, true, true, true, true, true, true, true, true, true, true] rfl rfl (by kernel_rfl) (fun _ _ _ h => h) (Or.inl ⟨by rfl, ?_⟩) ?_ ?_
            rotate_left
            · intro w'
              go_simp
              with_reducible rfl
            rotate_left
            · simp only [Act.put, List.setIfInBounds_toArray, List.set_cons_zero, List.set_cons_succ, i64_w, i32_w]
              rfl
            refine done_ (by kernel_rfl) ?_
            have q5'' := below_then (Below.drew (Below.refl wr.heap.size wr)) (Nat.le_refl _) q5
            have hro5 := R_stays HS.out.1 (W2 := w5) (fun k _ hlt => q5''.block k hlt)
            have hC0 := (Kd.R_reads' h0).2.2
            rw [← HN0.out] at hC0
            obtain ⟨v6, w6, hrun, hR6, hg6, hat6⟩ := run_R_append (c := c0) hro5 hC0 (by have := blk_lt HS.out.2.2.1; have := q5''.size; omega) (by rw [HN0.out, List.length_take, HX.out.2.2.2.1]; have := HK.out; have := HX.out.2.2.2.2; omega)
            have H6 := Lib.hid (And.intro q5'' (And.intro hR6 (And.intro hg6 hat6)))
            obtain ⟨A6', n6, c6', hn6, rfl⟩ := slice_var hR6
            have el : n6 = i + 1 := by rw [hn6, List.length_append, List.length_take, HX.out.2.2.2.1]; have := HK.out; omega
            have HEL := Lib.hid el
            clear h0 h1 q5 q5'' hro5 hC0 hR6 hg6 hat6 hn6 el
            have HB6 := Lib.hid (show Below w.heap.size w w6 from ((HS.out.2.1.trans (H6.out.1.mono HS.out.2.1.size)).grown H6.out.2.2.1 (by have := HS.out.2.1.size; have := H6.out.1.size; omega) (fun k e => by obtain ⟨inner, ho⟩ := Kd.R_own HS.out.1; have := own_base ho k e; omega)))
            have HX6 := Lib.hid (blk_grown (blk_below HS.out.2.2.1 H6.out.1) H6.out.2.2.1 (fun e => by obtain ⟨inner, ho⟩ := Kd.R_own HS.out.1; have := own_base ho _ e.symm; omega))
            by_cases hbig : (n6 : Int) > 1048576
            · have g5 : decide ((n6 : Int) > 1048576) = true := decide_eq_true hbig
              clear hbig
              go_wp2_with (at_builtin; refine wpList_append_run w5 rfl (.tmp 68) (.tmp 69) 23 rfl (.slice A6 fr c6) rfl (.slice A0 n0 c0) rfl (.slice A6' n6 c6') w6 hrun ?_)
              go_ret2
              exact ⟨_, 31, rfl, HB6.out, fun _ _ => by omega⟩
            · have g5 : decide ((n6 : Int) > 1048576) = false := decide_eq_false hbig
              have HBG := Lib.hid hbig
              clear hbig
              go_wp2_with (at_builtin; refine wpList_append_run w5 rfl (.tmp 68) (.tmp 69) 23 rfl (.slice A6 fr c6) rfl (.slice A0 n0 c0) rfl (.slice A6' n6 c6') w6 hrun ?_)
              go_roundg (t.length - (i + 1))
              case measure => have := HK.out.1; omega
              case rel =>
                have hct : Cut (t.take fr) := (HS.out.2.2.2.2.2.1).resolve_right (by have := HK.out; omega)
                have hsg := HX.out.2.1
                have hwh : t.take fr ++ (t.take (i + 1)).drop fr = t.take (i + 1) := seg_whole (by have := HK.out; omega)
                rw [HX2.out] at hsg
                have hl2 : ln (t.take (i + 1)) = ln (t.take fr) ++ [(t.take (i + 1)).drop fr] := by have e := hct.ln_full HX.out.2.2.1; rwa [← hsg, hwh] at e
                have hc2 : Cut (t.take (i + 1)) := by have e := hct.next HX.out.2.2.1; rwa [← hsg, hwh] at e
                refine ⟨i + 1, i + 1, m + 1, A1, c1, by simp, by simp, by simp, rfl, rfl, ⟨by omega, rfl, Nat.le_refl _, by have := HK.out; omega, by have := HBG.out; have := HEL.out; omega⟩, by have h := H6.out.2.1; rwa [hwh] at h, HB6.out, HX6.out, ?_, by simp, .inl hc2, fun h => h⟩
                rw [hl2]
                intro l hl
                rcases List.mem_append.1 hl with hl | hl
                · exact HS.out.2.2.2.1 l hl
                · rw [List.mem_singleton.1 hl, HX.out.2.2.2.1]; have := HX.out.2.2.2.2; omega
          · have g3 : (x != 10) = true := by simpa using hx10
            have hend10 : i + 1 = t.length := by
              by_cases he : i + 1 < t.length
              · exact absurd ⟨hx10, he⟩ hcont
              · omega
            have g4 : decide ((i : Int) + 1 < (t.length : Int)) = false := by simp; omega
            have HX2 := Lib.hid (And.intro hx10 hend10)
            clear hcont hseg hseg0 hln hlong hlt hrd hcp et1 hx10 hend10 HFD HED HMD HRD HC
            go_wp2
            refine start_ (n := 20) (S := fun w' => w'.cell? ⟨w.heap.size, 0, none⟩ = some (.string (⟨#[99, 97, 116]⟩ : ByteArray)) ∧ w'.cell? ⟨w.heap.size, 1, none⟩ = some (.int .i64 0) ∧ w'.cell? ⟨w.heap.size, 2, none⟩ = some (.string (⟨#[]⟩ : ByteArray))) (ds := []) #[false, false, false, false, false, false, false, false, false, false, false, false, false, false, false, false, false, false, false, false] (by kernel_rfl) rfl rfl ⟨b0, b1, b2⟩ (fun hHeld => ?_)
            refine pure_ (i := 1) (N := some 55) (v := ?_) (a' := ?_) #[false, true, false, false, false, false, false, false, false, false, false, false, false, false, false, false, false, false, false, false] rfl rfl (by kernel_rfl) (fun _ _ _ h => h) (Or.inl ⟨by rfl, ?_⟩) ?_ ?_
            rotate_left
            · intro w'
              go_simp
              with_reducible rfl
            rotate_left
            · simp only [Act.put, List.setIfInBounds_toArray, List.set_cons_zero, List.set_cons_succ, i64_w, i32_w]
              rfl
            refine pure_ (i := 2) (N := some 56) (v := ?_) (a' := ?_) #[false, true, true, false, false, false, false, false, false, false, false, false, false, false, false, false, false, false, false, false] rfl rfl (by kernel_rfl) (fun _ _ _ h => h) (Or.inl ⟨by rfl, ?_⟩) ?_ ?_
            rotate_left
            · intro w'
              go_simp
              with_reducible rfl
            rotate_left
            · simp only [Act.put, List.setIfInBounds_toArray, List.set_cons_zero, List.set_cons_succ, i64_w, i32_w]
              rfl
            refine pure_ (i := 3) (N := some 57) (v := ?_) (a' := ?_) #[false, true, true, true, false, false, false, false, false, false, false, false, false, false, false, false, false, false, false, false] rfl rfl (by kernel_rfl) (fun _ _ _ h => h) (Or.inl ⟨by rfl, ?_⟩) ?_ ?_
            rotate_left
            · intro w'
              go_simp
              with_reducible rfl
            rotate_left
            · simp only [Act.put, List.setIfInBounds_toArray, List.set_cons_zero, List.set_cons_succ, i64_w, i32_w]
              rfl
            refine pure_ (i := 4) (N := some 58) (v := ?_) (a' := ?_) #[false, true, true, true, true, false, false, false, false, false, false, false, false, false, false, false, false, false, false, false] rfl rfl (by kernel_rfl) (fun _ _ _ h => h) (Or.inl ⟨by rfl, ?_⟩) ?_ ?_
            rotate_left
            · intro w'
              go_simp
              with_reducible rfl
            rotate_left
            · simp only [Act.put, List.setIfInBounds_toArray, List.set_cons_zero, List.set_cons_succ, i64_w, i32_w]
              rfl
            refine pure_ (i := 5) (N := some 59) (v := ?_) (a' := ?_) #[false, true, true, true, true, true, false, false, false, false, false, false, false, false, false, false, false, false, false, false] rfl rfl (by kernel_rfl) (fun _ _ _ h => h) (Or.inl ⟨by rfl, ?_⟩) ?_ ?_
            rotate_left
            · intro w'
              go_simp
              with_reducible rfl
            rotate_left
            · simp only [Act.put, List.setIfInBounds_toArray, List.set_cons_zero, List.set_cons_succ, i64_w, i32_w]
              rfl
            refine pure_ (i := 6) (N := some 60) (v := ?_) (a' := ?_) #[false, true, true, true, true, true, true, false, false, false, false, false, false, false, false, false, false, false, false, false] rfl rfl (by kernel_rfl) (fun _ _ _ h => h) (Or.inl ⟨by rfl, ?_⟩) ?_ ?_
            rotate_left
            · intro w'
              go_simp
              with_reducible rfl
            rotate_left
            · simp only [Act.put, List.setIfInBounds_toArray, List.set_cons_zero, List.set_cons_succ, i64_w, i32_w]
              rfl
            refine pure_ (i := 7) (N := some 61) (v := ?_) (a' := ?_) #[false, true, true, true, true, true, true, true, false, false, false, false, false, false, false, false, false, false, false, false] rfl rfl (by kernel_rfl) (fun _ _ _ h => h) (Or.inl ⟨by rfl, ?_⟩) ?_ ?_
            rotate_left
            · intro w'
              go_simp
              with_reducible rfl
            rotate_left
            · simp only [Act.put, List.setIfInBounds_toArray, List.set_cons_zero, List.set_cons_succ, i64_w, i32_w]
              rfl
            refine take_ (i := 0) (N := some 54) (v := ?_) (a' := ?_) #[true, true, true, true, true, true, true, true, false, false, false, false, false, false, false, false, false, false, false, false] rfl rfl (by kernel_rfl) (fun _ _ _ h => h) (Or.inl ⟨by rfl, ?_⟩) hHeld ?_ ?_
            rotate_left
            · rintro w' ⟨s0, s1, s2⟩
              go_simp
              with_reducible rfl
            rotate_left
            · simp only [Act.put, List.setIfInBounds_toArray, List.set_cons_zero, List.set_cons_succ, i64_w, i32_w]
              rfl
            refine one_ (i := 8) (N := some 62) #[true, true, true, true, true, true, true, true, true, false, false, false, false, false, false, false, false, false, false, false] rfl rfl (by kernel_rfl) (by decide) (fun K hK => ?_)
            refine goes_ Tryz.func27 (by kernel_rfl) rfl #[.agg #[.string (⟨#[99, 97, 116]⟩ : ByteArray), .int .i64 0, .string (⟨#[]⟩ : ByteArray)], .slice A7 0 c7, .int .i64 (m : Int), .slice A' sl cf] (by rfl) rfl rfl (by simp only [List.map_toArray, List.map_cons, List.map_nil]; rfl) ?_
            with_reducible refine (HFE.out _ (Below.drew (Below.refl _ _))).mono ?_
            rintro e w5 ⟨v0, v1, rfl, h0, h1, q5⟩
            refine ⟨_, rfl, ?_⟩
            have q5' := below_then (Below.drew (Below.refl wr.heap.size wr)) (Nat.le_refl _) q5
            obtain ⟨A0, n0, c0, hn0, rfl⟩ := slice_var h0
            obtain ⟨A1, n1, c1, hn1, rfl⟩ := slice_var h1
            obtain rfl : n1 = 0 := hn1
            have HN0 := Lib.hid hn0
            clear hn0
            refine hK.out _ _ ⟨(pw_cell_below q5' b0), (pw_cell_below q5' b1), (pw_cell_below q5' b2)⟩ (fun hHeld => ?_)
            clear hK K
            refine norm_ (a' := ?_) ?_ ?_
            rotate_left
            · show Act.put _ (some 62) _ = _
              simp only [Act.put, List.setIfInBounds_toArray, List.set_cons_zero, List.set_cons_succ, i64_w, i32_w]
              rfl
            refine pure_ (i := 9) (N := some 53) (v := ?_) (a' := ?_) #[true, true, true, true, true, true, true, true, true, true, false, false, false, false, false, false, false, false, false, false] rfl rfl (by kernel_rfl) (fun _ _ _ h => h) (Or.inl ⟨by rfl, ?_⟩) ?_ ?_
            rotate_left
            · intro w'
              go_simp
              with_reducible rfl
            rotate_left
            · simp only [Act.put, List.setIfInBounds_toArray, List.set_cons_zero, List.set_cons_succ, i64_w, i32_w]
              rfl
            refine pure_ (i := 10) (N := some 63) (v := ?_) (a' := ?_) #[true, true, true, true, true, true, true, true, true, true, true, false, false, false, false, false, false, false, false, false] rfl rfl (by kernel_rfl) (fun _ _ _ h => h) (Or.inl ⟨by rfl, ?_⟩) ?_ ?_
            rotate_left
            · intro w'
              go_simp
              with_reducible rfl
            rotate_left
            · simp only [Act.put, List.setIfInBounds_toArray, List.set_cons_zero, List.set_cons_succ, i64_w, i32_w]
              rfl
            refine pure_ (i := 11) (N := some 64) (v := ?_) (a' := ?_) #[true, true, true, true, true, true, true, true, true, true, true, true, false, false, false, false, false, false, false, false] rfl rfl (by kernel_rfl) (fun _ _ _ h => h) (Or.inl ⟨by rfl, ?_⟩) ?_ ?_
            rotate_left
            · intro w'
              go_simp
              with_reducible rfl
            rotate_left
            · simp only [Act.put, List.setIfInBounds_toArray, List.set_cons_zero, List.set_cons_succ, i64_w, i32_w]
              rfl
            refine pure_ (i := 12) (N := some 65) (v := ?_) (a' := ?_) #[true, true, true, true, true, true, true, true, true, true, true, true, true, false, false, false, false, false, false, false] rfl rfl (by kernel_rfl) (fun _ _ _ h => h) (Or.inl ⟨by rfl, ?_⟩) ?_ ?_
            rotate_left
            · intro w'
              go_simp
              with_reducible rfl
            rotate_left
            · simp only [Act.put, List.setIfInBounds_toArray, List.set_cons_zero, List.set_cons_succ, i64_w, i32_w]
              rfl
            refine pure_ (i := 13) (N := some 66) (v := ?_) (a' := ?_) #[true, true, true, true, true, true, true, true, true, true, true, true, true, true, false, false, false, false, false, false] rfl rfl (by kernel_rfl) (fun _ _ _ h => h) (Or.inl ⟨by rfl, ?_⟩) ?_ ?_
            rotate_left
            · intro w'
              go_simp
              with_reducible rfl
            rotate_left
            · simp only [Act.put, List.setIfInBounds_toArray, List.set_cons_zero, List.set_cons_succ, i64_w, i32_w]
              rfl
            refine pure_ (i := 14) (N := some 67) (v := ?_) (a' := ?_) #[true, true, true, true, true, true, true, true, true, true, true, true, true, true, true, false, false, false, false, false] rfl rfl (by kernel_rfl) (fun _ _ _ h => h) (Or.inl ⟨by rfl, ?_⟩) ?_ ?_
            rotate_left
            · intro w'
              go_simp
              with_reducible rfl
            rotate_left
            · simp only [Act.put, List.setIfInBounds_toArray, List.set_cons_zero, List.set_cons_succ, i64_w, i32_w]
              rfl
            refine pure_ (i := 15) (N := some 12) (v := ?_) (a' := ?_) #[true, true, true, true, true, true, true, true, true, true, true, true, true, true, true, true, false, false, false, false] rfl rfl (by kernel_rfl) (fun _ _ _ h => h) (Or.inl ⟨by rfl, ?_⟩) ?_ ?_
            rotate_left
            · intro w'
              go_simp
              with_reducible rfl
            rotate_left
            · simp only [Act.put, List.setIfInBounds_toArray, List.set_cons_zero, List.set_cons_succ, i64_w, i32_w]
              rfl
            refine pure_ (i := 16) (N := some 13) (v := ?_) (a' := ?_) #[true, true, true, true, true, true, true, true, true, true, true, true, true, true, true, true, true, false, false, false] rfl rfl (by kernel_rfl) (fun _ _ _ h => h) (Or.inl ⟨by rfl, ?_⟩) ?_ ?_
            rotate_left
            · intro w'
              go_simp
              with_reducible rfl
            rotate_left
            · simp only [Act.put, List.setIfInBounds_toArray, List.set_cons_zero, List.set_cons_succ, i64_w, i32_w]
              rfl
            refine pure_ (i := 17) (N := some 14) (v := ?_) (a' := ?_) #[true, true, true, true, true, true, true, true, true, true, true, true, true, true, true, true, true, true, false, false] rfl rfl (by kernel_rfl) (fun _ _ _ h => h) (Or.inl ⟨by rfl, ?_⟩) ?_ ?_
            rotate_left
            · intro w'
              go_simp
              with_reducible rfl
            rotate_left
            · simp only [Act.put, List.setIfInBounds_toArray, List.set_cons_zero, List.set_cons_succ, i64_w, i32_w]
              rfl
            refine pure_ (i := 18) (N := some 15) (v := ?_) (a' := ?_) #[true, true, true, true, true, true, true, true, true, true, true, true, true, true, true, true, true, true, true, false] rfl rfl (by kernel_rfl) (fun _ _ _ h => h) (Or.inl ⟨by rfl, ?_⟩) ?_ ?_
            rotate_left
            · intro w'
              go_simp
              with_reducible rfl
            rotate_left
            · simp only [Act.put, List.setIfInBounds_toArray, List.set_cons_zero, List.set_cons_succ, i64_w, i32_w]
              rfl
            refine pure_ (i := 19) (N := some 16) (v := ?_) (a' := ?_) #[true, true, true, true, true, true, true, true, true, true, true, true, true, true, true, true, true, true, true, true] rfl rfl (by kernel_rfl) (fun _ _ _ h => h) (Or.inl ⟨by rfl, ?_⟩) ?_ ?_
            rotate_left
            · intro w'
              go_simp
              with_reducible rfl
            rotate_left
            · simp only [Act.put, List.setIfInBounds_toArray, List.set_cons_zero, List.set_cons_succ, i64_w, i32_w]
              rfl
            refine done_ (by kernel_rfl) ?_
            have q5'' := below_then (Below.drew (Below.refl wr.heap.size wr)) (Nat.le_refl _) q5
            have hro5 := R_stays HS.out.1 (W2 := w5) (fun k _ hlt => q5''.block k hlt)
            have hC0 := (Kd.R_reads' h0).2.2
            rw [← HN0.out] at hC0
            obtain ⟨v6, w6, hrun, hR6, hg6, hat6⟩ := run_R_append (c := c0) hro5 hC0 (by have := blk_lt HS.out.2.2.1; have := q5''.size; omega) (by rw [HN0.out, List.length_take, HX.out.2.2.2.1]; have := HK.out; have := HX.out.2.2.2.2; omega)
            have H6 := Lib.hid (And.intro q5'' (And.intro hR6 (And.intro hg6 hat6)))
            obtain ⟨A6', n6, c6', hn6, rfl⟩ := slice_var hR6
            have el : n6 = i + 1 := by rw [hn6, List.length_append, List.length_take, HX.out.2.2.2.1]; have := HK.out; omega
            have HEL := Lib.hid el
            clear h0 h1 q5 q5'' hro5 hC0 hR6 hg6 hat6 hn6 el
            have HB6 := Lib.hid (show Below w.heap.size w w6 from ((HS.out.2.1.trans (H6.out.1.mono HS.out.2.1.size)).grown H6.out.2.2.1 (by have := HS.out.2.1.size; have := H6.out.1.size; omega) (fun k e => by obtain ⟨inner, ho⟩ := Kd.R_own HS.out.1; have := own_base ho k e; omega)))
            have HX6 := Lib.hid (blk_grown (blk_below HS.out.2.2.1 H6.out.1) H6.out.2.2.1 (fun e => by obtain ⟨inner, ho⟩ := Kd.R_own HS.out.1; have := own_base ho _ e.symm; omega))
            by_cases hbig : (n6 : Int) > 1048576
            · have g5 : decide ((n6 : Int) > 1048576) = true := decide_eq_true hbig
              clear hbig
              go_wp2_with (at_builtin; refine wpList_append_run w5 rfl (.tmp 68) (.tmp 69) 23 rfl (.slice A6 fr c6) rfl (.slice A0 n0 c0) rfl (.slice A6' n6 c6') w6 hrun ?_)
              go_ret2
              exact ⟨_, 31, rfl, HB6.out, fun _ _ => by omega⟩
            · have g5 : decide ((n6 : Int) > 1048576) = false := decide_eq_false hbig
              have HBG := Lib.hid hbig
              clear hbig
              go_wp2_with (at_builtin; refine wpList_append_run w5 rfl (.tmp 68) (.tmp 69) 23 rfl (.slice A6 fr c6) rfl (.slice A0 n0 c0) rfl (.slice A6' n6 c6') w6 hrun ?_)
              go_roundg (t.length - (i + 1))
              case measure => have := HK.out.1; omega
              case rel =>
                have hct : Cut (t.take fr) := (HS.out.2.2.2.2.2.1).resolve_right (by have := HK.out; omega)
                have hsg := HX.out.2.1
                have hwh : t.take fr ++ (t.take (i + 1)).drop fr = t.take (i + 1) := seg_whole (by have := HK.out; omega)
                have hl2 : ln (t.take (i + 1)) = ln (t.take fr) ++ [(t.take (i + 1)).drop fr] := by
                  have hns : (10 : Int) ∉ (t.take (i + 1)).drop fr := by rw [hsg]; simp only [List.mem_append, List.mem_singleton, not_or]; exact ⟨HX.out.2.2.1, fun e => HX2.out.1 e.symm⟩
                  have e := hct.last hns (by rw [hsg]; simp)
                  rwa [hwh] at e
                refine ⟨i + 1, i + 1, m + 1, A1, c1, by simp, by simp, by simp, rfl, rfl, ⟨by omega, rfl, Nat.le_refl _, by have := HK.out; omega, by have := HBG.out; have := HEL.out; omega⟩, by have h := H6.out.2.1; rwa [hwh] at h, HB6.out, HX6.out, ?_, by simp, .inr HX2.out.2, fun h => h⟩
                rw [hl2]
                intro l hl
                rcases List.mem_append.1 hl with hl | hl
                · exact HS.out.2.2.2.1 l hl
                · rw [List.mem_singleton.1 hl, HX.out.2.2.2.1]; have := HX.out.2.2.2.2; omega
    · obtain rfl : i = t.length := by omega
      have g1 : decide ((t.length : Int) < (t.length : Int)) = false := by simp
      have hfr : fr = t.length := HS.out.2.2.2.2.2.2 rfl
      have hsh : shortL t := by
        have h := HS.out.2.2.2.1
        rw [hfr, List.take_of_length_le (Nat.le_refl _)] at h
        exact h
      have HE := Lib.hid (fun W => HED.out A7 c7 (m : Int) W (by omega) (by have := HK.out; omega))
      have HSH := Lib.hid hsh
      clear hsh hfr hlt HED HFD HMD HC
      go_wp2_with (first
        | (go_at_call 28; go_must (refine (HE.out _).mono ?_); go_must (rintro e w5 ⟨v0, rfl, h0, q5⟩); obtain ⟨A0, n0, c0, hn0, rfl⟩ := slice_var h0; obtain rfl : n0 = 0 := hn0; have H0 := Lib.hid (And.intro h0 q5); clear h0 q5)
        | (at_builtin; go_must (
            have hro5 := R_stays HS.out.1 (W2 := w5) (fun k _ hlt => H0.out.2.block k hlt)
            have hC0 := (Kd.R_reads' H0.out.1).2.2
            obtain ⟨v6, w6, hrun, hR6, hg6, hat6⟩ := run_R_append (c := c0) hro5 hC0 (by have := blk_lt HS.out.2.2.1; have := H0.out.2.size; omega) (by rw [List.length_take]; have := HK.out; simp; omega)
            obtain ⟨A6', n6, c6', hn6, rfl⟩ := slice_var hR6
            have HB6 := Lib.hid (show Below w.heap.size w w6 from ((HS.out.2.1.trans (H0.out.2.mono HS.out.2.1.size)).grown hg6 (by have := HS.out.2.1.size; have := H0.out.2.size; omega) (fun k e => by obtain ⟨inner, ho⟩ := Kd.R_own HS.out.1; have := own_base ho k e; omega)))
            clear hro5 hC0 hR6 hg6 hat6 hn6); refine wpList_append_run w5 rfl (.tmp 86) (.tmp 87) 23 rfl (.slice A6 fr c6) rfl (.slice A0 0 c0) rfl (.slice A6' n6 c6') w6 hrun ?_; clear hrun))
      all_goals go_ret2
      all_goals exact ⟨_, _, rfl, HB6.out, fun _ hn => absurd HSH.out hn⟩

end Go.Proofs.YthmijenlndnmcaaGreatDoor.Sh
