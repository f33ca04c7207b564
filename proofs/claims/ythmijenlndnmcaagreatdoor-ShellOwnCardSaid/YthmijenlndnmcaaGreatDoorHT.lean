/-
  Hand-made contracts of functions of the program: Parsed.
-/
import Derived.Test.YthmijenlndnmcaaGreatDoorHQ
import Derived.Test.YthmijenlndnmcaaGreatDoorShx5
import Derived.Test.YthmijenlndnmcaaGreatDoorShx0
namespace Go.Proofs.YthmijenlndnmcaaGreatDoor.Sh
open Go.RowKit Go.Proofs.YthmijenlndnmcaaGreatDoorW.PrintWords Go.Proofs.YthmijenlndnmcaaGreatDoorW.PrintLast Go.Proofs.YthmijenlndnmcaaGreatDoorW.PrintMore
attribute [local go_sem] max2_int min2_int max_two min_two max_three min_three max_four min_four
set_option linter.unusedVariables false
set_option linter.unusedSimpArgs false
def codeOf : Option (ByteArray × List S74 × ByteArray × Bool) → Int
  | none => 211
  | some (fr, xs, tp, _) => checkOf fr xs tp
def ParsePost (w w' : World) (q : Option (ByteArray × List S74 × ByteArray × Bool)) (e : Ending) : Prop :=
  ∃ fr v tp ap xs, e = .returned (.tuple #[.agg #[.string fr, v, .string tp, .bool ap], .int .i64 (codeOf q)]) ∧ Below w.heap.size w w' ∧ Kd.R k74 74 w' w.heap.size (fun _ => True) v xs ∧ (codeOf q = 0 → q = some (fr, xs, tp, ap))
theorem R_base {α : Type} {d : Kd α} {e base base' : Nat} {W : World} {v : Value} {l : List α} (h : d.R e W base (fun _ => True) v l) (hb : base' ≤ base) : d.R e W base' (fun _ => True) v l := by
  exact Kd.R_lower h hb
theorem below_set4 {B L : Nat} {w W : World} (h : Below B w W) (hL : B ≤ L) (a b c d : Value) : Below B w ((((W.setCell ⟨L, 0, none⟩ a).setCell ⟨L, 1, none⟩ b).setCell ⟨L, 2, none⟩ c).setCell ⟨L, 3, none⟩ d) :=
  (((h.setCell hL a).setCell hL b).setCell hL c).setCell hL d
theorem heap_set4 {L k : Nat} {W : World} (hk : k ≠ L) (a b c d : Value) : ((((W.setCell ⟨L, 0, none⟩ a).setCell ⟨L, 1, none⟩ b).setCell ⟨L, 2, none⟩ c).setCell ⟨L, 3, none⟩ d).heap[k]? = W.heap[k]? := by
  rw [Below.heap_setCell _ _ _ _ hk, Below.heap_setCell _ _ _ _ hk, Below.heap_setCell _ _ _ _ hk, Below.heap_setCell _ _ _ _ hk]
theorem parser_at {W : World} {base g n cap : Nat} {ws : List ByteArray} (h : Kd.R Kd.string 9 W base (fun _ => True) (.slice (some ⟨g, 0, none⟩) n cap) ws) (hg : g < W.heap.size) :
    PAt (W.alloc (.cells #[.slice (some ⟨g, 0, none⟩) n cap] 92)) W.heap.size ws := by
  obtain ⟨rfl, hc, hC⟩ := Kd.R_reads' h
  exact ⟨_, _, blk_new W _, hc, Kd.C_below hC (below_alloc (Below.refl _ _) _), fun ad e => by cases e; exact hg⟩
theorem row_strings {W : World} {base g n cap : Nat} {ws : List ByteArray} (h : Kd.R Kd.string 9 W base (fun _ => True) (.slice (some ⟨g, 0, none⟩) n cap) ws) : ∀ j s, ws[j]? = some s → W.cell? ⟨g, j, none⟩ = some (.string s) := by
  intro j s hj
  have hl : j < ws.length := (List.getElem?_eq_some_iff.1 hj).1
  obtain ⟨rfl, _⟩ := Kd.R_reads' h
  have := (Kd.R_celln ByteArray.empty h (j : Int) (by omega) (by omega)).1
  rw [Int.toNat_natCast] at this
  rw [this]
  simp [rdOf, hj]
set_option maxHeartbeats 8000000 in
set_option maxRecDepth 100000 in
theorem Parse.calls (s : ByteArray) (k : Nat) (ws : List ByteArray) (w : World) (hsz : s.size ≤ 4096) (hsp : strings_Split.f k s (⟨#[32]⟩ : ByteArray) = some ws) (hne : ∀ x ∈ ws, 0 < x.size ∧ x.size ≤ 4096) (h0 : 0 < ws.length) (hl : ws.length ≤ 5000) :
    Calls Tryz.prog 26 #[.string s] w fun e w' => ParsePost w w' (lineOf ws) e := by
  have hu := Tryz.underlying46
  have hu3 := Tryz.underlying92
  have he : ∀ x ∈ ws, (x.toList == ([] : List UInt8)) = false := fun x hx => by rw [str_empty_iff]; have := (hne x hx).1; exact decide_eq_false (by omega)
  have HS := Lib.hid (fun W => strings_Split.calls k s (⟨#[32]⟩ : ByteArray) ws W hsp)
  have HD := Lib.hid (fun B c W hc => noEmpty_delete.calls B ws.length c ws W rfl (by omega) hc he)
  have HL := Lib.hid (fun P W h => line.calls P ws W h hne hl)
  have HC := Lib.hid (fun Fr Tp ap A c xs W hr hc => shell_CheckH.calls Fr Tp ap A c xs W hr hc)
  have hn : decide ((s.size : Int) > 4096) = false := by simp; omega
  have H0 := Lib.hid (And.intro h0 hl)
  clear hsp he hne h0 hl hsz
  have HQ := Lib.hid (show lineOf ws = lineOf ws from rfl)
  cases hq : lineOf ws with
  | none =>
    have HX := Lib.hid hq
    clear hq
    go_enter Tryz.func26, Tryz.ntmps26
    go_wp2_with (first
      | (go_at_call 47; go_must (refine (HS.out _).mono ?_); go_must (rintro e w1 ⟨v1, rfl, h1, q1⟩); obtain ⟨g, cap, rfl, hg, hgl, _⟩ := Kd.R_form h1 H0.out.1; have k1 := blk_below (blk_new w (.cells #[.string ⟨#[]⟩, .slice none 0 0, .string ⟨#[]⟩, .bool false] 46)) q1; have hcs : ∀ j s, ws[j]? = some s → w1.cell? ⟨g, j, none⟩ = some (.string s) := row_strings h1; have R1 := Lib.hid (And.intro h1 (And.intro hg (And.intro hgl (And.intro k1 (And.intro hcs q1))))); clear h1 hg hgl k1 hcs q1)
      | (go_at_call 46; go_must (refine (HD.out g cap _ R1.out.2.2.2.2.1).mono ?_); go_must (rintro e w2 ⟨rfl, rfl⟩))
      | (go_at_call 49; go_must (refine (HL.out _ _ (parser_at R1.out.1 R1.out.2.2.1)).mono ?_); go_must (rintro e w3 ⟨fr, v, tp, ap, xs, us, rfl, hps, hR, hq⟩); obtain ⟨A, c, rfl⟩ := Kd.R_slice hR; rw [HX.out] at hq; simp only [HX.out, Option.isSome]; have k3 := blk_kept (blk_alloc R1.out.2.2.2.1 (.cells #[.slice (some ⟨g, 0, none⟩) ws.length cap] 92)) hps.kept (Nat.ne_of_lt (blk_lt R1.out.2.2.2.1)); have k3' := blk_alloc k3 (.cells #[.string fr, .slice A xs.length c, .string tp, .bool ap] 46); have e0 := blk_cell k3' 0; have e1 := blk_cell k3' 1; have e2 := blk_cell k3' 2; have e3 := blk_cell k3' 3; have f0 := blk_frozen k3' 0; have f1 := blk_frozen k3' 1; have f2 := blk_frozen k3' 2; have f3 := blk_frozen k3' 3; have B2 := below_step (below_alloc (Below.refl w.heap.size w) _) R1.out.2.2.2.2.2; have B3 := Lib.hid ((below_alloc B2 _).trans (hps.below.mono B2.size)); have S3 := Lib.hid (And.intro hps (And.intro hR (And.intro hq k3))); clear B2; clear hps hR hq k3 k3'))
    refine bodyPost_ret (v := .tuple #[.agg #[.string ⟨#[]⟩, .slice none 0 0, .string ⟨#[]⟩, .bool false], .int .i64 211]) ?_ rfl ?_
    · rw [results_cell_tmp rfl]
      go_simp
    · refine ⟨_, _, _, _, [], rfl, ?_, Kd.R_nil _ _ _ _ _, fun h => by cases h⟩
      exact below_set4 (below_alloc B3.out _) (Nat.le_refl _) _ _ _ _
  | some q =>
    obtain ⟨fr0, xs0, tp0, ap0⟩ := q
    have HX := Lib.hid hq
    clear hq
    go_enter Tryz.func26, Tryz.ntmps26
    go_wp2_with (first
      | (go_at_call 47; go_must (refine (HS.out _).mono ?_); go_must (rintro e w1 ⟨v1, rfl, h1, q1⟩); obtain ⟨g, cap, rfl, hg, hgl, _⟩ := Kd.R_form h1 H0.out.1; have k1 := blk_below (blk_new w (.cells #[.string ⟨#[]⟩, .slice none 0 0, .string ⟨#[]⟩, .bool false] 46)) q1; have hcs : ∀ j s, ws[j]? = some s → w1.cell? ⟨g, j, none⟩ = some (.string s) := row_strings h1; have R1 := Lib.hid (And.intro h1 (And.intro hg (And.intro hgl (And.intro k1 (And.intro hcs q1))))); clear h1 hg hgl k1 hcs q1)
      | (go_at_call 46; go_must (refine (HD.out g cap _ R1.out.2.2.2.2.1).mono ?_); go_must (rintro e w2 ⟨rfl, rfl⟩))
      | (go_at_call 49; go_must (refine (HL.out _ _ (parser_at R1.out.1 R1.out.2.2.1)).mono ?_); go_must (rintro e w3 ⟨fr, v, tp, ap, xs, us, rfl, hps, hR, hq⟩); obtain ⟨A, c, rfl⟩ := Kd.R_slice hR; rw [HX.out] at hq; simp only [HX.out, Option.isSome]; have k3 := blk_kept (blk_alloc R1.out.2.2.2.1 (.cells #[.slice (some ⟨g, 0, none⟩) ws.length cap] 92)) hps.kept (Nat.ne_of_lt (blk_lt R1.out.2.2.2.1)); have k3' := blk_alloc k3 (.cells #[.string fr, .slice A xs.length c, .string tp, .bool ap] 46); have e0 := blk_cell k3' 0; have e1 := blk_cell k3' 1; have e2 := blk_cell k3' 2; have e3 := blk_cell k3' 3; have f0 := blk_frozen k3' 0; have f1 := blk_frozen k3' 1; have f2 := blk_frozen k3' 2; have f3 := blk_frozen k3' 3; have B2 := below_step (below_alloc (Below.refl w.heap.size w) _) R1.out.2.2.2.2.2; have B3 := Lib.hid ((below_alloc B2 _).trans (hps.below.mono B2.size)); have S3 := Lib.hid (And.intro hps (And.intro hR (And.intro hq k3))); clear B2; clear hps hR hq k3 k3')
      | (go_at_call 23; go_must (refine (HC.out fr tp ap A c xs _ ?hr ?hc).mono ?_); (case hr => exact Kd.C_below (Kd.R_reads' S3.out.2.1).2.2 (below_alloc (Below.refl _ _) _)); (case hc => exact (Kd.R_reads' S3.out.2.1).2.1); go_must (rintro e w4 ⟨rfl, q4⟩); have k4 := blk_below (blk_alloc S3.out.2.2.2 _) q4; have kb := blk_below (blk_new w3 (.cells #[.string fr, .slice A xs.length c, .string tp, .bool ap] 46)) q4; have S4 := Lib.hid (And.intro k4 q4); have e0 := blk_cell k4 0; have e1 := blk_cell k4 1; have e2 := blk_cell k4 2; have e3 := blk_cell k4 3; have f0 := blk_frozen k4 0; have f1 := blk_frozen k4 1; have f2 := blk_frozen k4 2; have f3 := blk_frozen k4 3; have b0 := blk_cell kb 0; have b1 := blk_cell kb 1; have b2 := blk_cell kb 2; have b3 := blk_cell kb 3; clear k4 kb q4))
    · rename_i hcode
      refine bodyPost_ret (v := .tuple #[.agg #[.string ⟨#[]⟩, .slice none 0 0, .string ⟨#[]⟩, .bool false], .int .i64 (checkOf fr xs tp)]) ?_ rfl ?_
      · rw [results_cell_tmp rfl]
        go_simp
      · have hq := S3.out.2.2.1 _ rfl
        cases hq
        exact ⟨_, _, _, _, [], rfl, below_set4 (below_step (below_alloc B3.out _) S4.out.2) (Nat.le_refl _) _ _ _ _, Kd.R_nil _ _ _ _ _, fun h => absurd h (by simpa [codeOf] using hcode)⟩
    · rename_i hcode
      refine bodyPost_ret (v := .tuple #[.agg #[.string fr, .slice A xs.length c, .string tp, .bool ap], .int .i64 0]) ?_ rfl ?_
      · rw [results_cell_tmp rfl]
        go_simp
      · have hq := S3.out.2.2.1 _ rfl
        cases hq
        have hc0 : checkOf fr0 xs0 tp0 = 0 := by simpa using hcode
        refine ⟨fr0, .slice A xs0.length c, tp0, ap0, xs0, by show _ = Ending.returned (.tuple #[_, .int .i64 (checkOf fr0 xs0 tp0)]); rw [hc0], below_set4 (below_step (below_alloc B3.out _) S4.out.2) (Nat.le_refl _) _ _ _ _, ?_, fun _ => rfl⟩
        have hR := S3.out.2.1
        have hlt : w.heap.size ≤ w2.heap.size := (below_step (below_alloc (Below.refl w.heap.size w) _) R1.out.2.2.2.2.2).size
        refine R_far (Kd.R_lower (R_far (Kd.R_step hR (fun i _ h => (below_step (below_alloc (Below.refl w3.heap.size w3) _) S4.out.2).block i h)) (fun i hi _ => heap_set4 (by simp at hi; omega) _ _ _ _)) (by simp; omega)) (fun _ _ _ => rfl)
end Go.Proofs.YthmijenlndnmcaaGreatDoor.Sh
