/-
  Hand-made contracts of functions of the program: Parse, Take, ParseTool.
-/
import Derived.Test.YthmijenlndnmcaaGreatDoorHC
import Derived.Test.YthmijenlndnmcaaGreatDoorHD
import Derived.Laws.ResultCell
import Derived.Test.YthmijenlndnmcaaGreatDoorShx2
import Derived.Test.YthmijenlndnmcaaGreatDoorShx3
import Derived.Test.YthmijenlndnmcaaGreatDoorShx4
import Derived.Test.YthmijenlndnmcaaGreatDoorShx0
namespace Go.Proofs.YthmijenlndnmcaaGreatDoor.Sh
open Go.RowKit Go.Proofs.YthmijenlndnmcaaGreatDoorW.PrintWords Go.Proofs.YthmijenlndnmcaaGreatDoorW.PrintLast Go.Proofs.YthmijenlndnmcaaGreatDoorW.PrintMore
attribute [local go_sem] max2_int min2_int max_two min_two max_three min_three max_four min_four
set_option linter.unusedVariables false
set_option linter.unusedSimpArgs false
theorem isEmpty.calls (s : ByteArray) (w : World) : Calls Tryz.prog 48 #[.string s] w fun e w' => e = .returned (.bool (s.toList == ([] : List UInt8))) ∧ w' = w := by
  go_enter Tryz.func48, Tryz.ntmps48
  go_wp2
  go_ret
  exact ⟨by first | rfl | (simp; done) | (cases h : s.toList <;> simp [h]), rfl⟩
set_option maxRecDepth 100000 in
theorem noEmpty_index.calls (B n c : Nat) (ws : List ByteArray) (w : World) (hn : ws.length = n) (hm : n ≤ 9223372036854775807) (hc : ∀ j s, ws[j]? = some s → w.cell? ⟨B, j, none⟩ = some (.string s)) (he : ∀ s ∈ ws, (s.toList == ([] : List UInt8)) = false) :
    Calls Tryz.prog 79 #[.slice (some ⟨B, 0, none⟩) n c, .func (.func 48) #[] #[]] w fun e w' => e = .returned (.int .i64 (-1)) ∧ w' = w := by
  have HC := Lib.hid (And.intro hc he)
  clear hc he
  go_enter Tryz.func79, Tryz.ntmps79
  go_wp2
  go_loopg [8] n (fun k v8 wr => ∃ i : Nat, v8 = .int .i64 i ∧ i ≤ n ∧ k = n - i ∧ wr = w)
  case atStart => exact ⟨0, rfl, by omega, by omega, rfl⟩
  case round =>
    obtain ⟨i, rfl, hi, hk, rfl⟩ := hrel
    have HK := Lib.hid hk
    clear hk
    by_cases hlt : i < n
    · have h3 : decide ((i : Int) < (n : Int)) = true := by simp; omega
      have hx : ws[i]? = some ws[i] := List.getElem?_eq_getElem (by omega)
      have hx0 := HC.out.1 i _ hx
      have hx1 := HC.out.2 ws[i] (List.getElem_mem _)
      generalize ws[i] = s at hx0 hx1
      have HS := Lib.hid (fun W => isEmpty.calls s W)
      rw [hx1] at HS
      have p := eq_true (show 0 ≤ (i : Int) by omega)
      have q := eq_true (show (i : Int) < (n : Int) by omega)
      clear hx hx1
      go_wp2_with (go_at_call 48; go_must (refine (HS.out _).mono ?_); go_must (rintro e w' ⟨rfl, rfl⟩))
      go_roundg (n - (i + 1))
      case measure => have := HK.out; omega
      case rel => exact ⟨i + 1, by go_num, by omega, rfl, rfl⟩
    · obtain rfl : i = n := by omega
      have h3 : decide ((i : Int) < (i : Int)) = false := by simp
      go_wp2
      go_ret
      exact ⟨rfl, rfl⟩
set_option maxRecDepth 100000 in
theorem noEmpty_delete.calls (B n c : Nat) (ws : List ByteArray) (w : World) (hn : ws.length = n) (hm : n ≤ 9223372036854775807) (hc : ∀ j s, ws[j]? = some s → w.cell? ⟨B, j, none⟩ = some (.string s)) (he : ∀ s ∈ ws, (s.toList == ([] : List UInt8)) = false) :
    Calls Tryz.prog 46 #[.slice (some ⟨B, 0, none⟩) n c, .func (.func 48) #[] #[]] w fun e w' => e = .returned (.slice (some ⟨B, 0, none⟩) n c) ∧ w' = w := by
  have HC := Lib.hid (noEmpty_index.calls B n c ws w hn hm hc he)
  clear hc he
  go_enter Tryz.func46, Tryz.ntmps46
  go_wp2_with (go_at_call 79; go_must (refine HC.out.mono ?_); go_must (rintro e w' ⟨rfl, rfl⟩))
  go_ret
  exact ⟨rfl, rfl⟩
theorem plain.calls (s : ByteArray) (w : World) : Calls Tryz.prog 83 #[.string s] w fun e w' => e = .returned (.bool (!signB s)) ∧ Below w.heap.size w w' := by
  have HS := Lib.hid (fun W => shell_sign.calls s (signB s) W (shell_sign_is s))
  go_enter Tryz.func83, Tryz.ntmps83
  go_wp2_with (go_at_call 76; go_must (refine (HS.out _).mono ?_); go_must (rintro e w' ⟨rfl, ⟨nd, rfl⟩⟩))
  go_ret
  exact ⟨rfl, pw_below_drewN (Below.refl _ _) _⟩
theorem is.calls (s : ByteArray) (w : World) : Calls Tryz.prog 82 #[.string s] w fun e w' => e = .returned (.func (.func 118) #[] #[.pointer (some ⟨w.heap.size, 0, none⟩)]) ∧ w' = w.alloc (.cells #[.string s] 9) := by
  go_enter Tryz.func82, Tryz.ntmps82
  go_wp2
  go_ret
  exact ⟨rfl, rfl⟩
theorem is1.calls (s t : ByteArray) (B : Nat) (w : World) (hb : w.cell? ⟨B, 0, none⟩ = some (.string t)) : Calls Tryz.prog 118 #[.string s, .pointer (some ⟨B, 0, none⟩)] w fun e w' => e = .returned (.bool (s.toList == t.toList)) ∧ Below w.heap.size w w' := by
  go_enter Tryz.func118, Tryz.ntmps118
  go_wp2
  go_ret
  exact ⟨by first | rfl | simp, Below.refl _ _⟩
def PAt (w : World) (P : Nat) (ws : List ByteArray) : Prop :=
  ∃ A c, w.heap[P]? = some (.cells #[.slice A ws.length c] 92 (0, 0)) ∧ ws.length ≤ c ∧ Kd.C Kd.string w A ws.length ws ∧ ∀ ad, A = some ad → ad.block < P
theorem C_blk {w W : World} {A : Option Addr} {n : Nat} {l : List ByteArray} (h : Kd.C Kd.string w A n l) (hk : ∀ ad, A = some ad → W.heap[ad.block]? = w.heap[ad.block]?) : Kd.C Kd.string W A n l := by
  refine ⟨h.1, h.2.1, fun hn => ?_⟩
  obtain ⟨ad, e, hc⟩ := h.2.2 hn
  refine ⟨ad, e, fun j x hj => ?_⟩
  obtain ⟨cs, k1, k2, k3⟩ := hc j x hj
  refine ⟨cs, k1, k2, fun i u' hu' => ?_⟩
  rw [← k3 i u' hu']
  refine World.cell?_of_block (w := w) ?_
  rw [add_block]
  exact hk ad e
theorem PAt.keep {w W : World} {P : Nat} {ws : List ByteArray} (h : PAt w P ws) (hb : Below P w W) (hp : W.heap[P]? = w.heap[P]?) : PAt W P ws := by
  obtain ⟨A, c, h1, h2, h3, h4⟩ := h
  exact ⟨A, c, hp.trans h1, h2, C_blk h3 (fun ad e => hb.block _ (h4 ad e)), h4⟩
theorem PAt.lt {w : World} {P : Nat} {ws : List ByteArray} (h : PAt w P ws) : P < w.heap.size := by
  obtain ⟨A, c, h1, _⟩ := h
  exact blk_lt h1
theorem PAt.below {w W : World} {P : Nat} {ws : List ByteArray} (h : PAt w P ws) (hb : Below w.heap.size w W) : PAt W P ws :=
  h.keep (hb.mono (Nat.le_of_lt h.lt)) (hb.block P h.lt)
def takeOf (r : ByteArray → Bool) : List ByteArray → ByteArray × Bool × List ByteArray
  | [] => (⟨#[]⟩, false, [])
  | x :: ws => if r x then (x, true, ws) else (⟨#[]⟩, false, x :: ws)
theorem take_world {w W : World} {P n c : Nat} {x : ByteArray} {rr : List ByteArray} {ad : Addr} (hb : w.heap[P]? = some (.cells #[.slice (some ad) n c] 92 (0, 0))) (hc : n ≤ c) (hn : n = (x :: rr).length)
    (hrow : Kd.C Kd.string w (some ad) (x :: rr).length (x :: rr)) (had : ad.block < P) (hW : Below w.heap.size w W) :
    ∀ W2, W2 = W.setCell ⟨P, 0, none⟩ (.slice (if c = 1 then some ad else some { block := ad.block, off := ad.off + 1 }) (n - 1) (c - 1)) → PAt W2 P rr ∧ Kept w W2 (· = P) ∧ Below P w W2 := by
  rintro W2 rfl
  have hP := blk_lt hb
  have hbl : Below P w (W.setCell ⟨P, 0, none⟩ (.slice (if c = 1 then some ad else some { block := ad.block, off := ad.off + 1 }) (n - 1) (c - 1))) := (hW.mono (Nat.le_of_lt hP)).setCell (Nat.le_refl _) _
  have hlen : n - 1 = rr.length := by rw [hn]; simp
  refine ⟨?_, Kept.setCell (S := fun k => k = P) (Kept.of_below hW _) (p := ⟨P, 0, none⟩) (.inl rfl) _, hbl⟩
  have hbW : W.heap[P]? = some (.cells #[.slice (some ad) n c] 92 (0, 0)) := (hW.block P hP).trans hb
  have hset := blk_set hbW 0 (.slice (if c = 1 then some ad else some { block := ad.block, off := ad.off + 1 }) (n - 1) (c - 1))
  refine ⟨_, _, by rw [← hlen]; exact hset, by omega, ?_, ?_⟩
  · have h := Kd.C_drop (m := 1) (c := c) (C_blk (W := W.setCell ⟨P, 0, none⟩ (.slice (if c = 1 then some ad else some { block := ad.block, off := ad.off + 1 }) (n - 1) (c - 1))) hrow (fun a e => by cases e; exact hbl.block _ had)) (by simp) (by omega)
    have e : (if c = 1 then some ad else Option.map (fun x : Addr => x.add (1 * Kd.string.sz)) (some ad)) = (if c = 1 then some ad else some { block := ad.block, off := ad.off + 1 }) := by
      split
      · rfl
      · rfl
    rw [e] at h
    exact h
  · intro a ea
    split at ea
    · cases ea; exact had
    · cases ea; exact had
set_option maxHeartbeats 1000000 in
set_option maxRecDepth 100000 in
theorem take_plain.calls (P : Nat) (ws : List ByteArray) (r : ByteArray → Bool) (w : World) (hP : PAt w P ws)
    (hR : ∀ s ∈ ws, ∀ W, Below w.heap.size w W → Calls Tryz.prog 83 #[.string s] W fun e W' => e = .returned (.bool (r s)) ∧ Below W.heap.size W W') :
    Calls Tryz.prog 81 #[.pointer (some ⟨P, 0, none⟩), .func (.func 83) #[] #[]] w fun e w' => e = .returned (.tuple #[.string (takeOf r ws).1, .bool (takeOf r ws).2.1]) ∧ PAt w' P (takeOf r ws).2.2 ∧ Kept w w' (· = P) ∧ Below P w w' := by
  have hu := Tryz.underlying92
  obtain ⟨A, c, hb, hc, hrow, had⟩ := hP
  have hP : PAt w P ws := ⟨A, c, hb, hc, hrow, had⟩
  have hc0 : w.cell? ⟨P, 0, none⟩ = some (.slice A ws.length c) := blk_cell hb 0
  cases ws with
  | nil =>
    have HP := Lib.hid hP
    clear hR hP hrow had hb hc
    go_enter Tryz.func81, Tryz.ntmps81
    go_wp2
    go_ret2
    exact ⟨rfl, HP.out, Kept.refl _ _, Below.refl _ _⟩
  | cons x rr =>
    obtain ⟨ad, e, hx⟩ := Kd.at_string hrow 0 (by omega) (by simp)
    cases e
    replace hx : w.cell? ad = some (.string x) := by
      rw [show (0 : Int).toNat = 0 from rfl, addr_zero] at hx; simpa [rdOf] using hx
    have HR := Lib.hid (hR x (by simp))
    have hf0 : w.frozen? ⟨P, 0, none⟩ = false := blk_frozen hb 0
    obtain ⟨n, hn⟩ : ∃ n, n = (x :: rr).length := ⟨_, rfl⟩
    rw [← hn] at hc0 hc hb
    have HW := Lib.hid (fun W (hW : Below w.heap.size w W) => take_world hb hc hn hrow (had ad rfl) hW)
    have HP := Lib.hid hP
    have p : decide ((0 : Int) < (n : Int)) = true := by rw [hn]; simp
    have p1 : (0 : Int) < (n : Int) := of_decide_eq_true p
    have p0 : ((n : Int) == 0) = false := by rw [hn]; simp; omega
    have p2 : (1 : Int) ≤ (n : Int) := by omega
    have p3 : (n : Int) ≤ (c : Int) := by omega
    clear hR hP hrow had hb hn hc
    by_cases hr : r x = true
    · have e1 : takeOf r (x :: rr) = (x, true, rr) := by rw [takeOf, if_pos hr]
      rw [hr] at HR
      rw [e1]
      clear hr e1
      go_enter Tryz.func81, Tryz.ntmps81
      go_wp2_with (go_at_call 83; go_must (refine (HR.out _ (Below.refl _ _)).mono ?_); go_must (rintro e w1 ⟨rfl, q1⟩); have k0 := pw_cell_below q1 hc0; have k1 := pw_cell_below q1 hx; have k2 : w1.frozen? ⟨P, 0, none⟩ = false := (q1.frozen (p := ⟨P, 0, none⟩) (World.block_lt_of_cell? _ _ hc0)).trans hf0)
      all_goals go_ret2
      all_goals exact ⟨rfl, HW.out _ q1 _ (by first | rfl | (simp [*]; done))⟩
    · have e1 : takeOf r (x :: rr) = (⟨#[]⟩, false, x :: rr) := by rw [takeOf, if_neg hr]
      rw [eq_false_of_ne_true hr] at HR
      rw [e1]
      clear hr e1
      go_enter Tryz.func81, Tryz.ntmps81
      go_wp2_with (go_at_call 83; go_must (refine (HR.out _ (Below.refl _ _)).mono ?_); go_must (rintro e w1 ⟨rfl, q1⟩))
      go_ret2
      exact ⟨rfl, HP.out.below q1, Kept.of_below q1 _, q1.mono (Nat.le_of_lt HP.out.lt)⟩
set_option maxHeartbeats 1000000 in
set_option maxRecDepth 100000 in
theorem take_is.calls (B : Nat) (P : Nat) (ws : List ByteArray) (r : ByteArray → Bool) (w : World) (hP : PAt w P ws)
    (hR : ∀ s ∈ ws, ∀ W, Below w.heap.size w W → Calls Tryz.prog 118 #[.string s, .pointer (some ⟨B, 0, none⟩)] W fun e W' => e = .returned (.bool (r s)) ∧ Below W.heap.size W W') :
    Calls Tryz.prog 81 #[.pointer (some ⟨P, 0, none⟩), .func (.func 118) #[] #[.pointer (some ⟨B, 0, none⟩)]] w fun e w' => e = .returned (.tuple #[.string (takeOf r ws).1, .bool (takeOf r ws).2.1]) ∧ PAt w' P (takeOf r ws).2.2 ∧ Kept w w' (· = P) ∧ Below P w w' := by
  have hu := Tryz.underlying92
  obtain ⟨A, c, hb, hc, hrow, had⟩ := hP
  have hP : PAt w P ws := ⟨A, c, hb, hc, hrow, had⟩
  have hc0 : w.cell? ⟨P, 0, none⟩ = some (.slice A ws.length c) := blk_cell hb 0
  cases ws with
  | nil =>
    have HP := Lib.hid hP
    clear hR hP hrow had hb hc
    go_enter Tryz.func81, Tryz.ntmps81
    go_wp2
    go_ret2
    exact ⟨rfl, HP.out, Kept.refl _ _, Below.refl _ _⟩
  | cons x rr =>
    obtain ⟨ad, e, hx⟩ := Kd.at_string hrow 0 (by omega) (by simp)
    cases e
    replace hx : w.cell? ad = some (.string x) := by
      rw [show (0 : Int).toNat = 0 from rfl, addr_zero] at hx; simpa [rdOf] using hx
    have HR := Lib.hid (hR x (by simp))
    have hf0 : w.frozen? ⟨P, 0, none⟩ = false := blk_frozen hb 0
    obtain ⟨n, hn⟩ : ∃ n, n = (x :: rr).length := ⟨_, rfl⟩
    rw [← hn] at hc0 hc hb
    have HW := Lib.hid (fun W (hW : Below w.heap.size w W) => take_world hb hc hn hrow (had ad rfl) hW)
    have HP := Lib.hid hP
    have p : decide ((0 : Int) < (n : Int)) = true := by rw [hn]; simp
    have p1 : (0 : Int) < (n : Int) := of_decide_eq_true p
    have p0 : ((n : Int) == 0) = false := by rw [hn]; simp; omega
    have p2 : (1 : Int) ≤ (n : Int) := by omega
    have p3 : (n : Int) ≤ (c : Int) := by omega
    clear hR hP hrow had hb hn hc
    by_cases hr : r x = true
    · have e1 : takeOf r (x :: rr) = (x, true, rr) := by rw [takeOf, if_pos hr]
      rw [hr] at HR
      rw [e1]
      clear hr e1
      go_enter Tryz.func81, Tryz.ntmps81
      go_wp2_with (go_at_call 118; go_must (refine (HR.out _ (Below.refl _ _)).mono ?_); go_must (rintro e w1 ⟨rfl, q1⟩); have k0 := pw_cell_below q1 hc0; have k1 := pw_cell_below q1 hx; have k2 : w1.frozen? ⟨P, 0, none⟩ = false := (q1.frozen (p := ⟨P, 0, none⟩) (World.block_lt_of_cell? _ _ hc0)).trans hf0)
      all_goals go_ret2
      all_goals exact ⟨rfl, HW.out _ q1 _ (by first | rfl | (simp [*]; done))⟩
    · have e1 : takeOf r (x :: rr) = (⟨#[]⟩, false, x :: rr) := by rw [takeOf, if_neg hr]
      rw [eq_false_of_ne_true hr] at HR
      rw [e1]
      clear hr e1
      go_enter Tryz.func81, Tryz.ntmps81
      go_wp2_with (go_at_call 118; go_must (refine (HR.out _ (Below.refl _ _)).mono ?_); go_must (rintro e w1 ⟨rfl, q1⟩))
      go_ret2
      exact ⟨rfl, HP.out.below q1, Kept.of_below q1 _, q1.mono (Nat.le_of_lt HP.out.lt)⟩
set_option maxHeartbeats 1000000 in
set_option maxRecDepth 100000 in
theorem take_num.calls (P : Nat) (ws : List ByteArray) (r : ByteArray → Bool) (w : World) (hP : PAt w P ws)
    (hR : ∀ s ∈ ws, ∀ W, Below w.heap.size w W → Calls Tryz.prog 119 #[.string s] W fun e W' => e = .returned (.bool (r s)) ∧ Below W.heap.size W W') :
    Calls Tryz.prog 81 #[.pointer (some ⟨P, 0, none⟩), .func (.func 119) #[] #[]] w fun e w' => e = .returned (.tuple #[.string (takeOf r ws).1, .bool (takeOf r ws).2.1]) ∧ PAt w' P (takeOf r ws).2.2 ∧ Kept w w' (· = P) ∧ Below P w w' := by
  have hu := Tryz.underlying92
  obtain ⟨A, c, hb, hc, hrow, had⟩ := hP
  have hP : PAt w P ws := ⟨A, c, hb, hc, hrow, had⟩
  have hc0 : w.cell? ⟨P, 0, none⟩ = some (.slice A ws.length c) := blk_cell hb 0
  cases ws with
  | nil =>
    have HP := Lib.hid hP
    clear hR hP hrow had hb hc
    go_enter Tryz.func81, Tryz.ntmps81
    go_wp2
    go_ret2
    exact ⟨rfl, HP.out, Kept.refl _ _, Below.refl _ _⟩
  | cons x rr =>
    obtain ⟨ad, e, hx⟩ := Kd.at_string hrow 0 (by omega) (by simp)
    cases e
    replace hx : w.cell? ad = some (.string x) := by
      rw [show (0 : Int).toNat = 0 from rfl, addr_zero] at hx; simpa [rdOf] using hx
    have HR := Lib.hid (hR x (by simp))
    have hf0 : w.frozen? ⟨P, 0, none⟩ = false := blk_frozen hb 0
    obtain ⟨n, hn⟩ : ∃ n, n = (x :: rr).length := ⟨_, rfl⟩
    rw [← hn] at hc0 hc hb
    have HW := Lib.hid (fun W (hW : Below w.heap.size w W) => take_world hb hc hn hrow (had ad rfl) hW)
    have HP := Lib.hid hP
    have p : decide ((0 : Int) < (n : Int)) = true := by rw [hn]; simp
    have p1 : (0 : Int) < (n : Int) := of_decide_eq_true p
    have p0 : ((n : Int) == 0) = false := by rw [hn]; simp; omega
    have p2 : (1 : Int) ≤ (n : Int) := by omega
    have p3 : (n : Int) ≤ (c : Int) := by omega
    clear hR hP hrow had hb hn hc
    by_cases hr : r x = true
    · have e1 : takeOf r (x :: rr) = (x, true, rr) := by rw [takeOf, if_pos hr]
      rw [hr] at HR
      rw [e1]
      clear hr e1
      go_enter Tryz.func81, Tryz.ntmps81
      go_wp2_with (go_at_call 119; go_must (refine (HR.out _ (Below.refl _ _)).mono ?_); go_must (rintro e w1 ⟨rfl, q1⟩); have k0 := pw_cell_below q1 hc0; have k1 := pw_cell_below q1 hx; have k2 : w1.frozen? ⟨P, 0, none⟩ = false := (q1.frozen (p := ⟨P, 0, none⟩) (World.block_lt_of_cell? _ _ hc0)).trans hf0)
      all_goals go_ret2
      all_goals exact ⟨rfl, HW.out _ q1 _ (by first | rfl | (simp [*]; done))⟩
    · have e1 : takeOf r (x :: rr) = (⟨#[]⟩, false, x :: rr) := by rw [takeOf, if_neg hr]
      rw [eq_false_of_ne_true hr] at HR
      rw [e1]
      clear hr e1
      go_enter Tryz.func81, Tryz.ntmps81
      go_wp2_with (go_at_call 119; go_must (refine (HR.out _ (Below.refl _ _)).mono ?_); go_must (rintro e w1 ⟨rfl, q1⟩))
      go_ret2
      exact ⟨rfl, HP.out.below q1, Kept.of_below q1 _, q1.mono (Nat.le_of_lt HP.out.lt)⟩
def wantsOf (s : ByteArray) : Int := (shell_wants.f 9 s).getD 3
theorem wants_is (s : ByteArray) : shell_wants.f 9 s = some (wantsOf s) := by
  obtain ⟨r, hr⟩ := wants_some 7 s
  rw [wantsOf, hr]; rfl
def numR (s : ByteArray) : Bool := decide ((s.size : Int) ≤ 6) && !(bt s 0 == 45)
def plainR (s : ByteArray) : Bool := !signB s
def toolOf (ws : List ByteArray) : S74 × Bool × List ByteArray :=
  if (takeOf plainR ws).2.1 = false then (⟨⟨#[]⟩, 0, ⟨#[]⟩⟩, false, (takeOf plainR ws).2.2)
  else if wantsOf (takeOf plainR ws).1 = 0 then (⟨(takeOf plainR ws).1, 0, ⟨#[]⟩⟩, true, (takeOf plainR ws).2.2)
  else if wantsOf (takeOf plainR ws).1 = 1 then (⟨(takeOf plainR ws).1, (parsed (takeOf numR (takeOf plainR ws).2.2).1).1, ⟨#[]⟩⟩, (takeOf numR (takeOf plainR ws).2.2).2.1 && ((parsed (takeOf numR (takeOf plainR ws).2.2).1).2 == 0), (takeOf numR (takeOf plainR ws).2.2).2.2)
  else if wantsOf (takeOf plainR ws).1 = 2 then (⟨(takeOf plainR ws).1, 0, (takeOf plainR (takeOf plainR ws).2.2).1⟩, (takeOf plainR (takeOf plainR ws).2.2).2.1, (takeOf plainR (takeOf plainR ws).2.2).2.2)
  else (⟨(takeOf plainR ws).1, 0, ⟨#[]⟩⟩, false, (takeOf plainR ws).2.2)
theorem takeOf_mem (r : ByteArray → Bool) (ws : List ByteArray) : (∀ s ∈ (takeOf r ws).2.2, s ∈ ws) ∧ ((takeOf r ws).2.1 = true → (takeOf r ws).1 ∈ ws) := by
  cases ws with
  | nil => simp [takeOf]
  | cons x rr =>
    rw [takeOf]
    split
    · exact ⟨fun s h => by simp at h ⊢; exact .inr h, fun _ => by simp⟩
    · exact ⟨fun s h => h, fun h => by simp at h⟩
theorem takeOf_size {r : ByteArray → Bool} {ws : List ByteArray} {b : Nat} (h : ∀ s ∈ ws, s.size ≤ b) : (takeOf r ws).1.size ≤ b := by
  cases ws with
  | nil => exact Nat.zero_le _
  | cons x rr =>
    rw [takeOf]
    split
    · exact h x (by simp)
    · exact Nat.zero_le _
theorem num1.calls (s : ByteArray) (w : World) (hs : 0 < s.size) :
    Calls Tryz.prog 119 #[.string s] w fun e w' => e = .returned (.bool (numR s)) ∧ Below w.heap.size w w' := by
  unfold numR
  by_cases h : (s.size : Int) ≤ 6
  · have g : decide ((s.size : Int) ≤ 6) = true := decide_eq_true h
    have p : (0 : Int) < (s.size : Int) := by omega
    rw [g]
    have hb : (bt s 0 == 45) = ((s[0].toNat : Int) == 45) := by rw [← bt_at s 0 hs]; rfl
    rw [hb]
    clear h hb
    go_enter Tryz.func119, Tryz.ntmps119
    go_wp2
    go_ret
    exact ⟨by first | rfl | (simp; done) | (simp [bne]; done), Below.refl _ _⟩
  · have g : decide ((s.size : Int) ≤ 6) = false := decide_eq_false h
    rw [g]
    clear hs h
    go_enter Tryz.func119, Tryz.ntmps119
    go_wp2
    go_ret
    exact ⟨by first | rfl | simp, Below.refl _ _⟩
structure PS (P : Nat) (w W : World) (ws : List ByteArray) : Prop where
  at_ : PAt W P ws
  kept : Kept w W (· = P)
  below : Below P w W
theorem PS.start {P : Nat} {w : World} {ws : List ByteArray} (h : PAt w P ws) : PS P w w ws := ⟨h, Kept.refl _ _, Below.refl _ _⟩
theorem PS.step {P : Nat} {w W W2 : World} {ws ws2 : List ByteArray} (h : PS P w W ws) (k : PAt W2 P ws2 ∧ Kept W W2 (· = P) ∧ Below P W W2) : PS P w W2 ws2 :=
  ⟨k.1, h.kept.then_ k.2.1 (fun _ e => .inl e), h.below.trans k.2.2⟩
theorem PS.next {P : Nat} {w W W2 : World} {ws : List ByteArray} (h : PS P w W ws) (hb : Below W.heap.size W W2) : PS P w W2 ws :=
  ⟨h.at_.below hb, h.kept.below hb, h.below.trans (hb.mono (Nat.le_of_lt h.at_.lt))⟩
theorem PS.alloc {P : Nat} {w W : World} {ws : List ByteArray} (h : PS P w W ws) (o : Obj) : PS P w (W.alloc o) ws := h.next (below_alloc (Below.refl _ _) o)
theorem PS.drew {P : Nat} {w W : World} {ws : List ByteArray} (h : PS P w W ws) : PS P w W.drew ws := h.next (Below.drew (Below.refl _ _))
theorem PS.set {P : Nat} {w W : World} {ws : List ByteArray} (h : PS P w W ws) {p : Addr} (hp : w.heap.size ≤ p.block) (hP : P < w.heap.size) (u : Value) : PS P w (W.setCell p u) ws :=
  ⟨h.at_.keep ((Below.refl P W).setCell (by omega) u) (Below.heap_setCell _ _ _ _ (by omega)), h.kept.setCell (.inr hp) u, h.below.setCell (by omega) u⟩
set_option maxHeartbeats 4000000 in
set_option maxRecDepth 100000 in
theorem tool.calls (P : Nat) (ws : List ByteArray) (w : World) (hP : PAt w P ws) (hs : ∀ s ∈ ws, 0 < s.size ∧ s.size ≤ 4096) :
    Calls Tryz.prog 84 #[.pointer (some ⟨P, 0, none⟩)] w fun e w' => e = .returned (.tuple #[.agg #[.string (toolOf ws).1.f0, .int .i64 (toolOf ws).1.f1, .string (toolOf ws).1.f2], .bool (toolOf ws).2.1]) ∧ PS P w w' (toolOf ws).2.2 := by
  have hu := Tryz.underlying74
  have hPl := hP.lt
  have HP0 := Lib.hid (PS.start hP)
  have HTP := Lib.hid (fun (W : World) (us : List ByteArray) (h : PAt W P us) => take_plain.calls P us plainR W h (fun s _ W' _ => plain.calls s W'))
  have HTN := Lib.hid (fun (W : World) (us : List ByteArray) (h : PAt W P us) (hm : ∀ s ∈ us, s ∈ ws) => take_num.calls P us numR W h (fun s h' W' _ => num1.calls s W' (hs s (hm s h')).1))
  have HWT := Lib.hid (fun (s : ByteArray) (W : World) => shell_wants.calls 9 s (wantsOf s) W (wants_is s))
  have HNI := Lib.hid (fun (s : ByteArray) (W : World) (h : s.size ≤ 4096) => num_ParseInt.calls 9 s (parsed s).1 (parsed s).2 W (num_ParseInt_is 9 (by omega) s (by omega)))
  have HM := Lib.hid (takeOf_mem plainR ws).1
  have HSZ := Lib.hid (fun s hs' => (hs s hs').2)
  clear hP hs
  unfold toolOf
  obtain ⟨q0, hq0⟩ : ∃ q0, q0 = takeOf plainR ws := ⟨_, rfl⟩
  have H0 := HTP.out (w.alloc (.cells #[.string ⟨#[]⟩, .int .i64 0, .string ⟨#[]⟩] 74)) ws (HP0.out.alloc _).at_
  rw [← hq0] at H0 ⊢
  have HM2 := HM.out
  rw [← hq0] at HM2
  have HN0 := takeOf_size (r := plainR) HSZ.out
  rw [← hq0] at HN0
  obtain ⟨n0, b0, r0⟩ := q0
  simp only at H0 HM2 HN0 ⊢
  replace HN0 := Lib.hid HN0
  have HH0 := Lib.hid H0
  have HMM := Lib.hid HM2
  clear H0 HM2 hq0
  cases b0 with
  | false =>
    rw [if_pos rfl]
    go_enter Tryz.func84, Tryz.ntmps84
    go_wp2_with (go_at_call 81; go_must (refine HH0.out.mono ?_); go_must (rintro e w1 ⟨rfl, q1⟩); have S1 := Lib.hid ((HP0.out.alloc _).step q1); have k1 := blk_kept (blk_new w (.cells #[.string ⟨#[]⟩, .int .i64 0, .string ⟨#[]⟩] 74)) q1.2.1 (show ¬ w.heap.size = P by omega); have e0 := blk_cell k1 0; have e1 := blk_cell k1 1; have e2 := blk_cell k1 2; have f0 := blk_frozen k1 0; have f1 := blk_frozen k1 1; have f2 := blk_frozen k1 2; clear q1 k1)
    refine bodyPost_ret (v := .tuple #[.agg #[.string ⟨#[]⟩, .int .i64 0, .string ⟨#[]⟩], .bool false]) ?_ rfl ⟨rfl, ?_⟩
    · rw [results_cell_tmp rfl]
      go_simp
    · exact ((S1.out.set (Nat.le_refl _) hPl _).set (Nat.le_refl _) hPl _).set (Nat.le_refl _) hPl _
  | true =>
    rw [if_neg (by simp)]
    have hn0 : n0.size ≤ 4096 := HN0.out
    obtain ⟨v, hv⟩ : ∃ v, wantsOf n0 = v := ⟨_, rfl⟩
    have HW := Lib.hid (HWT.out n0)
    rw [hv] at HW ⊢
    clear hv
    by_cases h0 : v = 0
    · subst h0
      rw [if_pos rfl]
      go_enter Tryz.func84, Tryz.ntmps84
      go_wp2_with (first
        | (go_at_call 81; with_reducible (refine HH0.out.mono ?_); go_must (rintro e w1 ⟨rfl, q1⟩); have S1 := Lib.hid ((HP0.out.alloc _).step q1); have k1 := blk_kept (blk_new w (.cells #[.string ⟨#[]⟩, .int .i64 0, .string ⟨#[]⟩] 74)) q1.2.1 (show ¬ w.heap.size = P by omega); have nn1 : (w.heap.size = w1.heap.size) = False := eq_false (Nat.ne_of_lt (blk_lt k1)); have nn2 : (w1.heap.size = w.heap.size) = False := eq_false (Nat.ne_of_gt (blk_lt k1)); clear q1)
        | (go_at_call 69; go_must (refine (HW.out _).mono ?_); go_must (rintro e w2 ⟨rfl, hd2⟩); have q2 : Below (w1.alloc (.cells #[.string n0, .int .i64 0, .string ⟨#[]⟩] 74)).heap.size (w1.alloc (.cells #[.string n0, .int .i64 0, .string ⟨#[]⟩] 74)) w2 := (by obtain ⟨nd, rfl⟩ := hd2; exact pw_below_drewN (Below.refl _ _) _); have S2 := Lib.hid ((S1.out.alloc _).next q2); have k2 := blk_below (blk_new w1 _) q2; have k12 := blk_below (blk_alloc k1 _) q2; have hne : w1.heap.size ≠ P := (by have := S1.out.at_.lt; omega); have hge : w.heap.size ≤ w1.heap.size := S1.out.kept.1; have ae0 := blk_cell k2 0; have af0 := blk_frozen k2 0; have ae1 := blk_cell k2 1; have af1 := blk_frozen k2 1; have ae2 := blk_cell k2 2; have af2 := blk_frozen k2 2; have be0 := blk_cell k12 0; have bf0 := blk_frozen k12 0; have be1 := blk_cell k12 1; have bf1 := blk_frozen k12 1; have be2 := blk_cell k12 2; have bf2 := blk_frozen k12 2; clear q2 hd2))
      refine bodyPost_ret (v := .tuple #[.agg #[.string n0, .int .i64 0, .string ⟨#[]⟩], .bool true]) ?_ rfl ⟨rfl, ?_⟩
      · rw [results_cell_tmp rfl]
        go_simp
      · exact ((S2.out.set (Nat.le_refl _) hPl _).set (Nat.le_refl _) hPl _).set (Nat.le_refl _) hPl _
    rw [if_neg h0]
    have g0 : (v == 0) = false := by simpa using h0
    by_cases h1 : v = 1
    · subst h1
      rw [if_pos rfl]
      obtain ⟨q1, hq1⟩ : ∃ q1, q1 = takeOf numR r0 := ⟨_, rfl⟩
      have HN1 := Lib.hid (takeOf_size (r := numR) (ws := r0) (b := 4096) (fun s hs => HSZ.out s (HMM.out s hs)))
      have HT1 := Lib.hid (fun W (h : PAt W P r0) => HTN.out W r0 h HMM.out)
      rw [← hq1] at HN1 HT1 ⊢
      obtain ⟨n1, b1, r1⟩ := q1
      simp only at HN1 HT1 ⊢
      have HI := Lib.hid (fun W => HNI.out n1 W HN1.out)
      obtain ⟨pn, hpn⟩ : ∃ pn, parsed n1 = pn := ⟨_, rfl⟩
      rw [hpn] at HI ⊢
      obtain ⟨z, er⟩ := pn
      simp only at HI ⊢
      clear hq1 hpn h0 g0
      cases b1 with
      | false =>
        go_enter Tryz.func84, Tryz.ntmps84
        go_wp2_with (first
          | (go_at_call 81; with_reducible (refine HH0.out.mono ?_); go_must (rintro e w1 ⟨rfl, q1⟩); have S1 := Lib.hid ((HP0.out.alloc _).step q1); have k1 := blk_kept (blk_new w (.cells #[.string ⟨#[]⟩, .int .i64 0, .string ⟨#[]⟩] 74)) q1.2.1 (show ¬ w.heap.size = P by omega); have nn1 : (w.heap.size = w1.heap.size) = False := eq_false (Nat.ne_of_lt (blk_lt k1)); have nn2 : (w1.heap.size = w.heap.size) = False := eq_false (Nat.ne_of_gt (blk_lt k1)); clear q1)
          | (go_at_call 69; go_must (refine (HW.out _).mono ?_); go_must (rintro e w2 ⟨rfl, hd2⟩); have q2 : Below (w1.alloc (.cells #[.string n0, .int .i64 0, .string ⟨#[]⟩] 74)).heap.size (w1.alloc (.cells #[.string n0, .int .i64 0, .string ⟨#[]⟩] 74)) w2 := (by obtain ⟨nd, rfl⟩ := hd2; exact pw_below_drewN (Below.refl _ _) _); have S2 := Lib.hid ((S1.out.alloc _).next q2); have k2 := blk_below (blk_new w1 _) q2; have k12 := blk_below (blk_alloc k1 _) q2; have hne : w1.heap.size ≠ P := (by have := S1.out.at_.lt; omega); have hge : w.heap.size ≤ w1.heap.size := S1.out.kept.1;  clear q2 hd2)
          | (go_at_call 81; with_reducible (refine (HT1.out w2 S2.out.at_).mono ?_); go_must (rintro e w3 ⟨rfl, q3⟩); have S3 := Lib.hid (S2.out.step q3); have k3 := blk_kept k2 q3.2.1 hne; have k13 := blk_kept k12 q3.2.1 (show ¬ w.heap.size = P by omega); clear q3)
          | (go_at_call 120; go_must (refine (HI.out _).mono ?_); go_must (rintro e w4 ⟨rfl, q4⟩); have S4 := Lib.hid (S3.out.next q4); have k4 := blk_below k3 q4; have k14 := blk_below k13 q4; have ae0 := blk_cell k4 0; have af0 := blk_frozen k4 0; have ae1 := blk_cell k4 1; have af1 := blk_frozen k4 1; have ae2 := blk_cell k4 2; have af2 := blk_frozen k4 2; have be0 := blk_cell k14 0; have bf0 := blk_frozen k14 0; have be1 := blk_cell k14 1; have bf1 := blk_frozen k14 1; have be2 := blk_cell k14 2; have bf2 := blk_frozen k14 2; clear q4))
        refine bodyPost_ret (v := .tuple #[.agg #[.string n0, .int .i64 z, .string ⟨#[]⟩], .bool false]) ?_ rfl ⟨rfl, ?_⟩
        · rw [results_cell_tmp rfl]
          go_simp
        · exact (((S4.out.set hge hPl _).set (Nat.le_refl _) hPl _).set (Nat.le_refl _) hPl _).set (Nat.le_refl _) hPl _
      | true =>
        go_enter Tryz.func84, Tryz.ntmps84
        go_wp2_with (first
          | (go_at_call 81; with_reducible (refine HH0.out.mono ?_); go_must (rintro e w1 ⟨rfl, q1⟩); have S1 := Lib.hid ((HP0.out.alloc _).step q1); have k1 := blk_kept (blk_new w (.cells #[.string ⟨#[]⟩, .int .i64 0, .string ⟨#[]⟩] 74)) q1.2.1 (show ¬ w.heap.size = P by omega); have nn1 : (w.heap.size = w1.heap.size) = False := eq_false (Nat.ne_of_lt (blk_lt k1)); have nn2 : (w1.heap.size = w.heap.size) = False := eq_false (Nat.ne_of_gt (blk_lt k1)); clear q1)
          | (go_at_call 69; go_must (refine (HW.out _).mono ?_); go_must (rintro e w2 ⟨rfl, hd2⟩); have q2 : Below (w1.alloc (.cells #[.string n0, .int .i64 0, .string ⟨#[]⟩] 74)).heap.size (w1.alloc (.cells #[.string n0, .int .i64 0, .string ⟨#[]⟩] 74)) w2 := (by obtain ⟨nd, rfl⟩ := hd2; exact pw_below_drewN (Below.refl _ _) _); have S2 := Lib.hid ((S1.out.alloc _).next q2); have k2 := blk_below (blk_new w1 _) q2; have k12 := blk_below (blk_alloc k1 _) q2; have hne : w1.heap.size ≠ P := (by have := S1.out.at_.lt; omega); have hge : w.heap.size ≤ w1.heap.size := S1.out.kept.1;  clear q2 hd2)
          | (go_at_call 81; with_reducible (refine (HT1.out w2 S2.out.at_).mono ?_); go_must (rintro e w3 ⟨rfl, q3⟩); have S3 := Lib.hid (S2.out.step q3); have k3 := blk_kept k2 q3.2.1 hne; have k13 := blk_kept k12 q3.2.1 (show ¬ w.heap.size = P by omega); clear q3)
          | (go_at_call 120; go_must (refine (HI.out _).mono ?_); go_must (rintro e w4 ⟨rfl, q4⟩); have S4 := Lib.hid (S3.out.next q4); have k4 := blk_below k3 q4; have k14 := blk_below k13 q4; have ae0 := blk_cell k4 0; have af0 := blk_frozen k4 0; have ae1 := blk_cell k4 1; have af1 := blk_frozen k4 1; have ae2 := blk_cell k4 2; have af2 := blk_frozen k4 2; have be0 := blk_cell k14 0; have bf0 := blk_frozen k14 0; have be1 := blk_cell k14 1; have bf1 := blk_frozen k14 1; have be2 := blk_cell k14 2; have bf2 := blk_frozen k14 2; clear q4))
        refine bodyPost_ret (v := .tuple #[.agg #[.string n0, .int .i64 z, .string ⟨#[]⟩], .bool (er == 0)]) ?_ rfl ⟨rfl, ?_⟩
        · rw [results_cell_tmp rfl]
          go_simp
        · exact (((S4.out.set hge hPl _).set (Nat.le_refl _) hPl _).set (Nat.le_refl _) hPl _).set (Nat.le_refl _) hPl _
    rw [if_neg h1]
    have g1 : (v == 1) = false := by simpa using h1
    by_cases h2 : v = 2
    · subst h2
      rw [if_pos rfl]
      obtain ⟨q1, hq1⟩ : ∃ q1, q1 = takeOf plainR r0 := ⟨_, rfl⟩
      have HT1 := Lib.hid (fun W (h : PAt W P r0) => HTP.out W r0 h)
      rw [← hq1] at HT1 ⊢
      obtain ⟨n1, b1, r1⟩ := q1
      simp only at HT1 ⊢
      clear hq1 h0 g0 h1 g1
      go_enter Tryz.func84, Tryz.ntmps84
      go_wp2_with (first
        | (go_at_call 81; with_reducible (refine HH0.out.mono ?_); go_must (rintro e w1 ⟨rfl, q1⟩); have S1 := Lib.hid ((HP0.out.alloc _).step q1); have k1 := blk_kept (blk_new w (.cells #[.string ⟨#[]⟩, .int .i64 0, .string ⟨#[]⟩] 74)) q1.2.1 (show ¬ w.heap.size = P by omega); have nn1 : (w.heap.size = w1.heap.size) = False := eq_false (Nat.ne_of_lt (blk_lt k1)); have nn2 : (w1.heap.size = w.heap.size) = False := eq_false (Nat.ne_of_gt (blk_lt k1)); clear q1)
        | (go_at_call 69; go_must (refine (HW.out _).mono ?_); go_must (rintro e w2 ⟨rfl, hd2⟩); have q2 : Below (w1.alloc (.cells #[.string n0, .int .i64 0, .string ⟨#[]⟩] 74)).heap.size (w1.alloc (.cells #[.string n0, .int .i64 0, .string ⟨#[]⟩] 74)) w2 := (by obtain ⟨nd, rfl⟩ := hd2; exact pw_below_drewN (Below.refl _ _) _); have S2 := Lib.hid ((S1.out.alloc _).next q2); have k2 := blk_below (blk_new w1 _) q2; have k12 := blk_below (blk_alloc k1 _) q2; have hne : w1.heap.size ≠ P := (by have := S1.out.at_.lt; omega); have hge : w.heap.size ≤ w1.heap.size := S1.out.kept.1;  clear q2 hd2)
        | (go_at_call 81; with_reducible (refine (HT1.out w2 S2.out.at_).mono ?_); go_must (rintro e w3 ⟨rfl, q3⟩); have S3 := Lib.hid (S2.out.step q3); have k3 := blk_kept k2 q3.2.1 hne; have k13 := blk_kept k12 q3.2.1 (show ¬ w.heap.size = P by omega); have ae0 := blk_cell k3 0; have af0 := blk_frozen k3 0; have ae1 := blk_cell k3 1; have af1 := blk_frozen k3 1; have ae2 := blk_cell k3 2; have af2 := blk_frozen k3 2; have be0 := blk_cell k13 0; have bf0 := blk_frozen k13 0; have be1 := blk_cell k13 1; have bf1 := blk_frozen k13 1; have be2 := blk_cell k13 2; have bf2 := blk_frozen k13 2; clear q3))
      refine bodyPost_ret (v := .tuple #[.agg #[.string n0, .int .i64 0, .string n1], .bool b1]) ?_ rfl ⟨rfl, ?_⟩
      · rw [results_cell_tmp rfl]
        go_simp
      · exact (((S3.out.set hge hPl _).set (Nat.le_refl _) hPl _).set (Nat.le_refl _) hPl _).set (Nat.le_refl _) hPl _
    rw [if_neg h2]
    have g2 : (v == 2) = false := by simpa using h2
    clear h0 h1 h2
    go_enter Tryz.func84, Tryz.ntmps84
    go_wp2_with (first
        | (go_at_call 81; with_reducible (refine HH0.out.mono ?_); go_must (rintro e w1 ⟨rfl, q1⟩); have S1 := Lib.hid ((HP0.out.alloc _).step q1); have k1 := blk_kept (blk_new w (.cells #[.string ⟨#[]⟩, .int .i64 0, .string ⟨#[]⟩] 74)) q1.2.1 (show ¬ w.heap.size = P by omega); have nn1 : (w.heap.size = w1.heap.size) = False := eq_false (Nat.ne_of_lt (blk_lt k1)); have nn2 : (w1.heap.size = w.heap.size) = False := eq_false (Nat.ne_of_gt (blk_lt k1)); clear q1)
        | (go_at_call 69; go_must (refine (HW.out _).mono ?_); go_must (rintro e w2 ⟨rfl, hd2⟩); have q2 : Below (w1.alloc (.cells #[.string n0, .int .i64 0, .string ⟨#[]⟩] 74)).heap.size (w1.alloc (.cells #[.string n0, .int .i64 0, .string ⟨#[]⟩] 74)) w2 := (by obtain ⟨nd, rfl⟩ := hd2; exact pw_below_drewN (Below.refl _ _) _); have S2 := Lib.hid ((S1.out.alloc _).next q2); have k2 := blk_below (blk_new w1 _) q2; have k12 := blk_below (blk_alloc k1 _) q2; have hne : w1.heap.size ≠ P := (by have := S1.out.at_.lt; omega); have hge : w.heap.size ≤ w1.heap.size := S1.out.kept.1;  have ae0 := blk_cell k2 0; have af0 := blk_frozen k2 0; have ae1 := blk_cell k2 1; have af1 := blk_frozen k2 1; have ae2 := blk_cell k2 2; have af2 := blk_frozen k2 2; have be0 := blk_cell k12 0; have bf0 := blk_frozen k12 0; have be1 := blk_cell k12 1; have bf1 := blk_frozen k12 1; have be2 := blk_cell k12 2; have bf2 := blk_frozen k12 2; clear q2 hd2))
    refine bodyPost_ret (v := .tuple #[.agg #[.string n0, .int .i64 0, .string ⟨#[]⟩], .bool false]) ?_ rfl ⟨rfl, ?_⟩
    · rw [results_cell_tmp rfl]
      go_simp
    · exact ((S2.out.set (Nat.le_refl _) hPl _).set (Nat.le_refl _) hPl _).set (Nat.le_refl _) hPl _
end Go.Proofs.YthmijenlndnmcaaGreatDoor.Sh
