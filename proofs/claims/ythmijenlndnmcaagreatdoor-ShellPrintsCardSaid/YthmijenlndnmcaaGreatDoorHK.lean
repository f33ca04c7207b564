/-
  Hand-made contracts of functions of the program: Known.
-/
import Derived.Lib.SlicesMore
import Derived.Test.YthmijenlndnmcaaGreatDoorShx0
namespace Go.Proofs.YthmijenlndnmcaaGreatDoor.Sh
open Go.RowKit Go.Proofs.YthmijenlndnmcaaGreatDoorW.PrintWords Go.Proofs.YthmijenlndnmcaaGreatDoorW.PrintLast Go.Proofs.YthmijenlndnmcaaGreatDoorW.PrintMore
attribute [local go_sem] max2_int min2_int max_two min_two max_three min_three max_four min_four
set_option linter.unusedVariables false
set_option linter.unusedSimpArgs false
def knownB (s : ByteArray) : Bool := (([99, 97, 116] : List UInt8) == s.toList) || (([117, 112, 112, 101, 114] : List UInt8) == s.toList) || (([114, 101, 118] : List UInt8) == s.toList) || (([104, 101, 97, 100] : List UInt8) == s.toList) || (([115, 107, 105, 112] : List UInt8) == s.toList) || (([103, 114, 101, 112] : List UInt8) == s.toList) || (([110, 117, 109] : List UInt8) == s.toList) || (([117, 110, 105, 113] : List UInt8) == s.toList) || (([119, 99] : List UInt8) == s.toList)
set_option maxHeartbeats 4000000 in
set_option maxRecDepth 100000 in
theorem ref_known.calls (s : ByteArray) (w : World) :
    Calls Tryz.prog 29 #[.string s] w fun e w' => e = .returned (.bool (knownB s)) ∧ Below w.heap.size w w' := by
  obtain ⟨W0, hW0⟩ : ∃ W0, W0 = w.alloc (.cells #[.string (⟨#[99, 97, 116]⟩ : ByteArray), .string (⟨#[117, 112, 112, 101, 114]⟩ : ByteArray), .string (⟨#[114, 101, 118]⟩ : ByteArray), .string (⟨#[104, 101, 97, 100]⟩ : ByteArray), .string (⟨#[115, 107, 105, 112]⟩ : ByteArray), .string (⟨#[103, 114, 101, 112]⟩ : ByteArray), .string (⟨#[110, 117, 109]⟩ : ByteArray), .string (⟨#[117, 110, 105, 113]⟩ : ByteArray), .string (⟨#[119, 99]⟩ : ByteArray)] 9) := ⟨_, rfl⟩
  have q0 : Below w.heap.size w W0 := by rw [hW0]; exact below_alloc (Below.refl _ _) _
  have c0 : W0.cell? ⟨w.heap.size, 0, none⟩ = some (.string (⟨#[99, 97, 116]⟩ : ByteArray)) := by rw [hW0]; exact blk_cell (blk_new w _) 0
  have c1 : W0.cell? ⟨w.heap.size, 1, none⟩ = some (.string (⟨#[117, 112, 112, 101, 114]⟩ : ByteArray)) := by rw [hW0]; exact blk_cell (blk_new w _) 1
  have c2 : W0.cell? ⟨w.heap.size, 2, none⟩ = some (.string (⟨#[114, 101, 118]⟩ : ByteArray)) := by rw [hW0]; exact blk_cell (blk_new w _) 2
  have c3 : W0.cell? ⟨w.heap.size, 3, none⟩ = some (.string (⟨#[104, 101, 97, 100]⟩ : ByteArray)) := by rw [hW0]; exact blk_cell (blk_new w _) 3
  have c4 : W0.cell? ⟨w.heap.size, 4, none⟩ = some (.string (⟨#[115, 107, 105, 112]⟩ : ByteArray)) := by rw [hW0]; exact blk_cell (blk_new w _) 4
  have c5 : W0.cell? ⟨w.heap.size, 5, none⟩ = some (.string (⟨#[103, 114, 101, 112]⟩ : ByteArray)) := by rw [hW0]; exact blk_cell (blk_new w _) 5
  have c6 : W0.cell? ⟨w.heap.size, 6, none⟩ = some (.string (⟨#[110, 117, 109]⟩ : ByteArray)) := by rw [hW0]; exact blk_cell (blk_new w _) 6
  have c7 : W0.cell? ⟨w.heap.size, 7, none⟩ = some (.string (⟨#[117, 110, 105, 113]⟩ : ByteArray)) := by rw [hW0]; exact blk_cell (blk_new w _) 7
  have c8 : W0.cell? ⟨w.heap.size, 8, none⟩ = some (.string (⟨#[119, 99]⟩ : ByteArray)) := by rw [hW0]; exact blk_cell (blk_new w _) 8
  go_enter Tryz.func29, Tryz.ntmps29
  go_wp2
  rw [← hW0]
  clear hW0
  go_loopg [4] 9 (fun k v4 wr => ∃ i : Nat, v4 = .int .i64 i ∧ i ≤ 9 ∧ k = 9 - i ∧ ((0 < i → (([99, 97, 116] : List UInt8) == s.toList) = false) ∧ (1 < i → (([117, 112, 112, 101, 114] : List UInt8) == s.toList) = false) ∧ (2 < i → (([114, 101, 118] : List UInt8) == s.toList) = false) ∧ (3 < i → (([104, 101, 97, 100] : List UInt8) == s.toList) = false) ∧ (4 < i → (([115, 107, 105, 112] : List UInt8) == s.toList) = false) ∧ (5 < i → (([103, 114, 101, 112] : List UInt8) == s.toList) = false) ∧ (6 < i → (([110, 117, 109] : List UInt8) == s.toList) = false) ∧ (7 < i → (([117, 110, 105, 113] : List UInt8) == s.toList) = false) ∧ (8 < i → (([119, 99] : List UInt8) == s.toList) = false)) ∧ wr = W0)
  case atStart => exact ⟨0, rfl, by omega, by omega, ⟨by omega, by omega, by omega, by omega, by omega, by omega, by omega, by omega, by omega⟩, rfl⟩
  case round =>
    obtain ⟨i, rfl, hi, hk, hx, rfl⟩ := hrel
    have HX := Lib.hid hx
    clear hx
    obtain rfl | rfl | rfl | rfl | rfl | rfl | rfl | rfl | rfl | rfl : i = 0 ∨ i = 1 ∨ i = 2 ∨ i = 3 ∨ i = 4 ∨ i = 5 ∨ i = 6 ∨ i = 7 ∨ i = 8 ∨ i = 9 := by omega
    · cases hg : (([99, 97, 116] : List UInt8) == s.toList) with
      | true =>
        have HG := Lib.hid hg
        go_wp2
        go_ret
        exact ⟨by simp [knownB, HG.out], q0⟩
      | false =>
        have HG := Lib.hid hg
        go_wp2
        go_roundg 8
        case measure => omega
        case rel => exact ⟨1, rfl, by omega, rfl, ⟨fun _ => HG.out, by omega, by omega, by omega, by omega, by omega, by omega, by omega, by omega⟩, rfl⟩
    · cases hg : (([117, 112, 112, 101, 114] : List UInt8) == s.toList) with
      | true =>
        have HG := Lib.hid hg
        go_wp2
        go_ret
        exact ⟨by simp [knownB, HG.out], q0⟩
      | false =>
        have HG := Lib.hid hg
        go_wp2
        go_roundg 7
        case measure => omega
        case rel => exact ⟨2, rfl, by omega, rfl, ⟨fun _ => HX.out.1 (by omega), fun _ => HG.out, by omega, by omega, by omega, by omega, by omega, by omega, by omega⟩, rfl⟩
    · cases hg : (([114, 101, 118] : List UInt8) == s.toList) with
      | true =>
        have HG := Lib.hid hg
        go_wp2
        go_ret
        exact ⟨by simp [knownB, HG.out], q0⟩
      | false =>
        have HG := Lib.hid hg
        go_wp2
        go_roundg 6
        case measure => omega
        case rel => exact ⟨3, rfl, by omega, rfl, ⟨fun _ => HX.out.1 (by omega), fun _ => HX.out.2.1 (by omega), fun _ => HG.out, by omega, by omega, by omega, by omega, by omega, by omega⟩, rfl⟩
    · cases hg : (([104, 101, 97, 100] : List UInt8) == s.toList) with
      | true =>
        have HG := Lib.hid hg
        go_wp2
        go_ret
        exact ⟨by simp [knownB, HG.out], q0⟩
      | false =>
        have HG := Lib.hid hg
        go_wp2
        go_roundg 5
        case measure => omega
        case rel => exact ⟨4, rfl, by omega, rfl, ⟨fun _ => HX.out.1 (by omega), fun _ => HX.out.2.1 (by omega), fun _ => HX.out.2.2.1 (by omega), fun _ => HG.out, by omega, by omega, by omega, by omega, by omega⟩, rfl⟩
    · cases hg : (([115, 107, 105, 112] : List UInt8) == s.toList) with
      | true =>
        have HG := Lib.hid hg
        go_wp2
        go_ret
        exact ⟨by simp [knownB, HG.out], q0⟩
      | false =>
        have HG := Lib.hid hg
        go_wp2
        go_roundg 4
        case measure => omega
        case rel => exact ⟨5, rfl, by omega, rfl, ⟨fun _ => HX.out.1 (by omega), fun _ => HX.out.2.1 (by omega), fun _ => HX.out.2.2.1 (by omega), fun _ => HX.out.2.2.2.1 (by omega), fun _ => HG.out, by omega, by omega, by omega, by omega⟩, rfl⟩
    · cases hg : (([103, 114, 101, 112] : List UInt8) == s.toList) with
      | true =>
        have HG := Lib.hid hg
        go_wp2
        go_ret
        exact ⟨by simp [knownB, HG.out], q0⟩
      | false =>
        have HG := Lib.hid hg
        go_wp2
        go_roundg 3
        case measure => omega
        case rel => exact ⟨6, rfl, by omega, rfl, ⟨fun _ => HX.out.1 (by omega), fun _ => HX.out.2.1 (by omega), fun _ => HX.out.2.2.1 (by omega), fun _ => HX.out.2.2.2.1 (by omega), fun _ => HX.out.2.2.2.2.1 (by omega), fun _ => HG.out, by omega, by omega, by omega⟩, rfl⟩
    · cases hg : (([110, 117, 109] : List UInt8) == s.toList) with
      | true =>
        have HG := Lib.hid hg
        go_wp2
        go_ret
        exact ⟨by simp [knownB, HG.out], q0⟩
      | false =>
        have HG := Lib.hid hg
        go_wp2
        go_roundg 2
        case measure => omega
        case rel => exact ⟨7, rfl, by omega, rfl, ⟨fun _ => HX.out.1 (by omega), fun _ => HX.out.2.1 (by omega), fun _ => HX.out.2.2.1 (by omega), fun _ => HX.out.2.2.2.1 (by omega), fun _ => HX.out.2.2.2.2.1 (by omega), fun _ => HX.out.2.2.2.2.2.1 (by omega), fun _ => HG.out, by omega, by omega⟩, rfl⟩
    · cases hg : (([117, 110, 105, 113] : List UInt8) == s.toList) with
      | true =>
        have HG := Lib.hid hg
        go_wp2
        go_ret
        exact ⟨by simp [knownB, HG.out], q0⟩
      | false =>
        have HG := Lib.hid hg
        go_wp2
        go_roundg 1
        case measure => omega
        case rel => exact ⟨8, rfl, by omega, rfl, ⟨fun _ => HX.out.1 (by omega), fun _ => HX.out.2.1 (by omega), fun _ => HX.out.2.2.1 (by omega), fun _ => HX.out.2.2.2.1 (by omega), fun _ => HX.out.2.2.2.2.1 (by omega), fun _ => HX.out.2.2.2.2.2.1 (by omega), fun _ => HX.out.2.2.2.2.2.2.1 (by omega), fun _ => HG.out, by omega⟩, rfl⟩
    · cases hg : (([119, 99] : List UInt8) == s.toList) with
      | true =>
        have HG := Lib.hid hg
        go_wp2
        go_ret
        exact ⟨by simp [knownB, HG.out], q0⟩
      | false =>
        have HG := Lib.hid hg
        go_wp2
        go_roundg 0
        case measure => omega
        case rel => exact ⟨9, rfl, by omega, rfl, ⟨fun _ => HX.out.1 (by omega), fun _ => HX.out.2.1 (by omega), fun _ => HX.out.2.2.1 (by omega), fun _ => HX.out.2.2.2.1 (by omega), fun _ => HX.out.2.2.2.2.1 (by omega), fun _ => HX.out.2.2.2.2.2.1 (by omega), fun _ => HX.out.2.2.2.2.2.2.1 (by omega), fun _ => HX.out.2.2.2.2.2.2.2.1 (by omega), fun _ => HG.out⟩, rfl⟩
    · go_wp2
      go_ret
      exact ⟨by simp [knownB, HX.out.1 (by omega), HX.out.2.1 (by omega), HX.out.2.2.1 (by omega), HX.out.2.2.2.1 (by omega), HX.out.2.2.2.2.1 (by omega), HX.out.2.2.2.2.2.1 (by omega), HX.out.2.2.2.2.2.2.1 (by omega), HX.out.2.2.2.2.2.2.2.1 (by omega), HX.out.2.2.2.2.2.2.2.2 (by omega)], q0⟩
def millraceref21_known.f (_k : Nat) (s : ByteArray) : Option Bool := some (knownB s)
theorem millraceref21_known.mono (k : Nat) (s : ByteArray) : LeO (millraceref21_known.f k s) (millraceref21_known.f (k + 1) s) := fun _ h => h
theorem millraceref21_known.calls (k : Nat) (a0 : ByteArray) (r : Bool) (w : World) (h : millraceref21_known.f k a0 = some r) :
    Calls Tryz.prog 29 #[.string a0] w fun e w' => e = .returned (.bool r) ∧ Below w.heap.size w w' := by
  cases h
  exact ref_known.calls a0 w
end Go.Proofs.YthmijenlndnmcaaGreatDoor.Sh
