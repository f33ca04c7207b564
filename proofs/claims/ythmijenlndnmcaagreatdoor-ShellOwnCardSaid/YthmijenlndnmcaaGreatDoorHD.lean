/-
  Hand-made contracts of functions of the program: Check, Sort2.
-/
import Derived.Test.YthmijenlndnmcaaGreatDoorHC
import Derived.Shelf.SlSortCmp.InsertionK
import Derived.Test.YthmijenlndnmcaaGreatDoorShx2
import Derived.Test.YthmijenlndnmcaaGreatDoorShx3
import Derived.Test.YthmijenlndnmcaaGreatDoorShx0
namespace Go.Proofs.YthmijenlndnmcaaGreatDoor.Sh
open Go.RowKit Go.Proofs.YthmijenlndnmcaaGreatDoorW.PrintWords Go.Proofs.YthmijenlndnmcaaGreatDoorW.PrintLast Go.Proofs.YthmijenlndnmcaaGreatDoorW.PrintMore
attribute [local go_sem] max2_int min2_int max_two min_two max_three min_three max_four min_four
set_option linter.unusedVariables false
set_option linter.unusedSimpArgs false
theorem wants_some (k : Nat) (s : ByteArray) : ∃ r, shell_wants.f (k + 2) s = some r := by
  unfold shell_wants.f
  repeat' split
  all_goals (rw [shell_wants.j0]; repeat' split)
  all_goals (first | exact ⟨_, rfl⟩ | (rw [shell_wants.j1]; repeat' split))
  all_goals exact ⟨_, rfl⟩
theorem may_some (k : Nat) (a : ByteArray) (n : Int) (b : ByteArray) : ∃ r, shell_Tool_may.f (k + 2) a n b = some r := by
  obtain ⟨r, hr⟩ := wants_some k a
  unfold shell_Tool_may.f
  rw [hr]
  simp only [Option.bind_some, shell_named.f]
  repeat' split
  all_goals exact ⟨_, rfl⟩
def mayB (x : S74) : Bool := (shell_Tool_may.f 9 x.f0 x.f1 x.f2).getD false
theorem may_is (x : S74) : shell_Tool_may.f 9 x.f0 x.f1 x.f2 = some (mayB x) := by
  obtain ⟨r, hr⟩ := may_some 7 x.f0 x.f1 x.f2
  rw [mayB, hr]; rfl
theorem mayNot.calls (x : S74) (w : World) :
    Calls Tryz.prog 43 #[.agg #[.string x.f0, .int .i64 x.f1, .string x.f2]] w fun e w' => e = .returned (.bool (!mayB x)) ∧ Below w.heap.size w w' := by
  have hu := Tryz.underlying74
  have hc := fun W => shell_Tool_may.calls 9 x.f0 x.f1 x.f2 (mayB x) W (may_is x)
  go_enter Tryz.func43, Tryz.ntmps43
  go_wp2_with (go_at_call 44; go_must (refine (hc _).mono ?_); go_must (rintro e w' ⟨rfl, hB2⟩))
  go_ret
  exact ⟨rfl, below_step (by repeat (first | exact Below.refl _ _ | apply below_alloc | apply Below.drew)) hB2⟩
def tBad : Nat → List S74 → Int
  | _, [] => -1
  | i, x :: r => if mayB x then tBad (i + 1) r else (i : Int)
theorem tBad_any : ∀ (l : List S74) (i : Nat), decide (tBad i l ≥ 0) = l.any (fun x => !mayB x)
  | [], i => by simp [tBad]
  | x :: r, i => by
    simp only [tBad, List.any_cons]
    by_cases h : mayB x = true
    · simpa [h] using tBad_any r (i + 1)
    · simp [h]
set_option maxHeartbeats 1000000 in
set_option maxRecDepth 100000 in
theorem tools_index.calls (A0 : Option Addr) (c0 : Nat) (l0 : List S74) (w : World) (hr0 : Kd.C k74 w A0 l0.length l0) :
    Calls Tryz.prog 77 #[.slice A0 l0.length c0, .func (.func 43) #[] #[]] w fun e w' => e = .returned (.int .i64 (tBad 0 l0)) ∧ Below w.heap.size w w' := by
  have hu := Tryz.underlying74
  have hm : l0.length ≤ 9223372036854775807 := by have := hr0.2.1; omega
  have HR0 := Lib.hid hr0
  clear hr0
  go_enter Tryz.func77, Tryz.ntmps77
  go_wp2
  go_loopg [8] l0.length (fun k v8 wr => ∃ i : Nat, v8 = .int .i64 i ∧ i ≤ l0.length ∧ k = l0.length - i ∧ tBad 0 l0 = tBad i (l0.drop i) ∧ Below w.heap.size w wr)
  case atStart => exact ⟨0, rfl, by omega, by omega, by simp, Below.refl _ _⟩
  case round =>
    obtain ⟨i, rfl, hi, hk, hx, hB⟩ := hrel
    by_cases hlt : i < l0.length
    · have h3 : decide ((i : Int) < (l0.length : Int)) = true := by simp; omega
      obtain ⟨ad, e, hx0, hx1, hx2⟩ := at_T74 HR0.out (i : Int) (by omega) (by omega)
      cases e
      replace hx0 := (hB.cell (World.block_lt_of_cell? w _ hx0)).trans hx0
      replace hx1 := (hB.cell (World.block_lt_of_cell? w _ hx1)).trans hx1
      replace hx2 := (hB.cell (World.block_lt_of_cell? w _ hx2)).trans hx2
      obtain ⟨x, hxx⟩ : ∃ x, x = rd_T74 l0 (i : Int) := ⟨_, rfl⟩
      rw [← hxx] at hx0 hx1 hx2
      simp only [Int.toNat_natCast] at hx0 hx1 hx2
      have hdrop : l0.drop i = x :: l0.drop (i + 1) := by
        rw [List.drop_eq_getElem_cons hlt, hxx]; simp [rd_T74, hlt]
      rw [hdrop] at hx
      simp only [tBad] at hx
      clear hxx hdrop
      have hcall := fun W => mayNot.calls x W
      cases hg : mayB x with
      | true =>
        simp only [hg, Bool.not_true] at hcall
        rw [if_pos hg] at hx
        have HX := Lib.hid hx
        have HK := Lib.hid hk
        have HC := Lib.hid hcall
        have p := eq_true (show 0 ≤ (i : Int) by omega)
        have q := eq_true (show (i : Int) < (l0.length : Int) by omega)
        clear hx hg hcall hk
        go_wp2_with (go_at_call 43; go_must (refine (HC.out _).mono ?_); go_must (rintro e w' ⟨rfl, hB2⟩))
        go_roundg (l0.length - (i + 1))
        case measure => have := HK.out; omega
        case rel => exact ⟨i + 1, by go_num, by omega, rfl, HX.out, hB.trans (hB2.mono hB.size)⟩
      | false =>
        simp only [hg, Bool.not_false] at hcall
        rw [if_neg (by simp [hg])] at hx
        have HV := Lib.hid hx
        have HC := Lib.hid hcall
        have p := eq_true (show 0 ≤ (i : Int) by omega)
        have q := eq_true (show (i : Int) < (l0.length : Int) by omega)
        clear hx hg hcall hk
        go_wp2_with (go_at_call 43; go_must (refine (HC.out _).mono ?_); go_must (rintro e w' ⟨rfl, hB2⟩))
        go_ret
        exact ⟨by rw [HV.out]; rfl, hB.trans (hB2.mono hB.size)⟩
    · obtain rfl : i = l0.length := by omega
      rw [List.drop_eq_nil_of_le (by simp)] at hx
      have HV := Lib.hid (show tBad 0 l0 = -1 by rw [hx]; rfl)
      clear hx hk
      have h3 : decide ((l0.length : Int) < (l0.length : Int)) = false := by simp
      go_wp2
      go_ret
      exact ⟨by rw [HV.out]; rfl, hB⟩
theorem tools_contains.calls (A0 : Option Addr) (c0 : Nat) (l0 : List S74) (w : World) (hr0 : Kd.C k74 w A0 l0.length l0) :
    Calls Tryz.prog 42 #[.slice A0 l0.length c0, .func (.func 43) #[] #[]] w fun e w' => e = .returned (.bool (l0.any (fun x => !mayB x))) ∧ Below w.heap.size w w' := by
  rw [← tBad_any l0 0]
  have HC := Lib.hid (tools_index.calls A0 c0 l0 w hr0)
  clear hr0
  go_enter Tryz.func42, Tryz.ntmps42
  go_wp2_with (go_at_call 77; go_must (refine HC.out.mono ?_); go_must (rintro e w' ⟨rfl, hB2⟩))
  go_ret
  exact ⟨rfl, hB2⟩
def headB (s : ByteArray) : Bool := (s.toList == ([99, 97, 116] : List UInt8)) || (s.toList == ([104, 101, 97, 100] : List UInt8)) || (s.toList == ([119, 99] : List UInt8))
set_option maxHeartbeats 1000000 in
set_option maxRecDepth 100000 in
theorem heads_index.calls (B : Nat) (s : ByteArray) (ty : TypeId) (w : World) (hb : w.heap[B]? = some (.cells #[.string (⟨#[99, 97, 116]⟩ : ByteArray), .string (⟨#[104, 101, 97, 100]⟩ : ByteArray), .string (⟨#[119, 99]⟩ : ByteArray)] ty (0, 0))) :
    Calls Tryz.prog 78 #[.slice (some ⟨B, 0, none⟩) 3 3, .string s] w fun e w' => (∃ i, e = .returned (.int .i64 i) ∧ decide (i ≥ 0) = headB s) ∧ Below w.heap.size w w' := by
  have c0 : w.cell? ⟨B, 0, none⟩ = some (.string (⟨#[99, 97, 116]⟩ : ByteArray)) := by have h := blk_cell hb 0; simpa using h
  have c1 : w.cell? ⟨B, 1, none⟩ = some (.string (⟨#[104, 101, 97, 100]⟩ : ByteArray)) := by have h := blk_cell hb 1; simpa using h
  have c2 : w.cell? ⟨B, 2, none⟩ = some (.string (⟨#[119, 99]⟩ : ByteArray)) := by have h := blk_cell hb 2; simpa using h
  clear hb
  go_enter Tryz.func78, Tryz.ntmps78
  go_wp2
  go_loopg [8] 3 (fun k v8 wr => ∃ i : Nat, v8 = .int .i64 i ∧ i ≤ 3 ∧ k = 3 - i ∧ ((0 < i → (s.toList == ([99, 97, 116] : List UInt8)) = false) ∧ (1 < i → (s.toList == ([104, 101, 97, 100] : List UInt8)) = false) ∧ (2 < i → (s.toList == ([119, 99] : List UInt8)) = false)) ∧ wr = w)
  case atStart => exact ⟨0, rfl, by omega, by omega, ⟨by omega, by omega, by omega⟩, rfl⟩
  case round =>
    obtain ⟨i, rfl, hi, hk, hx, rfl⟩ := hrel
    have HX := Lib.hid hx
    clear hx
    obtain rfl | rfl | rfl | rfl : i = 0 ∨ i = 1 ∨ i = 2 ∨ i = 3 := by omega
    · cases hg : (s.toList == ([99, 97, 116] : List UInt8)) with
      | true =>
        have HG := Lib.hid hg
        go_wp2
        go_ret
        exact ⟨⟨0, rfl, by simp [headB, HG.out]⟩, Below.refl _ _⟩
      | false =>
        have HG := Lib.hid hg
        go_wp2
        go_roundg 2
        case measure => omega
        case rel => exact ⟨1, rfl, by omega, rfl, ⟨fun _ => HG.out, by omega, by omega⟩, rfl⟩
    · cases hg : (s.toList == ([104, 101, 97, 100] : List UInt8)) with
      | true =>
        have HG := Lib.hid hg
        go_wp2
        go_ret
        exact ⟨⟨1, rfl, by simp [headB, HG.out]⟩, Below.refl _ _⟩
      | false =>
        have HG := Lib.hid hg
        go_wp2
        go_roundg 1
        case measure => omega
        case rel => exact ⟨2, rfl, by omega, rfl, ⟨fun _ => HX.out.1 (by omega), fun _ => HG.out, by omega⟩, rfl⟩
    · cases hg : (s.toList == ([119, 99] : List UInt8)) with
      | true =>
        have HG := Lib.hid hg
        go_wp2
        go_ret
        exact ⟨⟨2, rfl, by simp [headB, HG.out]⟩, Below.refl _ _⟩
      | false =>
        have HG := Lib.hid hg
        go_wp2
        go_roundg 0
        case measure => omega
        case rel => exact ⟨3, rfl, by omega, rfl, ⟨fun _ => HX.out.1 (by omega), fun _ => HX.out.2.1 (by omega), fun _ => HG.out⟩, rfl⟩
    · go_wp2
      go_ret
      exact ⟨⟨-1, rfl, by simp [headB, HX.out.1 (by omega), HX.out.2.1 (by omega), HX.out.2.2 (by omega)]⟩, Below.refl _ _⟩
theorem heads_contains.calls (B : Nat) (s : ByteArray) (ty : TypeId) (w : World) (hb : w.heap[B]? = some (.cells #[.string (⟨#[99, 97, 116]⟩ : ByteArray), .string (⟨#[104, 101, 97, 100]⟩ : ByteArray), .string (⟨#[119, 99]⟩ : ByteArray)] ty (0, 0))) :
    Calls Tryz.prog 45 #[.slice (some ⟨B, 0, none⟩) 3 3, .string s] w fun e w' => e = .returned (.bool (headB s)) ∧ Below w.heap.size w w' := by
  have HC := Lib.hid (heads_index.calls B s ty w hb)
  clear hb
  go_enter Tryz.func45, Tryz.ntmps45
  go_wp2_with (go_at_call 78; go_must (refine HC.out.mono ?_); go_must (rintro e w' ⟨⟨i, rfl, hi⟩, hB2⟩))
  go_ret
  exact ⟨by rw [← hi]; rfl, hB2⟩
def nameB (s : ByteArray) : Bool := kernNamed s && !signB s
theorem named_is (s : ByteArray) : shell_named.f s = some (nameB s) := rfl
def checkOf (fr : ByteArray) (xs : List S74) (tp : ByteArray) : Int :=
  if (fr.toList == ([] : List UInt8)) = false ∧ nameB fr = false ∨ nameB tp = false then 61
  else if xs.length < 1 ∨ 16 < xs.length then 3
  else if xs.any (fun x => !mayB x) = true then 211
  else if (fr.toList == ([] : List UInt8)) = true ∧ headB (rd_T74 xs 0).f0 = false then 211 else 0
set_option maxHeartbeats 4000000 in
set_option maxRecDepth 100000 in
theorem shell_CheckH.calls (Fr Tp : ByteArray) (ap : Bool) (A : Option Addr) (c : Nat) (xs : List S74) (w : World) (hr : Kd.C k74 w A xs.length xs) (hc : xs.length ≤ c) :
    Calls Tryz.prog 23 #[.agg #[.string Fr, .slice A xs.length c, .string Tp, .bool ap]] w fun e w' => e = .returned (.int .i64 (checkOf Fr xs Tp)) ∧ Below w.heap.size w w' := by
  have hu := Tryz.underlying46
  have hu2 := Tryz.underlying74
  have HNF := Lib.hid (fun W => shell_named.calls Fr (nameB Fr) W (named_is Fr))
  have HNT := Lib.hid (fun W => shell_named.calls Tp (nameB Tp) W (named_is Tp))
  have HTC := Lib.hid (fun W (hB : Below w.heap.size w W) => tools_contains.calls A c xs W (Kd.C_below hr hB))
  have HR := Lib.hid hr
  have hcc : (xs.length : Int) ≤ (c : Int) := by omega
  obtain ⟨V, hV⟩ : ∃ V, V = checkOf Fr xs Tp := ⟨_, rfl⟩
  rw [← hV]
  have HV := Lib.hid hV
  clear hr hV
  cases hF : (Fr.toList == ([] : List UInt8)) with
  | true =>
    cases hT : nameB Tp with
    | true =>
      rw [hT] at HNT
      by_cases h1 : xs.length < 1
      · have d1 : decide ((xs.length : Int) < 1) = true := by simp; omega
        have hv : V = 3 := by rw [HV.out]; unfold checkOf; simp [hF, hT, h1]
        subst hv
        have H1 := Lib.hid h1
        clear h1
        go_enter Tryz.func23, Tryz.ntmps23
        go_wp2_with (first
          | (go_at_call 41; first | ((with_reducible refine (HNF.out _).mono ?_); go_must (rintro e w1 ⟨rfl, q1⟩); have k1 : w1.heap[w.heap.size]? = some (.cells #[.string Fr, .slice A xs.length c, .string Tp, .bool ap] 46 (0, 0)) := blk_below (blk_new w _) q1; have uw10 : w1.cell? ⟨w.heap.size, 0, none⟩ = some (.string Fr) := (by have h := blk_cell k1 0; exact h); have uw11 : w1.cell? ⟨w.heap.size, 1, none⟩ = some (.slice A xs.length c) := (by have h := blk_cell k1 1; exact h); have uw12 : w1.cell? ⟨w.heap.size, 2, none⟩ = some (.string Tp) := (by have h := blk_cell k1 2; exact h)) | ((with_reducible refine (HNT.out _).mono ?_); go_must (rintro e w2 ⟨rfl, q2⟩); have k2 : w2.heap[w.heap.size]? = some (.cells #[.string Fr, .slice A xs.length c, .string Tp, .bool ap] 46 (0, 0)) := (by first | exact blk_below k1 q2 | exact blk_below (blk_new w _) q2); have uw20 : w2.cell? ⟨w.heap.size, 0, none⟩ = some (.string Fr) := (by have h := blk_cell k2 0; exact h); have uw21 : w2.cell? ⟨w.heap.size, 1, none⟩ = some (.slice A xs.length c) := (by have h := blk_cell k2 1; exact h); have uw22 : w2.cell? ⟨w.heap.size, 2, none⟩ = some (.string Tp) := (by have h := blk_cell k2 2; exact h)))
          | go_in)
        go_ret
        exact ⟨rfl, by (repeat (first | with_reducible exact Below.refl _ _ | with_reducible apply below_alloc | with_reducible apply Below.drew | (refine below_step ?_ (by assumption))))⟩
      · by_cases h2 : 16 < xs.length
        · have d1 : decide ((xs.length : Int) < 1) = false := by simp; omega
          have d2 : decide ((xs.length : Int) > 16) = true := by simp; omega
          have hv : V = 3 := by rw [HV.out]; unfold checkOf; simp [hF, hT, h1, h2]
          subst hv
          have H1 := Lib.hid h1
          clear h1 h2
          go_enter Tryz.func23, Tryz.ntmps23
          go_wp2_with (first
            | (go_at_call 41; first | ((with_reducible refine (HNF.out _).mono ?_); go_must (rintro e w1 ⟨rfl, q1⟩); have k1 : w1.heap[w.heap.size]? = some (.cells #[.string Fr, .slice A xs.length c, .string Tp, .bool ap] 46 (0, 0)) := blk_below (blk_new w _) q1; have uw10 : w1.cell? ⟨w.heap.size, 0, none⟩ = some (.string Fr) := (by have h := blk_cell k1 0; exact h); have uw11 : w1.cell? ⟨w.heap.size, 1, none⟩ = some (.slice A xs.length c) := (by have h := blk_cell k1 1; exact h); have uw12 : w1.cell? ⟨w.heap.size, 2, none⟩ = some (.string Tp) := (by have h := blk_cell k1 2; exact h)) | ((with_reducible refine (HNT.out _).mono ?_); go_must (rintro e w2 ⟨rfl, q2⟩); have k2 : w2.heap[w.heap.size]? = some (.cells #[.string Fr, .slice A xs.length c, .string Tp, .bool ap] 46 (0, 0)) := (by first | exact blk_below k1 q2 | exact blk_below (blk_new w _) q2); have uw20 : w2.cell? ⟨w.heap.size, 0, none⟩ = some (.string Fr) := (by have h := blk_cell k2 0; exact h); have uw21 : w2.cell? ⟨w.heap.size, 1, none⟩ = some (.slice A xs.length c) := (by have h := blk_cell k2 1; exact h); have uw22 : w2.cell? ⟨w.heap.size, 2, none⟩ = some (.string Tp) := (by have h := blk_cell k2 2; exact h)))
            | go_in)
          go_ret
          exact ⟨rfl, by (repeat (first | with_reducible exact Below.refl _ _ | with_reducible apply below_alloc | with_reducible apply Below.drew | (refine below_step ?_ (by assumption))))⟩
        · have d1 : decide ((xs.length : Int) < 1) = false := by simp; omega
          have d2 : decide ((xs.length : Int) > 16) = false := by simp; omega
          cases hA : xs.any (fun x => !mayB x) with
          | true =>
            have hv : V = 211 := by rw [HV.out]; unfold checkOf; simp [hF, hT, h1, h2, hA]
            subst hv
            rw [hA] at HTC
            have H1 := Lib.hid h1
            clear h1 h2 hA
            go_enter Tryz.func23, Tryz.ntmps23
            go_wp2_with (first
              | (go_at_call 41; first | ((with_reducible refine (HNF.out _).mono ?_); go_must (rintro e w1 ⟨rfl, q1⟩); have k1 : w1.heap[w.heap.size]? = some (.cells #[.string Fr, .slice A xs.length c, .string Tp, .bool ap] 46 (0, 0)) := blk_below (blk_new w _) q1; have uw10 : w1.cell? ⟨w.heap.size, 0, none⟩ = some (.string Fr) := (by have h := blk_cell k1 0; exact h); have uw11 : w1.cell? ⟨w.heap.size, 1, none⟩ = some (.slice A xs.length c) := (by have h := blk_cell k1 1; exact h); have uw12 : w1.cell? ⟨w.heap.size, 2, none⟩ = some (.string Tp) := (by have h := blk_cell k1 2; exact h)) | ((with_reducible refine (HNT.out _).mono ?_); go_must (rintro e w2 ⟨rfl, q2⟩); have k2 : w2.heap[w.heap.size]? = some (.cells #[.string Fr, .slice A xs.length c, .string Tp, .bool ap] 46 (0, 0)) := (by first | exact blk_below k1 q2 | exact blk_below (blk_new w _) q2); have uw20 : w2.cell? ⟨w.heap.size, 0, none⟩ = some (.string Fr) := (by have h := blk_cell k2 0; exact h); have uw21 : w2.cell? ⟨w.heap.size, 1, none⟩ = some (.slice A xs.length c) := (by have h := blk_cell k2 1; exact h); have uw22 : w2.cell? ⟨w.heap.size, 2, none⟩ = some (.string Tp) := (by have h := blk_cell k2 2; exact h)))
              | (go_at_call 42; have b2 : Below w.heap.size w w2 := (by (repeat (first | with_reducible exact Below.refl _ _ | with_reducible apply below_alloc | with_reducible apply Below.drew | (refine below_step ?_ (by assumption))))); go_must (refine (HTC.out _ b2).mono ?_); go_must (rintro e w3 ⟨rfl, q3⟩); have b3 := below_step b2 q3; have k3 : w3.heap[w.heap.size]? = some (.cells #[.string Fr, .slice A xs.length c, .string Tp, .bool ap] 46 (0, 0)) := blk_below k2 q3; have uw30 : w3.cell? ⟨w.heap.size, 0, none⟩ = some (.string Fr) := (by have h := blk_cell k3 0; exact h); have uw31 : w3.cell? ⟨w.heap.size, 1, none⟩ = some (.slice A xs.length c) := (by have h := blk_cell k3 1; exact h); have uw32 : w3.cell? ⟨w.heap.size, 2, none⟩ = some (.string Tp) := (by have h := blk_cell k3 2; exact h))
              | go_in)
            go_ret
            exact ⟨rfl, by (repeat (first | with_reducible exact Below.refl _ _ | with_reducible apply below_alloc | with_reducible apply Below.drew | (refine below_step ?_ (by assumption))))⟩
          | false =>
            obtain ⟨ad, eA, hx0, _, _⟩ := at_T74 HR.out 0 (by omega) (by omega)
            subst eA
            have hlt : ad.block < w.heap.size := by have := World.block_lt_of_cell? w _ hx0; rwa [add_block] at this
            have p1 : (0 : Int) < (xs.length : Int) := by omega
            have p2 : 0 < xs.length := by omega
            rw [show ((0 : Int).toNat * 3) = 0 from rfl, addr_zero] at hx0
            cases hG : headB (rd_T74 xs 0).f0 with
            | true =>
              have hv : V = 0 := by rw [HV.out]; unfold checkOf; simp [hF, hT, h1, h2, hA, hG]
              subst hv
              rw [hA] at HTC
              have HG := Lib.hid hG
              have H1 := Lib.hid h1
              clear h1 h2 hA hG
              go_enter Tryz.func23, Tryz.ntmps23
              go_wp2_with (first
                | (go_at_call 41; first | ((with_reducible refine (HNF.out _).mono ?_); go_must (rintro e w1 ⟨rfl, q1⟩); have k1 : w1.heap[w.heap.size]? = some (.cells #[.string Fr, .slice (some ad) xs.length c, .string Tp, .bool ap] 46 (0, 0)) := blk_below (blk_new w _) q1; have uw10 : w1.cell? ⟨w.heap.size, 0, none⟩ = some (.string Fr) := (by have h := blk_cell k1 0; exact h); have uw11 : w1.cell? ⟨w.heap.size, 1, none⟩ = some (.slice (some ad) xs.length c) := (by have h := blk_cell k1 1; exact h); have uw12 : w1.cell? ⟨w.heap.size, 2, none⟩ = some (.string Tp) := (by have h := blk_cell k1 2; exact h)) | ((with_reducible refine (HNT.out _).mono ?_); go_must (rintro e w2 ⟨rfl, q2⟩); have k2 : w2.heap[w.heap.size]? = some (.cells #[.string Fr, .slice (some ad) xs.length c, .string Tp, .bool ap] 46 (0, 0)) := (by first | exact blk_below k1 q2 | exact blk_below (blk_new w _) q2); have uw20 : w2.cell? ⟨w.heap.size, 0, none⟩ = some (.string Fr) := (by have h := blk_cell k2 0; exact h); have uw21 : w2.cell? ⟨w.heap.size, 1, none⟩ = some (.slice (some ad) xs.length c) := (by have h := blk_cell k2 1; exact h); have uw22 : w2.cell? ⟨w.heap.size, 2, none⟩ = some (.string Tp) := (by have h := blk_cell k2 2; exact h)))
                | (go_at_call 42; have b2 : Below w.heap.size w w2 := (by (repeat (first | with_reducible exact Below.refl _ _ | with_reducible apply below_alloc | with_reducible apply Below.drew | (refine below_step ?_ (by assumption))))); go_must (refine (HTC.out _ b2).mono ?_); go_must (rintro e w3 ⟨rfl, q3⟩); have b3 := below_step b2 q3; have k3 : w3.heap[w.heap.size]? = some (.cells #[.string Fr, .slice (some ad) xs.length c, .string Tp, .bool ap] 46 (0, 0)) := blk_below k2 q3; have uw30 : w3.cell? ⟨w.heap.size, 0, none⟩ = some (.string Fr) := (by have h := blk_cell k3 0; exact h); have uw31 : w3.cell? ⟨w.heap.size, 1, none⟩ = some (.slice (some ad) xs.length c) := (by have h := blk_cell k3 1; exact h); have uw32 : w3.cell? ⟨w.heap.size, 2, none⟩ = some (.string Tp) := (by have h := blk_cell k3 2; exact h); have t0 := (b3.cell hlt).trans hx0; have hlt3 : ad.block < w3.heap.size := Nat.lt_of_lt_of_le hlt b3.size; have hlw : w.heap.size < w3.heap.size := blk_lt k3)
                | (go_at_call 45; go_must (refine (heads_contains.calls _ _ _ _ (blk_new _ _)).mono ?_); rw [HG.out]; go_must (rintro e w4 ⟨rfl, q4⟩))
                | go_in)
              go_ret
              exact ⟨rfl, by (repeat (first | with_reducible exact Below.refl _ _ | with_reducible apply below_alloc | with_reducible apply Below.drew | (refine below_step ?_ (by assumption))))⟩
            | false =>
              have hv : V = 211 := by rw [HV.out]; unfold checkOf; simp [hF, hT, h1, h2, hA, hG]
              subst hv
              rw [hA] at HTC
              have HG := Lib.hid hG
              have H1 := Lib.hid h1
              clear h1 h2 hA hG
              go_enter Tryz.func23, Tryz.ntmps23
              go_wp2_with (first
                | (go_at_call 41; first | ((with_reducible refine (HNF.out _).mono ?_); go_must (rintro e w1 ⟨rfl, q1⟩); have k1 : w1.heap[w.heap.size]? = some (.cells #[.string Fr, .slice (some ad) xs.length c, .string Tp, .bool ap] 46 (0, 0)) := blk_below (blk_new w _) q1; have uw10 : w1.cell? ⟨w.heap.size, 0, none⟩ = some (.string Fr) := (by have h := blk_cell k1 0; exact h); have uw11 : w1.cell? ⟨w.heap.size, 1, none⟩ = some (.slice (some ad) xs.length c) := (by have h := blk_cell k1 1; exact h); have uw12 : w1.cell? ⟨w.heap.size, 2, none⟩ = some (.string Tp) := (by have h := blk_cell k1 2; exact h)) | ((with_reducible refine (HNT.out _).mono ?_); go_must (rintro e w2 ⟨rfl, q2⟩); have k2 : w2.heap[w.heap.size]? = some (.cells #[.string Fr, .slice (some ad) xs.length c, .string Tp, .bool ap] 46 (0, 0)) := (by first | exact blk_below k1 q2 | exact blk_below (blk_new w _) q2); have uw20 : w2.cell? ⟨w.heap.size, 0, none⟩ = some (.string Fr) := (by have h := blk_cell k2 0; exact h); have uw21 : w2.cell? ⟨w.heap.size, 1, none⟩ = some (.slice (some ad) xs.length c) := (by have h := blk_cell k2 1; exact h); have uw22 : w2.cell? ⟨w.heap.size, 2, none⟩ = some (.string Tp) := (by have h := blk_cell k2 2; exact h)))
                | (go_at_call 42; have b2 : Below w.heap.size w w2 := (by (repeat (first | with_reducible exact Below.refl _ _ | with_reducible apply below_alloc | with_reducible apply Below.drew | (refine below_step ?_ (by assumption))))); go_must (refine (HTC.out _ b2).mono ?_); go_must (rintro e w3 ⟨rfl, q3⟩); have b3 := below_step b2 q3; have k3 : w3.heap[w.heap.size]? = some (.cells #[.string Fr, .slice (some ad) xs.length c, .string Tp, .bool ap] 46 (0, 0)) := blk_below k2 q3; have uw30 : w3.cell? ⟨w.heap.size, 0, none⟩ = some (.string Fr) := (by have h := blk_cell k3 0; exact h); have uw31 : w3.cell? ⟨w.heap.size, 1, none⟩ = some (.slice (some ad) xs.length c) := (by have h := blk_cell k3 1; exact h); have uw32 : w3.cell? ⟨w.heap.size, 2, none⟩ = some (.string Tp) := (by have h := blk_cell k3 2; exact h); have t0 := (b3.cell hlt).trans hx0; have hlt3 : ad.block < w3.heap.size := Nat.lt_of_lt_of_le hlt b3.size; have hlw : w.heap.size < w3.heap.size := blk_lt k3)
                | (go_at_call 45; go_must (refine (heads_contains.calls _ _ _ _ (blk_new _ _)).mono ?_); rw [HG.out]; go_must (rintro e w4 ⟨rfl, q4⟩))
                | go_in)
              go_ret
              exact ⟨rfl, by (repeat (first | with_reducible exact Below.refl _ _ | with_reducible apply below_alloc | with_reducible apply Below.drew | (refine below_step ?_ (by assumption))))⟩
    | false =>
      rw [hT] at HNT
      have hv : V = 61 := by rw [HV.out]; unfold checkOf; simp [hF, hT]
      subst hv
      go_enter Tryz.func23, Tryz.ntmps23
      go_wp2_with (first
        | (go_at_call 41; first | ((with_reducible refine (HNF.out _).mono ?_); go_must (rintro e w1 ⟨rfl, q1⟩); have k1 : w1.heap[w.heap.size]? = some (.cells #[.string Fr, .slice A xs.length c, .string Tp, .bool ap] 46 (0, 0)) := blk_below (blk_new w _) q1; have uw10 : w1.cell? ⟨w.heap.size, 0, none⟩ = some (.string Fr) := (by have h := blk_cell k1 0; exact h); have uw11 : w1.cell? ⟨w.heap.size, 1, none⟩ = some (.slice A xs.length c) := (by have h := blk_cell k1 1; exact h); have uw12 : w1.cell? ⟨w.heap.size, 2, none⟩ = some (.string Tp) := (by have h := blk_cell k1 2; exact h)) | ((with_reducible refine (HNT.out _).mono ?_); go_must (rintro e w2 ⟨rfl, q2⟩); have k2 : w2.heap[w.heap.size]? = some (.cells #[.string Fr, .slice A xs.length c, .string Tp, .bool ap] 46 (0, 0)) := (by first | exact blk_below k1 q2 | exact blk_below (blk_new w _) q2); have uw20 : w2.cell? ⟨w.heap.size, 0, none⟩ = some (.string Fr) := (by have h := blk_cell k2 0; exact h); have uw21 : w2.cell? ⟨w.heap.size, 1, none⟩ = some (.slice A xs.length c) := (by have h := blk_cell k2 1; exact h); have uw22 : w2.cell? ⟨w.heap.size, 2, none⟩ = some (.string Tp) := (by have h := blk_cell k2 2; exact h)))
        | go_in)
      go_ret
      exact ⟨rfl, by (repeat (first | with_reducible exact Below.refl _ _ | with_reducible apply below_alloc | with_reducible apply Below.drew | (refine below_step ?_ (by assumption))))⟩
  | false =>
    cases hN : nameB Fr with
    | true =>
      cases hT : nameB Tp with
      | true =>
        rw [hT] at HNT
        rw [hN] at HNF
        by_cases h1 : xs.length < 1
        · have d1 : decide ((xs.length : Int) < 1) = true := by simp; omega
          have hv : V = 3 := by rw [HV.out]; unfold checkOf; simp [hF, hN, hT, h1]
          subst hv
          have H1 := Lib.hid h1
          clear h1
          go_enter Tryz.func23, Tryz.ntmps23
          go_wp2_with (first
            | (go_at_call 41; first | ((with_reducible refine (HNF.out _).mono ?_); go_must (rintro e w1 ⟨rfl, q1⟩); have k1 : w1.heap[w.heap.size]? = some (.cells #[.string Fr, .slice A xs.length c, .string Tp, .bool ap] 46 (0, 0)) := blk_below (blk_new w _) q1; have uw10 : w1.cell? ⟨w.heap.size, 0, none⟩ = some (.string Fr) := (by have h := blk_cell k1 0; exact h); have uw11 : w1.cell? ⟨w.heap.size, 1, none⟩ = some (.slice A xs.length c) := (by have h := blk_cell k1 1; exact h); have uw12 : w1.cell? ⟨w.heap.size, 2, none⟩ = some (.string Tp) := (by have h := blk_cell k1 2; exact h)) | ((with_reducible refine (HNT.out _).mono ?_); go_must (rintro e w2 ⟨rfl, q2⟩); have k2 : w2.heap[w.heap.size]? = some (.cells #[.string Fr, .slice A xs.length c, .string Tp, .bool ap] 46 (0, 0)) := (by first | exact blk_below k1 q2 | exact blk_below (blk_new w _) q2); have uw20 : w2.cell? ⟨w.heap.size, 0, none⟩ = some (.string Fr) := (by have h := blk_cell k2 0; exact h); have uw21 : w2.cell? ⟨w.heap.size, 1, none⟩ = some (.slice A xs.length c) := (by have h := blk_cell k2 1; exact h); have uw22 : w2.cell? ⟨w.heap.size, 2, none⟩ = some (.string Tp) := (by have h := blk_cell k2 2; exact h)))
            | go_in)
          go_ret
          exact ⟨rfl, by (repeat (first | with_reducible exact Below.refl _ _ | with_reducible apply below_alloc | with_reducible apply Below.drew | (refine below_step ?_ (by assumption))))⟩
        · by_cases h2 : 16 < xs.length
          · have d1 : decide ((xs.length : Int) < 1) = false := by simp; omega
            have d2 : decide ((xs.length : Int) > 16) = true := by simp; omega
            have hv : V = 3 := by rw [HV.out]; unfold checkOf; simp [hF, hN, hT, h1, h2]
            subst hv
            have H1 := Lib.hid h1
            clear h1 h2
            go_enter Tryz.func23, Tryz.ntmps23
            go_wp2_with (first
              | (go_at_call 41; first | ((with_reducible refine (HNF.out _).mono ?_); go_must (rintro e w1 ⟨rfl, q1⟩); have k1 : w1.heap[w.heap.size]? = some (.cells #[.string Fr, .slice A xs.length c, .string Tp, .bool ap] 46 (0, 0)) := blk_below (blk_new w _) q1; have uw10 : w1.cell? ⟨w.heap.size, 0, none⟩ = some (.string Fr) := (by have h := blk_cell k1 0; exact h); have uw11 : w1.cell? ⟨w.heap.size, 1, none⟩ = some (.slice A xs.length c) := (by have h := blk_cell k1 1; exact h); have uw12 : w1.cell? ⟨w.heap.size, 2, none⟩ = some (.string Tp) := (by have h := blk_cell k1 2; exact h)) | ((with_reducible refine (HNT.out _).mono ?_); go_must (rintro e w2 ⟨rfl, q2⟩); have k2 : w2.heap[w.heap.size]? = some (.cells #[.string Fr, .slice A xs.length c, .string Tp, .bool ap] 46 (0, 0)) := (by first | exact blk_below k1 q2 | exact blk_below (blk_new w _) q2); have uw20 : w2.cell? ⟨w.heap.size, 0, none⟩ = some (.string Fr) := (by have h := blk_cell k2 0; exact h); have uw21 : w2.cell? ⟨w.heap.size, 1, none⟩ = some (.slice A xs.length c) := (by have h := blk_cell k2 1; exact h); have uw22 : w2.cell? ⟨w.heap.size, 2, none⟩ = some (.string Tp) := (by have h := blk_cell k2 2; exact h)))
              | go_in)
            go_ret
            exact ⟨rfl, by (repeat (first | with_reducible exact Below.refl _ _ | with_reducible apply below_alloc | with_reducible apply Below.drew | (refine below_step ?_ (by assumption))))⟩
          · have d1 : decide ((xs.length : Int) < 1) = false := by simp; omega
            have d2 : decide ((xs.length : Int) > 16) = false := by simp; omega
            cases hA : xs.any (fun x => !mayB x) with
            | true =>
              have hv : V = 211 := by rw [HV.out]; unfold checkOf; simp [hF, hN, hT, h1, h2, hA]
              subst hv
              rw [hA] at HTC
              have H1 := Lib.hid h1
              clear h1 h2 hA
              go_enter Tryz.func23, Tryz.ntmps23
              go_wp2_with (first
                | (go_at_call 41; first | ((with_reducible refine (HNF.out _).mono ?_); go_must (rintro e w1 ⟨rfl, q1⟩); have k1 : w1.heap[w.heap.size]? = some (.cells #[.string Fr, .slice A xs.length c, .string Tp, .bool ap] 46 (0, 0)) := blk_below (blk_new w _) q1; have uw10 : w1.cell? ⟨w.heap.size, 0, none⟩ = some (.string Fr) := (by have h := blk_cell k1 0; exact h); have uw11 : w1.cell? ⟨w.heap.size, 1, none⟩ = some (.slice A xs.length c) := (by have h := blk_cell k1 1; exact h); have uw12 : w1.cell? ⟨w.heap.size, 2, none⟩ = some (.string Tp) := (by have h := blk_cell k1 2; exact h)) | ((with_reducible refine (HNT.out _).mono ?_); go_must (rintro e w2 ⟨rfl, q2⟩); have k2 : w2.heap[w.heap.size]? = some (.cells #[.string Fr, .slice A xs.length c, .string Tp, .bool ap] 46 (0, 0)) := (by first | exact blk_below k1 q2 | exact blk_below (blk_new w _) q2); have uw20 : w2.cell? ⟨w.heap.size, 0, none⟩ = some (.string Fr) := (by have h := blk_cell k2 0; exact h); have uw21 : w2.cell? ⟨w.heap.size, 1, none⟩ = some (.slice A xs.length c) := (by have h := blk_cell k2 1; exact h); have uw22 : w2.cell? ⟨w.heap.size, 2, none⟩ = some (.string Tp) := (by have h := blk_cell k2 2; exact h)))
                | (go_at_call 42; have b2 : Below w.heap.size w w2 := (by (repeat (first | with_reducible exact Below.refl _ _ | with_reducible apply below_alloc | with_reducible apply Below.drew | (refine below_step ?_ (by assumption))))); go_must (refine (HTC.out _ b2).mono ?_); go_must (rintro e w3 ⟨rfl, q3⟩); have b3 := below_step b2 q3; have k3 : w3.heap[w.heap.size]? = some (.cells #[.string Fr, .slice A xs.length c, .string Tp, .bool ap] 46 (0, 0)) := blk_below k2 q3; have uw30 : w3.cell? ⟨w.heap.size, 0, none⟩ = some (.string Fr) := (by have h := blk_cell k3 0; exact h); have uw31 : w3.cell? ⟨w.heap.size, 1, none⟩ = some (.slice A xs.length c) := (by have h := blk_cell k3 1; exact h); have uw32 : w3.cell? ⟨w.heap.size, 2, none⟩ = some (.string Tp) := (by have h := blk_cell k3 2; exact h))
                | go_in)
              go_ret
              exact ⟨rfl, by (repeat (first | with_reducible exact Below.refl _ _ | with_reducible apply below_alloc | with_reducible apply Below.drew | (refine below_step ?_ (by assumption))))⟩
            | false =>
              have hv : V = 0 := by rw [HV.out]; unfold checkOf; simp [hF, hN, hT, h1, h2, hA]
              subst hv
              rw [hA] at HTC
              have H1 := Lib.hid h1
              clear h1 h2 hA
              go_enter Tryz.func23, Tryz.ntmps23
              go_wp2_with (first
                | (go_at_call 41; first | ((with_reducible refine (HNF.out _).mono ?_); go_must (rintro e w1 ⟨rfl, q1⟩); have k1 : w1.heap[w.heap.size]? = some (.cells #[.string Fr, .slice A xs.length c, .string Tp, .bool ap] 46 (0, 0)) := blk_below (blk_new w _) q1; have uw10 : w1.cell? ⟨w.heap.size, 0, none⟩ = some (.string Fr) := (by have h := blk_cell k1 0; exact h); have uw11 : w1.cell? ⟨w.heap.size, 1, none⟩ = some (.slice A xs.length c) := (by have h := blk_cell k1 1; exact h); have uw12 : w1.cell? ⟨w.heap.size, 2, none⟩ = some (.string Tp) := (by have h := blk_cell k1 2; exact h)) | ((with_reducible refine (HNT.out _).mono ?_); go_must (rintro e w2 ⟨rfl, q2⟩); have k2 : w2.heap[w.heap.size]? = some (.cells #[.string Fr, .slice A xs.length c, .string Tp, .bool ap] 46 (0, 0)) := (by first | exact blk_below k1 q2 | exact blk_below (blk_new w _) q2); have uw20 : w2.cell? ⟨w.heap.size, 0, none⟩ = some (.string Fr) := (by have h := blk_cell k2 0; exact h); have uw21 : w2.cell? ⟨w.heap.size, 1, none⟩ = some (.slice A xs.length c) := (by have h := blk_cell k2 1; exact h); have uw22 : w2.cell? ⟨w.heap.size, 2, none⟩ = some (.string Tp) := (by have h := blk_cell k2 2; exact h)))
                | (go_at_call 42; have b2 : Below w.heap.size w w2 := (by (repeat (first | with_reducible exact Below.refl _ _ | with_reducible apply below_alloc | with_reducible apply Below.drew | (refine below_step ?_ (by assumption))))); go_must (refine (HTC.out _ b2).mono ?_); go_must (rintro e w3 ⟨rfl, q3⟩); have b3 := below_step b2 q3; have k3 : w3.heap[w.heap.size]? = some (.cells #[.string Fr, .slice A xs.length c, .string Tp, .bool ap] 46 (0, 0)) := blk_below k2 q3; have uw30 : w3.cell? ⟨w.heap.size, 0, none⟩ = some (.string Fr) := (by have h := blk_cell k3 0; exact h); have uw31 : w3.cell? ⟨w.heap.size, 1, none⟩ = some (.slice A xs.length c) := (by have h := blk_cell k3 1; exact h); have uw32 : w3.cell? ⟨w.heap.size, 2, none⟩ = some (.string Tp) := (by have h := blk_cell k3 2; exact h))
                | go_in)
              go_ret
              exact ⟨rfl, by (repeat (first | with_reducible exact Below.refl _ _ | with_reducible apply below_alloc | with_reducible apply Below.drew | (refine below_step ?_ (by assumption))))⟩
      | false =>
        rw [hT] at HNT
        rw [hN] at HNF
        have hv : V = 61 := by rw [HV.out]; unfold checkOf; simp [hF, hN, hT]
        subst hv
        go_enter Tryz.func23, Tryz.ntmps23
        go_wp2_with (first
          | (go_at_call 41; first | ((with_reducible refine (HNF.out _).mono ?_); go_must (rintro e w1 ⟨rfl, q1⟩); have k1 : w1.heap[w.heap.size]? = some (.cells #[.string Fr, .slice A xs.length c, .string Tp, .bool ap] 46 (0, 0)) := blk_below (blk_new w _) q1; have uw10 : w1.cell? ⟨w.heap.size, 0, none⟩ = some (.string Fr) := (by have h := blk_cell k1 0; exact h); have uw11 : w1.cell? ⟨w.heap.size, 1, none⟩ = some (.slice A xs.length c) := (by have h := blk_cell k1 1; exact h); have uw12 : w1.cell? ⟨w.heap.size, 2, none⟩ = some (.string Tp) := (by have h := blk_cell k1 2; exact h)) | ((with_reducible refine (HNT.out _).mono ?_); go_must (rintro e w2 ⟨rfl, q2⟩); have k2 : w2.heap[w.heap.size]? = some (.cells #[.string Fr, .slice A xs.length c, .string Tp, .bool ap] 46 (0, 0)) := (by first | exact blk_below k1 q2 | exact blk_below (blk_new w _) q2); have uw20 : w2.cell? ⟨w.heap.size, 0, none⟩ = some (.string Fr) := (by have h := blk_cell k2 0; exact h); have uw21 : w2.cell? ⟨w.heap.size, 1, none⟩ = some (.slice A xs.length c) := (by have h := blk_cell k2 1; exact h); have uw22 : w2.cell? ⟨w.heap.size, 2, none⟩ = some (.string Tp) := (by have h := blk_cell k2 2; exact h)))
          | go_in)
        go_ret
        exact ⟨rfl, by (repeat (first | with_reducible exact Below.refl _ _ | with_reducible apply below_alloc | with_reducible apply Below.drew | (refine below_step ?_ (by assumption))))⟩
    | false =>
      rw [hN] at HNF
      have hv : V = 61 := by rw [HV.out]; unfold checkOf; simp [hF, hN]
      subst hv
      go_enter Tryz.func23, Tryz.ntmps23
      go_wp2_with (first
        | (go_at_call 41; first | ((with_reducible refine (HNF.out _).mono ?_); go_must (rintro e w1 ⟨rfl, q1⟩); have k1 : w1.heap[w.heap.size]? = some (.cells #[.string Fr, .slice A xs.length c, .string Tp, .bool ap] 46 (0, 0)) := blk_below (blk_new w _) q1; have uw10 : w1.cell? ⟨w.heap.size, 0, none⟩ = some (.string Fr) := (by have h := blk_cell k1 0; exact h); have uw11 : w1.cell? ⟨w.heap.size, 1, none⟩ = some (.slice A xs.length c) := (by have h := blk_cell k1 1; exact h); have uw12 : w1.cell? ⟨w.heap.size, 2, none⟩ = some (.string Tp) := (by have h := blk_cell k1 2; exact h)) | ((with_reducible refine (HNT.out _).mono ?_); go_must (rintro e w2 ⟨rfl, q2⟩); have k2 : w2.heap[w.heap.size]? = some (.cells #[.string Fr, .slice A xs.length c, .string Tp, .bool ap] 46 (0, 0)) := (by first | exact blk_below k1 q2 | exact blk_below (blk_new w _) q2); have uw20 : w2.cell? ⟨w.heap.size, 0, none⟩ = some (.string Fr) := (by have h := blk_cell k2 0; exact h); have uw21 : w2.cell? ⟨w.heap.size, 1, none⟩ = some (.slice A xs.length c) := (by have h := blk_cell k2 1; exact h); have uw22 : w2.cell? ⟨w.heap.size, 2, none⟩ = some (.string Tp) := (by have h := blk_cell k2 2; exact h)))
        | go_in)
      go_ret
      exact ⟨rfl, by (repeat (first | with_reducible exact Below.refl _ _ | with_reducible apply below_alloc | with_reducible apply Below.drew | (refine below_step ?_ (by assumption))))⟩
def sort2_ren : Go.Shelf.Ren := ⟨fun | 20 => 100 | n => n, fun | 22 => 39 | 24 => 50 | 25 => 80 | n => n, fun | n => n⟩
theorem sort2_lays : Go.Proofs.SlLaysF0.n20 Tryz.prog sort2_ren := {
  mixed := by kernel_rfl
  f20 := ⟨"slices.insertionSortCmpFunc[millrace/api.Named]", by decide, Tryz.func100.trans (congrArg some (by kernel_rfl))⟩
  t0 := Tryz.underlying0
  a0 := Tryz.isAgg0
  z0 := Tryz.sizeOf0
  v0 := Tryz.zeroValue0
  t3 := Tryz.underlying3
  a3 := Tryz.isAgg3
  z3 := Tryz.sizeOf3
  v3 := Tryz.zeroValue3
  t4 := Tryz.underlying4
  a4 := Tryz.isAgg4
  z4 := Tryz.sizeOf4
  v4 := Tryz.zeroValue4
  t22 := Tryz.underlying39
  a22 := Tryz.isAgg39
  z22 := Tryz.sizeOf39
  v22 := Tryz.zeroValue39
  t25 := Tryz.underlying80
  a25 := Tryz.isAgg80
  z25 := Tryz.sizeOf80
  v25 := Tryz.zeroValue80 }
theorem lib_bytes (s : ByteArray) : Lib.bytesOf (bytesOf s) = s.data.toList := by
  unfold Lib.bytesOf bytesOf
  rw [List.map_map]
  have : ((fun n : Int => n.toNat.toUInt8) ∘ fun b : UInt8 => (b.toNat : Int)) = id := by funext b; simp
  rw [this, List.map_id]
theorem cmp_run (W : World) (B1 B2 c1 c2 : Nat) (s t : ByteArray) (h1 : ∀ j, (h : j < s.size) → W.cell? ⟨B1, j, none⟩ = some (.int .u8 (s[j].toNat : Int))) (h2 : ∀ j, (h : j < t.size) → W.cell? ⟨B2, j, none⟩ = some (.int .u8 (t[j].toNat : Int))) :
    (Extern.BytealgCompare.compare #[.slice (some ⟨B1, 0, none⟩) s.size c1, .slice (some ⟨B2, 0, none⟩) t.size c2]).run Tryz.prog W = .ok (.int .i64 (Lib.compareBytes s.data.toList t.data.toList)) W := by
  have hb : ∀ (B c : Nat) (u : ByteArray), (∀ j, (h : j < u.size) → W.cell? ⟨B, j, none⟩ = some (.int .u8 (u[j].toNat : Int))) → (Extern.Bytes.bytesOf (.slice (some ⟨B, 0, none⟩) u.size c)).run Tryz.prog W = .ok u W := by
    intro B c u hu
    have := Lib.run_loadBytesX (P := Tryz.prog) W (bytesOf u) ⟨B, 0, none⟩ .empty (fun j x hj => by
      obtain ⟨hl, hx⟩ := List.getElem?_eq_some_iff.1 hj
      rw [bytesOf_length] at hl
      rw [add_plain, hu j hl, ← hx]
      simp [bytesOf]
      rfl)
    rw [bytesOf_length] at this
    simp only [Extern.Bytes.bytesOf]
    rw [this]
    congr 1
    apply ByteArray.ext
    rw [lib_bytes]
    show (#[] : Array UInt8) ++ u.data.toList.toArray = u.data
    rw [Array.toArray_toList, Array.empty_append]
  change Sem.run Tryz.prog (do pure (goInt (Extern.BytealgCompare.cmp (← Extern.Bytes.bytesOf (.slice (some ⟨B1, 0, none⟩) s.size c1)) (← Extern.Bytes.bytesOf (.slice (some ⟨B2, 0, none⟩) t.size c2))))) W = _
  simp only [Sem.run_bind, hb B1 c1 s h1, hb B2 c2 t h2, Sem.run_pure, Result.andThen]
  rw [Lib.cmp_eq]
  rfl
set_option maxRecDepth 100000 in
theorem bytes_Compare.calls (W : World) (B1 B2 c1 c2 : Nat) (s t : ByteArray) (h1 : ∀ j, (h : j < s.size) → W.cell? ⟨B1, j, none⟩ = some (.int .u8 (s[j].toNat : Int))) (h2 : ∀ j, (h : j < t.size) → W.cell? ⟨B2, j, none⟩ = some (.int .u8 (t[j].toNat : Int))) :
    Calls Tryz.prog 37 #[.slice (some ⟨B1, 0, none⟩) s.size c1, .slice (some ⟨B2, 0, none⟩) t.size c2] W fun e w' => e = .returned (.int .i64 (Lib.compareBytes s.data.toList t.data.toList)) ∧ w' = W := by
  have hr := Lib.hid (cmp_run W B1 B2 c1 c2 s t h1 h2)
  clear h1 h2
  go_enter Tryz.func37, Tryz.ntmps37
  go_wp2
  rw [run_callFunc_extern Tryz.func68 (by kernel_rfl) (by kernel_rfl) (by kernel_rfl) (e := Extern.BytealgCompare.compare) (by kernel_rfl), hr.out]
  simp only [Result.andThen]
  rw [Oper.upon_value]
  go_wp2
  go_ret
  exact ⟨rfl, rfl⟩
theorem modify_push {α : Type} (a : Array α) (x : α) (f : α → α) : (a.push x).modify a.size f = a.push (f x) := by
  apply Array.ext
  · simp
  · intro i h1 h2
    simp only [Array.size_modify, Array.size_push] at h1
    by_cases hi : i < a.size
    · rw [Array.getElem_modify, if_neg (by omega), Array.getElem_push_lt hi, Array.getElem_push_lt hi]
    · obtain rfl : i = a.size := by omega
      rw [Array.getElem_modify, if_pos rfl]
      simp
theorem freeze_grow (w : World) (c : Array Value) (e : TypeId) (m : Nat) : (w.alloc (.cells c e)).freeze ⟨w.heap.size, m, none⟩ 1 = Sort.grow w #[.cells c e (m, m + 1)] := by
  unfold World.freeze World.alloc Sort.grow
  rw [if_neg (by decide)]
  simp only [modify_push]
  simp
theorem bytesWorld_grow (w : World) (e : TypeId) (s : ByteArray) : ∃ o, Lib.bytesWorld w e s = Sort.grow w.drew #[o] := ⟨_, freeze_grow w.drew (Lib.bytesCells w e s) e _⟩
def encN (x : ByteArray × Option Addr × Nat × Nat) : List Value := [.string x.1, .slice x.2.1 x.2.2.1 x.2.2.2]
def cmpN (x y : ByteArray × Option Addr × Nat × Nat) : Int := Lib.compareBytes x.1.data.toList y.1.data.toList
theorem getD_byte (s : ByteArray) (j : Nat) (h : j < s.size) : s.data.toList.getD j 0 = s[j] := by
  have h' : j < s.data.toList.length := by rw [data_length]; exact h
  rw [List.getD_eq_getElem?_getD, List.getElem?_eq_getElem h']
  simp
  rfl
set_option maxRecDepth 100000 in
theorem evalCmp.calls (x y : ByteArray × Option Addr × Nat × Nat) (W : World) :
    Calls Tryz.prog 36 #[.agg (encN x).toArray, .agg (encN y).toArray] W fun e w' => e = .returned (.int .i64 (cmpN x y)) ∧ ∃ q os', w' = Sort.grow (W.drewN q) os' := by
  have hu := Tryz.underlying50
  have hcv := fun W (s : ByteArray) => Lib.run_convert_string_bytes (P := Tryz.prog) W 9 23 5 s Tryz.underlying9 Tryz.underlying23 Tryz.underlying5
  have hbs := fun W (s : ByteArray) => Lib.bytesWorld_size W 5 s
  obtain ⟨s, a1, n1, c1⟩ := x
  obtain ⟨t, a2, n2, c2⟩ := y
  show Calls Tryz.prog 36 #[.agg #[.string s, .slice a1 n1 c1], .agg #[.string t, .slice a2 n2 c2]] W fun e w' => e = .returned (.int .i64 (Lib.compareBytes s.data.toList t.data.toList)) ∧ ∃ q os', w' = Sort.grow (W.drewN q) os'
  obtain ⟨W2, hW2⟩ : ∃ W2, W2 = (W.alloc (Obj.cells #[Value.string s, Value.slice a1 n1 c1] 50)).alloc (Obj.cells #[Value.string t, Value.slice a2 n2 c2] 50) := ⟨_, rfl⟩
  have hs2 : W2.heap.size = W.heap.size + 1 + 1 := by rw [hW2]; simp
  have hk : W2.heap[W.heap.size + 1]? = some (Obj.cells #[Value.string t, Value.slice a2 n2 c2] 50) := by rw [hW2]; exact blk_new' _ _ (by simp)
  have q1 := bytes_below (Below.refl W2.heap.size W2) (Nat.le_refl _) 5 s
  have d1 : (Lib.bytesWorld W2 5 s).cell? ⟨W.heap.size + 1, 0, none⟩ = some (.string t) := by
    have h := blk_cell (blk_below hk q1) 0
    exact h
  obtain ⟨W3, hW3⟩ : ∃ W3, W3 = Lib.bytesWorld W2 5 s := ⟨_, rfl⟩
  have hs3 : W3.heap.size = W.heap.size + 1 + 1 + 1 := by rw [hW3, hbs, hs2]
  have q2 := bytes_below (Below.refl W3.heap.size W3) (Nat.le_refl _) 5 t
  have HC := Lib.hid (bytes_Compare.calls (Lib.bytesWorld W3 5 t) (W.heap.size + 1 + 1) (W.heap.size + 1 + 1 + 1) (grownCap W2 s.size 0 5) (grownCap W3 t.size 0 5) s t
    (fun j h => by
      refine pw_cell_below q2 ?_
      have := Lib.bytesWorld_cell W2 5 s j h
      rw [hs2, getD_byte s j h] at this
      rw [hW3]; exact this)
    (fun j h => by
      have := Lib.bytesWorld_cell W3 5 t j h
      rw [hs3, getD_byte t j h] at this
      exact this))
  obtain ⟨o1, ho1⟩ := bytesWorld_grow W2 5 s
  obtain ⟨o2, ho2⟩ := bytesWorld_grow W3 5 t
  have hfin : ∃ q os', Lib.bytesWorld W3 5 t = Sort.grow (W.drewN q) os' := by
    refine ⟨2, #[Obj.cells #[Value.string s, Value.slice a1 n1 c1] 50, Obj.cells #[Value.string t, Value.slice a2 n2 c2] 50, o1, o2], ?_⟩
    rw [ho2, hW3, ho1, hW2, Sort.alloc_eq_grow, Sort.alloc_eq_grow, Sort.drew_grow, Sort.drew_grow, Sort.drew_grow, Sort.drew_grow, Sort.drew_grow, Sort.grow_grow, Sort.grow_grow, Sort.grow_grow]
    rfl
  have HX := Lib.hid hfin
  rw [hW3, hW2] at HC
  rw [hW2] at d1
  rw [hW3, hW2] at HX
  clear q1 q2 hk hfin ho1 ho2 hs2 hs3 hW2 hW3
  go_enter Tryz.func36, Tryz.ntmps36
  go_wp2_with (go_at_call 37; go_must (refine HC.out.mono ?_); go_must (rintro e w' ⟨rfl, rfl⟩))
  go_ret
  exact ⟨rfl, HX.out⟩
open Go.Sort in
theorem sortWorld_other (w : World) (g m : Nat) (d : Array (ByteArray × Option Addr × Nat × Nat)) (os : Array Obj) (k : Nat) (hk : k ≠ g) (hl : k < w.heap.size) : (sortWorldK encN 2 w g 0 m d os).heap[k]? = w.heap[k]? := by
  unfold sortWorldK grow putRowK
  simp only [putRow, mapBlock, Sort.ahead]
  rw [Array.getElem?_append_left (by simpa using hl), Array.getElem?_modify, if_neg (by omega)]
open Go.Sort in
theorem sortWorld_below (w : World) (g m base : Nat) (hb : base ≤ g) (hg : g < w.heap.size) (d : Array (ByteArray × Option Addr × Nat × Nat)) (os : Array Obj) : Below base w (sortWorldK encN 2 w g 0 m d os) :=
  ⟨rfl, rfl, rfl, size_sortWorldK_c encN 2 w g 0 m d os, fun k hk => sortWorld_other w g m d os k (by omega) (by omega)⟩
theorem cmpN_lays (g : Nat) (w : World) : CmpLays Tryz.prog 36 #[] encN 2 cmpN g 0 2 w := fun m os dk _ x y => evalCmp.calls x y _
def sorted2 (x y : ByteArray × Option Addr × Nat × Nat) : Array (ByteArray × Option Addr × Nat × Nat) := Sort.insertionSort (ltOf cmpN) #[x, y] 0 2
set_option maxHeartbeats 1000000 in
set_option maxRecDepth 100000 in
theorem pdq2.calls (g cap : Nat) (lim : Int) (x y : ByteArray × Option Addr × Nat × Nat) (w : World) (hH : Sort.HoldsK encN 2 w g 0 #[x, y]) (hg : g < w.heap.size) :
    Calls Tryz.prog 66 #[.slice (some ⟨g, 0, none⟩) 2 cap, .int .i64 0, .int .i64 2, .int .i64 lim, .func (.func 36) #[] #[]] w fun e w' => e = .returned (.tuple #[]) ∧ ∃ n os, w' = sortWorldK encN 2 w g 0 n (sorted2 x y) os := by
  have HC := Lib.hid (AnyQ.insertionSortCmpFunc sort2_lays 2 Tryz.isAgg50 Tryz.sizeOf50 encN (fun _ => rfl) (fun x v hv => by simp [encN] at hv; rcases hv with rfl | rfl <;> rfl) cmpN 36 #[] g 0 cap 0 2 #[x, y] w
    (enters_of Tryz.func36 (by kernel_rfl) rfl) (cmpN_lays g w) hH hg (by omega) (Nat.le_refl _) (by show 2 < 4611686018427387904; omega))
  change Hid (Calls Tryz.prog 100 #[.slice (some ⟨g, 0, none⟩) 2 cap, .int .i64 0, .int .i64 2, .func (.func 36) #[] #[]] w fun e w' => e = .returned (.tuple #[]) ∧ ∃ n os, w' = sortWorldK encN 2 w g 0 n (sorted2 x y) os) at HC
  clear hH
  go_enter Tryz.func66, Tryz.ntmps66
  go_wp2
  go_loopg [1, 2] 1 (fun k v1 v2 wr => k = 1 ∧ v1 = .int .i64 0 ∧ v2 = .int .i64 2 ∧ wr = w)
  case atStart => exact ⟨rfl, rfl, rfl, rfl⟩
  case round =>
    obtain ⟨rfl, rfl, rfl, rfl⟩ := hrel
    go_wp2_with (go_at_call 100; go_must (refine HC.out.mono ?_); go_must (rintro e w2 ⟨rfl, hB2⟩))
    refine bodyPost_ret (results_none rfl _ _ _) rfl ?_
    exact ⟨rfl, hB2⟩
set_option maxHeartbeats 1000000 in
set_option maxRecDepth 100000 in
theorem sort2.calls (g cap : Nat) (x y : ByteArray × Option Addr × Nat × Nat) (w : World) (hH : Sort.HoldsK encN 2 w g 0 #[x, y]) (hg : g < w.heap.size) :
    Calls Tryz.prog 35 #[.slice (some ⟨g, 0, none⟩) 2 cap, .func (.func 36) #[] #[]] w fun e w' => e = .returned (.tuple #[]) ∧ ∃ n os, w' = sortWorldK encN 2 w g 0 n (sorted2 x y) os := by
  have HC := Lib.hid (fun lim => pdq2.calls g cap lim x y w hH hg)
  have HL := Lib.hid (Tryz.bits_Len 2 w (by omega) (by omega))
  clear hH
  go_enter Tryz.func35, Tryz.ntmps35
  go_wp2_with (first
    | (go_at_call 67; go_must (refine HL.out.mono ?_); go_must (rintro e w2 ⟨rfl, rfl⟩))
    | (go_at_call 66; go_must (refine (HC.out _).mono ?_); go_must (rintro e w2 ⟨rfl, hB2⟩)))
  go_end0
  exact ⟨rfl, hB2⟩
end Go.Proofs.YthmijenlndnmcaaGreatDoor.Sh
