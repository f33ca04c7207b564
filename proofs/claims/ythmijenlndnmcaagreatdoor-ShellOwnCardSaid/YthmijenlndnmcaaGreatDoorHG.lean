/-
  Hand-made contracts of functions of the program: LawAlive, LawAlive2.
-/
import Derived.Test.YthmijenlndnmcaaGreatDoorShelf
import Derived.Test.YthmijenlndnmcaaGreatDoorHF
import Derived.Test.YthmijenlndnmcaaGreatDoorHT
import Derived.Test.YthmijenlndnmcaaGreatDoorHR
import Derived.Test.YthmijenlndnmcaaGreatDoorShx5
import Derived.Test.YthmijenlndnmcaaGreatDoorShx0
namespace Go.Proofs.YthmijenlndnmcaaGreatDoor.Sh
open Go.RowKit Go.Proofs.YthmijenlndnmcaaGreatDoorW.PrintWords Go.Proofs.YthmijenlndnmcaaGreatDoorW.PrintLast Go.Proofs.YthmijenlndnmcaaGreatDoorW.PrintMore
attribute [local go_sem] max2_int min2_int max_two min_two max_three min_three max_four min_four
set_option linter.unusedVariables false
set_option linter.unusedSimpArgs false
def MaxCell (w : World) : Prop := ∃ m : Int, w.cell? ⟨0, 0, none⟩ = some (.int .i64 m)
theorem MaxCell.below {w W : World} (h : MaxCell w) (hb : Below w.heap.size w W) : MaxCell W := by
  obtain ⟨m, hm⟩ := h
  exact ⟨m, pw_cell_below hb hm⟩
theorem con_ok {w0 : World} (hml : MaxCell w0) (X : ByteArray) : ConOK w0 X (conOf X) := by
  intro W hB li Al cl B c hbl h0 hl hC hcl hX hXc
  obtain ⟨m, hm⟩ := hml.below hB
  have hXb : byteL (bytesOf X) := byteL_bytesOf X
  have hXl : (bytesOf X).length = X.size := bytesOf_length X
  have e0 : conOf X li = Lib.contains (Lib.bytesOf li) (Lib.bytesOf (bytesOf X)) := by unfold conOf; rw [lib_bytes]
  have hx2 : ∀ i, i < X.size → W.cell? ((⟨B, 0, none⟩ : Addr).add i) = some (.int .u8 ((bytesOf X).getD i 0)) := by
    intro i hi
    obtain ⟨ad, e, hc⟩ := Kd.at_int hX (i : Int) (by omega) (by omega)
    cases e
    rw [Int.toNat_natCast] at hc
    rw [hc]; simp [rd]
  cases Al with
  | some a =>
    rw [e0]
    exact Tryz.bytes_Contains_at a ⟨B, 0, none⟩ li.length cl X.size c li (bytesOf X) m W rfl hXl hbl hXb (by
      intro i hi
      obtain ⟨ad, e, hc⟩ := Kd.at_int hC (i : Int) (by omega) (by omega)
      cases e
      rw [Int.toNat_natCast] at hc
      rw [hc]; simp [rd]) hx2 hcl (by omega) hX.2.1 hm
  | none =>
    obtain ⟨ad, e, _⟩ := hC.2.2 h0
    cases e
def tGrep : S74 := ⟨⟨#[103, 114, 101, 112]⟩, 0, ⟨#[120]⟩⟩
def tNum : S74 := ⟨⟨#[110, 117, 109]⟩, 0, ⟨#[]⟩⟩
def tWc : S74 := ⟨⟨#[119, 99]⟩, 0, ⟨#[]⟩⟩
def tUpper : S74 := ⟨⟨#[117, 112, 112, 101, 114]⟩, 0, ⟨#[]⟩⟩
theorem ev1 : evalAB [tGrep, tNum] ([tGrep, tNum].map gOf) [120, 10, 121, 10, 120, 10] = (0, [49, 32, 120, 10, 50, 32, 120, 10]) := by decide +kernel
theorem ev2 : evalAB [tWc] ([tWc].map gOf) [120, 10, 121, 10, 120, 10] = (0, [51, 32, 54, 10]) := by decide +kernel
theorem ck3 : checkOf ⟨#[]⟩ [tUpper] ⟨#[98]⟩ = 211 := by decide +kernel
theorem sp1 : strings_Split.f 100 (⟨#[60, 32, 97, 32, 103, 114, 101, 112, 32, 120, 32, 124, 32, 110, 117, 109, 32, 62, 32, 98]⟩ : ByteArray) (⟨#[32]⟩ : ByteArray) = some [⟨#[60]⟩, ⟨#[97]⟩, ⟨#[103, 114, 101, 112]⟩, ⟨#[120]⟩, ⟨#[124]⟩, ⟨#[110, 117, 109]⟩, ⟨#[62]⟩, ⟨#[98]⟩] := by decide +kernel
theorem sp2 : strings_Split.f 100 (⟨#[60, 32, 97, 32, 119, 99, 32, 62, 32, 98]⟩ : ByteArray) (⟨#[32]⟩ : ByteArray) = some [⟨#[60]⟩, ⟨#[97]⟩, ⟨#[119, 99]⟩, ⟨#[62]⟩, ⟨#[98]⟩] := by decide +kernel
theorem sp3 : strings_Split.f 100 (⟨#[117, 112, 112, 101, 114, 32, 62, 32, 98]⟩ : ByteArray) (⟨#[32]⟩ : ByteArray) = some [⟨#[117, 112, 112, 101, 114]⟩, ⟨#[62]⟩, ⟨#[98]⟩] := by decide +kernel
theorem ln1 : lineOf [⟨#[60]⟩, ⟨#[97]⟩, ⟨#[103, 114, 101, 112]⟩, ⟨#[120]⟩, ⟨#[124]⟩, ⟨#[110, 117, 109]⟩, ⟨#[62]⟩, ⟨#[98]⟩] = some (⟨#[97]⟩, [tGrep, tNum], ⟨#[98]⟩, false) := by kernel_rfl
theorem ln2 : lineOf [⟨#[60]⟩, ⟨#[97]⟩, ⟨#[119, 99]⟩, ⟨#[62]⟩, ⟨#[98]⟩] = some (⟨#[97]⟩, [tWc], ⟨#[98]⟩, false) := by kernel_rfl
theorem ln3 : lineOf [⟨#[117, 112, 112, 101, 114]⟩, ⟨#[62]⟩, ⟨#[98]⟩] = some (⟨#[]⟩, [tUpper], ⟨#[98]⟩, false) := by kernel_rfl
theorem ck1 : checkOf ⟨#[97]⟩ [tGrep, tNum] ⟨#[98]⟩ = 0 := by decide +kernel
theorem ck2 : checkOf ⟨#[97]⟩ [tWc] ⟨#[98]⟩ = 0 := by decide +kernel
theorem parse_good (s : ByteArray) (ws : List ByteArray) (xs : List S74) (fr tp : ByteArray) (hsz : s.size ≤ 4096) (hsp : strings_Split.f 100 s (⟨#[32]⟩ : ByteArray) = some ws) (hne : ∀ x ∈ ws, 0 < x.size ∧ x.size ≤ 4096) (h0 : 0 < ws.length) (hl : ws.length ≤ 5000)
    (hln : lineOf ws = some (fr, xs, tp, false)) (hck : checkOf fr xs tp = 0) (w : World) :
    Calls Tryz.prog 26 #[.string s] w fun e w' => ∃ A c, e = .returned (.tuple #[.agg #[.string fr, .slice A xs.length c, .string tp, .bool false], .int .i64 0]) ∧ Below w.heap.size w w' ∧ xs.length ≤ c ∧ Kd.C k74 w' A xs.length xs := by
  refine (Parse.calls s 100 ws w hsz hsp hne h0 hl).mono ?_
  rintro e w' ⟨fr', v, tp', ap', xs', rfl, hb, hR, hq⟩
  have hc : codeOf (lineOf ws) = 0 := by rw [hln]; exact hck
  have := hq hc
  rw [hln] at this
  cases this
  obtain ⟨A, c, rfl⟩ := Kd.R_slice hR
  exact ⟨A, c, by rw [hc], hb, (Kd.R_reads' hR).2.1, (Kd.R_reads' hR).2.2⟩
theorem eval_good (xs : List S74) (out : List Int) (t : List Int) (hbt : byteL t) (hev : evalAB xs (xs.map gOf) t = (0, out)) (w : World) (hml : MaxCell w) (A : Option Addr) (c : Nat) (hr : Kd.C k74 w A xs.length xs) (hc : xs.length ≤ c)
    (ad : Addr) (h0 : w.cell? ad = some (.string (⟨#[97]⟩ : ByteArray))) (D : Option Addr) (dc : Nat) (h1 : w.cell? (ad.add 1) = some (.slice D t.length dc)) (ht : Kd.C (Kd.int .u8) w D t.length t) (hdc : t.length ≤ dc) :
    Calls Tryz.prog 16 #[.agg #[.string (⟨#[97]⟩ : ByteArray), .slice A xs.length c, .string (⟨#[98]⟩ : ByteArray), .bool false], .slice (some ad) 1 1] w fun e w' =>
      ∃ g cap A2 c2, e = .returned (.tuple #[.slice (some ⟨g, 0, none⟩) 2 cap, .int .i64 0]) ∧ w'.cell? ⟨g, 3, none⟩ = some (.slice A2 out.length c2) ∧ Kd.C (Kd.int .u8) w' A2 out.length out ∧ Below w.heap.size w w' := by
  refine (evalAB.calls xs (xs.map gOf) A c w w ad 1 D dc t (Below.refl _ _) hbt hr hc (by simp) (fun hch i hi => ?_) h0 h1 ht hdc).mono ?_
  · have hi2 : i < xs.length := by simpa using hi
    have e : (xs.map gOf)[i] = gOf xs[i] := List.getElem_map ..
    have e2 : rd_T74 xs (i : Int) = xs[i] := by rw [rd_T74, List.getD_eq_getElem?_getD, Int.toNat_natCast, List.getElem?_eq_getElem hi2]; rfl
    rw [e, e2]
    exact ⟨gOf_ok w _ (mayB_all hch _ (List.getElem_mem hi2)) (fun _ => con_ok hml _), fun u hu h => gOf_bytes _ u hu h⟩
  · rintro e w' ⟨hb, hp⟩
    rw [hev] at hp
    obtain ⟨_, g, cap, A1, c1, A2, c2, rfl, _, _, _, _, g3, _, f2⟩ := hp.resolve_left (fun h => h.1 rfl)
    obtain ⟨A', c', e1, _, h3, _⟩ := f2
    cases e1
    exact ⟨g, cap, A2, c2, rfl, g3, h3, hb⟩
def t0 : List Int := [120, 10, 121, 10, 120, 10]
theorem t0_bytes : byteL t0 := by
  intro x hx
  simp [t0] at hx
  omega
theorem t0_at {w : World} {B : Nat} {fz : Nat × Nat} (h : w.heap[B]? = some (.cells #[.int .u8 120, .int .u8 10, .int .u8 121, .int .u8 10, .int .u8 120, .int .u8 10] 5 fz)) : Kd.C (Kd.int .u8) w (some ⟨B, 0, none⟩) 6 t0 := by
  refine Kd.C_of_reads (d := (0 : Int)) (h1 := fun _ => rfl) ⟨rfl, by decide, fun _ => ⟨_, rfl, fun j hj => ?_⟩⟩
  have h2 : w.cell? ⟨B, j, none⟩ = (#[Value.int .u8 120, .int .u8 10, .int .u8 121, .int .u8 10, .int .u8 120, .int .u8 10] : Array Value)[j]? := by simp [World.cell?, h]
  rw [show (⟨B, 0, none⟩ : Addr).add j = ⟨B, j, none⟩ from add_plain B j, h2]
  match j, hj with
  | 0, _ => rfl
  | 1, _ => rfl
  | 2, _ => rfl
  | 3, _ => rfl
  | 4, _ => rfl
  | 5, _ => rfl
theorem eval_t0 (xs : List S74) (n : Nat) (hn : n = xs.length) (out : List Int) (hev : evalAB xs (xs.map gOf) t0 = (0, out)) (w : World) (hml : MaxCell w) (A : Option Addr) (c : Nat) (hr : Kd.C k74 w A xs.length xs) (hc : xs.length ≤ c) (F D : Nat)
    (kF : w.heap[F]? = some (.cells #[.string (⟨#[97]⟩ : ByteArray), .slice (some ⟨D, 0, none⟩) 6 6] 50 (0, 0))) (kD : w.heap[D]? = some (.cells #[.int .u8 120, .int .u8 10, .int .u8 121, .int .u8 10, .int .u8 120, .int .u8 10] 5 (6, 7))) :
    Calls Tryz.prog 16 #[.agg #[.string (⟨#[97]⟩ : ByteArray), .slice A n c, .string (⟨#[98]⟩ : ByteArray), .bool false], .slice (some ⟨F, 0, none⟩) 1 1] w fun e w' =>
      ∃ g cap A2 c2, e = .returned (.tuple #[.slice (some ⟨g, 0, none⟩) 2 cap, .int .i64 0]) ∧ w'.cell? ⟨g, 3, none⟩ = some (.slice A2 out.length c2) ∧ Kd.C (Kd.int .u8) w' A2 out.length out ∧ Below w.heap.size w w' := by
  subst hn
  refine eval_good xs out t0 t0_bytes hev w hml A c hr hc ⟨F, 0, none⟩ ?_ (some ⟨D, 0, none⟩) 6 ?_ (t0_at kD) (Nat.le_refl _)
  · exact blk_cell kF 0
  · rw [add_plain]; exact blk_cell kF 1
theorem conv_at {w : World} {A : Option Addr} {c : Nat} {l : List Int} {s : ByteArray} (h : Kd.C (Kd.int .u8) w A l.length l) (hs : strOfNums l = s) : (convert 23 9 (.slice A l.length c)).run Tryz.prog w = .ok (.string s) w := by
  rw [← hs]
  exact string_of_reads Tryz.underlying23 Tryz.underlying5 Tryz.underlying9 (Kd.reads_of_C (d := (0 : Int)) (h1 := fun _ => rfl) h)
set_option maxHeartbeats 400000 in
set_option maxRecDepth 100000 in
theorem law_alive.calls (w : World) (hml : MaxCell w) : Calls Tryz.prog 9 #[] w fun e w' => e = .returned (.bool true) ∧ Below w.heap.size w w' := by
  have hu := Tryz.underlying46
  have hu2 := Tryz.underlying50
  have hcv := fun (W : World) (C : Array Value) (n c : Nat) => Lib.run_convert_bytes_const (P := Tryz.prog) W 23 5 C n c Tryz.underlying23 Tryz.underlying5
  have HP1 := Lib.hid (parse_good ⟨#[60, 32, 97, 32, 103, 114, 101, 112, 32, 120, 32, 124, 32, 110, 117, 109, 32, 62, 32, 98]⟩ _ _ _ _ (by decide) sp1 (by decide) (by decide) (by decide) ln1 ck1)
  have HP2 := Lib.hid (parse_good ⟨#[60, 32, 97, 32, 119, 99, 32, 62, 32, 98]⟩ _ _ _ _ (by decide) sp2 (by decide) (by decide) (by decide) ln2 ck2)
  have HP3 := Lib.hid (fun W => Parse.calls ⟨#[117, 112, 112, 101, 114, 32, 62, 32, 98]⟩ 100 _ W (by decide) sp3 (by decide) (by decide) (by decide))
  rw [ln3] at HP3
  have HE1 := Lib.hid (fun W hml A c hr hc F D kF kD => eval_t0 [tGrep, tNum] 2 rfl _ ev1 W hml A c hr hc F D kF kD)
  have HE2 := Lib.hid (fun W hml A c hr hc F D kF kD => eval_t0 [tWc] 1 rfl _ ev2 W hml A c hr hc F D kF kD)
  have HML := Lib.hid hml
  clear hml
  go_enter Tryz.func9, Tryz.ntmps9
  go_wp2_with fail
  refine (HP1.out _).mono ?_
  rintro e w2 ⟨Aa, ca, rfl, q2, hca, hCa⟩
  have kD2 := Lib.hid (blk_below (blk_alloc (blk_new w (.cells #[.int .u8 120, .int .u8 10, .int .u8 121, .int .u8 10, .int .u8 120, .int .u8 10] 5 (6, 7))) (.cells #[.string (⟨#[97]⟩ : ByteArray), .slice (some ⟨w.heap.size, 0, none⟩) 6 6] 50)) q2)
  have kF2 := Lib.hid (blk_below (blk_new' (n := w.heap.size + 1) (w.alloc (.cells #[.int .u8 120, .int .u8 10, .int .u8 121, .int .u8 10, .int .u8 120, .int .u8 10] 5 (6, 7))) (.cells #[.string (⟨#[97]⟩ : ByteArray), .slice (some ⟨w.heap.size, 0, none⟩) 6 6] 50) (by simp)) q2)
  have b2 := Lib.hid (below_step (below_alloc (below_alloc (Below.refl w.heap.size w) _) _) q2)
  have H2 := Lib.hid (And.intro hca hCa)
  clear q2 hca hCa
  simp only []
  go_at_K
  go_wp2_with fail
  refine (HE1.out (w2.alloc (.cells #[.string (⟨#[97]⟩ : ByteArray), .slice Aa 2 ca, .string (⟨#[98]⟩ : ByteArray), .bool false] 46)) (HML.out.below (below_alloc b2.out _)) Aa ca (Kd.C_below H2.out.2 (below_alloc (Below.refl _ _) _)) H2.out.1 _ _ (blk_alloc kF2.out _) (blk_alloc kD2.out _)).mono ?_
  rintro e w3 ⟨g1, cap1, A1, c1, rfl, g13, hC1, q3⟩
  have F3 := Lib.hid (And.intro g13 hC1)
  have b3 := Lib.hid (below_step (below_alloc b2.out _) q3)
  have kD3 := Lib.hid (blk_below (blk_alloc kD2.out _) q3)
  have kF3 := Lib.hid (blk_below (blk_alloc kF2.out _) q3)
  clear g13 hC1 q3
  simp only []
  go_at_K
  go_wp2_with fail
  refine (HP2.out w3).mono ?_
  rintro e w4 ⟨Ab, cb, rfl, q4, hcb, hCb⟩
  have b4 := Lib.hid (below_step b3.out q4)
  have kD4 := Lib.hid (blk_below kD3.out q4)
  have kF4 := Lib.hid (blk_below kF3.out q4)
  have H4 := Lib.hid (And.intro q4 (And.intro hcb hCb))
  clear q4 hcb hCb
  simp only []
  go_at_K
  go_wp2_with fail
  refine (HE2.out (w4.alloc (.cells #[.string (⟨#[97]⟩ : ByteArray), .slice Ab 1 cb, .string (⟨#[98]⟩ : ByteArray), .bool false] 46)) (HML.out.below (below_alloc b4.out _)) Ab cb (Kd.C_below H4.out.2.2 (below_alloc (Below.refl _ _) _)) H4.out.2.1 _ _ (blk_alloc kF4.out _) (blk_alloc kD4.out _)).mono ?_
  rintro e w5 ⟨g2, cap2, A2, c2, rfl, g23, hC2, q5⟩
  have F5 := Lib.hid (And.intro g23 hC2)
  have b35 := Lib.hid (below_step (below_alloc H4.out.1 _) q5)
  have b5 := Lib.hid (below_step (below_alloc b4.out _) q5)
  clear g23 hC2 q5
  simp only []
  go_at_K
  go_wp2_with fail
  refine (HP3.out w5).mono ?_
  rintro e w6 ⟨fr, v, tp, ap, xs, rfl, q6, hR, _⟩
  obtain ⟨Ac, cc, rfl⟩ := Kd.R_slice hR
  rw [show codeOf (some (⟨#[]⟩, [tUpper], ⟨#[98]⟩, false)) = 211 from ck3]
  have B6 := below_alloc q6 (.cells #[.string fr, .slice Ac xs.length cc, .string tp, .bool ap] 46)
  have B36 := below_step b35.out B6
  have z2 := pw_cell_below B6 F5.out.1
  have y2 := conv_at (c := c2) (s := ⟨#[51, 32, 54, 10]⟩) (Kd.C_below F5.out.2 B6) rfl
  have z1 := pw_cell_below B36 F3.out.1
  have y1 := conv_at (c := c1) (s := ⟨#[49, 32, 120, 10, 50, 32, 120, 10]⟩) (Kd.C_below F3.out.2 B36) rfl
  change (convert _ _ (.slice A1 8 c1)).run _ _ = _ at y1
  change (convert _ _ (.slice A2 4 c2)).run _ _ = _ at y2
  have HB6 := Lib.hid (below_step b5.out B6)
  clear q6 hR B6 B36
  simp only []
  go_at_K
  go_wp2_with (go_at_call 22; go_in)
  go_ret
  exact ⟨rfl, HB6.out⟩
end Go.Proofs.YthmijenlndnmcaaGreatDoor.Sh
