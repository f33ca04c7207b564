/-
  Hand-made contracts of functions of the program: ParseLine, Line.
-/
import Derived.Test.YthmijenlndnmcaaGreatDoorHP
import Derived.Test.YthmijenlndnmcaaGreatDoorShx0
namespace Go.Proofs.YthmijenlndnmcaaGreatDoor.Sh
open Go.RowKit Go.Proofs.YthmijenlndnmcaaGreatDoorW.PrintWords Go.Proofs.YthmijenlndnmcaaGreatDoorW.PrintLast Go.Proofs.YthmijenlndnmcaaGreatDoorW.PrintMore
attribute [local go_sem] max2_int min2_int max_two min_two max_three min_three max_four min_four
set_option linter.unusedVariables false
set_option linter.unusedSimpArgs false
def isR (t : ByteArray) (s : ByteArray) : Bool := s.toList == t.toList
def ltR := isR (⟨#[60]⟩ : ByteArray)
def barR := isR (⟨#[124]⟩ : ByteArray)
def gtR := isR (⟨#[62]⟩ : ByteArray)
def gtgtR := isR (⟨#[62, 62]⟩ : ByteArray)
def toolsOf : Nat → List ByteArray → List S74 → Option (List S74 × List ByteArray)
  | 0, _, _ => none
  | f + 1, ws, acc => if (toolOf ws).2.1 = false then none else
    if (takeOf barR (toolOf ws).2.2).2.1 = true then toolsOf f (takeOf barR (toolOf ws).2.2).2.2 (acc ++ [(toolOf ws).1]) else some (acc ++ [(toolOf ws).1], (toolOf ws).2.2)
def tailOf (ws : List ByteArray) : Option (ByteArray × Bool) :=
  if (takeOf gtR ws).2.1 = true then (if (takeOf plainR (takeOf gtR ws).2.2).2.1 = true ∧ (takeOf plainR (takeOf gtR ws).2.2).2.2 = [] then some ((takeOf plainR (takeOf gtR ws).2.2).1, false) else none)
  else if (takeOf gtgtR ws).2.1 = true then (if (takeOf plainR (takeOf gtgtR ws).2.2).2.1 = true ∧ (takeOf plainR (takeOf gtgtR ws).2.2).2.2 = [] then some ((takeOf plainR (takeOf gtgtR ws).2.2).1, true) else none)
  else none
def packOf (fr : ByteArray) : Option (List S74 × List ByteArray) → Option (ByteArray × List S74 × ByteArray × Bool)
  | none => none
  | some (ts, us) => (tailOf us).map fun q => (fr, ts, q.1, q.2)
def restOf (fr : ByteArray) (ws : List ByteArray) : Option (ByteArray × List S74 × ByteArray × Bool) := packOf fr (toolsOf (ws.length + 1) ws [])
def lineOf (ws : List ByteArray) : Option (ByteArray × List S74 × ByteArray × Bool) :=
  if (takeOf ltR ws).2.1 = true then (if (takeOf plainR (takeOf ltR ws).2.2).2.1 = true then restOf (takeOf plainR (takeOf ltR ws).2.2).1 (takeOf plainR (takeOf ltR ws).2.2).2.2 else none)
  else restOf (⟨#[]⟩ : ByteArray) ws
theorem takeOf_true {r : ByteArray → Bool} {ws : List ByteArray} (h : (takeOf r ws).2.1 = true) : (takeOf r ws).2.2.length < ws.length := by
  cases ws with
  | nil => simp [takeOf] at h
  | cons x rr =>
    rw [takeOf] at h ⊢
    split
    · simp
    · rename_i h2; rw [if_neg h2] at h; simp at h
theorem takeOf_le (r : ByteArray → Bool) (ws : List ByteArray) : (takeOf r ws).2.2.length ≤ ws.length := by
  cases ws with
  | nil => simp [takeOf]
  | cons x rr =>
    rw [takeOf]
    split <;> simp
theorem toolOf_len {ws : List ByteArray} (h : (toolOf ws).2.1 = true) : (toolOf ws).2.2.length < ws.length := by
  unfold toolOf at h ⊢
  by_cases h0 : (takeOf plainR ws).2.1 = false
  · rw [if_pos h0] at h; simp at h
  · have ht := takeOf_true (eq_true_of_ne_false h0)
    rw [if_neg h0] at h ⊢
    have a1 := takeOf_le numR (takeOf plainR ws).2.2
    have a2 := takeOf_le plainR (takeOf plainR ws).2.2
    repeat' split
    all_goals (simp only []; omega)
theorem toolOf_mem (ws : List ByteArray) : ∀ s ∈ (toolOf ws).2.2, s ∈ ws := by
  intro s hs
  unfold toolOf at hs
  have a0 := (takeOf_mem plainR ws).1
  have a1 := (takeOf_mem numR (takeOf plainR ws).2.2).1
  have a2 := (takeOf_mem plainR (takeOf plainR ws).2.2).1
  repeat' split at hs
  all_goals first | exact a0 s hs | exact a0 s (a1 s hs) | exact a0 s (a2 s hs)
theorem takeOf_false {r : ByteArray → Bool} {ws : List ByteArray} (h : (takeOf r ws).2.1 = false) : (takeOf r ws).2.2 = ws := by
  cases ws with
  | nil => rfl
  | cons x rr =>
    rw [takeOf] at h ⊢
    split
    · rename_i h2; rw [if_pos h2] at h; simp at h
    · rfl
theorem takeIs (t : ByteArray) (n P : Nat) (us : List ByteArray) (W : World) (hn : n = W.heap.size) (h : PAt W P us) :
    Calls Tryz.prog 81 #[.pointer (some ⟨P, 0, none⟩), .func (.func 118) #[] #[.pointer (some ⟨n, 0, none⟩)]] (W.alloc (.cells #[.string t] 9)) fun e w' =>
      e = .returned (.tuple #[.string (takeOf (isR t) us).1, .bool (takeOf (isR t) us).2.1]) ∧ PAt w' P (takeOf (isR t) us).2.2 ∧ Kept (W.alloc (.cells #[.string t] 9)) w' (· = P) ∧ Below P (W.alloc (.cells #[.string t] 9)) w' := by
  subst hn
  exact take_is.calls W.heap.size P us (isR t) _ (h.below (below_alloc (Below.refl _ _) _)) (fun s _ W' hb => is1.calls s t W.heap.size W' (pw_cell_below hb (blk_cell (blk_new W _) 0)))
theorem R_far {α : Type} {d : Kd α} {e base : Nat} {W W2 : World} {v : Value} {l : List α} (h : d.R e W base (fun _ => True) v l) (hk : ∀ k, base ≤ k → k < W.heap.size → W2.heap[k]? = W.heap[k]?) : d.R e W2 base (fun _ => True) v l :=
  Kd.R_mono (Kd.R_step (Kd.R_bound h) (fun k ho hlt => hk k ho.2.1 hlt)) (fun _ _ => trivial)
structure LS (P : Nat) (w W : World) (fr : ByteArray) (v : Value) (xs : List S74) (tp : ByteArray) (ap : Bool) (us : List ByteArray) : Prop where
  ps : PS P w W us
  l : W.heap[w.heap.size]? = some (.cells #[.string fr, v, .string tp, .bool ap] 46 (0, 0))
  r : Kd.R k74 74 W (w.heap.size + 1) (fun _ => True) v xs
  lt : P < w.heap.size
section
variable {P : Nat} {w W W2 : World} {fr : ByteArray} {v : Value} {xs : List S74} {tp : ByteArray} {ap : Bool} {us us2 : List ByteArray}
theorem LS.take (h : LS P w W fr v xs tp ap us) (k : PAt W2 P us2 ∧ Kept W W2 (· = P) ∧ Below P W W2) : LS P w W2 fr v xs tp ap us2 :=
  ⟨h.ps.step k, blk_kept h.l k.2.1 (by have := h.lt; omega), R_far h.r (fun i hi hlt => k.2.1.2 i hlt (by have := h.lt; omega)), h.lt⟩
theorem LS.next (h : LS P w W fr v xs tp ap us) (hb : Below W.heap.size W W2) : LS P w W2 fr v xs tp ap us :=
  ⟨h.ps.next hb, blk_below h.l hb, R_far h.r (fun i _ hlt => hb.block i hlt), h.lt⟩
theorem LS.alloc (h : LS P w W fr v xs tp ap us) (o : Obj) : LS P w (W.alloc o) fr v xs tp ap us := h.next (below_alloc (Below.refl _ _) o)
theorem LS.set0 (h : LS P w W fr v xs tp ap us) (s : ByteArray) : LS P w (W.setCell ⟨w.heap.size, 0, none⟩ (.string s)) s v xs tp ap us :=
  ⟨h.ps.set (Nat.le_refl _) h.lt _, blk_set h.l 0 _, R_far h.r (fun i hi _ => Below.heap_setCell _ _ _ _ (by show i ≠ w.heap.size; omega)), h.lt⟩
theorem LS.set2 (h : LS P w W fr v xs tp ap us) (s : ByteArray) : LS P w (W.setCell ⟨w.heap.size, 2, none⟩ (.string s)) fr v xs s ap us :=
  ⟨h.ps.set (Nat.le_refl _) h.lt _, blk_set h.l 2 _, R_far h.r (fun i hi _ => Below.heap_setCell _ _ _ _ (by show i ≠ w.heap.size; omega)), h.lt⟩
theorem LS.set3 (h : LS P w W fr v xs tp ap us) (b : Bool) : LS P w (W.setCell ⟨w.heap.size, 3, none⟩ (.bool b)) fr v xs tp b us :=
  ⟨h.ps.set (Nat.le_refl _) h.lt _, blk_set h.l 3 _, R_far h.r (fun i hi _ => Below.heap_setCell _ _ _ _ (by show i ≠ w.heap.size; omega)), h.lt⟩
theorem LS.row (h : LS P w W fr v xs tp ap us) {W5 : World} {v1 : Value} {ys : List S74} (hR : Kd.R k74 74 W5 (w.heap.size + 1) (fun _ => True) v1 ys) (hg : W.grownBy W5 v.ownBlock) : LS P w (W5.setCell ⟨w.heap.size, 1, none⟩ v1) fr v1 ys tp ap us := by
  have hN : ∀ k, v.ownBlock = some k → w.heap.size + 1 ≤ k := fun k e => by
    obtain ⟨inner, ho⟩ := Kd.R_own h.r
    exact own_base ho k e
  have hl := blk_grown h.l hg (fun e => by have := hN _ e.symm; omega)
  have hpl := h.ps.at_.lt
  have hp5 : PS P w W5 us := by
    have hb : Below P W W5 := (Below.refl P W).grown hg (Nat.le_of_lt hpl) (fun k e => by have := hN k e; have := h.lt; omega)
    exact ⟨h.ps.at_.keep hb (hg.block P hpl (fun e => by have := hN _ e.symm; have := h.lt; omega)), Kept.of_grown hg h.ps.kept (fun k e => .inr (by have := hN k e; omega)), h.ps.below.trans hb⟩
  exact ⟨hp5.set (Nat.le_refl _) h.lt _, blk_set hl 1 _, R_far hR (fun i hi _ => Below.heap_setCell _ _ _ _ (by show i ≠ w.heap.size; omega)), h.lt⟩
theorem row_kept (h : LS P w W fr v xs tp ap us) {W5 : World} (hg : W.grownBy W5 v.ownBlock) : W5.heap[w.heap.size]? = some (.cells #[.string fr, v, .string tp, .bool ap] 46 (0, 0)) :=
  blk_grown h.l hg (fun e => by
    obtain ⟨inner, ho⟩ := Kd.R_own h.r
    have := own_base ho _ e.symm
    omega)
theorem LS.pcell (h : LS P w W fr v xs tp ap us) {u : Value} (hp : W.cell? ⟨P, 0, none⟩ = some u) (a b c d : Value) :
    ((((W.setCell ⟨w.heap.size, 0, none⟩ a).setCell ⟨w.heap.size, 1, none⟩ b).setCell ⟨w.heap.size, 2, none⟩ c).setCell ⟨w.heap.size, 3, none⟩ d).cell? ⟨P, 0, none⟩ = some u := by
  have hne : ∀ i, (⟨w.heap.size, i, none⟩ : Addr) ≠ ⟨P, 0, none⟩ := fun i e => Nat.ne_of_gt h.lt (congrArg Addr.block e)
  have hq : ∀ (W : World) (i : Nat) (x : Value), (W.setCell ⟨w.heap.size, i, none⟩ x).cell? ⟨P, 0, none⟩ = W.cell? ⟨P, 0, none⟩ := fun W i x => World.cell?_setCell_other _ _ _ _ (by first | exact hne i | exact (hne i).symm)
  rw [hq, hq, hq, hq]
  exact hp
theorem LS.cells (h : LS P w W fr v xs tp ap us) : W.cell? ⟨w.heap.size, 0, none⟩ = some (.string fr) ∧ W.cell? ⟨w.heap.size, 1, none⟩ = some v ∧ W.cell? ⟨w.heap.size, 2, none⟩ = some (.string tp) ∧ W.cell? ⟨w.heap.size, 3, none⟩ = some (.bool ap) ∧
    W.frozen? ⟨w.heap.size, 0, none⟩ = false ∧ W.frozen? ⟨w.heap.size, 1, none⟩ = false ∧ W.frozen? ⟨w.heap.size, 2, none⟩ = false ∧ W.frozen? ⟨w.heap.size, 3, none⟩ = false :=
  ⟨blk_cell h.l 0, blk_cell h.l 1, blk_cell h.l 2, blk_cell h.l 3, blk_frozen h.l 0, blk_frozen h.l 1, blk_frozen h.l 2, blk_frozen h.l 3⟩
end
def LinePost (P : Nat) (w w' : World) (ws : List ByteArray) (e : Ending) : Prop :=
  ∃ fr v tp ap xs us, e = .returned (.tuple #[.agg #[.string fr, v, .string tp, .bool ap], .bool (lineOf ws).isSome]) ∧ PS P w w' us ∧ Kd.R k74 74 w' (w.heap.size + 1) (fun _ => True) v xs ∧ ∀ q, lineOf ws = some q → q = (fr, xs, tp, ap)
theorem line_fail {P : Nat} {w W : World} {fr : ByteArray} {v : Value} {xs : List S74} {tp : ByteArray} {ap : Bool} {us ws : List ByteArray} (h : LS P w W fr v xs tp ap us) (hn : lineOf ws = none) :
    LinePost P w W ws (.returned (.tuple #[.agg #[.string fr, v, .string tp, .bool ap], .bool false])) :=
  ⟨fr, v, tp, ap, xs, us, by rw [hn]; rfl, h.ps, h.r, fun q hq => by rw [hn] at hq; cases hq⟩
theorem LS.same {P : Nat} {w W : World} {fr : ByteArray} {v : Value} {xs : List S74} {tp : ByteArray} {ap : Bool} {us : List ByteArray} (h : LS P w W fr v xs tp ap us) :
    LS P w ((((W.setCell ⟨w.heap.size, 0, none⟩ (.string fr)).setCell ⟨w.heap.size, 1, none⟩ v).setCell ⟨w.heap.size, 2, none⟩ (.string tp)).setCell ⟨w.heap.size, 3, none⟩ (.bool ap)) fr v xs tp ap us := by
  have h1 := h.set0 fr
  have h2 : LS P w ((W.setCell ⟨w.heap.size, 0, none⟩ (.string fr)).setCell ⟨w.heap.size, 1, none⟩ v) fr v xs tp ap us :=
    ⟨h1.ps.set (Nat.le_refl _) h.lt _, blk_set h1.l 1 _, R_far h1.r (fun i hi _ => Below.heap_setCell _ _ _ _ (by show i ≠ w.heap.size; omega)), h.lt⟩
  exact (h2.set2 tp).set3 ap
theorem line_done {P : Nat} {w W : World} {fr : ByteArray} {v : Value} {xs : List S74} {tp : ByteArray} {ap : Bool} {us ws : List ByteArray} (h : LS P w W fr v xs tp ap us) (b4 b : Bool)
    (hl : lineOf ws = if b4 = true ∧ us = [] then some (fr, xs, tp, ap) else none) (hb : b = (b4 && ((us.length : Int) == 0))) : LinePost P w W ws (.returned (.tuple #[.agg #[.string fr, v, .string tp, .bool ap], .bool b])) := by
  refine ⟨fr, v, tp, ap, xs, us, ?_, h.ps, h.r, fun q hq => ?_⟩
  · rw [hl, hb]
    cases b4 with
    | false => rfl
    | true =>
      cases us with
      | nil => rfl
      | cons a r => simp; omega
  · rw [hl] at hq
    split at hq
    · exact (Option.some.inj hq).symm
    · cases hq
set_option maxHeartbeats 100000000 in
set_option maxRecDepth 100000 in
theorem line.calls (P : Nat) (ws : List ByteArray) (w : World) (hP : PAt w P ws) (hs : ∀ s ∈ ws, 0 < s.size ∧ s.size ≤ 4096) (hl : ws.length ≤ 5000) :
    Calls Tryz.prog 49 #[.pointer (some ⟨P, 0, none⟩)] w fun e w' => LinePost P w w' ws e := by
  have hu := Tryz.underlying46
  have hu2 := Tryz.underlying74
  have hu3 := Tryz.underlying92
  have hPl := hP.lt
  have HTP := Lib.hid (fun (W : World) (us : List ByteArray) (h : PAt W P us) => take_plain.calls P us plainR W h (fun s _ W' _ => plain.calls s W'))
  have HTI := Lib.hid (fun (t : ByteArray) (n : Nat) (W : World) (us : List ByteArray) (hn : n = W.heap.size) (h : PAt W P us) => takeIs t n P us W hn h)
  have HTT := Lib.hid (fun (W : World) (us : List ByteArray) (h : PAt W P us) (hm : ∀ s ∈ us, s ∈ ws) => tool.calls P us W h (fun s hs' => hs s (hm s hs')))
  have L0 : Hid (LS P w (w.alloc (.cells #[.string ⟨#[]⟩, .slice none 0 0, .string ⟨#[]⟩, .bool false] 46)) ⟨#[]⟩ (.slice none 0 0) [] ⟨#[]⟩ false ws) :=
    ⟨(PS.start hP).alloc _, blk_new _ _, Kd.R_nil _ _ _ _ _, hPl⟩
  have HL := Lib.hid hl
  obtain ⟨q0, hq0⟩ : ∃ q0, q0 = takeOf ltR ws := ⟨_, rfl⟩
  have T0 := HTI.out ⟨#[60]⟩ (w.heap.size + 1) _ ws (by simp) L0.out.ps.at_
  have M0 := (takeOf_mem ltR ws).1
  have N0 := takeOf_le ltR ws
  change Calls _ _ _ _ (fun e w' => e = .returned (.tuple #[.string (takeOf ltR ws).1, .bool (takeOf ltR ws).2.1]) ∧ PAt w' P (takeOf ltR ws).2.2 ∧ _) at T0
  have hlo : lineOf ws = if q0.2.1 = true then (if (takeOf plainR q0.2.2).2.1 = true then restOf (takeOf plainR q0.2.2).1 (takeOf plainR q0.2.2).2.2 else none) else restOf (⟨#[]⟩ : ByteArray) ws := by rw [hq0]; rfl
  have F0 := takeOf_false (r := ltR) (ws := ws)
  rw [← hq0] at T0 M0 N0 F0
  obtain ⟨n0, b0, r0⟩ := q0
  simp only at T0 M0 N0 F0 hlo
  replace T0 := Lib.hid T0
  clear hq0 hP hs hl
  cases b0 with
  | false =>
    have eF : ws = r0 := (F0 rfl).symm
    subst eF
    rw [if_neg (by simp)] at hlo
    have HLO := Lib.hid hlo
    have HMM : Hid (∀ s ∈ ws, s ∈ ws) := fun s h => h
    have HBD : Hid (([] : List S74).length + ws.length ≤ 5000) := (by have := HL.out; simp; omega)
    clear hlo M0 N0 F0
    go_enter Tryz.func49, Tryz.ntmps49
    go_wp2_with (first
      | (go_at_call 82; go_must (refine (is.calls _ _).mono ?_); go_must (rintro e wI ⟨rfl, rfl⟩))
      | (go_at_call 81; with_reducible (refine (T0.out).mono ?_); go_must (rintro e wL1 ⟨rfl, qL1⟩); have L1 := Lib.hid (LS.take (L0.out.alloc _) qL1); obtain ⟨d0, d1, d2, d3, df0, df1, df2, df3⟩ := LS.cells L1.out; clear qL1))
    obtain ⟨RR, hRR⟩ : ∃ RR, RR = toolsOf (ws.length + 1) ws [] := ⟨_, rfl⟩
    have HRR := Lib.hid hRR
    have hlo2 : lineOf ws = packOf ⟨#[]⟩ RR := by rw [HLO.out, hRR]; rfl
    have HLO2 := Lib.hid hlo2
    clear hRR hlo2
    go_loopg [4] (ws.length + 1) (fun k v4 wr => ∃ v xs us kk, ((v4 = .bool true ∧ k = kk + 1 ∧ us.length ≤ kk ∧ toolsOf (kk + 1) us xs = RR) ∨ (v4 = .bool false ∧ k = 0 ∧ kk = 0 ∧ RR = some (xs, us))) ∧ LS P w wr ⟨#[]⟩ v xs ⟨#[]⟩ false us ∧ xs.length + us.length ≤ 5000 ∧ ∀ s ∈ us, s ∈ ws)
    case atStart => exact ⟨.slice none 0 0, [], ws, ws.length, .inl ⟨rfl, rfl, Nat.le_refl _, HRR.out.symm⟩, L1.out, HBD.out, HMM.out⟩
    case round =>
      obtain ⟨v, xs, us, kk, hcase, hLS, hlen, hmem⟩ := hrel
      obtain ⟨A, c, rfl⟩ := Kd.R_slice hLS.r
      have HLS := Lib.hid hLS
      rcases hcase with ⟨rfl, rfl, hk, hR⟩ | ⟨rfl, rfl, rfl, hR⟩
      · have T1 := HTT.out wr us hLS.ps.at_ hmem
        have A1 := toolOf_len (ws := us)
        have A2 := toolOf_mem us
        rw [toolsOf] at hR
        generalize toolOf us = q at T1 A1 A2 hR
        obtain ⟨t, bt, us1⟩ := q
        simp only at T1 A1 A2 hR
        replace T1 := Lib.hid T1
        cases bt with
        | false =>
          rw [if_pos rfl] at hR
          have HNO := Lib.hid (show lineOf ws = none by rw [HLO2.out, ← hR]; rfl)
          clear hR A1 A2 hLS hlen hmem hk
          go_wp2_with (go_at_call 84; go_must (refine T1.out.mono ?_); go_must (rintro e w1 ⟨rfl, q1⟩); have L2 := Lib.hid (LS.take HLS.out ⟨q1.at_, q1.kept, q1.below⟩); obtain ⟨d0, d1, d2, d3, df0, df1, df2, df3⟩ := LS.cells (LS.alloc L2.out (.cells #[.string t.f0, .int .i64 t.f1, .string t.f2] 74)); clear q1)
          (try simp only [Exit.inBlock, Exit.then])
          refine bodyPost_ret (v := .tuple #[.agg #[.string ⟨#[]⟩, .slice A xs.length c, .string ⟨#[]⟩, .bool false], .bool false]) ?_ rfl ?_
          · rw [results_cell_tmp rfl]
            go_simp
          · exact line_fail (LS.same (LS.alloc L2.out _)) HNO.out
        | true =>
          rw [if_neg (by simp)] at hR
          have A1' := A1 rfl
          have hmem1 : ∀ s ∈ us1, s ∈ ws := fun s h => hmem s (A2 s h)
          have M2 := (takeOf_mem barR us1).1
          have F2 := takeOf_false (r := barR) (ws := us1)
          have G2 := takeOf_true (r := barR) (ws := us1)
          have HQ := Lib.hid (fun n W hn (h : PAt W P us1) => HTI.out ⟨#[124]⟩ n W us1 hn h)
          change Hid (∀ n W, _ → _ → Calls _ _ _ _ (fun e w' => e = .returned (.tuple #[.string (takeOf barR us1).1, .bool (takeOf barR us1).2.1]) ∧ PAt w' P (takeOf barR us1).2.2 ∧ _)) at HQ
          generalize takeOf barR us1 = q at HQ M2 F2 G2 hR
          obtain ⟨n2, b2, us2⟩ := q
          simp only at HQ M2 F2 G2 hR
          have HX := Lib.hid (And.intro hR (And.intro hlen (And.intro hmem1 (And.intro M2 (And.intro F2 (And.intro G2 (And.intro A1' hk)))))))
          clear hR hlen hmem hmem1 M2 F2 G2 A1 A1' A2 hLS hk
          go_wp2_with (first
            | (go_at_call 84; go_must (refine T1.out.mono ?_); go_must (rintro e w1 ⟨rfl, q1⟩); have L2 := Lib.hid (LS.take HLS.out ⟨q1.at_, q1.kept, q1.below⟩); obtain ⟨d0, d1, d2, d3, df0, df1, df2, df3⟩ := LS.cells (LS.alloc L2.out (.cells #[.string t.f0, .int .i64 t.f1, .string t.f2] 74)); clear q1)
            | ((with_reducible refine gate_builtin (b := .append) (xs := #[.tmp 39, .tmp 41]) rfl ?_); at_builtin; refine Kd.R_append k74 (w0 := w1) (W := w1.alloc (.cells #[.string t.f0, .int .i64 t.f1, .string t.f2] 74)) (w.heap.size + 1) rfl (.tmp 39) (.tmp 41) 44 74 (.agg #[(.string ⟨#[]⟩), (.int .i64 0), (.string ⟨#[]⟩)]) 40 rfl Tryz.underlying44 info74 rfl (by decide) (by omega) (.slice A xs.length c) xs t [.string t.f0, .int .i64 t.f1, .string t.f2] (fun _ => True) (fun _ => False) rfl ?hx ?aP (fun _ hk => hk.elim) ?aF ?aO ?aB ?aS ?aL ?_; (case hx => simp [Act.eval]); (case aP => exact k74_mkM _ _ _ t); (case aF => exact (fun _ _ => trivial)); (case aO => exact (LS.alloc L2.out _).r); (case aB => exact ((Below.refl (w.heap.size + 1) w1).alloc (show w.heap.size + 1 ≤ w1.heap.size from blk_lt L2.out.l) _)); (case aS => have := blk_lt L2.out.l; simp only [World.alloc, Array.size_push]; omega); (case aL => have := HX.out.2.1; omega); intro v1 w5 hR5 hb5 hg5 hat5; obtain ⟨A1, c1, rfl⟩ := Kd.R_slice hR5; have L5 := Lib.hid (LS.row (LS.alloc L2.out _) hR5 hg5); have hl5 := row_kept (LS.alloc L2.out _) hg5; have e1 := blk_cell hl5 1; have ef1 := blk_frozen hl5 1; simp only [List.length_append, List.length_cons, List.length_nil, Nat.zero_add] at L5; clear hR5 hb5 hg5 hat5 hl5)
            | (go_at_call 82; go_must (refine (is.calls _ _).mono ?_); go_must (rintro e wI ⟨rfl, rfl⟩))
            | (go_at_call 81; with_reducible (refine (HQ.out _ _ (by simp) L5.out.ps.at_).mono ?_); go_must (rintro e w6 ⟨rfl, q6⟩); have L6 := Lib.hid (LS.take (LS.alloc L5.out _) q6); clear q6))
          cases b2 with
          | true =>
            obtain ⟨k2, rfl⟩ : ∃ k2, kk = k2 + 1 := ⟨kk - 1, by have := HX.out.2.2.2.2.2.1 rfl; have := HX.out.2.2.2.2.2.2; omega⟩
            go_roundg (k2 + 1)
            case measure => omega
            case rel => exact ⟨_, xs ++ [t], us2, k2, .inl ⟨rfl, rfl, by have := HX.out.2.2.2.2.2.1 rfl; have := HX.out.2.2.2.2.2.2; omega, by have h := HX.out.1; rwa [if_pos rfl] at h⟩, L6.out, by have := HX.out.2.2.2.2.2.1 rfl; have := HX.out.2.2.2.2.2.2; have := HX.out.2.1; simp; omega, fun s h => HX.out.2.2.1 s (HX.out.2.2.2.1 s h)⟩
          | false =>
            obtain rfl := HX.out.2.2.2.2.1 rfl
            go_roundg 0
            case measure => omega
            case rel => exact ⟨_, xs ++ [t], us2, 0, .inr ⟨rfl, rfl, rfl, by have h := HX.out.1; rw [if_neg (by simp)] at h; exact h.symm⟩, L6.out, by have := HX.out.2.2.2.2.2.2; have := HX.out.2.1; simp; omega, HX.out.2.2.1⟩
      · have hlo3 : lineOf ws = (tailOf us).map fun q => (⟨#[]⟩, xs, q.1, q.2) := by rw [HLO2.out, hR]; rfl
        have hp0 := hLS.ps.at_
        obtain ⟨q3, hq3⟩ : ∃ q3, q3 = takeOf gtR us := ⟨_, rfl⟩
        have T3 := Lib.hid (fun n W hn (h : PAt W P us) => HTI.out ⟨#[62]⟩ n W us hn h)
        change Hid (∀ n W, _ → _ → Calls _ _ _ _ (fun e w' => e = .returned (.tuple #[.string (takeOf gtR us).1, .bool (takeOf gtR us).2.1]) ∧ PAt w' P (takeOf gtR us).2.2 ∧ _)) at T3
        have F3 := takeOf_false (r := gtR) (ws := us)
        have hta : tailOf us = if q3.2.1 = true then (if (takeOf plainR q3.2.2).2.1 = true ∧ (takeOf plainR q3.2.2).2.2 = [] then some ((takeOf plainR q3.2.2).1, false) else none)
          else if (takeOf gtgtR us).2.1 = true then (if (takeOf plainR (takeOf gtgtR us).2.2).2.1 = true ∧ (takeOf plainR (takeOf gtgtR us).2.2).2.2 = [] then some ((takeOf plainR (takeOf gtgtR us).2.2).1, true) else none) else none := by rw [hq3]; rfl
        rw [← hq3] at T3 F3
        obtain ⟨n3, b3, us3⟩ := q3
        simp only at T3 F3 hta
        clear hq3 hR hlen hmem hp0 hLS HTT HRR HLO HLO2 T0 L0 HMM HBD HL
        cases b3 with
        | true =>
          rw [if_pos rfl] at hta
          obtain ⟨q4, hq4⟩ : ∃ q4, q4 = takeOf plainR us3 := ⟨_, rfl⟩
          have T4 := Lib.hid (fun W (h : PAt W P us3) => HTP.out W us3 h)
          rw [← hq4] at T4 hta
          obtain ⟨n4, b4, us4⟩ := q4
          simp only at T4 hta
          have HLE := Lib.hid (show lineOf ws = if b4 = true ∧ us4 = [] then some (⟨#[]⟩, xs, n4, false) else none by rw [hlo3, hta]; split <;> rfl)
          clear hq4 hlo3 hta
          cases b4 with
          | true =>
            go_wp2_with (first
              | (go_at_call 82; go_must (refine (is.calls _ _).mono ?_); go_must (rintro e wI ⟨rfl, rfl⟩))
              | (go_at_call 81; with_reducible (refine (T3.out _ _ rfl HLS.out.ps.at_).mono ?_); go_must (rintro e w3 ⟨rfl, q3⟩); have L3 := Lib.hid (LS.take (LS.alloc HLS.out _) q3); obtain ⟨g0, g1, g2, g3, gf0, gf1, gf2, gf3⟩ := LS.cells L3.out; clear q3)
              | (go_at_call 81; with_reducible (refine (T4.out _ (L3.out).ps.at_).mono ?_); go_must (rintro e w4 ⟨rfl, q4⟩); have LX := Lib.hid (LS.take (L3.out) q4); obtain ⟨f0, f1, f2, f3, ff0, ff1, ff2, ff3⟩ := LS.cells LX.out; clear q4))
            have LY := Lib.hid (LS.set2 LX.out n4)
            clear g0 gf0 g1 gf1 g2 gf2 g3 gf3 f0 ff0 f1 ff1 f2 ff2 f3 ff3  T4 T3 F3 HTP HTI HLS L3 LX
            generalize World.setCell _ _ _ = W9 at LY ⊢
            obtain ⟨d0, d1, d2, d3, df0, df1, df2, df3⟩ := LS.cells LY.out
            obtain ⟨Ap, cp, hpb, _, _, _⟩ := LY.out.ps.at_
            have dp := blk_cell hpb 0
            have LZ := Lib.hid (LS.same LY.out)
            obtain ⟨y0, y1, y2, y3, yf0, yf1, yf2, yf3⟩ := LS.cells LZ.out
            have yp := LS.pcell LY.out dp (.string ⟨#[]⟩) (.slice A xs.length c) (.string n4) (.bool false)
            clear hpb yf0 yf1 yf2 yf3
            refine start_ (n := 12) (S := fun w' => w'.cell? ⟨w.heap.size, 0, none⟩ = some (.string ⟨#[]⟩) ∧ w'.cell? ⟨w.heap.size, 1, none⟩ = some (.slice A xs.length c) ∧ w'.cell? ⟨w.heap.size, 2, none⟩ = some (.string n4) ∧ w'.cell? ⟨w.heap.size, 3, none⟩ = some (.bool false) ∧ w'.cell? ⟨P, 0, none⟩ = some (.slice Ap us4.length cp)) (ds := []) #[false, false, false, false, false, false, false, false, false, false, false, false] (by kernel_rfl) rfl rfl ⟨d0, d1, d2, d3, dp⟩ (fun hHeld => ?_)
            refine pure_ (i := 1) (N := some 70) (v := ?_) (a' := ?_) #[false, true, false, false, false, false, false, false, false, false, false, false] rfl rfl (by kernel_rfl) (fun _ _ _ h => h) (Or.inl ⟨by rfl, ?_⟩) ?_ ?_
            rotate_left
            · intro w'
              go_simp
              with_reducible rfl
            rotate_left
            · simp only [Act.put, List.setIfInBounds_toArray, List.set_cons_zero, List.set_cons_succ, i64_w, i32_w]
              rfl
            refine pure_ (i := 2) (N := some 71) (v := ?_) (a' := ?_) #[false, true, true, false, false, false, false, false, false, false, false, false] rfl rfl (by kernel_rfl) (fun _ _ _ h => h) (Or.inl ⟨by rfl, ?_⟩) ?_ ?_
            rotate_left
            · intro w'
              go_simp
              with_reducible rfl
            rotate_left
            · simp only [Act.put, List.setIfInBounds_toArray, List.set_cons_zero, List.set_cons_succ, i64_w, i32_w]
              rfl
            refine pure_ (i := 3) (N := some 72) (v := ?_) (a' := ?_) #[false, true, true, true, false, false, false, false, false, false, false, false] rfl rfl (by kernel_rfl) (fun _ _ _ h => h) (Or.inl ⟨by rfl, ?_⟩) ?_ ?_
            rotate_left
            · intro w'
              go_simp
              with_reducible rfl
            rotate_left
            · simp only [Act.put, List.setIfInBounds_toArray, List.set_cons_zero, List.set_cons_succ, i64_w, i32_w]
              rfl
            refine pure_ (i := 4) (N := some 73) (v := ?_) (a' := ?_) #[false, true, true, true, true, false, false, false, false, false, false, false] rfl rfl (by kernel_rfl) (fun _ _ _ h => h) (Or.inl ⟨by rfl, ?_⟩) ?_ ?_
            rotate_left
            · intro w'
              go_simp
              with_reducible rfl
            rotate_left
            · simp only [Act.put, List.setIfInBounds_toArray, List.set_cons_zero, List.set_cons_succ, i64_w, i32_w]
              rfl
            refine pure_ (i := 5) (N := some 74) (v := ?_) (a' := ?_) #[false, true, true, true, true, true, false, false, false, false, false, false] rfl rfl (by kernel_rfl) (fun _ _ _ h => h) (Or.inl ⟨by rfl, ?_⟩) ?_ ?_
            rotate_left
            · intro w'
              go_simp
              with_reducible rfl
            rotate_left
            · simp only [Act.put, List.setIfInBounds_toArray, List.set_cons_zero, List.set_cons_succ, i64_w, i32_w]
              rfl
            refine take_ (i := 0) (N := some 69) (v := ?_) (a' := ?_) #[true, true, true, true, true, true, false, false, false, false, false, false] rfl rfl (by kernel_rfl) (fun _ _ _ h => h) (Or.inl ⟨by rfl, ?_⟩) hHeld ?_ ?_
            rotate_left
            · rintro w' ⟨s0, s1, s2, s3, s4⟩
              go_simp
              with_reducible rfl
            rotate_left
            · simp only [Act.put, List.setIfInBounds_toArray, List.set_cons_zero, List.set_cons_succ, i64_w, i32_w]
              rfl
            refine take_ (i := 6) (N := some 75) (v := ?_) (a' := ?_) #[true, true, true, true, true, true, true, false, false, false, false, false] rfl rfl (by kernel_rfl) (fun _ _ _ h => h) (Or.inl ⟨by rfl, ?_⟩) hHeld ?_ ?_
            rotate_left
            · rintro w' ⟨s0, s1, s2, s3, s4⟩
              go_simp
              with_reducible rfl
            rotate_left
            · simp only [Act.put, List.setIfInBounds_toArray, List.set_cons_zero, List.set_cons_succ, i64_w, i32_w]
              rfl
            refine pure_ (i := 7) (N := some 76) (v := ?_) (a' := ?_) #[true, true, true, true, true, true, true, true, false, false, false, false] rfl rfl (by kernel_rfl) (fun _ _ _ h => h) (Or.inl ⟨by rfl, ?_⟩) ?_ ?_
            rotate_left
            · intro w'
              go_simp
              with_reducible rfl
            rotate_left
            · simp only [Act.put, List.setIfInBounds_toArray, List.set_cons_zero, List.set_cons_succ, i64_w, i32_w]
              rfl
            refine pure_ (i := 8) (N := some 77) (v := ?_) (a' := ?_) #[true, true, true, true, true, true, true, true, true, false, false, false] rfl rfl (by kernel_rfl) (fun _ _ _ h => h) (Or.inl ⟨by rfl, ?_⟩) ?_ ?_
            rotate_left
            · intro w'
              go_simp
              with_reducible rfl
            rotate_left
            · simp only [Act.put, List.setIfInBounds_toArray, List.set_cons_zero, List.set_cons_succ, i64_w, i32_w]
              rfl
            refine pure_ (i := 9) (N := some 78) (v := ?_) (a' := ?_) #[true, true, true, true, true, true, true, true, true, true, false, false] rfl rfl (by kernel_rfl) (fun _ _ _ h => h) (Or.inl ⟨by rfl, ?_⟩) ?_ ?_
            rotate_left
            · intro w'
              go_simp
              with_reducible rfl
            rotate_left
            · simp only [Act.put, List.setIfInBounds_toArray, List.set_cons_zero, List.set_cons_succ, i64_w, i32_w]
              rfl
            refine one_ (i := 10) (N := none) #[true, true, true, true, true, true, true, true, true, true, true, false] rfl rfl (by kernel_rfl) (by decide) (fun K hK => ?_)
            refine skip_ (w1 := ?_) (by rfl) rfl ?_ ?_
            rotate_left
            · go_simp
              rfl
            refine hK.out _ _ ⟨y0, y1, y2, y3, yp⟩ (fun hHeld => ?_)
            clear hK K
            refine pure_ (i := 11) (N := some 3) (v := ?_) (a' := ?_) #[true, true, true, true, true, true, true, true, true, true, true, true] rfl rfl (by kernel_rfl) (fun _ _ _ h => h) (Or.inl ⟨by rfl, ?_⟩) ?_ ?_
            rotate_left
            · intro w'
              go_simp
              with_reducible rfl
            rotate_left
            · simp only [Act.put, List.setIfInBounds_toArray, List.set_cons_zero, List.set_cons_succ, i64_w, i32_w]
              rfl
            refine done_ (by kernel_rfl) ?_
            go_wp2
            (try simp only [Exit.inBlock, Exit.then])
            refine bodyPost_ret (v := .tuple #[.agg #[.string ⟨#[]⟩, .slice A xs.length c, .string n4, .bool false], .bool ((us4.length : Int) == 0)]) ?_ rfl ?_
            · rw [results_cell_tmp rfl]
              go_simp
            · exact line_done (LS.next LZ.out (Below.drew (Below.refl _ _))) true _ (HLE.out.trans (by simp)) (by simp)
          | false =>
            go_wp2_with (first
              | (go_at_call 82; go_must (refine (is.calls _ _).mono ?_); go_must (rintro e wI ⟨rfl, rfl⟩))
              | (go_at_call 81; with_reducible (refine (T3.out _ _ rfl HLS.out.ps.at_).mono ?_); go_must (rintro e w3 ⟨rfl, q3⟩); have L3 := Lib.hid (LS.take (LS.alloc HLS.out _) q3); obtain ⟨g0, g1, g2, g3, gf0, gf1, gf2, gf3⟩ := LS.cells L3.out; clear q3)
              | (go_at_call 81; with_reducible (refine (T4.out _ (L3.out).ps.at_).mono ?_); go_must (rintro e w4 ⟨rfl, q4⟩); have LX := Lib.hid (LS.take (L3.out) q4); obtain ⟨f0, f1, f2, f3, ff0, ff1, ff2, ff3⟩ := LS.cells LX.out; clear q4))
            have LY := Lib.hid (LS.set2 LX.out n4)
            clear g0 gf0 g1 gf1 g2 gf2 g3 gf3 f0 ff0 f1 ff1 f2 ff2 f3 ff3  T4 T3 F3 HTP HTI HLS L3 LX
            generalize World.setCell _ _ _ = W9 at LY ⊢
            obtain ⟨d0, d1, d2, d3, df0, df1, df2, df3⟩ := LS.cells LY.out
            obtain ⟨Ap, cp, hpb, _, _, _⟩ := LY.out.ps.at_
            have dp := blk_cell hpb 0
            have LZ := Lib.hid (LS.same LY.out)
            obtain ⟨y0, y1, y2, y3, yf0, yf1, yf2, yf3⟩ := LS.cells LZ.out
            have yp := LS.pcell LY.out dp (.string ⟨#[]⟩) (.slice A xs.length c) (.string n4) (.bool false)
            clear hpb yf0 yf1 yf2 yf3
            refine start_ (n := 12) (S := fun w' => w'.cell? ⟨w.heap.size, 0, none⟩ = some (.string ⟨#[]⟩) ∧ w'.cell? ⟨w.heap.size, 1, none⟩ = some (.slice A xs.length c) ∧ w'.cell? ⟨w.heap.size, 2, none⟩ = some (.string n4) ∧ w'.cell? ⟨w.heap.size, 3, none⟩ = some (.bool false) ∧ w'.cell? ⟨P, 0, none⟩ = some (.slice Ap us4.length cp)) (ds := []) #[false, false, false, false, false, false, false, false, false, false, false, false] (by kernel_rfl) rfl rfl ⟨d0, d1, d2, d3, dp⟩ (fun hHeld => ?_)
            refine pure_ (i := 1) (N := some 70) (v := ?_) (a' := ?_) #[false, true, false, false, false, false, false, false, false, false, false, false] rfl rfl (by kernel_rfl) (fun _ _ _ h => h) (Or.inl ⟨by rfl, ?_⟩) ?_ ?_
            rotate_left
            · intro w'
              go_simp
              with_reducible rfl
            rotate_left
            · simp only [Act.put, List.setIfInBounds_toArray, List.set_cons_zero, List.set_cons_succ, i64_w, i32_w]
              rfl
            refine pure_ (i := 2) (N := some 71) (v := ?_) (a' := ?_) #[false, true, true, false, false, false, false, false, false, false, false, false] rfl rfl (by kernel_rfl) (fun _ _ _ h => h) (Or.inl ⟨by rfl, ?_⟩) ?_ ?_
            rotate_left
            · intro w'
              go_simp
              with_reducible rfl
            rotate_left
            · simp only [Act.put, List.setIfInBounds_toArray, List.set_cons_zero, List.set_cons_succ, i64_w, i32_w]
              rfl
            refine pure_ (i := 3) (N := some 72) (v := undef) (a' := ?_) #[false, true, true, true, false, false, false, false, false, false, false, false] rfl rfl (by kernel_rfl) (fun _ _ _ h => h) (Or.inr ⟨by rfl, rfl⟩) ?_ ?_
            rotate_left
            · simp only [Act.put, List.setIfInBounds_toArray, List.set_cons_zero, List.set_cons_succ, i64_w, i32_w]
              rfl
            refine pure_ (i := 4) (N := some 73) (v := undef) (a' := ?_) #[false, true, true, true, true, false, false, false, false, false, false, false] rfl rfl (by kernel_rfl) (fun _ _ _ h => h) (Or.inr ⟨by rfl, rfl⟩) ?_ ?_
            rotate_left
            · simp only [Act.put, List.setIfInBounds_toArray, List.set_cons_zero, List.set_cons_succ, i64_w, i32_w]
              rfl
            refine pure_ (i := 5) (N := some 74) (v := undef) (a' := ?_) #[false, true, true, true, true, true, false, false, false, false, false, false] rfl rfl (by kernel_rfl) (fun _ _ _ h => h) (Or.inr ⟨by rfl, rfl⟩) ?_ ?_
            rotate_left
            · simp only [Act.put, List.setIfInBounds_toArray, List.set_cons_zero, List.set_cons_succ, i64_w, i32_w]
              rfl
            refine pure_ (i := 6) (N := some 75) (v := undef) (a' := ?_) #[false, true, true, true, true, true, true, false, false, false, false, false] rfl rfl (by kernel_rfl) (fun _ _ _ h => h) (Or.inr ⟨by rfl, rfl⟩) ?_ ?_
            rotate_left
            · simp only [Act.put, List.setIfInBounds_toArray, List.set_cons_zero, List.set_cons_succ, i64_w, i32_w]
              rfl
            refine pure_ (i := 7) (N := some 76) (v := undef) (a' := ?_) #[false, true, true, true, true, true, true, true, false, false, false, false] rfl rfl (by kernel_rfl) (fun _ _ _ h => h) (Or.inr ⟨by rfl, rfl⟩) ?_ ?_
            rotate_left
            · simp only [Act.put, List.setIfInBounds_toArray, List.set_cons_zero, List.set_cons_succ, i64_w, i32_w]
              rfl
            refine pure_ (i := 8) (N := some 77) (v := undef) (a' := ?_) #[false, true, true, true, true, true, true, true, true, false, false, false] rfl rfl (by kernel_rfl) (fun _ _ _ h => h) (Or.inr ⟨by rfl, rfl⟩) ?_ ?_
            rotate_left
            · simp only [Act.put, List.setIfInBounds_toArray, List.set_cons_zero, List.set_cons_succ, i64_w, i32_w]
              rfl
            refine pure_ (i := 9) (N := some 78) (v := ?_) (a' := ?_) #[false, true, true, true, true, true, true, true, true, true, false, false] rfl rfl (by kernel_rfl) (fun _ _ _ h => h) (Or.inl ⟨by rfl, ?_⟩) ?_ ?_
            rotate_left
            · intro w'
              go_simp
              with_reducible rfl
            rotate_left
            · simp only [Act.put, List.setIfInBounds_toArray, List.set_cons_zero, List.set_cons_succ, i64_w, i32_w]
              rfl
            refine take_ (i := 0) (N := some 69) (v := ?_) (a' := ?_) #[true, true, true, true, true, true, true, true, true, true, false, false] rfl rfl (by kernel_rfl) (fun _ _ _ h => h) (Or.inl ⟨by rfl, ?_⟩) hHeld ?_ ?_
            rotate_left
            · rintro w' ⟨s0, s1, s2, s3, s4⟩
              go_simp
              with_reducible rfl
            rotate_left
            · simp only [Act.put, List.setIfInBounds_toArray, List.set_cons_zero, List.set_cons_succ, i64_w, i32_w]
              rfl
            refine one_ (i := 10) (N := none) #[true, true, true, true, true, true, true, true, true, true, true, false] rfl rfl (by kernel_rfl) (by decide) (fun K hK => ?_)
            refine skip_ (w1 := ?_) (by rfl) rfl ?_ ?_
            rotate_left
            · go_simp
              rfl
            refine hK.out _ _ ⟨y0, y1, y2, y3, yp⟩ (fun hHeld => ?_)
            clear hK K
            refine pure_ (i := 11) (N := some 3) (v := ?_) (a' := ?_) #[true, true, true, true, true, true, true, true, true, true, true, true] rfl rfl (by kernel_rfl) (fun _ _ _ h => h) (Or.inl ⟨by rfl, ?_⟩) ?_ ?_
            rotate_left
            · intro w'
              go_simp
              with_reducible rfl
            rotate_left
            · simp only [Act.put, List.setIfInBounds_toArray, List.set_cons_zero, List.set_cons_succ, i64_w, i32_w]
              rfl
            refine done_ (by kernel_rfl) ?_
            go_wp2
            (try simp only [Exit.inBlock, Exit.then])
            refine bodyPost_ret (v := .tuple #[.agg #[.string ⟨#[]⟩, .slice A xs.length c, .string n4, .bool false], .bool false]) ?_ rfl ?_
            · rw [results_cell_tmp rfl]
              go_simp
            · exact line_done (LS.next LZ.out (Below.drew (Below.refl _ _))) false _ (HLE.out.trans (by simp)) (by simp)
        | false =>
          obtain rfl := F3 rfl
          rw [if_neg (by simp)] at hta
          obtain ⟨q5, hq5⟩ : ∃ q5, q5 = takeOf gtgtR us3 := ⟨_, rfl⟩
          have T5 := Lib.hid (fun n W hn (h : PAt W P us3) => HTI.out ⟨#[62, 62]⟩ n W us3 hn h)
          change Hid (∀ n W, _ → _ → Calls _ _ _ _ (fun e w' => e = .returned (.tuple #[.string (takeOf gtgtR us3).1, .bool (takeOf gtgtR us3).2.1]) ∧ PAt w' P (takeOf gtgtR us3).2.2 ∧ _)) at T5
          rw [← hq5] at T5 hta
          obtain ⟨n5, b5, us5⟩ := q5
          simp only at T5 hta
          clear hq5
          cases b5 with
          | true =>
            rw [if_pos rfl] at hta
            obtain ⟨q4, hq4⟩ : ∃ q4, q4 = takeOf plainR us5 := ⟨_, rfl⟩
            have T4 := Lib.hid (fun W (h : PAt W P us5) => HTP.out W us5 h)
            rw [← hq4] at T4 hta
            obtain ⟨n4, b4, us4⟩ := q4
            simp only at T4 hta
            have HLE := Lib.hid (show lineOf ws = if b4 = true ∧ us4 = [] then some (⟨#[]⟩, xs, n4, true) else none by rw [hlo3, hta]; split <;> rfl)
            clear hq4 hlo3 hta
            cases b4 with
            | true =>
              go_wp2_with (first
                | (go_at_call 82; go_must (refine (is.calls _ _).mono ?_); go_must (rintro e wI ⟨rfl, rfl⟩))
                | (go_at_call 81; with_reducible (refine (T3.out _ _ rfl HLS.out.ps.at_).mono ?_); go_must (rintro e w3 ⟨rfl, q3⟩); have L3 := Lib.hid (LS.take (LS.alloc HLS.out _) q3); obtain ⟨g0, g1, g2, g3, gf0, gf1, gf2, gf3⟩ := LS.cells L3.out; clear q3)
                | (go_at_call 81; with_reducible (refine (T5.out _ _ rfl L3.out.ps.at_).mono ?_); go_must (rintro e w5 ⟨rfl, q5⟩); have L5 := Lib.hid (LS.take (LS.alloc L3.out _) q5); obtain ⟨e0, e1, e2, e3, ef0, ef1, ef2, ef3⟩ := LS.cells L5.out; clear q5)
                | (go_at_call 81; with_reducible (refine (T4.out _ (LS.set3 L5.out true).ps.at_).mono ?_); go_must (rintro e w4 ⟨rfl, q4⟩); have LX := Lib.hid (LS.take (LS.set3 L5.out true) q4); obtain ⟨f0, f1, f2, f3, ff0, ff1, ff2, ff3⟩ := LS.cells LX.out; clear q4))
              have LY := Lib.hid (LS.set2 LX.out n4)
              clear g0 gf0 g1 gf1 g2 gf2 g3 gf3 f0 ff0 f1 ff1 f2 ff2 f3 ff3 e0 ef0 e1 ef1 e2 ef2 e3 ef3 T4 T3 F3 HTP HTI HLS L3 LX T5 L5
              generalize World.setCell _ _ _ = W9 at LY ⊢
              obtain ⟨d0, d1, d2, d3, df0, df1, df2, df3⟩ := LS.cells LY.out
              obtain ⟨Ap, cp, hpb, _, _, _⟩ := LY.out.ps.at_
              have dp := blk_cell hpb 0
              have LZ := Lib.hid (LS.same LY.out)
              obtain ⟨y0, y1, y2, y3, yf0, yf1, yf2, yf3⟩ := LS.cells LZ.out
              have yp := LS.pcell LY.out dp (.string ⟨#[]⟩) (.slice A xs.length c) (.string n4) (.bool true)
              clear hpb yf0 yf1 yf2 yf3
              refine start_ (n := 12) (S := fun w' => w'.cell? ⟨w.heap.size, 0, none⟩ = some (.string ⟨#[]⟩) ∧ w'.cell? ⟨w.heap.size, 1, none⟩ = some (.slice A xs.length c) ∧ w'.cell? ⟨w.heap.size, 2, none⟩ = some (.string n4) ∧ w'.cell? ⟨w.heap.size, 3, none⟩ = some (.bool true) ∧ w'.cell? ⟨P, 0, none⟩ = some (.slice Ap us4.length cp)) (ds := []) #[false, false, false, false, false, false, false, false, false, false, false, false] (by kernel_rfl) rfl rfl ⟨d0, d1, d2, d3, dp⟩ (fun hHeld => ?_)
              refine pure_ (i := 1) (N := some 70) (v := ?_) (a' := ?_) #[false, true, false, false, false, false, false, false, false, false, false, false] rfl rfl (by kernel_rfl) (fun _ _ _ h => h) (Or.inl ⟨by rfl, ?_⟩) ?_ ?_
              rotate_left
              · intro w'
                go_simp
                with_reducible rfl
              rotate_left
              · simp only [Act.put, List.setIfInBounds_toArray, List.set_cons_zero, List.set_cons_succ, i64_w, i32_w]
                rfl
              refine pure_ (i := 2) (N := some 71) (v := ?_) (a' := ?_) #[false, true, true, false, false, false, false, false, false, false, false, false] rfl rfl (by kernel_rfl) (fun _ _ _ h => h) (Or.inl ⟨by rfl, ?_⟩) ?_ ?_
              rotate_left
              · intro w'
                go_simp
                with_reducible rfl
              rotate_left
              · simp only [Act.put, List.setIfInBounds_toArray, List.set_cons_zero, List.set_cons_succ, i64_w, i32_w]
                rfl
              refine pure_ (i := 3) (N := some 72) (v := ?_) (a' := ?_) #[false, true, true, true, false, false, false, false, false, false, false, false] rfl rfl (by kernel_rfl) (fun _ _ _ h => h) (Or.inl ⟨by rfl, ?_⟩) ?_ ?_
              rotate_left
              · intro w'
                go_simp
                with_reducible rfl
              rotate_left
              · simp only [Act.put, List.setIfInBounds_toArray, List.set_cons_zero, List.set_cons_succ, i64_w, i32_w]
                rfl
              refine pure_ (i := 4) (N := some 73) (v := ?_) (a' := ?_) #[false, true, true, true, true, false, false, false, false, false, false, false] rfl rfl (by kernel_rfl) (fun _ _ _ h => h) (Or.inl ⟨by rfl, ?_⟩) ?_ ?_
              rotate_left
              · intro w'
                go_simp
                with_reducible rfl
              rotate_left
              · simp only [Act.put, List.setIfInBounds_toArray, List.set_cons_zero, List.set_cons_succ, i64_w, i32_w]
                rfl
              refine pure_ (i := 5) (N := some 74) (v := ?_) (a' := ?_) #[false, true, true, true, true, true, false, false, false, false, false, false] rfl rfl (by kernel_rfl) (fun _ _ _ h => h) (Or.inl ⟨by rfl, ?_⟩) ?_ ?_
              rotate_left
              · intro w'
                go_simp
                with_reducible rfl
              rotate_left
              · simp only [Act.put, List.setIfInBounds_toArray, List.set_cons_zero, List.set_cons_succ, i64_w, i32_w]
                rfl
              refine take_ (i := 0) (N := some 69) (v := ?_) (a' := ?_) #[true, true, true, true, true, true, false, false, false, false, false, false] rfl rfl (by kernel_rfl) (fun _ _ _ h => h) (Or.inl ⟨by rfl, ?_⟩) hHeld ?_ ?_
              rotate_left
              · rintro w' ⟨s0, s1, s2, s3, s4⟩
                go_simp
                with_reducible rfl
              rotate_left
              · simp only [Act.put, List.setIfInBounds_toArray, List.set_cons_zero, List.set_cons_succ, i64_w, i32_w]
                rfl
              refine take_ (i := 6) (N := some 75) (v := ?_) (a' := ?_) #[true, true, true, true, true, true, true, false, false, false, false, false] rfl rfl (by kernel_rfl) (fun _ _ _ h => h) (Or.inl ⟨by rfl, ?_⟩) hHeld ?_ ?_
              rotate_left
              · rintro w' ⟨s0, s1, s2, s3, s4⟩
                go_simp
                with_reducible rfl
              rotate_left
              · simp only [Act.put, List.setIfInBounds_toArray, List.set_cons_zero, List.set_cons_succ, i64_w, i32_w]
                rfl
              refine pure_ (i := 7) (N := some 76) (v := ?_) (a' := ?_) #[true, true, true, true, true, true, true, true, false, false, false, false] rfl rfl (by kernel_rfl) (fun _ _ _ h => h) (Or.inl ⟨by rfl, ?_⟩) ?_ ?_
              rotate_left
              · intro w'
                go_simp
                with_reducible rfl
              rotate_left
              · simp only [Act.put, List.setIfInBounds_toArray, List.set_cons_zero, List.set_cons_succ, i64_w, i32_w]
                rfl
              refine pure_ (i := 8) (N := some 77) (v := ?_) (a' := ?_) #[true, true, true, true, true, true, true, true, true, false, false, false] rfl rfl (by kernel_rfl) (fun _ _ _ h => h) (Or.inl ⟨by rfl, ?_⟩) ?_ ?_
              rotate_left
              · intro w'
                go_simp
                with_reducible rfl
              rotate_left
              · simp only [Act.put, List.setIfInBounds_toArray, List.set_cons_zero, List.set_cons_succ, i64_w, i32_w]
                rfl
              refine pure_ (i := 9) (N := some 78) (v := ?_) (a' := ?_) #[true, true, true, true, true, true, true, true, true, true, false, false] rfl rfl (by kernel_rfl) (fun _ _ _ h => h) (Or.inl ⟨by rfl, ?_⟩) ?_ ?_
              rotate_left
              · intro w'
                go_simp
                with_reducible rfl
              rotate_left
              · simp only [Act.put, List.setIfInBounds_toArray, List.set_cons_zero, List.set_cons_succ, i64_w, i32_w]
                rfl
              refine one_ (i := 10) (N := none) #[true, true, true, true, true, true, true, true, true, true, true, false] rfl rfl (by kernel_rfl) (by decide) (fun K hK => ?_)
              refine skip_ (w1 := ?_) (by rfl) rfl ?_ ?_
              rotate_left
              · go_simp
                rfl
              refine hK.out _ _ ⟨y0, y1, y2, y3, yp⟩ (fun hHeld => ?_)
              clear hK K
              refine pure_ (i := 11) (N := some 3) (v := ?_) (a' := ?_) #[true, true, true, true, true, true, true, true, true, true, true, true] rfl rfl (by kernel_rfl) (fun _ _ _ h => h) (Or.inl ⟨by rfl, ?_⟩) ?_ ?_
              rotate_left
              · intro w'
                go_simp
                with_reducible rfl
              rotate_left
              · simp only [Act.put, List.setIfInBounds_toArray, List.set_cons_zero, List.set_cons_succ, i64_w, i32_w]
                rfl
              refine done_ (by kernel_rfl) ?_
              go_wp2
              (try simp only [Exit.inBlock, Exit.then])
              refine bodyPost_ret (v := .tuple #[.agg #[.string ⟨#[]⟩, .slice A xs.length c, .string n4, .bool true], .bool ((us4.length : Int) == 0)]) ?_ rfl ?_
              · rw [results_cell_tmp rfl]
                go_simp
              · exact line_done (LS.next LZ.out (Below.drew (Below.refl _ _))) true _ (HLE.out.trans (by simp)) (by simp)
            | false =>
              go_wp2_with (first
                | (go_at_call 82; go_must (refine (is.calls _ _).mono ?_); go_must (rintro e wI ⟨rfl, rfl⟩))
                | (go_at_call 81; with_reducible (refine (T3.out _ _ rfl HLS.out.ps.at_).mono ?_); go_must (rintro e w3 ⟨rfl, q3⟩); have L3 := Lib.hid (LS.take (LS.alloc HLS.out _) q3); obtain ⟨g0, g1, g2, g3, gf0, gf1, gf2, gf3⟩ := LS.cells L3.out; clear q3)
                | (go_at_call 81; with_reducible (refine (T5.out _ _ rfl L3.out.ps.at_).mono ?_); go_must (rintro e w5 ⟨rfl, q5⟩); have L5 := Lib.hid (LS.take (LS.alloc L3.out _) q5); obtain ⟨e0, e1, e2, e3, ef0, ef1, ef2, ef3⟩ := LS.cells L5.out; clear q5)
                | (go_at_call 81; with_reducible (refine (T4.out _ (LS.set3 L5.out true).ps.at_).mono ?_); go_must (rintro e w4 ⟨rfl, q4⟩); have LX := Lib.hid (LS.take (LS.set3 L5.out true) q4); obtain ⟨f0, f1, f2, f3, ff0, ff1, ff2, ff3⟩ := LS.cells LX.out; clear q4))
              have LY := Lib.hid (LS.set2 LX.out n4)
              clear g0 gf0 g1 gf1 g2 gf2 g3 gf3 f0 ff0 f1 ff1 f2 ff2 f3 ff3 e0 ef0 e1 ef1 e2 ef2 e3 ef3 T4 T3 F3 HTP HTI HLS L3 LX T5 L5
              generalize World.setCell _ _ _ = W9 at LY ⊢
              obtain ⟨d0, d1, d2, d3, df0, df1, df2, df3⟩ := LS.cells LY.out
              obtain ⟨Ap, cp, hpb, _, _, _⟩ := LY.out.ps.at_
              have dp := blk_cell hpb 0
              have LZ := Lib.hid (LS.same LY.out)
              obtain ⟨y0, y1, y2, y3, yf0, yf1, yf2, yf3⟩ := LS.cells LZ.out
              have yp := LS.pcell LY.out dp (.string ⟨#[]⟩) (.slice A xs.length c) (.string n4) (.bool true)
              clear hpb yf0 yf1 yf2 yf3
              refine start_ (n := 12) (S := fun w' => w'.cell? ⟨w.heap.size, 0, none⟩ = some (.string ⟨#[]⟩) ∧ w'.cell? ⟨w.heap.size, 1, none⟩ = some (.slice A xs.length c) ∧ w'.cell? ⟨w.heap.size, 2, none⟩ = some (.string n4) ∧ w'.cell? ⟨w.heap.size, 3, none⟩ = some (.bool true) ∧ w'.cell? ⟨P, 0, none⟩ = some (.slice Ap us4.length cp)) (ds := []) #[false, false, false, false, false, false, false, false, false, false, false, false] (by kernel_rfl) rfl rfl ⟨d0, d1, d2, d3, dp⟩ (fun hHeld => ?_)
              refine pure_ (i := 1) (N := some 70) (v := ?_) (a' := ?_) #[false, true, false, false, false, false, false, false, false, false, false, false] rfl rfl (by kernel_rfl) (fun _ _ _ h => h) (Or.inl ⟨by rfl, ?_⟩) ?_ ?_
              rotate_left
              · intro w'
                go_simp
                with_reducible rfl
              rotate_left
              · simp only [Act.put, List.setIfInBounds_toArray, List.set_cons_zero, List.set_cons_succ, i64_w, i32_w]
                rfl
              refine pure_ (i := 2) (N := some 71) (v := ?_) (a' := ?_) #[false, true, true, false, false, false, false, false, false, false, false, false] rfl rfl (by kernel_rfl) (fun _ _ _ h => h) (Or.inl ⟨by rfl, ?_⟩) ?_ ?_
              rotate_left
              · intro w'
                go_simp
                with_reducible rfl
              rotate_left
              · simp only [Act.put, List.setIfInBounds_toArray, List.set_cons_zero, List.set_cons_succ, i64_w, i32_w]
                rfl
              refine pure_ (i := 3) (N := some 72) (v := undef) (a' := ?_) #[false, true, true, true, false, false, false, false, false, false, false, false] rfl rfl (by kernel_rfl) (fun _ _ _ h => h) (Or.inr ⟨by rfl, rfl⟩) ?_ ?_
              rotate_left
              · simp only [Act.put, List.setIfInBounds_toArray, List.set_cons_zero, List.set_cons_succ, i64_w, i32_w]
                rfl
              refine pure_ (i := 4) (N := some 73) (v := undef) (a' := ?_) #[false, true, true, true, true, false, false, false, false, false, false, false] rfl rfl (by kernel_rfl) (fun _ _ _ h => h) (Or.inr ⟨by rfl, rfl⟩) ?_ ?_
              rotate_left
              · simp only [Act.put, List.setIfInBounds_toArray, List.set_cons_zero, List.set_cons_succ, i64_w, i32_w]
                rfl
              refine pure_ (i := 5) (N := some 74) (v := undef) (a' := ?_) #[false, true, true, true, true, true, false, false, false, false, false, false] rfl rfl (by kernel_rfl) (fun _ _ _ h => h) (Or.inr ⟨by rfl, rfl⟩) ?_ ?_
              rotate_left
              · simp only [Act.put, List.setIfInBounds_toArray, List.set_cons_zero, List.set_cons_succ, i64_w, i32_w]
                rfl
              refine pure_ (i := 6) (N := some 75) (v := undef) (a' := ?_) #[false, true, true, true, true, true, true, false, false, false, false, false] rfl rfl (by kernel_rfl) (fun _ _ _ h => h) (Or.inr ⟨by rfl, rfl⟩) ?_ ?_
              rotate_left
              · simp only [Act.put, List.setIfInBounds_toArray, List.set_cons_zero, List.set_cons_succ, i64_w, i32_w]
                rfl
              refine pure_ (i := 7) (N := some 76) (v := undef) (a' := ?_) #[false, true, true, true, true, true, true, true, false, false, false, false] rfl rfl (by kernel_rfl) (fun _ _ _ h => h) (Or.inr ⟨by rfl, rfl⟩) ?_ ?_
              rotate_left
              · simp only [Act.put, List.setIfInBounds_toArray, List.set_cons_zero, List.set_cons_succ, i64_w, i32_w]
                rfl
              refine pure_ (i := 8) (N := some 77) (v := undef) (a' := ?_) #[false, true, true, true, true, true, true, true, true, false, false, false] rfl rfl (by kernel_rfl) (fun _ _ _ h => h) (Or.inr ⟨by rfl, rfl⟩) ?_ ?_
              rotate_left
              · simp only [Act.put, List.setIfInBounds_toArray, List.set_cons_zero, List.set_cons_succ, i64_w, i32_w]
                rfl
              refine pure_ (i := 9) (N := some 78) (v := ?_) (a' := ?_) #[false, true, true, true, true, true, true, true, true, true, false, false] rfl rfl (by kernel_rfl) (fun _ _ _ h => h) (Or.inl ⟨by rfl, ?_⟩) ?_ ?_
              rotate_left
              · intro w'
                go_simp
                with_reducible rfl
              rotate_left
              · simp only [Act.put, List.setIfInBounds_toArray, List.set_cons_zero, List.set_cons_succ, i64_w, i32_w]
                rfl
              refine take_ (i := 0) (N := some 69) (v := ?_) (a' := ?_) #[true, true, true, true, true, true, true, true, true, true, false, false] rfl rfl (by kernel_rfl) (fun _ _ _ h => h) (Or.inl ⟨by rfl, ?_⟩) hHeld ?_ ?_
              rotate_left
              · rintro w' ⟨s0, s1, s2, s3, s4⟩
                go_simp
                with_reducible rfl
              rotate_left
              · simp only [Act.put, List.setIfInBounds_toArray, List.set_cons_zero, List.set_cons_succ, i64_w, i32_w]
                rfl
              refine one_ (i := 10) (N := none) #[true, true, true, true, true, true, true, true, true, true, true, false] rfl rfl (by kernel_rfl) (by decide) (fun K hK => ?_)
              refine skip_ (w1 := ?_) (by rfl) rfl ?_ ?_
              rotate_left
              · go_simp
                rfl
              refine hK.out _ _ ⟨y0, y1, y2, y3, yp⟩ (fun hHeld => ?_)
              clear hK K
              refine pure_ (i := 11) (N := some 3) (v := ?_) (a' := ?_) #[true, true, true, true, true, true, true, true, true, true, true, true] rfl rfl (by kernel_rfl) (fun _ _ _ h => h) (Or.inl ⟨by rfl, ?_⟩) ?_ ?_
              rotate_left
              · intro w'
                go_simp
                with_reducible rfl
              rotate_left
              · simp only [Act.put, List.setIfInBounds_toArray, List.set_cons_zero, List.set_cons_succ, i64_w, i32_w]
                rfl
              refine done_ (by kernel_rfl) ?_
              go_wp2
              (try simp only [Exit.inBlock, Exit.then])
              refine bodyPost_ret (v := .tuple #[.agg #[.string ⟨#[]⟩, .slice A xs.length c, .string n4, .bool true], .bool false]) ?_ rfl ?_
              · rw [results_cell_tmp rfl]
                go_simp
              · exact line_done (LS.next LZ.out (Below.drew (Below.refl _ _))) false _ (HLE.out.trans (by simp)) (by simp)
          | false =>
            rw [if_neg (by simp)] at hta
            have HNO := Lib.hid (show lineOf ws = none by rw [hlo3, hta]; rfl)
            clear hlo3 hta
            go_wp2_with (first
              | (go_at_call 82; go_must (refine (is.calls _ _).mono ?_); go_must (rintro e wI ⟨rfl, rfl⟩))
              | (go_at_call 81; with_reducible (refine (T3.out _ _ rfl HLS.out.ps.at_).mono ?_); go_must (rintro e w3 ⟨rfl, q3⟩); have L3 := Lib.hid (LS.take (LS.alloc HLS.out _) q3); obtain ⟨g0, g1, g2, g3, gf0, gf1, gf2, gf3⟩ := LS.cells L3.out; clear q3)
              | (go_at_call 81; with_reducible (refine (T5.out _ _ rfl L3.out.ps.at_).mono ?_); go_must (rintro e w5 ⟨rfl, q5⟩); have L5 := Lib.hid (LS.take (LS.alloc L3.out _) q5); obtain ⟨e0, e1, e2, e3, ef0, ef1, ef2, ef3⟩ := LS.cells L5.out; clear q5))
            (try simp only [Exit.inBlock, Exit.then])
            refine bodyPost_ret (v := .tuple #[.agg #[.string ⟨#[]⟩, .slice A xs.length c, .string ⟨#[]⟩, .bool false], .bool false]) ?_ rfl ?_
            · rw [results_cell_tmp rfl]
              go_simp
            · exact line_fail (LS.same (LS.set3 L5.out false)) HNO.out
  | true =>
    rw [if_pos rfl] at hlo
    obtain ⟨q1, hq1⟩ : ∃ q1, q1 = takeOf plainR r0 := ⟨_, rfl⟩
    have TP1 := Lib.hid (fun W (h : PAt W P r0) => HTP.out W r0 h)
    have M1 := (takeOf_mem plainR r0).1
    have N1 := takeOf_le plainR r0
    rw [← hq1] at TP1 M1 N1 hlo
    obtain ⟨n1, b1, r1⟩ := q1
    simp only at TP1 M1 N1 hlo
    have HMM : Hid (∀ s ∈ r1, s ∈ ws) := fun s h => M0 s (M1 s h)
    have HBD := Lib.hid (show ([] : List S74).length + r1.length ≤ 5000 by have := HL.out; simp only [List.length_nil]; omega)
    clear hq1 M0 N0 F0 M1 N1
    cases b1 with
    | false =>
      rw [if_neg (by simp)] at hlo
      have HNO := Lib.hid hlo
      clear hlo
      go_enter Tryz.func49, Tryz.ntmps49
      go_wp2_with (first
        | (go_at_call 82; go_must (refine (is.calls _ _).mono ?_); go_must (rintro e wI ⟨rfl, rfl⟩))
        | (go_at_call 81; with_reducible (refine (T0.out).mono ?_); go_must (rintro e wL1 ⟨rfl, qL1⟩); have L1 := Lib.hid (LS.take (L0.out.alloc _) qL1); obtain ⟨d0, d1, d2, d3, df0, df1, df2, df3⟩ := LS.cells L1.out; clear qL1)
        | (go_at_call 81; with_reducible (refine (TP1.out _ L1.out.ps.at_).mono ?_); go_must (rintro e wL2 ⟨rfl, qL2⟩); have L2 := Lib.hid (LS.take L1.out qL2); obtain ⟨e0, e1, e2, e3, ef0, ef1, ef2, ef3⟩ := LS.cells L2.out; clear qL2))
      (try simp only [Exit.inBlock, Exit.then])
      refine bodyPost_ret (v := .tuple #[.agg #[.string n1, .slice none 0 0, .string ⟨#[]⟩, .bool false], .bool false]) ?_ rfl ?_
      · rw [results_cell_tmp rfl]
        go_simp
      · exact line_fail (LS.same (LS.set0 L2.out n1)) HNO.out
    | true =>
      rw [if_pos rfl] at hlo
      have HLO := Lib.hid hlo
      clear hlo
      go_enter Tryz.func49, Tryz.ntmps49
      go_wp2_with (first
        | (go_at_call 82; go_must (refine (is.calls _ _).mono ?_); go_must (rintro e wI ⟨rfl, rfl⟩))
        | (go_at_call 81; with_reducible (refine (T0.out).mono ?_); go_must (rintro e wL1 ⟨rfl, qL1⟩); have L1 := Lib.hid (LS.take (L0.out.alloc _) qL1); obtain ⟨d0, d1, d2, d3, df0, df1, df2, df3⟩ := LS.cells L1.out; clear qL1)
        | (go_at_call 81; with_reducible (refine (TP1.out _ L1.out.ps.at_).mono ?_); go_must (rintro e wL2 ⟨rfl, qL2⟩); have L2 := Lib.hid (LS.take L1.out qL2); obtain ⟨e0, e1, e2, e3, ef0, ef1, ef2, ef3⟩ := LS.cells L2.out; have L3 := Lib.hid (LS.set0 L2.out n1); clear qL2))
      clear TP1
      obtain ⟨RR, hRR⟩ : ∃ RR, RR = toolsOf (r1.length + 1) r1 [] := ⟨_, rfl⟩
      have HRR := Lib.hid hRR
      have hlo2 : lineOf ws = packOf n1 RR := by rw [HLO.out, hRR]; rfl
      have HLO2 := Lib.hid hlo2
      clear hRR hlo2
      go_loopg [4] (r1.length + 1) (fun k v4 wr => ∃ v xs us kk, ((v4 = .bool true ∧ k = kk + 1 ∧ us.length ≤ kk ∧ toolsOf (kk + 1) us xs = RR) ∨ (v4 = .bool false ∧ k = 0 ∧ kk = 0 ∧ RR = some (xs, us))) ∧ LS P w wr n1 v xs ⟨#[]⟩ false us ∧ xs.length + us.length ≤ 5000 ∧ ∀ s ∈ us, s ∈ ws)
      case atStart => exact ⟨.slice none 0 0, [], r1, r1.length, .inl ⟨rfl, rfl, Nat.le_refl _, HRR.out.symm⟩, L3.out, HBD.out, HMM.out⟩
      case round =>
        obtain ⟨v, xs, us, kk, hcase, hLS, hlen, hmem⟩ := hrel
        obtain ⟨A, c, rfl⟩ := Kd.R_slice hLS.r
        have HLS := Lib.hid hLS
        rcases hcase with ⟨rfl, rfl, hk, hR⟩ | ⟨rfl, rfl, rfl, hR⟩
        · have T1 := HTT.out wr us hLS.ps.at_ hmem
          have A1 := toolOf_len (ws := us)
          have A2 := toolOf_mem us
          rw [toolsOf] at hR
          generalize toolOf us = q at T1 A1 A2 hR
          obtain ⟨t, bt, us1⟩ := q
          simp only at T1 A1 A2 hR
          replace T1 := Lib.hid T1
          cases bt with
          | false =>
            rw [if_pos rfl] at hR
            have HNO := Lib.hid (show lineOf ws = none by rw [HLO2.out, ← hR]; rfl)
            clear hR A1 A2 hLS hlen hmem hk
            go_wp2_with (go_at_call 84; go_must (refine T1.out.mono ?_); go_must (rintro e w1 ⟨rfl, q1⟩); have L2 := Lib.hid (LS.take HLS.out ⟨q1.at_, q1.kept, q1.below⟩); obtain ⟨d0, d1, d2, d3, df0, df1, df2, df3⟩ := LS.cells (LS.alloc L2.out (.cells #[.string t.f0, .int .i64 t.f1, .string t.f2] 74)); clear q1)
            (try simp only [Exit.inBlock, Exit.then])
            refine bodyPost_ret (v := .tuple #[.agg #[.string n1, .slice A xs.length c, .string ⟨#[]⟩, .bool false], .bool false]) ?_ rfl ?_
            · rw [results_cell_tmp rfl]
              go_simp
            · exact line_fail (LS.same (LS.alloc L2.out _)) HNO.out
          | true =>
            rw [if_neg (by simp)] at hR
            have A1' := A1 rfl
            have hmem1 : ∀ s ∈ us1, s ∈ ws := fun s h => hmem s (A2 s h)
            have M2 := (takeOf_mem barR us1).1
            have F2 := takeOf_false (r := barR) (ws := us1)
            have G2 := takeOf_true (r := barR) (ws := us1)
            have HQ := Lib.hid (fun n W hn (h : PAt W P us1) => HTI.out ⟨#[124]⟩ n W us1 hn h)
            change Hid (∀ n W, _ → _ → Calls _ _ _ _ (fun e w' => e = .returned (.tuple #[.string (takeOf barR us1).1, .bool (takeOf barR us1).2.1]) ∧ PAt w' P (takeOf barR us1).2.2 ∧ _)) at HQ
            generalize takeOf barR us1 = q at HQ M2 F2 G2 hR
            obtain ⟨n2, b2, us2⟩ := q
            simp only at HQ M2 F2 G2 hR
            have HX := Lib.hid (And.intro hR (And.intro hlen (And.intro hmem1 (And.intro M2 (And.intro F2 (And.intro G2 (And.intro A1' hk)))))))
            clear hR hlen hmem hmem1 M2 F2 G2 A1 A1' A2 hLS hk
            go_wp2_with (first
              | (go_at_call 84; go_must (refine T1.out.mono ?_); go_must (rintro e w1 ⟨rfl, q1⟩); have L2 := Lib.hid (LS.take HLS.out ⟨q1.at_, q1.kept, q1.below⟩); obtain ⟨d0, d1, d2, d3, df0, df1, df2, df3⟩ := LS.cells (LS.alloc L2.out (.cells #[.string t.f0, .int .i64 t.f1, .string t.f2] 74)); clear q1)
              | ((with_reducible refine gate_builtin (b := .append) (xs := #[.tmp 39, .tmp 41]) rfl ?_); at_builtin; refine Kd.R_append k74 (w0 := w1) (W := w1.alloc (.cells #[.string t.f0, .int .i64 t.f1, .string t.f2] 74)) (w.heap.size + 1) rfl (.tmp 39) (.tmp 41) 44 74 (.agg #[(.string ⟨#[]⟩), (.int .i64 0), (.string ⟨#[]⟩)]) 40 rfl Tryz.underlying44 info74 rfl (by decide) (by omega) (.slice A xs.length c) xs t [.string t.f0, .int .i64 t.f1, .string t.f2] (fun _ => True) (fun _ => False) rfl ?hx ?aP (fun _ hk => hk.elim) ?aF ?aO ?aB ?aS ?aL ?_; (case hx => simp [Act.eval]); (case aP => exact k74_mkM _ _ _ t); (case aF => exact (fun _ _ => trivial)); (case aO => exact (LS.alloc L2.out _).r); (case aB => exact ((Below.refl (w.heap.size + 1) w1).alloc (show w.heap.size + 1 ≤ w1.heap.size from blk_lt L2.out.l) _)); (case aS => have := blk_lt L2.out.l; simp only [World.alloc, Array.size_push]; omega); (case aL => have := HX.out.2.1; omega); intro v1 w5 hR5 hb5 hg5 hat5; obtain ⟨A1, c1, rfl⟩ := Kd.R_slice hR5; have L5 := Lib.hid (LS.row (LS.alloc L2.out _) hR5 hg5); have hl5 := row_kept (LS.alloc L2.out _) hg5; have e1 := blk_cell hl5 1; have ef1 := blk_frozen hl5 1; simp only [List.length_append, List.length_cons, List.length_nil, Nat.zero_add] at L5; clear hR5 hb5 hg5 hat5 hl5)
              | (go_at_call 82; go_must (refine (is.calls _ _).mono ?_); go_must (rintro e wI ⟨rfl, rfl⟩))
              | (go_at_call 81; with_reducible (refine (HQ.out _ _ (by simp) L5.out.ps.at_).mono ?_); go_must (rintro e w6 ⟨rfl, q6⟩); have L6 := Lib.hid (LS.take (LS.alloc L5.out _) q6); clear q6))
            cases b2 with
            | true =>
              obtain ⟨k2, rfl⟩ : ∃ k2, kk = k2 + 1 := ⟨kk - 1, by have := HX.out.2.2.2.2.2.1 rfl; have := HX.out.2.2.2.2.2.2; omega⟩
              go_roundg (k2 + 1)
              case measure => omega
              case rel => exact ⟨_, xs ++ [t], us2, k2, .inl ⟨rfl, rfl, by have := HX.out.2.2.2.2.2.1 rfl; have := HX.out.2.2.2.2.2.2; omega, by have h := HX.out.1; rwa [if_pos rfl] at h⟩, L6.out, by have := HX.out.2.2.2.2.2.1 rfl; have := HX.out.2.2.2.2.2.2; have := HX.out.2.1; simp; omega, fun s h => HX.out.2.2.1 s (HX.out.2.2.2.1 s h)⟩
            | false =>
              obtain rfl := HX.out.2.2.2.2.1 rfl
              go_roundg 0
              case measure => omega
              case rel => exact ⟨_, xs ++ [t], us2, 0, .inr ⟨rfl, rfl, rfl, by have h := HX.out.1; rw [if_neg (by simp)] at h; exact h.symm⟩, L6.out, by have := HX.out.2.2.2.2.2.2; have := HX.out.2.1; simp; omega, HX.out.2.2.1⟩
        · have hlo3 : lineOf ws = (tailOf us).map fun q => (n1, xs, q.1, q.2) := by rw [HLO2.out, hR]; rfl
          have hp0 := hLS.ps.at_
          obtain ⟨q3, hq3⟩ : ∃ q3, q3 = takeOf gtR us := ⟨_, rfl⟩
          have T3 := Lib.hid (fun n W hn (h : PAt W P us) => HTI.out ⟨#[62]⟩ n W us hn h)
          change Hid (∀ n W, _ → _ → Calls _ _ _ _ (fun e w' => e = .returned (.tuple #[.string (takeOf gtR us).1, .bool (takeOf gtR us).2.1]) ∧ PAt w' P (takeOf gtR us).2.2 ∧ _)) at T3
          have F3 := takeOf_false (r := gtR) (ws := us)
          have hta : tailOf us = if q3.2.1 = true then (if (takeOf plainR q3.2.2).2.1 = true ∧ (takeOf plainR q3.2.2).2.2 = [] then some ((takeOf plainR q3.2.2).1, false) else none)
            else if (takeOf gtgtR us).2.1 = true then (if (takeOf plainR (takeOf gtgtR us).2.2).2.1 = true ∧ (takeOf plainR (takeOf gtgtR us).2.2).2.2 = [] then some ((takeOf plainR (takeOf gtgtR us).2.2).1, true) else none) else none := by rw [hq3]; rfl
          rw [← hq3] at T3 F3
          obtain ⟨n3, b3, us3⟩ := q3
          simp only at T3 F3 hta
          clear hq3 hR hlen hmem hp0 hLS HTT HRR HLO HLO2 T0 L0 HMM HBD HL
          cases b3 with
          | true =>
            rw [if_pos rfl] at hta
            obtain ⟨q4, hq4⟩ : ∃ q4, q4 = takeOf plainR us3 := ⟨_, rfl⟩
            have T4 := Lib.hid (fun W (h : PAt W P us3) => HTP.out W us3 h)
            rw [← hq4] at T4 hta
            obtain ⟨n4, b4, us4⟩ := q4
            simp only at T4 hta
            have HLE := Lib.hid (show lineOf ws = if b4 = true ∧ us4 = [] then some (n1, xs, n4, false) else none by rw [hlo3, hta]; split <;> rfl)
            clear hq4 hlo3 hta
            cases b4 with
            | true =>
              go_wp2_with (first
                | (go_at_call 82; go_must (refine (is.calls _ _).mono ?_); go_must (rintro e wI ⟨rfl, rfl⟩))
                | (go_at_call 81; with_reducible (refine (T3.out _ _ rfl HLS.out.ps.at_).mono ?_); go_must (rintro e w3 ⟨rfl, q3⟩); have L3 := Lib.hid (LS.take (LS.alloc HLS.out _) q3); obtain ⟨g0, g1, g2, g3, gf0, gf1, gf2, gf3⟩ := LS.cells L3.out; clear q3)
                | (go_at_call 81; with_reducible (refine (T4.out _ (L3.out).ps.at_).mono ?_); go_must (rintro e w4 ⟨rfl, q4⟩); have LX := Lib.hid (LS.take (L3.out) q4); obtain ⟨f0, f1, f2, f3, ff0, ff1, ff2, ff3⟩ := LS.cells LX.out; clear q4))
              have LY := Lib.hid (LS.set2 LX.out n4)
              clear g0 gf0 g1 gf1 g2 gf2 g3 gf3 f0 ff0 f1 ff1 f2 ff2 f3 ff3  T4 T3 F3 HTP HTI HLS L3 LX
              generalize World.setCell _ _ _ = W9 at LY ⊢
              obtain ⟨d0, d1, d2, d3, df0, df1, df2, df3⟩ := LS.cells LY.out
              obtain ⟨Ap, cp, hpb, _, _, _⟩ := LY.out.ps.at_
              have dp := blk_cell hpb 0
              have LZ := Lib.hid (LS.same LY.out)
              obtain ⟨y0, y1, y2, y3, yf0, yf1, yf2, yf3⟩ := LS.cells LZ.out
              have yp := LS.pcell LY.out dp (.string n1) (.slice A xs.length c) (.string n4) (.bool false)
              clear hpb yf0 yf1 yf2 yf3
              refine start_ (n := 12) (S := fun w' => w'.cell? ⟨w.heap.size, 0, none⟩ = some (.string n1) ∧ w'.cell? ⟨w.heap.size, 1, none⟩ = some (.slice A xs.length c) ∧ w'.cell? ⟨w.heap.size, 2, none⟩ = some (.string n4) ∧ w'.cell? ⟨w.heap.size, 3, none⟩ = some (.bool false) ∧ w'.cell? ⟨P, 0, none⟩ = some (.slice Ap us4.length cp)) (ds := []) #[false, false, false, false, false, false, false, false, false, false, false, false] (by kernel_rfl) rfl rfl ⟨d0, d1, d2, d3, dp⟩ (fun hHeld => ?_)
              refine pure_ (i := 1) (N := some 70) (v := ?_) (a' := ?_) #[false, true, false, false, false, false, false, false, false, false, false, false] rfl rfl (by kernel_rfl) (fun _ _ _ h => h) (Or.inl ⟨by rfl, ?_⟩) ?_ ?_
              rotate_left
              · intro w'
                go_simp
                with_reducible rfl
              rotate_left
              · simp only [Act.put, List.setIfInBounds_toArray, List.set_cons_zero, List.set_cons_succ, i64_w, i32_w]
                rfl
              refine pure_ (i := 2) (N := some 71) (v := ?_) (a' := ?_) #[false, true, true, false, false, false, false, false, false, false, false, false] rfl rfl (by kernel_rfl) (fun _ _ _ h => h) (Or.inl ⟨by rfl, ?_⟩) ?_ ?_
              rotate_left
              · intro w'
                go_simp
                with_reducible rfl
              rotate_left
              · simp only [Act.put, List.setIfInBounds_toArray, List.set_cons_zero, List.set_cons_succ, i64_w, i32_w]
                rfl
              refine pure_ (i := 3) (N := some 72) (v := ?_) (a' := ?_) #[false, true, true, true, false, false, false, false, false, false, false, false] rfl rfl (by kernel_rfl) (fun _ _ _ h => h) (Or.inl ⟨by rfl, ?_⟩) ?_ ?_
              rotate_left
              · intro w'
                go_simp
                with_reducible rfl
              rotate_left
              · simp only [Act.put, List.setIfInBounds_toArray, List.set_cons_zero, List.set_cons_succ, i64_w, i32_w]
                rfl
              refine pure_ (i := 4) (N := some 73) (v := ?_) (a' := ?_) #[false, true, true, true, true, false, false, false, false, false, false, false] rfl rfl (by kernel_rfl) (fun _ _ _ h => h) (Or.inl ⟨by rfl, ?_⟩) ?_ ?_
              rotate_left
              · intro w'
                go_simp
                with_reducible rfl
              rotate_left
              · simp only [Act.put, List.setIfInBounds_toArray, List.set_cons_zero, List.set_cons_succ, i64_w, i32_w]
                rfl
              refine pure_ (i := 5) (N := some 74) (v := ?_) (a' := ?_) #[false, true, true, true, true, true, false, false, false, false, false, false] rfl rfl (by kernel_rfl) (fun _ _ _ h => h) (Or.inl ⟨by rfl, ?_⟩) ?_ ?_
              rotate_left
              · intro w'
                go_simp
                with_reducible rfl
              rotate_left
              · simp only [Act.put, List.setIfInBounds_toArray, List.set_cons_zero, List.set_cons_succ, i64_w, i32_w]
                rfl
              refine take_ (i := 0) (N := some 69) (v := ?_) (a' := ?_) #[true, true, true, true, true, true, false, false, false, false, false, false] rfl rfl (by kernel_rfl) (fun _ _ _ h => h) (Or.inl ⟨by rfl, ?_⟩) hHeld ?_ ?_
              rotate_left
              · rintro w' ⟨s0, s1, s2, s3, s4⟩
                go_simp
                with_reducible rfl
              rotate_left
              · simp only [Act.put, List.setIfInBounds_toArray, List.set_cons_zero, List.set_cons_succ, i64_w, i32_w]
                rfl
              refine take_ (i := 6) (N := some 75) (v := ?_) (a' := ?_) #[true, true, true, true, true, true, true, false, false, false, false, false] rfl rfl (by kernel_rfl) (fun _ _ _ h => h) (Or.inl ⟨by rfl, ?_⟩) hHeld ?_ ?_
              rotate_left
              · rintro w' ⟨s0, s1, s2, s3, s4⟩
                go_simp
                with_reducible rfl
              rotate_left
              · simp only [Act.put, List.setIfInBounds_toArray, List.set_cons_zero, List.set_cons_succ, i64_w, i32_w]
                rfl
              refine pure_ (i := 7) (N := some 76) (v := ?_) (a' := ?_) #[true, true, true, true, true, true, true, true, false, false, false, false] rfl rfl (by kernel_rfl) (fun _ _ _ h => h) (Or.inl ⟨by rfl, ?_⟩) ?_ ?_
              rotate_left
              · intro w'
                go_simp
                with_reducible rfl
              rotate_left
              · simp only [Act.put, List.setIfInBounds_toArray, List.set_cons_zero, List.set_cons_succ, i64_w, i32_w]
                rfl
              refine pure_ (i := 8) (N := some 77) (v := ?_) (a' := ?_) #[true, true, true, true, true, true, true, true, true, false, false, false] rfl rfl (by kernel_rfl) (fun _ _ _ h => h) (Or.inl ⟨by rfl, ?_⟩) ?_ ?_
              rotate_left
              · intro w'
                go_simp
                with_reducible rfl
              rotate_left
              · simp only [Act.put, List.setIfInBounds_toArray, List.set_cons_zero, List.set_cons_succ, i64_w, i32_w]
                rfl
              refine pure_ (i := 9) (N := some 78) (v := ?_) (a' := ?_) #[true, true, true, true, true, true, true, true, true, true, false, false] rfl rfl (by kernel_rfl) (fun _ _ _ h => h) (Or.inl ⟨by rfl, ?_⟩) ?_ ?_
              rotate_left
              · intro w'
                go_simp
                with_reducible rfl
              rotate_left
              · simp only [Act.put, List.setIfInBounds_toArray, List.set_cons_zero, List.set_cons_succ, i64_w, i32_w]
                rfl
              refine one_ (i := 10) (N := none) #[true, true, true, true, true, true, true, true, true, true, true, false] rfl rfl (by kernel_rfl) (by decide) (fun K hK => ?_)
              refine skip_ (w1 := ?_) (by rfl) rfl ?_ ?_
              rotate_left
              · go_simp
                rfl
              refine hK.out _ _ ⟨y0, y1, y2, y3, yp⟩ (fun hHeld => ?_)
              clear hK K
              refine pure_ (i := 11) (N := some 3) (v := ?_) (a' := ?_) #[true, true, true, true, true, true, true, true, true, true, true, true] rfl rfl (by kernel_rfl) (fun _ _ _ h => h) (Or.inl ⟨by rfl, ?_⟩) ?_ ?_
              rotate_left
              · intro w'
                go_simp
                with_reducible rfl
              rotate_left
              · simp only [Act.put, List.setIfInBounds_toArray, List.set_cons_zero, List.set_cons_succ, i64_w, i32_w]
                rfl
              refine done_ (by kernel_rfl) ?_
              go_wp2
              (try simp only [Exit.inBlock, Exit.then])
              refine bodyPost_ret (v := .tuple #[.agg #[.string n1, .slice A xs.length c, .string n4, .bool false], .bool ((us4.length : Int) == 0)]) ?_ rfl ?_
              · rw [results_cell_tmp rfl]
                go_simp
              · exact line_done (LS.next LZ.out (Below.drew (Below.refl _ _))) true _ (HLE.out.trans (by simp)) (by simp)
            | false =>
              go_wp2_with (first
                | (go_at_call 82; go_must (refine (is.calls _ _).mono ?_); go_must (rintro e wI ⟨rfl, rfl⟩))
                | (go_at_call 81; with_reducible (refine (T3.out _ _ rfl HLS.out.ps.at_).mono ?_); go_must (rintro e w3 ⟨rfl, q3⟩); have L3 := Lib.hid (LS.take (LS.alloc HLS.out _) q3); obtain ⟨g0, g1, g2, g3, gf0, gf1, gf2, gf3⟩ := LS.cells L3.out; clear q3)
                | (go_at_call 81; with_reducible (refine (T4.out _ (L3.out).ps.at_).mono ?_); go_must (rintro e w4 ⟨rfl, q4⟩); have LX := Lib.hid (LS.take (L3.out) q4); obtain ⟨f0, f1, f2, f3, ff0, ff1, ff2, ff3⟩ := LS.cells LX.out; clear q4))
              have LY := Lib.hid (LS.set2 LX.out n4)
              clear g0 gf0 g1 gf1 g2 gf2 g3 gf3 f0 ff0 f1 ff1 f2 ff2 f3 ff3  T4 T3 F3 HTP HTI HLS L3 LX
              generalize World.setCell _ _ _ = W9 at LY ⊢
              obtain ⟨d0, d1, d2, d3, df0, df1, df2, df3⟩ := LS.cells LY.out
              obtain ⟨Ap, cp, hpb, _, _, _⟩ := LY.out.ps.at_
              have dp := blk_cell hpb 0
              have LZ := Lib.hid (LS.same LY.out)
              obtain ⟨y0, y1, y2, y3, yf0, yf1, yf2, yf3⟩ := LS.cells LZ.out
              have yp := LS.pcell LY.out dp (.string n1) (.slice A xs.length c) (.string n4) (.bool false)
              clear hpb yf0 yf1 yf2 yf3
              refine start_ (n := 12) (S := fun w' => w'.cell? ⟨w.heap.size, 0, none⟩ = some (.string n1) ∧ w'.cell? ⟨w.heap.size, 1, none⟩ = some (.slice A xs.length c) ∧ w'.cell? ⟨w.heap.size, 2, none⟩ = some (.string n4) ∧ w'.cell? ⟨w.heap.size, 3, none⟩ = some (.bool false) ∧ w'.cell? ⟨P, 0, none⟩ = some (.slice Ap us4.length cp)) (ds := []) #[false, false, false, false, false, false, false, false, false, false, false, false] (by kernel_rfl) rfl rfl ⟨d0, d1, d2, d3, dp⟩ (fun hHeld => ?_)
              refine pure_ (i := 1) (N := some 70) (v := ?_) (a' := ?_) #[false, true, false, false, false, false, false, false, false, false, false, false] rfl rfl (by kernel_rfl) (fun _ _ _ h => h) (Or.inl ⟨by rfl, ?_⟩) ?_ ?_
              rotate_left
              · intro w'
                go_simp
                with_reducible rfl
              rotate_left
              · simp only [Act.put, List.setIfInBounds_toArray, List.set_cons_zero, List.set_cons_succ, i64_w, i32_w]
                rfl
              refine pure_ (i := 2) (N := some 71) (v := ?_) (a' := ?_) #[false, true, true, false, false, false, false, false, false, false, false, false] rfl rfl (by kernel_rfl) (fun _ _ _ h => h) (Or.inl ⟨by rfl, ?_⟩) ?_ ?_
              rotate_left
              · intro w'
                go_simp
                with_reducible rfl
              rotate_left
              · simp only [Act.put, List.setIfInBounds_toArray, List.set_cons_zero, List.set_cons_succ, i64_w, i32_w]
                rfl
              refine pure_ (i := 3) (N := some 72) (v := undef) (a' := ?_) #[false, true, true, true, false, false, false, false, false, false, false, false] rfl rfl (by kernel_rfl) (fun _ _ _ h => h) (Or.inr ⟨by rfl, rfl⟩) ?_ ?_
              rotate_left
              · simp only [Act.put, List.setIfInBounds_toArray, List.set_cons_zero, List.set_cons_succ, i64_w, i32_w]
                rfl
              refine pure_ (i := 4) (N := some 73) (v := undef) (a' := ?_) #[false, true, true, true, true, false, false, false, false, false, false, false] rfl rfl (by kernel_rfl) (fun _ _ _ h => h) (Or.inr ⟨by rfl, rfl⟩) ?_ ?_
              rotate_left
              · simp only [Act.put, List.setIfInBounds_toArray, List.set_cons_zero, List.set_cons_succ, i64_w, i32_w]
                rfl
              refine pure_ (i := 5) (N := some 74) (v := undef) (a' := ?_) #[false, true, true, true, true, true, false, false, false, false, false, false] rfl rfl (by kernel_rfl) (fun _ _ _ h => h) (Or.inr ⟨by rfl, rfl⟩) ?_ ?_
              rotate_left
              · simp only [Act.put, List.setIfInBounds_toArray, List.set_cons_zero, List.set_cons_succ, i64_w, i32_w]
                rfl
              refine pure_ (i := 6) (N := some 75) (v := undef) (a' := ?_) #[false, true, true, true, true, true, true, false, false, false, false, false] rfl rfl (by kernel_rfl) (fun _ _ _ h => h) (Or.inr ⟨by rfl, rfl⟩) ?_ ?_
              rotate_left
              · simp only [Act.put, List.setIfInBounds_toArray, List.set_cons_zero, List.set_cons_succ, i64_w, i32_w]
                rfl
              refine pure_ (i := 7) (N := some 76) (v := undef) (a' := ?_) #[false, true, true, true, true, true, true, true, false, false, false, false] rfl rfl (by kernel_rfl) (fun _ _ _ h => h) (Or.inr ⟨by rfl, rfl⟩) ?_ ?_
              rotate_left
              · simp only [Act.put, List.setIfInBounds_toArray, List.set_cons_zero, List.set_cons_succ, i64_w, i32_w]
                rfl
              refine pure_ (i := 8) (N := some 77) (v := undef) (a' := ?_) #[false, true, true, true, true, true, true, true, true, false, false, false] rfl rfl (by kernel_rfl) (fun _ _ _ h => h) (Or.inr ⟨by rfl, rfl⟩) ?_ ?_
              rotate_left
              · simp only [Act.put, List.setIfInBounds_toArray, List.set_cons_zero, List.set_cons_succ, i64_w, i32_w]
                rfl
              refine pure_ (i := 9) (N := some 78) (v := ?_) (a' := ?_) #[false, true, true, true, true, true, true, true, true, true, false, false] rfl rfl (by kernel_rfl) (fun _ _ _ h => h) (Or.inl ⟨by rfl, ?_⟩) ?_ ?_
              rotate_left
              · intro w'
                go_simp
                with_reducible rfl
              rotate_left
              · simp only [Act.put, List.setIfInBounds_toArray, List.set_cons_zero, List.set_cons_succ, i64_w, i32_w]
                rfl
              refine take_ (i := 0) (N := some 69) (v := ?_) (a' := ?_) #[true, true, true, true, true, true, true, true, true, true, false, false] rfl rfl (by kernel_rfl) (fun _ _ _ h => h) (Or.inl ⟨by rfl, ?_⟩) hHeld ?_ ?_
              rotate_left
              · rintro w' ⟨s0, s1, s2, s3, s4⟩
                go_simp
                with_reducible rfl
              rotate_left
              · simp only [Act.put, List.setIfInBounds_toArray, List.set_cons_zero, List.set_cons_succ, i64_w, i32_w]
                rfl
              refine one_ (i := 10) (N := none) #[true, true, true, true, true, true, true, true, true, true, true, false] rfl rfl (by kernel_rfl) (by decide) (fun K hK => ?_)
              refine skip_ (w1 := ?_) (by rfl) rfl ?_ ?_
              rotate_left
              · go_simp
                rfl
              refine hK.out _ _ ⟨y0, y1, y2, y3, yp⟩ (fun hHeld => ?_)
              clear hK K
              refine pure_ (i := 11) (N := some 3) (v := ?_) (a' := ?_) #[true, true, true, true, true, true, true, true, true, true, true, true] rfl rfl (by kernel_rfl) (fun _ _ _ h => h) (Or.inl ⟨by rfl, ?_⟩) ?_ ?_
              rotate_left
              · intro w'
                go_simp
                with_reducible rfl
              rotate_left
              · simp only [Act.put, List.setIfInBounds_toArray, List.set_cons_zero, List.set_cons_succ, i64_w, i32_w]
                rfl
              refine done_ (by kernel_rfl) ?_
              go_wp2
              (try simp only [Exit.inBlock, Exit.then])
              refine bodyPost_ret (v := .tuple #[.agg #[.string n1, .slice A xs.length c, .string n4, .bool false], .bool false]) ?_ rfl ?_
              · rw [results_cell_tmp rfl]
                go_simp
              · exact line_done (LS.next LZ.out (Below.drew (Below.refl _ _))) false _ (HLE.out.trans (by simp)) (by simp)
          | false =>
            obtain rfl := F3 rfl
            rw [if_neg (by simp)] at hta
            obtain ⟨q5, hq5⟩ : ∃ q5, q5 = takeOf gtgtR us3 := ⟨_, rfl⟩
            have T5 := Lib.hid (fun n W hn (h : PAt W P us3) => HTI.out ⟨#[62, 62]⟩ n W us3 hn h)
            change Hid (∀ n W, _ → _ → Calls _ _ _ _ (fun e w' => e = .returned (.tuple #[.string (takeOf gtgtR us3).1, .bool (takeOf gtgtR us3).2.1]) ∧ PAt w' P (takeOf gtgtR us3).2.2 ∧ _)) at T5
            rw [← hq5] at T5 hta
            obtain ⟨n5, b5, us5⟩ := q5
            simp only at T5 hta
            clear hq5
            cases b5 with
            | true =>
              rw [if_pos rfl] at hta
              obtain ⟨q4, hq4⟩ : ∃ q4, q4 = takeOf plainR us5 := ⟨_, rfl⟩
              have T4 := Lib.hid (fun W (h : PAt W P us5) => HTP.out W us5 h)
              rw [← hq4] at T4 hta
              obtain ⟨n4, b4, us4⟩ := q4
              simp only at T4 hta
              have HLE := Lib.hid (show lineOf ws = if b4 = true ∧ us4 = [] then some (n1, xs, n4, true) else none by rw [hlo3, hta]; split <;> rfl)
              clear hq4 hlo3 hta
              cases b4 with
              | true =>
                go_wp2_with (first
                  | (go_at_call 82; go_must (refine (is.calls _ _).mono ?_); go_must (rintro e wI ⟨rfl, rfl⟩))
                  | (go_at_call 81; with_reducible (refine (T3.out _ _ rfl HLS.out.ps.at_).mono ?_); go_must (rintro e w3 ⟨rfl, q3⟩); have L3 := Lib.hid (LS.take (LS.alloc HLS.out _) q3); obtain ⟨g0, g1, g2, g3, gf0, gf1, gf2, gf3⟩ := LS.cells L3.out; clear q3)
                  | (go_at_call 81; with_reducible (refine (T5.out _ _ rfl L3.out.ps.at_).mono ?_); go_must (rintro e w5 ⟨rfl, q5⟩); have L5 := Lib.hid (LS.take (LS.alloc L3.out _) q5); obtain ⟨e0, e1, e2, e3, ef0, ef1, ef2, ef3⟩ := LS.cells L5.out; clear q5)
                  | (go_at_call 81; with_reducible (refine (T4.out _ (LS.set3 L5.out true).ps.at_).mono ?_); go_must (rintro e w4 ⟨rfl, q4⟩); have LX := Lib.hid (LS.take (LS.set3 L5.out true) q4); obtain ⟨f0, f1, f2, f3, ff0, ff1, ff2, ff3⟩ := LS.cells LX.out; clear q4))
                have LY := Lib.hid (LS.set2 LX.out n4)
                clear g0 gf0 g1 gf1 g2 gf2 g3 gf3 f0 ff0 f1 ff1 f2 ff2 f3 ff3 e0 ef0 e1 ef1 e2 ef2 e3 ef3 T4 T3 F3 HTP HTI HLS L3 LX T5 L5
                generalize World.setCell _ _ _ = W9 at LY ⊢
                obtain ⟨d0, d1, d2, d3, df0, df1, df2, df3⟩ := LS.cells LY.out
                obtain ⟨Ap, cp, hpb, _, _, _⟩ := LY.out.ps.at_
                have dp := blk_cell hpb 0
                have LZ := Lib.hid (LS.same LY.out)
                obtain ⟨y0, y1, y2, y3, yf0, yf1, yf2, yf3⟩ := LS.cells LZ.out
                have yp := LS.pcell LY.out dp (.string n1) (.slice A xs.length c) (.string n4) (.bool true)
                clear hpb yf0 yf1 yf2 yf3
                refine start_ (n := 12) (S := fun w' => w'.cell? ⟨w.heap.size, 0, none⟩ = some (.string n1) ∧ w'.cell? ⟨w.heap.size, 1, none⟩ = some (.slice A xs.length c) ∧ w'.cell? ⟨w.heap.size, 2, none⟩ = some (.string n4) ∧ w'.cell? ⟨w.heap.size, 3, none⟩ = some (.bool true) ∧ w'.cell? ⟨P, 0, none⟩ = some (.slice Ap us4.length cp)) (ds := []) #[false, false, false, false, false, false, false, false, false, false, false, false] (by kernel_rfl) rfl rfl ⟨d0, d1, d2, d3, dp⟩ (fun hHeld => ?_)
                refine pure_ (i := 1) (N := some 70) (v := ?_) (a' := ?_) #[false, true, false, false, false, false, false, false, false, false, false, false] rfl rfl (by kernel_rfl) (fun _ _ _ h => h) (Or.inl ⟨by rfl, ?_⟩) ?_ ?_
                rotate_left
                · intro w'
                  go_simp
                  with_reducible rfl
                rotate_left
                · simp only [Act.put, List.setIfInBounds_toArray, List.set_cons_zero, List.set_cons_succ, i64_w, i32_w]
                  rfl
                refine pure_ (i := 2) (N := some 71) (v := ?_) (a' := ?_) #[false, true, true, false, false, false, false, false, false, false, false, false] rfl rfl (by kernel_rfl) (fun _ _ _ h => h) (Or.inl ⟨by rfl, ?_⟩) ?_ ?_
                rotate_left
                · intro w'
                  go_simp
                  with_reducible rfl
                rotate_left
                · simp only [Act.put, List.setIfInBounds_toArray, List.set_cons_zero, List.set_cons_succ, i64_w, i32_w]
                  rfl
                refine pure_ (i := 3) (N := some 72) (v := ?_) (a' := ?_) #[false, true, true, true, false, false, false, false, false, false, false, false] rfl rfl (by kernel_rfl) (fun _ _ _ h => h) (Or.inl ⟨by rfl, ?_⟩) ?_ ?_
                rotate_left
                · intro w'
                  go_simp
                  with_reducible rfl
                rotate_left
                · simp only [Act.put, List.setIfInBounds_toArray, List.set_cons_zero, List.set_cons_succ, i64_w, i32_w]
                  rfl
                refine pure_ (i := 4) (N := some 73) (v := ?_) (a' := ?_) #[false, true, true, true, true, false, false, false, false, false, false, false] rfl rfl (by kernel_rfl) (fun _ _ _ h => h) (Or.inl ⟨by rfl, ?_⟩) ?_ ?_
                rotate_left
                · intro w'
                  go_simp
                  with_reducible rfl
                rotate_left
                · simp only [Act.put, List.setIfInBounds_toArray, List.set_cons_zero, List.set_cons_succ, i64_w, i32_w]
                  rfl
                refine pure_ (i := 5) (N := some 74) (v := ?_) (a' := ?_) #[false, true, true, true, true, true, false, false, false, false, false, false] rfl rfl (by kernel_rfl) (fun _ _ _ h => h) (Or.inl ⟨by rfl, ?_⟩) ?_ ?_
                rotate_left
                · intro w'
                  go_simp
                  with_reducible rfl
                rotate_left
                · simp only [Act.put, List.setIfInBounds_toArray, List.set_cons_zero, List.set_cons_succ, i64_w, i32_w]
                  rfl
                refine take_ (i := 0) (N := some 69) (v := ?_) (a' := ?_) #[true, true, true, true, true, true, false, false, false, false, false, false] rfl rfl (by kernel_rfl) (fun _ _ _ h => h) (Or.inl ⟨by rfl, ?_⟩) hHeld ?_ ?_
                rotate_left
                · rintro w' ⟨s0, s1, s2, s3, s4⟩
                  go_simp
                  with_reducible rfl
                rotate_left
                · simp only [Act.put, List.setIfInBounds_toArray, List.set_cons_zero, List.set_cons_succ, i64_w, i32_w]
                  rfl
                refine take_ (i := 6) (N := some 75) (v := ?_) (a' := ?_) #[true, true, true, true, true, true, true, false, false, false, false, false] rfl rfl (by kernel_rfl) (fun _ _ _ h => h) (Or.inl ⟨by rfl, ?_⟩) hHeld ?_ ?_
                rotate_left
                · rintro w' ⟨s0, s1, s2, s3, s4⟩
                  go_simp
                  with_reducible rfl
                rotate_left
                · simp only [Act.put, List.setIfInBounds_toArray, List.set_cons_zero, List.set_cons_succ, i64_w, i32_w]
                  rfl
                refine pure_ (i := 7) (N := some 76) (v := ?_) (a' := ?_) #[true, true, true, true, true, true, true, true, false, false, false, false] rfl rfl (by kernel_rfl) (fun _ _ _ h => h) (Or.inl ⟨by rfl, ?_⟩) ?_ ?_
                rotate_left
                · intro w'
                  go_simp
                  with_reducible rfl
                rotate_left
                · simp only [Act.put, List.setIfInBounds_toArray, List.set_cons_zero, List.set_cons_succ, i64_w, i32_w]
                  rfl
                refine pure_ (i := 8) (N := some 77) (v := ?_) (a' := ?_) #[true, true, true, true, true, true, true, true, true, false, false, false] rfl rfl (by kernel_rfl) (fun _ _ _ h => h) (Or.inl ⟨by rfl, ?_⟩) ?_ ?_
                rotate_left
                · intro w'
                  go_simp
                  with_reducible rfl
                rotate_left
                · simp only [Act.put, List.setIfInBounds_toArray, List.set_cons_zero, List.set_cons_succ, i64_w, i32_w]
                  rfl
                refine pure_ (i := 9) (N := some 78) (v := ?_) (a' := ?_) #[true, true, true, true, true, true, true, true, true, true, false, false] rfl rfl (by kernel_rfl) (fun _ _ _ h => h) (Or.inl ⟨by rfl, ?_⟩) ?_ ?_
                rotate_left
                · intro w'
                  go_simp
                  with_reducible rfl
                rotate_left
                · simp only [Act.put, List.setIfInBounds_toArray, List.set_cons_zero, List.set_cons_succ, i64_w, i32_w]
                  rfl
                refine one_ (i := 10) (N := none) #[true, true, true, true, true, true, true, true, true, true, true, false] rfl rfl (by kernel_rfl) (by decide) (fun K hK => ?_)
                refine skip_ (w1 := ?_) (by rfl) rfl ?_ ?_
                rotate_left
                · go_simp
                  rfl
                refine hK.out _ _ ⟨y0, y1, y2, y3, yp⟩ (fun hHeld => ?_)
                clear hK K
                refine pure_ (i := 11) (N := some 3) (v := ?_) (a' := ?_) #[true, true, true, true, true, true, true, true, true, true, true, true] rfl rfl (by kernel_rfl) (fun _ _ _ h => h) (Or.inl ⟨by rfl, ?_⟩) ?_ ?_
                rotate_left
                · intro w'
                  go_simp
                  with_reducible rfl
                rotate_left
                · simp only [Act.put, List.setIfInBounds_toArray, List.set_cons_zero, List.set_cons_succ, i64_w, i32_w]
                  rfl
                refine done_ (by kernel_rfl) ?_
                go_wp2
                (try simp only [Exit.inBlock, Exit.then])
                refine bodyPost_ret (v := .tuple #[.agg #[.string n1, .slice A xs.length c, .string n4, .bool true], .bool ((us4.length : Int) == 0)]) ?_ rfl ?_
                · rw [results_cell_tmp rfl]
                  go_simp
                · exact line_done (LS.next LZ.out (Below.drew (Below.refl _ _))) true _ (HLE.out.trans (by simp)) (by simp)
              | false =>
                go_wp2_with (first
                  | (go_at_call 82; go_must (refine (is.calls _ _).mono ?_); go_must (rintro e wI ⟨rfl, rfl⟩))
                  | (go_at_call 81; with_reducible (refine (T3.out _ _ rfl HLS.out.ps.at_).mono ?_); go_must (rintro e w3 ⟨rfl, q3⟩); have L3 := Lib.hid (LS.take (LS.alloc HLS.out _) q3); obtain ⟨g0, g1, g2, g3, gf0, gf1, gf2, gf3⟩ := LS.cells L3.out; clear q3)
                  | (go_at_call 81; with_reducible (refine (T5.out _ _ rfl L3.out.ps.at_).mono ?_); go_must (rintro e w5 ⟨rfl, q5⟩); have L5 := Lib.hid (LS.take (LS.alloc L3.out _) q5); obtain ⟨e0, e1, e2, e3, ef0, ef1, ef2, ef3⟩ := LS.cells L5.out; clear q5)
                  | (go_at_call 81; with_reducible (refine (T4.out _ (LS.set3 L5.out true).ps.at_).mono ?_); go_must (rintro e w4 ⟨rfl, q4⟩); have LX := Lib.hid (LS.take (LS.set3 L5.out true) q4); obtain ⟨f0, f1, f2, f3, ff0, ff1, ff2, ff3⟩ := LS.cells LX.out; clear q4))
                have LY := Lib.hid (LS.set2 LX.out n4)
                clear g0 gf0 g1 gf1 g2 gf2 g3 gf3 f0 ff0 f1 ff1 f2 ff2 f3 ff3 e0 ef0 e1 ef1 e2 ef2 e3 ef3 T4 T3 F3 HTP HTI HLS L3 LX T5 L5
                generalize World.setCell _ _ _ = W9 at LY ⊢
                obtain ⟨d0, d1, d2, d3, df0, df1, df2, df3⟩ := LS.cells LY.out
                obtain ⟨Ap, cp, hpb, _, _, _⟩ := LY.out.ps.at_
                have dp := blk_cell hpb 0
                have LZ := Lib.hid (LS.same LY.out)
                obtain ⟨y0, y1, y2, y3, yf0, yf1, yf2, yf3⟩ := LS.cells LZ.out
                have yp := LS.pcell LY.out dp (.string n1) (.slice A xs.length c) (.string n4) (.bool true)
                clear hpb yf0 yf1 yf2 yf3
                refine start_ (n := 12) (S := fun w' => w'.cell? ⟨w.heap.size, 0, none⟩ = some (.string n1) ∧ w'.cell? ⟨w.heap.size, 1, none⟩ = some (.slice A xs.length c) ∧ w'.cell? ⟨w.heap.size, 2, none⟩ = some (.string n4) ∧ w'.cell? ⟨w.heap.size, 3, none⟩ = some (.bool true) ∧ w'.cell? ⟨P, 0, none⟩ = some (.slice Ap us4.length cp)) (ds := []) #[false, false, false, false, false, false, false, false, false, false, false, false] (by kernel_rfl) rfl rfl ⟨d0, d1, d2, d3, dp⟩ (fun hHeld => ?_)
                refine pure_ (i := 1) (N := some 70) (v := ?_) (a' := ?_) #[false, true, false, false, false, false, false, false, false, false, false, false] rfl rfl (by kernel_rfl) (fun _ _ _ h => h) (Or.inl ⟨by rfl, ?_⟩) ?_ ?_
                rotate_left
                · intro w'
                  go_simp
                  with_reducible rfl
                rotate_left
                · simp only [Act.put, List.setIfInBounds_toArray, List.set_cons_zero, List.set_cons_succ, i64_w, i32_w]
                  rfl
                refine pure_ (i := 2) (N := some 71) (v := ?_) (a' := ?_) #[false, true, true, false, false, false, false, false, false, false, false, false] rfl rfl (by kernel_rfl) (fun _ _ _ h => h) (Or.inl ⟨by rfl, ?_⟩) ?_ ?_
                rotate_left
                · intro w'
                  go_simp
                  with_reducible rfl
                rotate_left
                · simp only [Act.put, List.setIfInBounds_toArray, List.set_cons_zero, List.set_cons_succ, i64_w, i32_w]
                  rfl
                refine pure_ (i := 3) (N := some 72) (v := undef) (a' := ?_) #[false, true, true, true, false, false, false, false, false, false, false, false] rfl rfl (by kernel_rfl) (fun _ _ _ h => h) (Or.inr ⟨by rfl, rfl⟩) ?_ ?_
                rotate_left
                · simp only [Act.put, List.setIfInBounds_toArray, List.set_cons_zero, List.set_cons_succ, i64_w, i32_w]
                  rfl
                refine pure_ (i := 4) (N := some 73) (v := undef) (a' := ?_) #[false, true, true, true, true, false, false, false, false, false, false, false] rfl rfl (by kernel_rfl) (fun _ _ _ h => h) (Or.inr ⟨by rfl, rfl⟩) ?_ ?_
                rotate_left
                · simp only [Act.put, List.setIfInBounds_toArray, List.set_cons_zero, List.set_cons_succ, i64_w, i32_w]
                  rfl
                refine pure_ (i := 5) (N := some 74) (v := undef) (a' := ?_) #[false, true, true, true, true, true, false, false, false, false, false, false] rfl rfl (by kernel_rfl) (fun _ _ _ h => h) (Or.inr ⟨by rfl, rfl⟩) ?_ ?_
                rotate_left
                · simp only [Act.put, List.setIfInBounds_toArray, List.set_cons_zero, List.set_cons_succ, i64_w, i32_w]
                  rfl
                refine pure_ (i := 6) (N := some 75) (v := undef) (a' := ?_) #[false, true, true, true, true, true, true, false, false, false, false, false] rfl rfl (by kernel_rfl) (fun _ _ _ h => h) (Or.inr ⟨by rfl, rfl⟩) ?_ ?_
                rotate_left
                · simp only [Act.put, List.setIfInBounds_toArray, List.set_cons_zero, List.set_cons_succ, i64_w, i32_w]
                  rfl
                refine pure_ (i := 7) (N := some 76) (v := undef) (a' := ?_) #[false, true, true, true, true, true, true, true, false, false, false, false] rfl rfl (by kernel_rfl) (fun _ _ _ h => h) (Or.inr ⟨by rfl, rfl⟩) ?_ ?_
                rotate_left
                · simp only [Act.put, List.setIfInBounds_toArray, List.set_cons_zero, List.set_cons_succ, i64_w, i32_w]
                  rfl
                refine pure_ (i := 8) (N := some 77) (v := undef) (a' := ?_) #[false, true, true, true, true, true, true, true, true, false, false, false] rfl rfl (by kernel_rfl) (fun _ _ _ h => h) (Or.inr ⟨by rfl, rfl⟩) ?_ ?_
                rotate_left
                · simp only [Act.put, List.setIfInBounds_toArray, List.set_cons_zero, List.set_cons_succ, i64_w, i32_w]
                  rfl
                refine pure_ (i := 9) (N := some 78) (v := ?_) (a' := ?_) #[false, true, true, true, true, true, true, true, true, true, false, false] rfl rfl (by kernel_rfl) (fun _ _ _ h => h) (Or.inl ⟨by rfl, ?_⟩) ?_ ?_
                rotate_left
                · intro w'
                  go_simp
                  with_reducible rfl
                rotate_left
                · simp only [Act.put, List.setIfInBounds_toArray, List.set_cons_zero, List.set_cons_succ, i64_w, i32_w]
                  rfl
                refine take_ (i := 0) (N := some 69) (v := ?_) (a' := ?_) #[true, true, true, true, true, true, true, true, true, true, false, false] rfl rfl (by kernel_rfl) (fun _ _ _ h => h) (Or.inl ⟨by rfl, ?_⟩) hHeld ?_ ?_
                rotate_left
                · rintro w' ⟨s0, s1, s2, s3, s4⟩
                  go_simp
                  with_reducible rfl
                rotate_left
                · simp only [Act.put, List.setIfInBounds_toArray, List.set_cons_zero, List.set_cons_succ, i64_w, i32_w]
                  rfl
                refine one_ (i := 10) (N := none) #[true, true, true, true, true, true, true, true, true, true, true, false] rfl rfl (by kernel_rfl) (by decide) (fun K hK => ?_)
                refine skip_ (w1 := ?_) (by rfl) rfl ?_ ?_
                rotate_left
                · go_simp
                  rfl
                refine hK.out _ _ ⟨y0, y1, y2, y3, yp⟩ (fun hHeld => ?_)
                clear hK K
                refine pure_ (i := 11) (N := some 3) (v := ?_) (a' := ?_) #[true, true, true, true, true, true, true, true, true, true, true, true] rfl rfl (by kernel_rfl) (fun _ _ _ h => h) (Or.inl ⟨by rfl, ?_⟩) ?_ ?_
                rotate_left
                · intro w'
                  go_simp
                  with_reducible rfl
                rotate_left
                · simp only [Act.put, List.setIfInBounds_toArray, List.set_cons_zero, List.set_cons_succ, i64_w, i32_w]
                  rfl
                refine done_ (by kernel_rfl) ?_
                go_wp2
                (try simp only [Exit.inBlock, Exit.then])
                refine bodyPost_ret (v := .tuple #[.agg #[.string n1, .slice A xs.length c, .string n4, .bool true], .bool false]) ?_ rfl ?_
                · rw [results_cell_tmp rfl]
                  go_simp
                · exact line_done (LS.next LZ.out (Below.drew (Below.refl _ _))) false _ (HLE.out.trans (by simp)) (by simp)
            | false =>
              rw [if_neg (by simp)] at hta
              have HNO := Lib.hid (show lineOf ws = none by rw [hlo3, hta]; rfl)
              clear hlo3 hta
              go_wp2_with (first
                | (go_at_call 82; go_must (refine (is.calls _ _).mono ?_); go_must (rintro e wI ⟨rfl, rfl⟩))
                | (go_at_call 81; with_reducible (refine (T3.out _ _ rfl HLS.out.ps.at_).mono ?_); go_must (rintro e w3 ⟨rfl, q3⟩); have L3 := Lib.hid (LS.take (LS.alloc HLS.out _) q3); obtain ⟨g0, g1, g2, g3, gf0, gf1, gf2, gf3⟩ := LS.cells L3.out; clear q3)
                | (go_at_call 81; with_reducible (refine (T5.out _ _ rfl L3.out.ps.at_).mono ?_); go_must (rintro e w5 ⟨rfl, q5⟩); have L5 := Lib.hid (LS.take (LS.alloc L3.out _) q5); obtain ⟨e0, e1, e2, e3, ef0, ef1, ef2, ef3⟩ := LS.cells L5.out; clear q5))
              (try simp only [Exit.inBlock, Exit.then])
              refine bodyPost_ret (v := .tuple #[.agg #[.string n1, .slice A xs.length c, .string ⟨#[]⟩, .bool false], .bool false]) ?_ rfl ?_
              · rw [results_cell_tmp rfl]
                go_simp
              · exact line_fail (LS.same (LS.set3 L5.out false)) HNO.out
end Go.Proofs.YthmijenlndnmcaaGreatDoor.Sh
