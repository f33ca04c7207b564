import Derived.Test.YthmijenlndnmcaaGreatDoorShx0
namespace Go.Proofs.YthmijenlndnmcaaGreatDoor.Sh
open Go.RowKit Go.Proofs.YthmijenlndnmcaaGreatDoorW.PrintWords Go.Proofs.YthmijenlndnmcaaGreatDoorW.PrintLast Go.Proofs.YthmijenlndnmcaaGreatDoorW.PrintMore
attribute [local go_sem] max2_int min2_int max_two min_two max_three min_three max_four min_four
set_option linter.unusedVariables false
set_option linter.unusedSimpArgs false
def bytes_Clone.f (l0 : List Int) : Option (List Int) := if l0.length < 140737488355328 then some l0 else none
set_option maxHeartbeats 1000000 in
set_option maxRecDepth 100000 in
theorem bytes_Clone.calls (A0 : Option Addr) (c0 : Nat) (l0 : List Int) (r : List Int) (w : World) (hr0 : Kd.C (Kd.int .u8) w A0 l0.length l0) (hc0 : l0.length ≤ c0) (h : bytes_Clone.f l0 = some r) :
    Calls Tryz.prog 34 #[.slice A0 l0.length c0] w fun e w' => ∃ v, e = .returned v ∧ Kd.R (Kd.int .u8) 5 w' w.heap.size (fun _ => True) v r ∧ Below w.heap.size w w' := by
  unfold bytes_Clone.f at h
  split at h
  case isFalse => cases h
  case isTrue hl =>
  obtain rfl := Option.some.inj h
  clear h hc0
  have HR0 := Lib.hid hr0
  have HL := Lib.hid hl
  clear hl
  have q22 : ∀ (W : World) (n c : Nat), (binOp .eql 23 (.slice A0 n c) (.slice none 0 0)).run Tryz.prog W = .ok (.bool A0.isNone) W := fun W n c => Lib.run_eql_slice_nil W _ _ A0 n c 0 0 Tryz.underlying23
  cases A0 with
  | none =>
    have h0 : l0.length = 0 := by
      by_cases h : 0 < l0.length
      · obtain ⟨ad, e, _⟩ := hr0.2.2 h; cases e
      · omega
    obtain rfl : l0 = [] := List.eq_nil_of_length_eq_zero h0
    clear hr0
    go_enter Tryz.func34, Tryz.ntmps34
    go_wp2
    go_ret
    exact ⟨_, rfl, Kd.R_nil _ _ _ _ _, Below.refl _ _⟩
  | some ad =>
    clear hr0
    go_enter Tryz.func34, Tryz.ntmps34
    have hinf := (show (Tryz.prog.info? 5).map (fun i => (i.zero, i.size, i.bytes)) = some (some (.int .u8 0), 1, 1) by kernel_rfl)
    go_wp2_with ((with_reducible refine gate_builtin (b := .append) (xs := #[.tmp 5, .tmp 6]) rfl ?_); at_builtin; refine Kd.R_append_rows (Kd.int .u8) (w0 := w) w.heap.size rfl (.tmp 5) (.tmp 6) 23 5 (.int .u8 0) 1 rfl Tryz.underlying23 hinf rfl (by decide) (by omega) (.slice (some ⟨w.heap.size, 0, none⟩) 0 0) ([] : List Int) l0 _ _ _ (fun _ => True) (fun _ => False) rfl rfl ?aO ?aR (fun _ _ h => h) (fun _ h => h.elim) ?aF ?aB ?aS ?aL ?_; (case aR => exact Kd.C_below HR0.out (by repeat (first | exact Below.refl _ _ | apply below_alloc | apply Below.drew))); (case aB => exact (by repeat (first | exact Below.refl _ _ | apply below_alloc | apply Below.drew))); (case aF => exact (fun _ _ => trivial)); (case aO => exact ⟨fun _ _ => trivial, [], ⟨rfl, .inr ⟨w.heap.size, 0, #[], rfl, Nat.le_refl _, blk_new w _, Nat.le_refl _, Nat.zero_le _, rfl, rfl⟩⟩, Reps.none _ _⟩); (case aS => simp); (case aL => have := HL.out; simp; omega); intro v1 w3 ho hb hg hat)
    go_ret
    exact ⟨_, rfl, ho, hb⟩
def shell_sign.f (a0 : ByteArray) : Option (Bool) := if a0.toList = ([124] : List UInt8) then (some true) else (if a0.toList = ([60] : List UInt8) then (some true) else (if a0.toList = ([62] : List UInt8) then (some true) else (some (a0.toList == ([62, 62] : List UInt8)))))
set_option maxHeartbeats 8000000 in
set_option maxRecDepth 100000 in
theorem shell_sign.calls (a0 : ByteArray) (r : Bool) (w : World) (h : shell_sign.f a0 = some r) :
    Calls Tryz.prog 76 #[.string a0] w fun e w' => e = .returned (.bool r) ∧ Drawn0 w w' := by
  have H : (if a0.toList = ([124] : List UInt8) then (some true) else (if a0.toList = ([60] : List UInt8) then (some true) else (if a0.toList = ([62] : List UInt8) then (some true) else (some (a0.toList == ([62, 62] : List UInt8)))))) = some r := h
  clear h
  by_cases c2 : a0.toList = ([124] : List UInt8)
  · rw [if_pos c2] at H
    have c2b0 : (a0.toList == ([124] : List UInt8)) = true := beq_iff_eq.mpr c2
    have c2b1 : (a0.toList != ([124] : List UInt8)) = false := bne_eq_false_iff_eq.mpr c2
    clear c2
    obtain rfl := Option.some.inj H
    go_enter Tryz.func76, Tryz.ntmps76
    go_wp2
    go_ret
    exact ⟨by first | rfl | (simp; done) | (simp [*]; done), by repeat (first | exact Drawn0.refl _ | apply Drawn0.step)⟩
  · rw [if_neg c2] at H
    have c2b0 : (a0.toList == ([124] : List UInt8)) = false := beq_eq_false_iff_ne.mpr c2
    have c2b1 : (a0.toList != ([124] : List UInt8)) = true := bne_iff_ne.mpr c2
    by_cases c3 : a0.toList = ([60] : List UInt8)
    · rw [if_pos c3] at H
      have c3b0 : (a0.toList == ([60] : List UInt8)) = true := beq_iff_eq.mpr c3
      have c3b1 : (a0.toList != ([60] : List UInt8)) = false := bne_eq_false_iff_eq.mpr c3
      clear c3
      obtain rfl := Option.some.inj H
      go_enter Tryz.func76, Tryz.ntmps76
      go_wp2
      go_ret
      exact ⟨by first | rfl | (simp; done) | (simp [*]; done), by repeat (first | exact Drawn0.refl _ | apply Drawn0.step)⟩
    · rw [if_neg c3] at H
      have c3b0 : (a0.toList == ([60] : List UInt8)) = false := beq_eq_false_iff_ne.mpr c3
      have c3b1 : (a0.toList != ([60] : List UInt8)) = true := bne_iff_ne.mpr c3
      by_cases c4 : a0.toList = ([62] : List UInt8)
      · rw [if_pos c4] at H
        have c4b0 : (a0.toList == ([62] : List UInt8)) = true := beq_iff_eq.mpr c4
        have c4b1 : (a0.toList != ([62] : List UInt8)) = false := bne_eq_false_iff_eq.mpr c4
        clear c4
        obtain rfl := Option.some.inj H
        go_enter Tryz.func76, Tryz.ntmps76
        go_wp2
        go_ret
        exact ⟨by first | rfl | (simp; done) | (simp [*]; done), by repeat (first | exact Drawn0.refl _ | apply Drawn0.step)⟩
      · rw [if_neg c4] at H
        have c4b0 : (a0.toList == ([62] : List UInt8)) = false := beq_eq_false_iff_ne.mpr c4
        have c4b1 : (a0.toList != ([62] : List UInt8)) = true := bne_iff_ne.mpr c4
        obtain rfl := Option.some.inj H
        go_enter Tryz.func76, Tryz.ntmps76
        go_wp2
        go_ret
        exact ⟨by first | rfl | (simp; done) | (simp [*]; done), by repeat (first | exact Drawn0.refl _ | apply Drawn0.step)⟩
def heldR (v : Value) : Option (DataW Value × List MemPlace) := some (.held v, [])
def kernBad (c : Nat) : Bool := decide (c < 33) || decide (126 < c)
def kernNamed (s : ByteArray) : Bool := decide (s.size ≠ 0) && (decide (s.size ≤ 64) && !decide (0 ≤ Lib.idxFunc kernBad true s))
theorem kern_bad.calls (x : Nat) (hx : x ≤ 1114111) (w : World) :
    Calls Tryz.prog 87 #[.int .i32 (x : Int)] w fun e w' => e = .returned (.bool (kernBad x)) ∧ Below w.heap.size w w' := by
  by_cases h1 : x < 33
  · have e : kernBad x = true := by simp [kernBad, h1]
    have g : decide ((x : Int) < 33) = true := by simp; omega
    rw [e]
    go_enter Tryz.func87, Tryz.ntmps87
    go_wp2
    go_ret
    exact ⟨rfl, by repeat (first | exact Below.refl _ _ | apply below_alloc | apply Below.drew)⟩
  · have g : decide ((x : Int) < 33) = false := by simp; omega
    by_cases h2 : 126 < x
    · have e : kernBad x = true := by simp [kernBad, h2]
      have g2 : decide ((126 : Int) < (x : Int)) = true := by simp; omega
      rw [e]
      go_enter Tryz.func87, Tryz.ntmps87
      go_wp2
      go_ret
      exact ⟨rfl, by repeat (first | exact Below.refl _ _ | apply below_alloc | apply Below.drew)⟩
    · have e : kernBad x = false := by simp [kernBad, h1, h2]
      have g2 : decide ((126 : Int) < (x : Int)) = false := by simp; omega
      rw [e]
      go_enter Tryz.func87, Tryz.ntmps87
      go_wp2
      go_ret
      exact ⟨rfl, by repeat (first | exact Below.refl _ _ | apply below_alloc | apply Below.drew)⟩
theorem kern_bad_at (w : World) : PredGrows Tryz.prog 87 #[] kernBad w := fun W x hx _ => kern_bad.calls x hx W
theorem str_empty_iff (s : ByteArray) : (s.toList == ([] : List UInt8)) = decide (s.size = 0) := by
  rw [ByteArray.toList_eq]
  have : s.data.toList.length = s.size := by simp
  cases h : s.data.toList with
  | nil => rw [h] at this; simp at this; simp [← this]
  | cons a r => rw [h] at this; simp at this; simp [← this]
theorem kern_named.calls (s : ByteArray) (w : World) :
    Calls Tryz.prog 59 #[.string s] w fun e w' => e = .returned (.bool (kernNamed s)) ∧ Below w.heap.size w w' := by
  have he := str_empty_iff s
  by_cases h1 : s.size = 0
  · have e : kernNamed s = false := by simp [kernNamed, h1]
    have g : (s.toList == ([] : List UInt8)) = true := by rw [he]; simp [h1]
    rw [e]
    clear he h1 e
    go_enter Tryz.func59, Tryz.ntmps59
    go_wp2
    go_ret
    exact ⟨rfl, by repeat (first | exact Below.refl _ _ | apply below_alloc | apply Below.drew)⟩
  · have g : (s.toList == ([] : List UInt8)) = false := by rw [he]; simp [h1]
    by_cases h2 : s.size ≤ 64
    · have e : kernNamed s = !decide (0 ≤ Lib.idxFunc kernBad true s) := by simp [kernNamed, h1, h2]
      have g2 : decide ((s.size : Int) ≤ 64) = true := by simp; omega
      rw [e]
      have HC := Lib.hid (fun W => Tryz.strings_ContainsFunc_grows 87 #[] (enters_of Tryz.func87 (by kernel_rfl) rfl) kernBad s W (kern_bad_at W))
      clear he h1 h2 e
      go_enter Tryz.func59, Tryz.ntmps59
      go_wp2_with (go_at_call 86; go_must (refine (HC.out _).mono ?_); go_must (rintro e w' ⟨rfl, hB2⟩))
      go_ret
      exact ⟨rfl, below_step (by repeat (first | exact Below.refl _ _ | apply below_alloc | apply Below.drew)) hB2⟩
    · have e : kernNamed s = false := by simp [kernNamed, h2]
      have g2 : decide ((s.size : Int) ≤ 64) = false := by simp; omega
      rw [e]
      clear he h1 h2 e
      go_enter Tryz.func59, Tryz.ntmps59
      go_wp2
      go_ret
      exact ⟨rfl, by repeat (first | exact Below.refl _ _ | apply below_alloc | apply Below.drew)⟩
theorem keyed9 : Maps.Keyed Tryz.prog 9 := Maps.string_keyed Tryz.underlying9
theorem key_str {s : ByteArray} (h : s.size ≤ maxLen) : keyOf Tryz.prog 9 (.string s) = some (.string s.data.toList) := WideMaps.keyOf_string_mk Tryz.underlying9 h
theorem kernNamed_le {s : ByteArray} (h : kernNamed s = true) : s.size ≤ 64 := by
  simp [kernNamed] at h; exact h.2.1
theorem owns_below {H : Type} {k : TypeId} {R : Value → Option (DataW H × List MemPlace)} {B b n : Nat} {D : DataW H} {w W : World} (h : w.ownsMap Tryz.prog k R b n D) (hb : Below B w W) (hlt : b < B) : W.ownsMap Tryz.prog k R b n D := by
  obtain ⟨es, clock, h1, h2, h3, h4⟩ := h
  exact ⟨es, clock, (hb.block b hlt).trans h1, h2, h3, h4⟩
theorem zero_bool (w : World) : (zeroValue 4).run Tryz.prog w = .ok (.bool false) w := by kernel_rfl
theorem wpList_lookup_held {P : Program} (w : World) {ops : Array Oper} {rest : List Oper} {o : Oper} {a : Act} {Q : Exit → Act → World → Prop}
    (hg : o.guard = none) (m x : Operand) (t : TypeId) (hop : o.op = Op.lookup t m x false)
    (k e : TypeId) (K : Maps.Keyed P k) (ht : P.underlying t = some (.map k e)) (z : Value) (hz : (zeroValue e).run P w = .ok z w) (b n : Nat) (D : DataW Value)
    (hm : a.eval m = .map (some b)) (hown : w.ownsMap P k heldR b n D) (key : Value) (kl : Lit) (hx : a.eval x = key) (hkey : keyOf P k key = some kl)
    (v : Value) (hv : D.atKey kl (.held z) = .held v) (hK : wpList P ops Q rest (a.put o.dst v) w) :
    wpList P ops Q (o :: rest) a w := by
  refine wpList_plain hg fun K' hK' => ?_
  obtain ⟨c, ps, hrun, hat⟩ := hown.lookup K ht hz (zd := .held z) (zp := []) rfl hkey
  obtain rfl : c = v := by
    rw [hv] at hat
    exact DataW.held.inj (congrArg Prod.fst (Option.some.inj hat))
  unfold Oper.wp
  simp [execOp, hop, hm, hx, hrun, Result.andThen]
  exact hK' _ _ hK
set_option maxRecDepth 100000 in
theorem kern_fresh.calls (s : ByteArray) (B bm base : Nat) (w : World) (hB : base ≤ bm) (hbw : base ≤ w.heap.size) (hx : Boxed w B 99 (.map (some bm))) (hm : w.ownsMap Tryz.prog 9 heldR bm 0 (.map [])) :
    Calls Tryz.prog 58 #[.string s, .pointer (some ⟨B, 0, none⟩)] w fun e w' => e = .returned (.int .i64 (if kernNamed s then 0 else 61)) ∧ Below base w w' ∧ ∀ g o, g ≠ bm → w.heap[g]? = some o → w'.heap[g]? = some o := by
  have hc : ∀ W, Below w.heap.size w W → W.cell? ⟨B, 0, none⟩ = some (.map (some bm)) := fun W hb => pw_cell_below hb hx.cell
  have HN := Lib.hid (fun W => kern_named.calls s W)
  cases hk : kernNamed s with
  | false =>
    rw [hk] at HN
    clear hk hm
    go_enter Tryz.func58, Tryz.ntmps58
    go_wp2_with (go_at_call 59; go_must (refine (HN.out _).mono ?_); go_must (rintro e w' ⟨rfl, hB2⟩))
    go_ret
    exact ⟨rfl, hB2.mono hbw, fun g o _ h => blk_below h hB2⟩
  | true =>
    have hs := kernNamed_le hk
    have hkey := key_str (s := s) (by unfold maxLen; omega)
    rw [hk] at HN
    clear hk hs
    have HM := Lib.hid hm
    have HC := Lib.hid hc
    clear hm hc
    go_enter Tryz.func58, Tryz.ntmps58
    go_wp2_with (first
      | (go_at_call 59; go_must (refine (HN.out _).mono ?_); go_must (rintro e w1 ⟨rfl, hB2⟩); have hc1 := HC.out _ hB2; have hm1 := owns_below HM.out hB2 HM.out.lt)
      | (at_lookup; refine wpList_lookup_held _ rfl _ _ 99 rfl 9 4 keyed9 Tryz.underlying99 (.bool false) (zero_bool _) bm 0 _ rfl hm1 _ _ rfl hkey (.bool false) rfl ?_)
      | (at_mapUpdate; refine wpList_mapUpdate_own _ rfl _ _ _ 99 rfl 9 4 keyed9 Tryz.underlying99 heldR bm 0 _ rfl hm1 (by unfold maxLen; omega) _ _ _ rfl rfl hkey _ [] rfl ?_; intro w2 hm2 hg2)
      | go_in)
    go_ret
    exact ⟨rfl, (hB2.mono hbw).grown hg2 (Nat.le_trans hbw hB2.size) (fun k e => by cases e; exact hB), fun g o hne h => blk_grown (blk_below h hB2) hg2 (fun e => hne (Option.some.inj e))⟩
theorem faults_indexNil.calls (w : World) :
    Calls Tryz.prog 88 #[.slice none 0 0, .func (.func 89) #[] #[]] w fun e w' => e = .returned (.int .i64 (-1)) ∧ Below w.heap.size w w' := by
  go_enter Tryz.func88, Tryz.ntmps88
  go_wp2
  go_loopg [8] 1 (fun k v wr => k = 1 ∧ v = .int .i64 0 ∧ Below w.heap.size w wr)
  case atStart => exact ⟨rfl, rfl, by repeat (first | exact Below.refl _ _ | apply below_alloc | apply Below.drew)⟩
  case round =>
    obtain ⟨rfl, rfl, hB⟩ := hrel
    go_wp2
    go_ret
    exact ⟨rfl, hB⟩
theorem faults_CheckNil.calls (w : World) :
    Calls Tryz.prog 61 #[.slice none 0 0] w fun e w' => e = .returned (.tuple #[.int .i64 0, .int .i64 0]) ∧ Below w.heap.size w w' := by
  have HI := fun W => faults_indexNil.calls W
  go_enter Tryz.func61, Tryz.ntmps61
  go_wp2_with (go_at_call 88; go_must (refine (HI _).mono ?_); go_must (rintro e w' ⟨rfl, hB2⟩))
  go_ret2
  exact ⟨rfl, below_step (by repeat (first | exact Below.refl _ _ | apply below_alloc | apply Below.drew)) hB2⟩
theorem faults_CloneNil.calls (w : World) :
    Calls Tryz.prog 134 #[.slice none 0 0] w fun e w' => e = .returned (.slice none 0 0) ∧ Below w.heap.size w w' := by
  have q22 : ∀ (W : World) (n c : Nat), (binOp .eql 70 (.slice none n c) (.slice none 0 0)).run Tryz.prog W = .ok (.bool (none : Option Addr).isNone) W := fun W n c => Lib.run_eql_slice_nil W _ _ none n c 0 0 Tryz.underlying70
  go_enter Tryz.func134, Tryz.ntmps134
  go_wp2
  go_ret
  exact ⟨rfl, by repeat (first | exact Below.refl _ _ | apply below_alloc | apply Below.drew)⟩
theorem faults_NewNil.calls (w : World) :
    Calls Tryz.prog 113 #[.slice none 0 0] w fun e w' => ∃ B, e = .returned (.tuple #[.pointer (some ⟨B, 0, none⟩), .int .i64 0]) ∧ Below w.heap.size w w' := by
  have HC := fun W => faults_CheckNil.calls W
  have HL := fun W => faults_CloneNil.calls W
  go_enter Tryz.func113, Tryz.ntmps113
  go_wp2_with (first
    | (go_at_call 61; go_must (refine (HC _).mono ?_); go_must (rintro e w1 ⟨rfl, hB1⟩))
    | (go_at_call 134; go_must (refine (HL _).mono ?_); go_must (rintro e w2 ⟨rfl, hB2⟩))
    | go_in)
  go_ret2
  exact ⟨_, rfl, below_alloc (below_step hB1 hB2) _⟩
theorem file_NewNil.calls (w : World) :
    Calls Tryz.prog 114 #[.slice none 0 0] w fun e w' => ∃ B, e = .returned (.tuple #[.pointer (some ⟨B, 0, none⟩), .int .i64 0]) ∧ Below w.heap.size w w' := by
  have HL := Lib.hid (fun W => bytes_Clone.calls none 0 [] [] W (Kd.C_nil _ _) (Nat.le_refl _) rfl)
  go_enter Tryz.func114, Tryz.ntmps114
  go_wp2_with (go_at_call 34; go_must (refine (HL.out _).mono ?_); go_must (rintro e w2 ⟨v, rfl, hv, hB2⟩); obtain ⟨Av, cv, rfl⟩ := Kd.R_slice hv)
  go_ret2
  exact ⟨_, rfl, below_alloc hB2 _⟩
set_option maxHeartbeats 1000000 in
set_option maxRecDepth 100000 in
theorem kern_Check1.calls (s : ByteArray) (ad : Addr) (c n dc : Nat) (DA : Option Addr) (w : World) (h0 : w.cell? ad = some (.string s)) (h1 : w.cell? (ad.add 1) = some (.slice DA n dc)) :
    Calls Tryz.prog 31 #[.agg #[.slice (some ad) 1 c, .slice none 0 0, .slice none 0 0]] w fun e w' =>
      e = .returned (.int .i64 (if kernNamed s then (if 1048576 < n then 5 else 0) else 61)) ∧ Below w.heap.size w w' := by
  obtain ⟨N, hN⟩ : ∃ N, N = w.heap.size := ⟨_, rfl⟩
  rw [← hN]
  have hu := Tryz.underlying72
  have hu2 := Tryz.underlying50
  have hmm := @run_makeMap Tryz.prog
  have HF := Lib.hid (fun W => faults_CheckNil.calls W)
  have HN := Lib.hid (fun B bm W => kern_fresh.calls s B bm N W)
  have H0 : ∀ W, Below N w W → W.cell? ad = some (.string s) := fun W hb => pw_cell_below (hN ▸ hb) h0
  have H1 : ∀ W, Below N w W → W.cell? ⟨ad.block, ad.off + 1, none⟩ = some (.slice DA n dc) := fun W hb => pw_cell_below (hN ▸ hb) h1
  have HH := Lib.hid (And.intro H0 H1)
  clear H0 H1 h0 h1
  obtain ⟨x, hx⟩ : ∃ x : Bool, x = kernNamed s := ⟨_, rfl⟩
  rw [← hx] at HN ⊢
  obtain ⟨y, hy⟩ : ∃ y : Bool, decide ((1048576 : Int) < (n : Int)) = y := ⟨_, rfl⟩
  have hy2 : (if 1048576 < n then (5 : Int) else 0) = if y then 5 else 0 := by
    rw [← hy]; by_cases h : 1048576 < n <;> simp [h] <;> omega
  rw [hy2]
  clear hx hy2
  go_enter Tryz.func31, Tryz.ntmps31
  go_wp2
  have s1 : Below N w (((w.alloc (Obj.cells #[Value.slice (some ad) 1 c, Value.slice none 0 0, Value.slice none 0 0] 72)).alloc (Obj.map #[] 0)).alloc (Obj.cells #[Value.map (some (w.heap.size + 1))] 99)) := by
    rw [hN]; exact below_alloc (below_alloc (below_alloc (Below.refl _ _) _) _) _
  have s2 : (((w.alloc (Obj.cells #[Value.slice (some ad) 1 c, Value.slice none 0 0, Value.slice none 0 0] 72)).alloc (Obj.map #[] 0)).alloc (Obj.cells #[Value.map (some (w.heap.size + 1))] 99)).heap[N]? = some (Obj.cells #[Value.slice (some ad) 1 c, Value.slice none 0 0, Value.slice none 0 0] 72 (0, 0)) := by
    rw [hN]; exact blk_alloc (blk_alloc (blk_new w _) _) _
  have s3 : Boxed (((w.alloc (Obj.cells #[Value.slice (some ad) 1 c, Value.slice none 0 0, Value.slice none 0 0] 72)).alloc (Obj.map #[] 0)).alloc (Obj.cells #[Value.map (some (w.heap.size + 1))] 99)) (N + 1 + 1) 99 (.map (some (N + 1))) := by
    have := Boxed.new ((w.alloc (Obj.cells #[Value.slice (some ad) 1 c, Value.slice none 0 0, Value.slice none 0 0] 72)).alloc (Obj.map #[] 0)) 99 (.map (some (w.heap.size + 1)))
    simpa [hN] using this
  have s4 : (((w.alloc (Obj.cells #[Value.slice (some ad) 1 c, Value.slice none 0 0, Value.slice none 0 0] 72)).alloc (Obj.map #[] 0)).alloc (Obj.cells #[Value.map (some (w.heap.size + 1))] 99)).ownsMap Tryz.prog 9 heldR (N + 1) 0 (.map []) := by
    have := (World.ownsMap_made (w.alloc (Obj.cells #[Value.slice (some ad) 1 c, Value.slice none 0 0, Value.slice none 0 0] 72)) Tryz.prog 9 heldR).alloc (Obj.cells #[Value.map (some (w.heap.size + 1))] 99)
    simpa [hN] using this
  rw [← hN] at s1 s2 s3 s4 ⊢
  have HNN := Lib.hid hN
  clear hN
  have S := Lib.hid (And.intro s1 (And.intro s2 (And.intro s3 s4)))
  clear s1 s2 s3 s4
  go_loopg [28] 1 (fun k v wr => ((k = 1 ∧ v = .int .i64 0 ∧ wr.ownsMap Tryz.prog 9 heldR (N + 1) 0 (.map [])) ∨ (k = 0 ∧ v = .int .i64 1 ∧ x = true ∧ y = false)) ∧ wr.heap[N]? = some (Obj.cells #[Value.slice (some ad) 1 c, Value.slice none 0 0, Value.slice none 0 0] 72 (0, 0)) ∧ Boxed wr (N + 1 + 1) 99 (.map (some (N + 1))) ∧ Below N w wr)
  case atStart => exact ⟨.inl ⟨rfl, rfl, S.out.2.2.2⟩, S.out.2.1, S.out.2.2.1, S.out.1⟩
  case round =>
    clear S
    obtain ⟨hcase, hb, hbx, hB⟩ := hrel
    have f0 := blk_cell hb 0
    have f1 := blk_cell hb 1
    have f2 := blk_cell hb 2
    rcases hcase with ⟨rfl, rfl, hm⟩ | ⟨rfl, rfl, rfl, rfl⟩
    · have c0 := HH.out.1 _ hB
      have c1 := HH.out.2 _ hB
      have HC := Lib.hid (fun W (hW : Below wr.heap.size wr W) => HN.out (N + 1 + 1) (N + 1) W (by omega) (by rw [HNN.out]; exact Nat.le_trans hB.size hW.size) (blk_below hbx hW) (owns_below hm hW hm.lt))
      have hNl := blk_lt hb
      have hml := hm.lt
      have HB := Lib.hid hB
      clear HN hm HH
      cases x with
      | false =>
        go_wp2_with (go_at_call 58; go_must (refine (HC.out _ (by repeat (first | with_reducible exact Below.refl _ _ | with_reducible apply below_alloc | with_reducible apply Below.drew))).mono ?_); go_must (rintro e w2 ⟨rfl, hB2, hK2⟩))
        go_ret
        exact ⟨rfl, HB.out.trans ((((Below.refl N wr).alloc (Nat.le_of_lt hNl) _)).trans hB2)⟩
      | true =>
        cases y with
        | false =>
          go_wp2_with (go_at_call 58; go_must (refine (HC.out _ (by repeat (first | with_reducible exact Below.refl _ _ | with_reducible apply below_alloc | with_reducible apply Below.drew))).mono ?_); go_must (rintro e w2 ⟨rfl, hB2, hK2⟩); have k1 := blk_cell (hK2 _ _ (by omega) (blk_new wr _)) 1)
          go_roundg 0
          case measure => omega
          case rel => exact ⟨by first | exact .inr ⟨rfl, rfl, rfl, rfl⟩ | simp, hK2 _ _ (by omega) (blk_alloc hb _), hK2 _ _ (by omega) (blk_alloc hbx _), HB.out.trans ((((Below.refl N wr).alloc (Nat.le_of_lt hNl) _)).trans hB2)⟩
        | true =>
          go_wp2_with (go_at_call 58; go_must (refine (HC.out _ (by repeat (first | with_reducible exact Below.refl _ _ | with_reducible apply below_alloc | with_reducible apply Below.drew))).mono ?_); go_must (rintro e w2 ⟨rfl, hB2, hK2⟩); have k1 := blk_cell (hK2 _ _ (by omega) (blk_new wr _)) 1)
          go_ret
          exact ⟨rfl, HB.out.trans ((((Below.refl N wr).alloc (Nat.le_of_lt hNl) _)).trans hB2)⟩
    · clear HN HH
      have hNl := blk_lt hb
      go_wp2
      go_loopg [47] 1 (fun k v wr2 => k = 1 ∧ v = .int .i64 0 ∧ wr2 = wr)
      case atStart => exact ⟨rfl, rfl, rfl⟩
      case round =>
        obtain ⟨rfl, rfl, rfl⟩ := hrel
        go_wp2_with (go_at_call 61; go_must (refine (HF.out _).mono ?_); go_must (rintro e w2 ⟨rfl, hB2⟩))
        go_ret
        exact ⟨rfl, hB.trans (hB2.mono (Nat.le_of_lt hNl))⟩
theorem blk_new' {n : Nat} (w : World) (o : Obj) (h : n = w.heap.size) : (w.alloc o).heap[n]? = some o := by subst h; exact blk_new w o
set_option maxHeartbeats 1000000 in
set_option maxRecDepth 100000 in
theorem kern_New1.calls (s : ByteArray) (ad : Addr) (c : Nat) (w : World) (h0 : w.cell? ad = some (.string s)) (h1 : w.cell? (ad.add 1) = some (.slice none 0 0)) :
    Calls Tryz.prog 75 #[.agg #[.slice (some ad) 1 c, .slice none 0 0, .slice none 0 0]] w fun e w' =>
      (∃ p, e = .returned (.tuple #[.pointer p, .int .i64 (if kernNamed s then 0 else 61)])) ∧ Below w.heap.size w w' := by
  have hu := Tryz.underlying72
  have hu2 := Tryz.underlying50
  have hu3 := Tryz.underlying176
  have hmm := @run_makeMap Tryz.prog
  have HC := Lib.hid (fun W (hb : Below w.heap.size w W) => kern_Check1.calls s ad c 0 0 none W (pw_cell_below hb h0) (pw_cell_below hb h1))
  have HF := Lib.hid (fun W => faults_NewNil.calls W)
  have H0 : ∀ W, Below w.heap.size w W → W.cell? ad = some (.string s) := fun W hb => pw_cell_below hb h0
  have H1 : ∀ W, Below w.heap.size w W → W.cell? ⟨ad.block, ad.off + 1, none⟩ = some (.slice none 0 0) := fun W hb => pw_cell_below hb h1
  have HH := Lib.hid (And.intro H0 H1)
  clear H0 H1 h0 h1
  have hsz : (if 1048576 < 0 then (5 : Int) else 0) = 0 := rfl
  rw [hsz] at HC
  cases hk : kernNamed s with
  | false =>
    rw [hk] at HC
    clear hk
    go_enter Tryz.func75, Tryz.ntmps75
    go_wp2_with (go_at_call 31; go_must (refine (HC.out _ (by repeat (first | with_reducible exact Below.refl _ _ | with_reducible apply below_alloc | with_reducible apply Below.drew))).mono ?_); go_must (rintro e w2 ⟨rfl, hB2⟩))
    go_ret2
    exact ⟨⟨_, rfl⟩, below_step (below_alloc (Below.refl _ _) _) hB2⟩
  | true =>
    rw [hk] at HC
    have hs := kernNamed_le hk
    have HKEY := Lib.hid (key_str (s := s) (by unfold maxLen; omega))
    clear hk hs
    go_enter Tryz.func75, Tryz.ntmps75
    go_wp2_with (first
      | (go_at_call 31; go_must (refine (HC.out _ (by repeat (first | with_reducible exact Below.refl _ _ | with_reducible apply below_alloc | with_reducible apply Below.drew))).mono ?_); go_must (rintro e w2 ⟨rfl, hB2⟩); have hb2 := blk_below (blk_new w _) hB2; have f0 := blk_cell hb2 0; have f1 := blk_cell hb2 1; have f2 := blk_cell hb2 2; have l0 := blk_lt hb2; have l1 := Nat.lt_succ_of_lt l0; have l2 := Nat.lt_succ_of_lt l1; have l3 := Nat.lt_succ_of_lt l2; have hNK : ¬ w.heap.size = w2.heap.size + 1 + 1 + 1 := by omega)
      | (go_at_call 113; go_must (refine (HF.out _).mono ?_); go_must (rintro e w3 ⟨Bp, rfl, hB3⟩); have hk3 : w3.heap[w2.heap.size + 1 + 1 + 1]? = some _ := blk_below (blk_new' _ _ (by simp)) hB3; have hm3 := owns_below ((((World.ownsMap_made w2 Tryz.prog 9 heldR).alloc _).alloc _).alloc _) hB3 (by simp; omega); have hb3 := blk_below (blk_alloc (blk_alloc (blk_alloc (blk_alloc hb2 _) _) _) _) hB3; have g0 := blk_cell hb3 0; have g1 := blk_cell hb3 1; have g2 := blk_cell hb3 2; have g5 := blk_cell hk3 5; have z5 := blk_frozen hk3 5; clear f0 f1 f2)
      | go_in)
    have e1 := blk_put hk3 5 (.pointer (some ⟨Bp, 0, none⟩)) rfl
    have e2 := blk_far hb3 (p := ⟨w2.heap.size + 1 + 1 + 1, 5, none⟩) hNK (.pointer (some ⟨Bp, 0, none⟩))
    have e3 := hm3.setCell (a := ⟨w2.heap.size + 1 + 1 + 1, 5, none⟩) (by simp; omega) (.pointer (some ⟨Bp, 0, none⟩))
    have e4 : Below w.heap.size w (w3.setCell ⟨w2.heap.size + 1 + 1 + 1, 5, none⟩ (.pointer (some ⟨Bp, 0, none⟩))) := by
      have q1 := below_alloc (below_alloc (below_alloc (below_alloc (below_step (below_alloc (Below.refl w.heap.size w) _) hB2) (.map #[] 0)) (.map #[] 0)) (.map #[] 0)) (Obj.cells #[Value.bool true, Value.map (some w2.heap.size), Value.map (some (w2.heap.size + 1)), Value.map (some (w2.heap.size + 1 + 1)), Value.int IntKind.i64 1, Value.pointer none, Value.int IntKind.i64 0, Value.int IntKind.i64 0] 176)
      exact (below_step q1 hB3).setCell (by simp; omega) _
    clear hk3 hm3 hb3 g0 g1 g2 g5 z5 hB2 hB3 hb2
    generalize w3.setCell ⟨w2.heap.size + 1 + 1 + 1, 5, none⟩ (.pointer (some ⟨Bp, 0, none⟩)) = W at *
    obtain ⟨M, hM⟩ : ∃ M, M = w2.heap.size := ⟨_, rfl⟩
    rw [← hM] at e1 e3 l0 hNK ⊢
    have HE := Lib.hid (And.intro e1 (And.intro e2 (And.intro e3 e4)))
    clear e1 e2 e3 e4 l1 l2 l3 hM
    have HFN := Lib.hid (fun W => file_NewNil.calls W)
    go_loopg [32] 1 (fun k v wr => ((k = 1 ∧ v = .int .i64 0 ∧ wr.ownsMap Tryz.prog 9 heldR M 0 (.map [])) ∨ (k = 0 ∧ v = .int .i64 1)) ∧ wr.heap[M + 1 + 1 + 1]? = some (Obj.cells #[Value.bool true, Value.map (some M), Value.map (some (M + 1)), Value.map (some (M + 1 + 1)), Value.int IntKind.i64 1, Value.pointer (some ⟨Bp, 0, none⟩), Value.int IntKind.i64 0, Value.int IntKind.i64 0] 176 (0, 0)) ∧ wr.heap[w.heap.size]? = some (Obj.cells #[Value.slice (some ad) 1 c, Value.slice none 0 0, Value.slice none 0 0] 72 (0, 0)) ∧ Below w.heap.size w wr)
    case atStart => exact ⟨.inl ⟨rfl, rfl, HE.out.2.2.1⟩, HE.out.1, HE.out.2.1, HE.out.2.2.2⟩
    case round =>
      clear HE
      obtain ⟨hcase, hb1, hb2, hB⟩ := hrel
      have f0 := blk_cell hb2 0
      have f1 := blk_cell hb2 1
      have f2 := blk_cell hb2 2
      rcases hcase with ⟨rfl, rfl, hm⟩ | ⟨rfl, rfl⟩
      · have c0 := HH.out.1 _ hB
        have c1 := HH.out.2 _ hB
        have HM := Lib.hid hm
        have hml := hm.lt
        clear hm
        have hMl := blk_lt hb1
        have d0 := blk_cell (blk_alloc hb1 (Obj.cells #[Value.string s, Value.slice none 0 0] 50)) 1
        have d1 := blk_cell (blk_new wr (Obj.cells #[Value.string s, Value.slice none 0 0] 50)) 0
        have d2 := blk_cell (blk_new wr (Obj.cells #[Value.string s, Value.slice none 0 0] 50)) 1
        have HUP := Lib.hid (fun W v (hW : Below (wr.alloc (Obj.cells #[Value.string s, Value.slice none 0 0] 50)).heap.size (wr.alloc (Obj.cells #[Value.string s, Value.slice none 0 0] 50)) W) => (owns_below (HM.out.alloc _) hW (HM.out.alloc _).lt).update keyed9 Tryz.underlying170 (by decide) HKEY.out (val := v) rfl)
        go_wp2
        obtain ⟨F, hF⟩ : ∃ F, F = wr.heap.size := ⟨_, rfl⟩
        rw [← hF] at d1 d2 ⊢
        have HFF := Lib.hid hF
        clear hF
        refine start_ (n := 13) (S := fun w' => w'.cell? ⟨M + 1 + 1 + 1, 1, none⟩ = some (.map (some M)) ∧ w'.cell? ⟨F, 0, none⟩ = some (.string s) ∧ w'.cell? ⟨F, 1, none⟩ = some (.slice none 0 0)) (ds := [12]) #[false, false, false, false, false, false, false, false, false, false, false, false, false] (by kernel_rfl) rfl rfl ⟨d0, d1, d2⟩ (fun hHeld => ?_)
        refine pure_ (i := 0) (N := some 37) (v := ?_) (a' := ?_) #[true, false, false, false, false, false, false, false, false, false, false, false, false] rfl rfl (by kernel_rfl) (fun _ _ _ h => h) (Or.inl ⟨by rfl, ?_⟩) ?_ ?_
        rotate_left
        · intro w'
          go_simp
          with_reducible rfl
        rotate_left
        · simp only [Act.put, List.setIfInBounds_toArray, List.set_cons_zero, List.set_cons_succ, i64_w, i32_w]
          rfl
        refine pure_ (i := 1) (N := some 38) (v := ?_) (a' := ?_) #[true, true, false, false, false, false, false, false, false, false, false, false, false] rfl rfl (by kernel_rfl) (fun _ _ _ h => h) (Or.inl ⟨by rfl, ?_⟩) ?_ ?_
        rotate_left
        · intro w'
          go_simp
          with_reducible rfl
        rotate_left
        · simp only [Act.put, List.setIfInBounds_toArray, List.set_cons_zero, List.set_cons_succ, i64_w, i32_w]
          rfl
        refine pure_ (i := 2) (N := some 39) (v := ?_) (a' := ?_) #[true, true, true, false, false, false, false, false, false, false, false, false, false] rfl rfl (by kernel_rfl) (fun _ _ _ h => h) (Or.inl ⟨by rfl, ?_⟩) ?_ ?_
        rotate_left
        · intro w'
          go_simp
          with_reducible rfl
        rotate_left
        · simp only [Act.put, List.setIfInBounds_toArray, List.set_cons_zero, List.set_cons_succ, i64_w, i32_w]
          rfl
        refine pure_ (i := 4) (N := some 41) (v := ?_) (a' := ?_) #[true, true, true, false, true, false, false, false, false, false, false, false, false] rfl rfl (by kernel_rfl) (fun _ _ _ h => h) (Or.inl ⟨by rfl, ?_⟩) ?_ ?_
        rotate_left
        · intro w'
          go_simp
          with_reducible rfl
        rotate_left
        · simp only [Act.put, List.setIfInBounds_toArray, List.set_cons_zero, List.set_cons_succ, i64_w, i32_w]
          rfl
        refine pure_ (i := 6) (N := some 43) (v := ?_) (a' := ?_) #[true, true, true, false, true, false, true, false, false, false, false, false, false] rfl rfl (by kernel_rfl) (fun _ _ _ h => h) (Or.inl ⟨by rfl, ?_⟩) ?_ ?_
        rotate_left
        · intro w'
          go_simp
          with_reducible rfl
        rotate_left
        · simp only [Act.put, List.setIfInBounds_toArray, List.set_cons_zero, List.set_cons_succ, i64_w, i32_w]
          rfl
        refine take_ (i := 3) (N := some 40) (v := ?_) (a' := ?_) #[true, true, true, true, true, false, true, false, false, false, false, false, false] rfl rfl (by kernel_rfl) (fun _ _ _ h => h) (Or.inl ⟨by rfl, ?_⟩) hHeld ?_ ?_
        rotate_left
        · rintro w' ⟨s0, s1, s2⟩
          go_simp
          with_reducible rfl
        rotate_left
        · simp only [Act.put, List.setIfInBounds_toArray, List.set_cons_zero, List.set_cons_succ, i64_w, i32_w]
          rfl
        refine take_ (i := 5) (N := some 42) (v := ?_) (a' := ?_) #[true, true, true, true, true, true, true, false, false, false, false, false, false] rfl rfl (by kernel_rfl) (fun _ _ _ h => h) (Or.inl ⟨by rfl, ?_⟩) hHeld ?_ ?_
        rotate_left
        · rintro w' ⟨s0, s1, s2⟩
          go_simp
          with_reducible rfl
        rotate_left
        · simp only [Act.put, List.setIfInBounds_toArray, List.set_cons_zero, List.set_cons_succ, i64_w, i32_w]
          rfl
        refine take_ (i := 7) (N := some 44) (v := ?_) (a' := ?_) #[true, true, true, true, true, true, true, true, false, false, false, false, false] rfl rfl (by kernel_rfl) (fun _ _ _ h => h) (Or.inl ⟨by rfl, ?_⟩) hHeld ?_ ?_
        rotate_left
        · rintro w' ⟨s0, s1, s2⟩
          go_simp
          with_reducible rfl
        rotate_left
        · simp only [Act.put, List.setIfInBounds_toArray, List.set_cons_zero, List.set_cons_succ, i64_w, i32_w]
          rfl
        refine one_ (i := 8) (N := some 45) #[true, true, true, true, true, true, true, true, true, false, false, false, false] rfl rfl (by kernel_rfl) (by decide) (fun K hK => ?_)
        refine goes_ Tryz.func114 (by kernel_rfl) rfl #[.slice none 0 0] (by rfl) rfl rfl (by simp only [List.map_toArray, List.map_cons, List.map_nil]; rfl) ?_
        with_reducible refine (HFN.out _).mono ?_
        rintro e w5 ⟨Bf, rfl, hB5⟩
        refine ⟨_, rfl, ?_⟩
        obtain ⟨w6, hrun6, hm6, hg6⟩ := HUP.out w5 (.pointer (some ⟨Bf, 0, none⟩)) (below_step (below_drew (Below.refl _ _)) hB5)
        refine hK.out _ _ ⟨((hB5.cell (World.block_lt_of_cell? _ _ d0)).trans d0), ((hB5.cell (World.block_lt_of_cell? _ _ d1)).trans d1), ((hB5.cell (World.block_lt_of_cell? _ _ d2)).trans d2)⟩ (fun hHeld => ?_)
        clear hK K
        refine norm_ (a' := ?_) ?_ ?_
        rotate_left
        · show Act.put _ (some 45) _ = _
          simp only [Act.put, List.setIfInBounds_toArray, List.set_cons_zero, List.set_cons_succ, i64_w, i32_w]
          rfl
        refine pure_ (i := 9) (N := some 36) (v := ?_) (a' := ?_) #[true, true, true, true, true, true, true, true, true, true, false, false, false] rfl rfl (by kernel_rfl) (fun _ _ _ h => h) (Or.inl ⟨by rfl, ?_⟩) ?_ ?_
        rotate_left
        · intro w'
          go_simp
          with_reducible rfl
        rotate_left
        · simp only [Act.put, List.setIfInBounds_toArray, List.set_cons_zero, List.set_cons_succ, i64_w, i32_w]
          rfl
        refine pure_ (i := 10) (N := some 46) (v := ?_) (a' := ?_) #[true, true, true, true, true, true, true, true, true, true, true, false, false] rfl rfl (by kernel_rfl) (fun _ _ _ h => h) (Or.inl ⟨by rfl, ?_⟩) ?_ ?_
        rotate_left
        · intro w'
          go_simp
          with_reducible rfl
        rotate_left
        · simp only [Act.put, List.setIfInBounds_toArray, List.set_cons_zero, List.set_cons_succ, i64_w, i32_w]
          rfl
        refine pure_ (i := 11) (N := some 47) (v := ?_) (a' := ?_) #[true, true, true, true, true, true, true, true, true, true, true, true, false] rfl rfl (by kernel_rfl) (fun _ _ _ h => h) (Or.inl ⟨by rfl, ?_⟩) ?_ ?_
        rotate_left
        · intro w'
          go_simp
          with_reducible rfl
        rotate_left
        · simp only [Act.put, List.setIfInBounds_toArray, List.set_cons_zero, List.set_cons_succ, i64_w, i32_w]
          rfl
        refine last_ (i := 12) (N := none) #[true, true, true, true, true, true, true, true, true, true, true, true, true] rfl rfl (by kernel_rfl) (by decide) (fun K hK => ?_)
        refine skip_ (w1 := ?_) (by rfl) rfl ?_ ?_
        rotate_left
        · go_simp
          rfl
        refine hK.out _ _ ?_
        clear hK K
        refine done_ (by kernel_rfl) ?_
        have hB6 : Below w.heap.size w w6 := by
          have q := (((below_alloc hB (Obj.cells #[Value.string s, Value.slice none 0 0] 50)).drew).trans (hB5.mono (by simp; omega)))
          exact q.grown hg6 (Nat.le_trans (by omega) (Nat.le_trans hB.size (by have := hB5.size; simp at this; omega))) (fun k e => by cases e; omega)
        have g1 := blk_grown (blk_below (blk_drew (blk_alloc hb1 (Obj.cells #[Value.string s, Value.slice none 0 0] 50))) hB5) hg6 (by simp; omega)
        have g2 := blk_grown (blk_below (blk_drew (blk_alloc hb2 (Obj.cells #[Value.string s, Value.slice none 0 0] 50))) hB5) hg6 (by simp; omega)
        clear hHeld HUP HM d0 d1 d2 hm6 hrun6 hg6 hB5
        go_wp2
        go_roundg 0
        case measure => omega
        case rel => exact ⟨.inr ⟨rfl, rfl⟩, g1, g2, hB6⟩
      · have hl2 := blk_lt hb2
        clear HH HFN
        go_wp2
        go_loopg [52] 1 (fun k v wr2 => k = 1 ∧ v = .int .i64 0 ∧ wr2 = wr)
        case atStart => exact ⟨rfl, rfl, rfl⟩
        case round =>
          obtain ⟨rfl, rfl, rfl⟩ := hrel
          go_wp2
          go_ret2
          exact ⟨⟨_, rfl⟩, hB⟩
def signB (s : ByteArray) : Bool := (s.toList == ([124] : List UInt8)) || ((s.toList == ([60] : List UInt8)) || ((s.toList == ([62] : List UInt8)) || (s.toList == ([62, 62] : List UInt8))))
theorem shell_sign_is (s : ByteArray) : shell_sign.f s = some (signB s) := by
  unfold shell_sign.f signB
  by_cases h1 : s.toList = ([124] : List UInt8)
  · simp [h1]
  · by_cases h2 : s.toList = ([60] : List UInt8)
    · simp [h2]
    · by_cases h3 : s.toList = ([62] : List UInt8)
      · simp [h3]
      · rw [if_neg h1, if_neg h2, if_neg h3]
        have g1 : (s.toList == ([124] : List UInt8)) = false := by simpa using h1
        have g2 : (s.toList == ([60] : List UInt8)) = false := by simpa using h2
        have g3 : (s.toList == ([62] : List UInt8)) = false := by simpa using h3
        rw [g1, g2, g3]; rfl
def shell_named.f (s : ByteArray) : Option Bool := some (kernNamed s && !signB s)
set_option maxHeartbeats 1000000 in
set_option maxRecDepth 100000 in
theorem shell_named.calls (s : ByteArray) (r : Bool) (w : World) (h : shell_named.f s = some r) :
    Calls Tryz.prog 41 #[.string s] w fun e w' => e = .returned (.bool r) ∧ Below w.heap.size w w' := by
  obtain rfl := Option.some.inj h
  clear h
  have HN := Lib.hid (fun ad c W => kern_New1.calls s ad c W)
  have HS := Lib.hid (fun W => shell_sign.calls s _ W (shell_sign_is s))
  cases hk : kernNamed s with
  | false =>
    rw [hk] at HN
    clear hk
    go_enter Tryz.func41, Tryz.ntmps41
    go_wp2_with (go_at_call 75; go_must (refine (HN.out _ _ _ (blk_cell (blk_new w _) 0) (blk_cell (blk_new w _) 1)).mono ?_); go_must (rintro e w2 ⟨⟨p, rfl⟩, hB2⟩))
    go_ret
    exact ⟨rfl, below_step (below_alloc (Below.refl _ _) _) hB2⟩
  | true =>
    rw [hk] at HN
    clear hk
    obtain ⟨y, hy⟩ : ∃ y, signB s = y := ⟨_, rfl⟩
    rw [hy] at HS ⊢
    clear hy
    go_enter Tryz.func41, Tryz.ntmps41
    go_wp2_with (first
      | (go_at_call 75; go_must (refine (HN.out _ _ _ (blk_cell (blk_new w _) 0) (blk_cell (blk_new w _) 1)).mono ?_); go_must (rintro e w2 ⟨⟨p, rfl⟩, hB2⟩))
      | (go_at_call 76; go_must (refine (HS.out _).mono ?_); go_must (rintro e w3 ⟨rfl, ⟨nd, rfl⟩⟩))
      | go_in)
    go_ret
    exact ⟨by first | rfl | simp, pw_below_drewN (below_step (below_alloc (Below.refl _ _) _) hB2) _⟩
def slices_Reverse_byte_byte.l0 : Nat → List Int → Int → Int → Option (List Int)
  | 0, _, _, _ => none
  | k + 1, x0, x2, x3 => if x2 < x3 then (if 0 ≤ x3 then (if x3 < (x0.length : Int) then (if 0 ≤ x2 then (if x2 < (x0.length : Int) then (slices_Reverse_byte_byte.l0 k ((x0.set (x2 : Int).toNat (rd x0 x3)).set (x3 : Int).toNat (rd x0 x2)) (wrap64 (x2 + 1)) (wrap64 (x3 - 1))) else (none)) else (none)) else (none)) else (none)) else (some x0)
def slices_Reverse_byte_byte.f (k : Nat) (l0 : List Int) : Option (List Int) := slices_Reverse_byte_byte.l0 k l0 0 (wrap64 ((l0.length : Int) - 1))
theorem slices_Reverse_byte_byte.mono_l : ∀ k, (∀ y0 y1 y2, LeO (slices_Reverse_byte_byte.l0 k y0 y1 y2) (slices_Reverse_byte_byte.l0 (k + 1) y0 y1 y2))
  | 0 => fun _ _ _ r h => by simp [slices_Reverse_byte_byte.l0] at h
  | k + 1 => by
    have ih0 := slices_Reverse_byte_byte.mono_l k
    · intro y0 y1 y2
      unfold slices_Reverse_byte_byte.l0
      repeat' first
      | (with_reducible exact ih0 _ _ _)
      | (with_reducible exact LeO.refl _)
      | (with_reducible exact LeO.none _)
      | (with_reducible refine LeO.ite ?_ ?_)
      | (with_reducible refine LeO.bind ?_ (fun _ => ?_))
      | exact ih0 _ _ _
      | exact LeO.none _
      | refine LeO.ite ?_ ?_
      | refine LeO.bind ?_ (fun _ => ?_)
theorem slices_Reverse_byte_byte.mono : ∀ a0 k, LeO (slices_Reverse_byte_byte.f k a0) (slices_Reverse_byte_byte.f (k + 1) a0) := by
  intro a0 k
  have ih0 := slices_Reverse_byte_byte.mono_l k
  unfold slices_Reverse_byte_byte.f
  repeat' first
      | (with_reducible exact ih0 _ _ _)
      | (with_reducible exact LeO.refl _)
      | (with_reducible exact LeO.none _)
      | (with_reducible refine LeO.ite ?_ ?_)
      | (with_reducible refine LeO.bind ?_ (fun _ => ?_))
      | exact ih0 _ _ _
      | exact LeO.none _
      | refine LeO.ite ?_ ?_
      | refine LeO.bind ?_ (fun _ => ?_)
def slices_Reverse_byte_byte.T3 : Bool × List (List Nat × List Nat) := (true, [([], []), ([], []), ([], []), ([], []), ([], []), ([], []), ([4, 5], [4, 5]), ([6], [6]), ([], []), ([], []), ([8, 9], [8, 9]), ([10], [10]), ([0, 1, 0, 1, 4, 5, 6, 7, 11], [0, 1]), ([12, 7, 0, 1, 4, 5, 6, 7, 11], [7, 12]), ([2, 3, 0, 1, 2, 3, 4, 5, 6, 7, 8, 9, 10, 11, 12, 13], [2, 3]), ([14, 11, 13, 0, 1, 2, 3, 4, 5, 6, 7, 8, 9, 10, 11, 12, 13], [11, 14])])
def slices_Reverse_byte_byte.B3 : List Nat := [0, 0, 0, 0, 0, 0, 48, 112, 0, 0, 768, 1792, 4083, 8179, 16383, 32767]
theorem slices_Reverse_byte_byte.tab3 : rtab .any (opsOf Tryz.f96 3) = slices_Reverse_byte_byte.T3 := by kernel_rfl
theorem slices_Reverse_byte_byte.bits3 : waitsOk slices_Reverse_byte_byte.T3.2 slices_Reverse_byte_byte.B3 = true := by kernel_rfl
set_option maxHeartbeats 8000000 in
set_option maxRecDepth 100000 in
theorem slices_Reverse_byte_byte.calls (k : Nat) (P0_ : Nat → Prop) (u9000_ : Value) (l0 : List Int) (r : List Int) (w0 w : World) (hB : Below w0.heap.size w0 w) (ho0 : Kd.R (Kd.int .u8) 5 w w0.heap.size P0_ u9000_ l0) (h : slices_Reverse_byte_byte.f k l0 = some r) :
    Calls Tryz.prog 96 #[u9000_] w fun e w' => e = .returned (.tuple #[]) ∧ Kd.R (Kd.int .u8) 5 w' w0.heap.size (fun k_ => (P0_ k_ ∨ w.heap.size ≤ k_)) u9000_ r ∧ Below w0.heap.size w0 w' ∧ Kept w w' (fun k_ => P0_ k_) := by
  have HO0 := Aside0.mk (show Kd.R (Kd.int .u8) 5 w w0.heap.size (fun k_ => (P0_ k_ ∨ w.heap.size ≤ k_)) u9000_ l0 from Kd.R_mono ho0 (fun k_ hk => (.inl hk)))
  have HK := Aside0.mk (Kept.refl w (fun k_ => P0_ k_))
  have HW0 := Aside0.mk hB.size
  have HB := Aside0.mk hB
  clear hB
  have H : (slices_Reverse_byte_byte.l0 k l0 0 (wrap64 ((l0.length : Int) - 1))) = some r := h
  clear h
  have H' := Aside0.mk H
  clear H
  obtain ⟨Ao2, co2, eo2⟩ := Kd.R_slice HO0.out
  subst eo2
  go_enter Tryz.func96, Tryz.ntmps96
  go_wp2
  go_loopg [2, 3] k (fun kq v2 v3 w' => ∃ (x0_1 : List Int) (x2_1 : Int) (x3_1 : Int), v2 = .int .i64 x2_1 ∧ v3 = .int .i64 x3_1 ∧ Aside0 (slices_Reverse_byte_byte.l0 kq x0_1 x2_1 x3_1 = some r) ∧ Aside0 (kq ≤ k) ∧ Aside0 (Kd.R (Kd.int .u8) 5 w' w0.heap.size (fun k_ => (P0_ k_ ∨ w.heap.size ≤ k_)) (.slice Ao2 l0.length co2) x0_1) ∧ Aside0 (Kept w w' (fun k_ => P0_ k_)) ∧ Aside0 (Below w0.heap.size w0 w'))
  case atStart => exact ⟨(l0), (0), (wrap64 ((l0.length : Int) - 1)), (by first | rfl | (simp; done) | (simp [*]; done)), (by first | rfl | (simp; done) | (simp [*]; done)), H', ⟨Nat.le_refl _⟩, ⟨by (with_reducible repeat (first | apply Kd.R_alloc | apply Kd.R_drewN | apply Kd.R_drew)); exact HO0.out⟩, ⟨by repeat (first | (with_reducible first | exact HK.out | apply Kept.alloc | apply Kept.drewN | apply Kept.drew) | exact HK.out)⟩, ⟨by repeat (first | (with_reducible first | exact HB.out | apply below_alloc | apply pw_below_drewN | apply below_drew1) | exact HB.out)⟩⟩
  case round =>
    clear H'
    try clear p2
    obtain ⟨x0_1, x2_1, x3_1, rfl, rfl, HA, HK1, HO_0, HK, HB⟩ := hrel
    have hl0_1 := (Kd.R_reads' HO_0.out).1
    rw [hl0_1] at HO_0
    (try simp only [hl0_1])
    cases gk with
    | zero => exact absurd HA.out (by simp [slices_Reverse_byte_byte.l0])
    | succ k1 =>
      have H := HA.out
      clear HA
      simp only [slices_Reverse_byte_byte.l0] at H
      by_cases c3 : x2_1 < x3_1
      · rw [if_pos c3] at H
        have c3b0 : decide (x2_1 < x3_1) = true := decide_eq_true c3
        clear c3
        by_cases c4 : 0 ≤ x3_1
        · rw [if_pos c4] at H
          have c4b0 : decide (0 ≤ x3_1) = true := decide_eq_true c4
          clear c4
          by_cases c5 : x3_1 < (x0_1.length : Int)
          · rw [if_pos c5] at H
            have c5b0 : decide (x3_1 < (x0_1.length : Int)) = true := decide_eq_true c5
            clear c5
            by_cases c6 : 0 ≤ x2_1
            · rw [if_pos c6] at H
              have c6b0 : decide (0 ≤ x2_1) = true := decide_eq_true c6
              clear c6
              by_cases c7 : x2_1 < (x0_1.length : Int)
              · rw [if_pos c7] at H
                have c7b0 : decide (x2_1 < (x0_1.length : Int)) = true := decide_eq_true c7
                clear c7
                obtain ⟨y103, hy103⟩ : ∃ y_ : List Int, y_ = (x0_1.set (x2_1 : Int).toNat (rd x0_1 x3_1)) := ⟨_, rfl⟩
                replace H : (slices_Reverse_byte_byte.l0 k1 (y103.set (x3_1 : Int).toNat (rd x0_1 x2_1)) (wrap64 (x2_1 + 1)) (wrap64 (x3_1 - 1))) = some r := by first | (rw [hy103]; with_reducible exact H) | (have H2_ := (Option.bind_some _ _).symm.trans H; rw [hy103]; with_reducible exact H2_) | (have H2_ := (Option.bind_some _ _).symm.trans H; with_reducible exact H2_) | with_reducible exact H | (rw [hy103]; exact H) | exact H
                have Ny103 := Aside0.mk hy103
                clear hy103
                obtain ⟨y104, hy104⟩ : ∃ y_ : List Int, y_ = (y103.set (x3_1 : Int).toNat (rd x0_1 x2_1)) := ⟨_, rfl⟩
                replace H : (slices_Reverse_byte_byte.l0 k1 y104 (wrap64 (x2_1 + 1)) (wrap64 (x3_1 - 1))) = some r := by first | (rw [hy104]; with_reducible exact H) | (have H2_ := (Option.bind_some _ _).symm.trans H; rw [hy104]; with_reducible exact H2_) | (have H2_ := (Option.bind_some _ _).symm.trans H; with_reducible exact H2_) | with_reducible exact H | (rw [hy104]; exact H) | exact H
                have Ny104 := Aside0.mk hy104
                clear hy104
                have H' := Aside0.mk H
                clear H
                try go_wp2
                have n0_ := Aside0.mk (Kd.R_drew HO_0.out)
                have n1_ := Aside0.mk (Kept.drew HK.out)
                have n2_ := Aside0.mk (below_drew1 HB.out)
                clear HO_0
                clear HK
                clear HB
                have HO_0 := n0_
                have HK := n1_
                have HB := n2_
                clear n0_ n1_ n2_
                have p101 : 0 ≤ (x3_1 : Int) := of_decide_eq_true (by first | (with_reducible assumption) | assumption)
                have q101 : x3_1 < (x0_1.length : Int) := of_decide_eq_true (by first | (with_reducible assumption) | assumption)
                obtain ⟨ad101, e101, hx101_0⟩ := Kd.at_int (Kd.R_reads' HO_0.out).2.2 x3_1 p101 q101
                cases e101
                replace p101 := eq_true p101
                replace q101 := eq_true q101
                have p102 : 0 ≤ (x2_1 : Int) := of_decide_eq_true (by first | (with_reducible assumption) | assumption)
                have q102 : x2_1 < (x0_1.length : Int) := of_decide_eq_true (by first | (with_reducible assumption) | assumption)
                obtain ⟨ad102, e102, hx102_0⟩ := Kd.at_int (Kd.R_reads' HO_0.out).2.2 x2_1 p102 q102
                obtain rfl : ad101 = ad102 := (by injection e102)
                replace p102 := eq_true p102
                replace q102 := eq_true q102
                have p8 : 0 ≤ (x2_1 : Int) := of_decide_eq_true (by first | (with_reducible assumption) | assumption)
                have q8 : (x2_1 : Int) < ((x0_1.length : Int) : Int) := of_decide_eq_true (by first | (with_reducible assumption) | assumption)
                obtain ⟨go8, co8, eo8, gb8, gl8, cl8, HG8⟩ := Kd.R_form HO_0.out (by omega)
                (first | cases eo8 | (injection eo8 with ea_ en_ ec_; (first | subst ea_ | (injection ea_ with ea_; subst ea_)); subst ec_; clear en_))
                have GB8 := Aside0.mk gb8
                have GG8 := Aside0.mk HG8
                clear gb8 gl8 HG8
                have HMgo8 := Aside0.mk (show (P0_ go8 ∨ w.heap.size ≤ go8) from (HO_0.out.1 _ rfl))
                (first | simp only [add_plain] at hx101_0 | skip)
                (first | simp only [add_plain] at hx102_0 | skip)
                obtain ⟨hx8_0, hf8_0⟩ := Kd.R_celln 0 HO_0.out (x2_1 : Int) p8 q8
                replace p8 := eq_true p8
                replace q8 := eq_true q8
                have HP11 := Kd.R_putn HO_0.out (x2_1 : Int) (rd x0_1 x3_1)
                rw [← Ny103.out] at HP11
                have HQ11 := Aside0.mk HP11
                clear HP11
                have p9 : 0 ≤ (x3_1 : Int) := of_decide_eq_true (by first | (with_reducible assumption) | assumption)
                have q9 : (x3_1 : Int) < ((x0_1.length : Int) : Int) := of_decide_eq_true (by first | (with_reducible assumption) | assumption)
                obtain ⟨hx9_0, hf9_0⟩ := Kd.R_celln 0 HQ11.out (x3_1 : Int) p9 q9
                replace p9 := eq_true p9
                replace q9 := eq_true q9
                have HP12 := Kd.R_putn HQ11.out (x3_1 : Int) (rd x0_1 x2_1)
                rw [← Ny104.out] at HP12
                have HQ12 := Aside0.mk HP12
                clear HP12
                refine start_ (n := 16) (S := fun w' => w'.cell? ⟨go8, (x3_1).toNat, none⟩ = some (.int .u8 (rd x0_1 x3_1)) ∧ w'.cell? ⟨go8, (x2_1).toNat, none⟩ = some (.int .u8 (rd x0_1 x2_1))) (ds := [13, 15]) #[false, false, false, false, false, false, false, false, false, false, false, false, false, false, false, false] (by kernel_rfl) rfl rfl ⟨hx101_0, hx102_0⟩ (fun hHeld => ?_); refine with_tabW slices_Reverse_byte_byte.tab3 slices_Reverse_byte_byte.bits3 (fun HT_ HW_ => ?_)
                generalize wr.drew = w10 at HO_0 HK HB GG8 HQ11 HQ12 hf8_0 hf9_0 hx101_0 hx102_0 hx8_0 hx9_0 hHeld ⊢
                refine pure_ (i := 0) (N := some 14) (v := ?_) (a' := ?_) #[true, false, false, false, false, false, false, false, false, false, false, false, false, false, false, false] rfl rfl (any_of HT_.out (by kernel_rfl)) (fun _ _ _ h => h) (Or.inl ⟨by rfl, ?_⟩) ?_ ?_
                rotate_left
                · intro w'
                  go_simp
                  with_reducible rfl
                rotate_left
                · simp only [Act.put, List.setIfInBounds_toArray, List.set_cons_zero, List.set_cons_succ, i64_w, i32_w]
                  rfl
                refine pure_ (i := 1) (N := some 15) (v := ?_) (a' := ?_) #[true, true, false, false, false, false, false, false, false, false, false, false, false, false, false, false] rfl rfl (any_of HT_.out (by kernel_rfl)) (fun _ _ _ h => h) (Or.inl ⟨by rfl, ?_⟩) ?_ ?_
                rotate_left
                · intro w'
                  go_simp
                  with_reducible rfl
                rotate_left
                · simp only [Act.put, List.setIfInBounds_toArray, List.set_cons_zero, List.set_cons_succ, i64_w, i32_w]
                  rfl
                refine pure_ (i := 2) (N := some 16) (v := ?_) (a' := ?_) #[true, true, true, false, false, false, false, false, false, false, false, false, false, false, false, false] rfl rfl (any_of HT_.out (by kernel_rfl)) (fun _ _ _ h => h) (Or.inl ⟨by rfl, ?_⟩) ?_ ?_
                rotate_left
                · intro w'
                  go_simp
                  with_reducible rfl
                rotate_left
                · simp only [Act.put, List.setIfInBounds_toArray, List.set_cons_zero, List.set_cons_succ, i64_w, i32_w]
                  rfl
                refine pure_ (i := 3) (N := some 17) (v := ?_) (a' := ?_) #[true, true, true, true, false, false, false, false, false, false, false, false, false, false, false, false] rfl rfl (any_of HT_.out (by kernel_rfl)) (fun _ _ _ h => h) (Or.inl ⟨by rfl, ?_⟩) ?_ ?_
                rotate_left
                · intro w'
                  go_simp
                  with_reducible rfl
                rotate_left
                · simp only [Act.put, List.setIfInBounds_toArray, List.set_cons_zero, List.set_cons_succ, i64_w, i32_w]
                  rfl
                refine pure_ (i := 4) (N := some 18) (v := ?_) (a' := ?_) #[true, true, true, true, true, false, false, false, false, false, false, false, false, false, false, false] rfl rfl (any_of HT_.out (by kernel_rfl)) (fun _ _ _ h => h) (Or.inl ⟨by rfl, ?_⟩) ?_ ?_
                rotate_left
                · intro w'
                  go_simp
                  with_reducible rfl
                rotate_left
                · simp only [Act.put, List.setIfInBounds_toArray, List.set_cons_zero, List.set_cons_succ, i64_w, i32_w]
                  rfl
                refine pure_ (i := 5) (N := some 19) (v := ?_) (a' := ?_) #[true, true, true, true, true, true, false, false, false, false, false, false, false, false, false, false] rfl rfl (any_of HT_.out (by kernel_rfl)) (fun _ _ _ h => h) (Or.inl ⟨by rfl, ?_⟩) ?_ ?_
                rotate_left
                · intro w'
                  go_simp
                  with_reducible rfl
                rotate_left
                · simp only [Act.put, List.setIfInBounds_toArray, List.set_cons_zero, List.set_cons_succ, i64_w, i32_w]
                  rfl
                refine pure_ (i := 6) (N := some 20) (v := ?_) (a' := ?_) #[true, true, true, true, true, true, true, false, false, false, false, false, false, false, false, false] rfl rfl (any_of HT_.out (by kernel_rfl)) (fun _ _ _ h => h) (Or.inl ⟨by rfl, ?_⟩) ?_ ?_
                rotate_left
                · intro w'
                  go_simp
                  with_reducible rfl
                rotate_left
                · simp only [Act.put, List.setIfInBounds_toArray, List.set_cons_zero, List.set_cons_succ, i64_w, i32_w]
                  rfl
                refine pure_ (i := 8) (N := some 22) (v := ?_) (a' := ?_) #[true, true, true, true, true, true, true, false, true, false, false, false, false, false, false, false] rfl rfl (any_of HT_.out (by kernel_rfl)) (fun _ _ _ h => h) (Or.inl ⟨by rfl, ?_⟩) ?_ ?_
                rotate_left
                · intro w'
                  go_simp
                  with_reducible rfl
                rotate_left
                · simp only [Act.put, List.setIfInBounds_toArray, List.set_cons_zero, List.set_cons_succ, i64_w, i32_w]
                  rfl
                refine pure_ (i := 9) (N := some 23) (v := ?_) (a' := ?_) #[true, true, true, true, true, true, true, false, true, true, false, false, false, false, false, false] rfl rfl (any_of HT_.out (by kernel_rfl)) (fun _ _ _ h => h) (Or.inl ⟨by rfl, ?_⟩) ?_ ?_
                rotate_left
                · intro w'
                  go_simp
                  with_reducible rfl
                rotate_left
                · simp only [Act.put, List.setIfInBounds_toArray, List.set_cons_zero, List.set_cons_succ, i64_w, i32_w]
                  rfl
                refine pure_ (i := 10) (N := some 24) (v := ?_) (a' := ?_) #[true, true, true, true, true, true, true, false, true, true, true, false, false, false, false, false] rfl rfl (any_of HT_.out (by kernel_rfl)) (fun _ _ _ h => h) (Or.inl ⟨by rfl, ?_⟩) ?_ ?_
                rotate_left
                · intro w'
                  go_simp
                  with_reducible rfl
                rotate_left
                · simp only [Act.put, List.setIfInBounds_toArray, List.set_cons_zero, List.set_cons_succ, i64_w, i32_w]
                  rfl
                refine take_ (i := 7) (N := some 21) (v := ?_) (a' := ?_) #[true, true, true, true, true, true, true, true, true, true, true, false, false, false, false, false] rfl rfl (take_ofW HT_.out HW_.out (by kernel_rfl)) (fun _ _ _ h => h) (Or.inl ⟨by rfl, ?_⟩) hHeld ?_ ?_
                rotate_left
                · rintro w' ⟨s0, s1⟩
                  go_simp
                  with_reducible rfl
                rotate_left
                · simp only [Act.put, List.setIfInBounds_toArray, List.set_cons_zero, List.set_cons_succ, i64_w, i32_w]
                  rfl
                refine take_ (i := 11) (N := some 25) (v := ?_) (a' := ?_) #[true, true, true, true, true, true, true, true, true, true, true, true, false, false, false, false] rfl rfl (take_ofW HT_.out HW_.out (by kernel_rfl)) (fun _ _ _ h => h) (Or.inl ⟨by rfl, ?_⟩) hHeld ?_ ?_
                rotate_left
                · rintro w' ⟨s0, s1⟩
                  go_simp
                  with_reducible rfl
                rotate_left
                · simp only [Act.put, List.setIfInBounds_toArray, List.set_cons_zero, List.set_cons_succ, i64_w, i32_w]
                  rfl
                refine pure_ (i := 12) (N := some 26) (v := ?_) (a' := ?_) #[true, true, true, true, true, true, true, true, true, true, true, true, true, false, false, false] rfl rfl (any_of HT_.out (by kernel_rfl)) (fun _ _ _ h => h) (Or.inl ⟨by rfl, ?_⟩) ?_ ?_
                rotate_left
                · intro w'
                  go_simp
                  with_reducible rfl
                rotate_left
                · simp only [Act.put, List.setIfInBounds_toArray, List.set_cons_zero, List.set_cons_succ, i64_w, i32_w]
                  rfl
                refine last_ (i := 13) (N := none) #[true, true, true, true, true, true, true, true, true, true, true, true, true, true, false, false] rfl rfl (one_of HT_.out (by kernel_rfl)) (by decide) (fun K hK => ?_)
                refine skip_ (w1 := ?_) (by rfl) rfl ?_ ?_
                rotate_left
                · go_simp
                  rfl
                refine hK.out _ _ ?_
                clear hK K
                refine pure_ (i := 14) (N := some 27) (v := ?_) (a' := ?_) #[true, true, true, true, true, true, true, true, true, true, true, true, true, true, true, false] rfl rfl (any_of HT_.out (by kernel_rfl)) (fun _ _ _ h => h) (Or.inl ⟨by rfl, ?_⟩) ?_ ?_
                rotate_left
                · intro w'
                  go_simp
                  with_reducible rfl
                rotate_left
                · simp only [Act.put, List.setIfInBounds_toArray, List.set_cons_zero, List.set_cons_succ, i64_w, i32_w]
                  rfl
                refine last_ (i := 15) (N := none) #[true, true, true, true, true, true, true, true, true, true, true, true, true, true, true, true] rfl rfl (one_of HT_.out (by kernel_rfl)) (by decide) (fun K hK => ?_)
                refine skip_ (w1 := ?_) (by rfl) rfl ?_ ?_
                rotate_left
                · go_simp
                  rfl
                refine hK.out _ _ ?_
                clear hK K
                refine done_ (done_of HT_.out (by kernel_rfl)) ?_
                try go_wp2
                (try simp only [← hl0_1])
                go_roundg k1
                case measure => have := HK1.out; omega
                case rel => exact ⟨(y104), (wrap64 (x2_1 + 1)), (wrap64 (x3_1 - 1)), (by first | rfl | (simp; done) | (simp [*]; done)), (by first | rfl | (simp; done) | (simp [*]; done)), H', ⟨by have := HK1.out; omega⟩, ⟨by (try simp only [hl0_1]); (with_reducible repeat (first | apply Kd.R_alloc | apply Kd.R_drewN | apply Kd.R_drew)); exact HQ12.out⟩, ⟨by repeat (first | (with_reducible first | exact HK.out | apply Kept.alloc | apply Kept.drewN | apply Kept.drew | refine Kept.setCell ?_ HMgo8.out _ | refine Kept.setCell ?_ HMgo8.out _) | exact HK.out)⟩, ⟨by repeat (first | (with_reducible first | exact HB.out | apply below_alloc | apply pw_below_drewN | apply below_drew1 | refine below_set ?_ GB8.out | refine below_set ?_ GB8.out) | exact HB.out)⟩⟩
              · rw [if_neg c7] at H
                exact absurd H (by simp)
            · rw [if_neg c6] at H
              exact absurd H (by simp)
          · rw [if_neg c5] at H
            exact absurd H (by simp)
        · rw [if_neg c4] at H
          exact absurd H (by simp)
      · rw [if_neg c3] at H
        have c3b0 : decide (x2_1 < x3_1) = false := decide_eq_false c3
        clear c3
        obtain rfl := Option.some.inj H
        go_wp2
        first | go_end0 | ((try simp only [Exit.inBlock, Exit.then]); refine bodyPost_ret (results_none rfl _ _ _) rfl ?_)
        exact ⟨by first | rfl | (simp [errW_none, errW_some] <;> rfl) | (simp [*, errW_none, errW_some] <;> rfl), (by first | exact (by (with_reducible repeat (first | apply Kd.R_alloc | apply Kd.R_drewN | apply Kd.R_drew)); exact HO_0.out) | (simp only [hl0_1]; exact (by (with_reducible repeat (first | apply Kd.R_alloc | apply Kd.R_drewN | apply Kd.R_drew)); exact HO_0.out))), by repeat (first | (with_reducible first | exact HB.out | apply below_alloc | apply pw_below_drewN | apply below_drew1) | exact HB.out), by repeat (first | (with_reducible first | exact HK.out | apply Kept.alloc | apply Kept.drewN | apply Kept.drew) | exact HK.out)⟩
end Go.Proofs.YthmijenlndnmcaaGreatDoor.Sh
