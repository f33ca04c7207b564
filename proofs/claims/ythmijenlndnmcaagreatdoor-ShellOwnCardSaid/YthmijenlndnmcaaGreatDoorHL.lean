/-
  Hand-made contracts of functions of the program: OwnA, OwnA2.
-/
import Derived.Test.YthmijenlndnmcaaGreatDoorSx50
import Derived.Test.YthmijenlndnmcaaGreatDoorHD
import Derived.Test.YthmijenlndnmcaaGreatDoorShx2
import Derived.Test.YthmijenlndnmcaaGreatDoorShx0
namespace Go.Proofs.YthmijenlndnmcaaGreatDoor.Sh
open Go.RowKit Go.Proofs.YthmijenlndnmcaaGreatDoorW.PrintWords Go.Proofs.YthmijenlndnmcaaGreatDoorW.PrintLast Go.Proofs.YthmijenlndnmcaaGreatDoorW.PrintMore
attribute [local go_sem] max2_int min2_int max_two min_two max_three min_three max_four min_four
set_option linter.unusedVariables false
set_option linter.unusedSimpArgs false
def KL (s : ByteArray) : Lit := .string s.data.toList
theorem KL_inj {s t : ByteArray} (h : KL s = KL t) : s = t := by
  injection h with h
  exact str_eq_of h
theorem KL_key (s : ByteArray) : WideAt.IsKeyLit (KL s) := by first | trivial | exact ⟨_, rfl⟩ | simp [KL, WideAt.IsKeyLit]
def MapOf (D : DataW Value) (E : List (ByteArray × Value)) : Prop :=
  Maps.IsMap D ∧ (∀ kl, Maps.has D kl = true ↔ ∃ p ∈ E, kl = KL p.1) ∧ ∀ p ∈ E, ∀ z, D.atKey (KL p.1) z = .held p.2
theorem MapOf.nil : MapOf (.map []) [] := ⟨Maps.isMap_empty, fun kl => by simp [Maps.has_eq], fun p hp => by cases hp⟩
theorem MapOf.put {D : DataW Value} {E : List (ByteArray × Value)} (h : MapOf D E) (s : ByteArray) (v : Value) (hs : ∀ p ∈ E, p.1 ≠ s) : MapOf (D.put (KL s) (.held v)) (E ++ [(s, v)]) := by
  obtain ⟨h1, h2, h3⟩ := h
  refine ⟨h1.put _ _, fun kl => ?_, fun p hp z => ?_⟩
  · by_cases e : kl = KL s
    · subst e
      rw [Maps.has_put_same h1 (KL_key s)]
      simp
    · rw [Maps.has_put_other e, h2]
      simp only [List.mem_append, List.mem_singleton]
      constructor
      · rintro ⟨p, hp, rfl⟩; exact ⟨p, .inl hp, rfl⟩
      · rintro ⟨p, hp | rfl, rfl⟩
        · exact ⟨p, hp, rfl⟩
        · exact absurd rfl e
  · rcases List.mem_append.1 hp with hp | hp
    · rw [Maps.atKey_put_other (fun e => hs p hp (KL_inj e)), h3 p hp]
    · rw [List.mem_singleton.1 hp, Maps.atKey_put_same h1 (KL_key s)]
theorem MapOf.over {D : DataW Value} {E : List (ByteArray × Value)} (h : MapOf D E) (s : ByteArray) (v : Value) (hs : ∃ p ∈ E, p.1 = s) : MapOf (D.put (KL s) (.held v)) (E.map fun p => if p.1 = s then (s, v) else p) := by
  obtain ⟨h1, h2, h3⟩ := h
  refine ⟨h1.put _ _, fun kl => ?_, fun p hp z => ?_⟩
  · have key : (∃ p ∈ E.map (fun p => if p.1 = s then (s, v) else p), kl = KL p.1) ↔ ∃ p ∈ E, kl = KL p.1 := by
      constructor
      · rintro ⟨p, hp, rfl⟩
        obtain ⟨q, hq, rfl⟩ := List.mem_map.1 hp
        refine ⟨q, hq, ?_⟩
        split
        · rename_i e; rw [e]
        · rfl
      · rintro ⟨q, hq, rfl⟩
        refine ⟨_, List.mem_map_of_mem hq, ?_⟩
        split
        · rename_i e; rw [e]
        · rfl
    rw [key]
    by_cases e : kl = KL s
    · subst e
      rw [Maps.has_put_same h1 (KL_key s)]
      obtain ⟨p, hp, rfl⟩ := hs
      exact ⟨fun _ => ⟨p, hp, rfl⟩, fun _ => rfl⟩
    · rw [Maps.has_put_other e, h2]
  · obtain ⟨q, hq, rfl⟩ := List.mem_map.1 hp
    by_cases e : q.1 = s
    · rw [if_pos e, Maps.atKey_put_same h1 (KL_key s)]
    · rw [if_neg e, Maps.atKey_put_other (fun e2 => e (KL_inj e2)), h3 q hq]
theorem MapOf.miss {D : DataW Value} {E : List (ByteArray × Value)} (h : MapOf D E) {s : ByteArray} (hs : ∀ p ∈ E, p.1 ≠ s) : Maps.has D (KL s) = false := by
  cases hh : Maps.has D (KL s) with
  | false => rfl
  | true =>
    obtain ⟨p, hp, e⟩ := (h.2.1 _).1 hh
    exact absurd (KL_inj e).symm (hs p hp)
def seenIn (L : List ByteArray) (s : ByteArray) : Bool := L.any fun t => decide (t = s)
theorem seenIn_true {L : List ByteArray} {s : ByteArray} (h : seenIn L s = true) : s ∈ L := by
  obtain ⟨t, ht, e⟩ := List.any_eq_true.1 h
  exact of_decide_eq_true e ▸ ht
theorem seenIn_false {L : List ByteArray} {s : ByteArray} (h : seenIn L s = false) : s ∉ L := fun hm => by
  have : seenIn L s = true := List.any_eq_true.2 ⟨s, hm, decide_eq_true rfl⟩
  rw [h] at this; cases this
def kcheck : List ByteArray → List S50 → Int
  | _, [] => 0
  | L, f :: r => if kernNamed f.f0 = true then (if seenIn L f.f0 = true then 6 else if 1048576 < f.f1.length then 5 else kcheck (L ++ [f.f0]) r) else 61
def kcheckOf (l : List S50) : Int := if 256 < l.length then 3 else kcheck [] l
def seenE (L : List ByteArray) : List (ByteArray × Value) := L.map fun s => (s, .bool true)
def NPost (s : ByteArray) (L : List ByteArray) (bm n base : Nat) (w : World) (e : Ending) (w' : World) : Prop :=
  e = .returned (.int .i64 (if kernNamed s = true then (if seenIn L s = true then 6 else 0) else 61)) ∧ Below base w w' ∧ (∀ g o, g ≠ bm → w.heap[g]? = some o → w'.heap[g]? = some o) ∧
      (kernNamed s = true → seenIn L s = false → ∃ D', w'.ownsMap Tryz.prog 9 heldR bm (n + 1) D' ∧ MapOf D' (seenE (L ++ [s])))
set_option maxRecDepth 100000 in
theorem kern_freshN.calls (s : ByteArray) (L : List ByteArray) (D : DataW Value) (B bm n base : Nat) (w : World) (hB : base ≤ bm) (hbw : base ≤ w.heap.size) (hx : Boxed w B 99 (.map (some bm))) (hm : w.ownsMap Tryz.prog 9 heldR bm n D) (hn : n < 1000) (hD : MapOf D (seenE L)) :
    Calls Tryz.prog 58 #[.string s, .pointer (some ⟨B, 0, none⟩)] w fun e w' => NPost s L bm n base w e w' := by
  have hc : ∀ W, Below w.heap.size w W → W.cell? ⟨B, 0, none⟩ = some (.map (some bm)) := fun W hb => pw_cell_below hb hx.cell
  have HN := Lib.hid (fun W => kern_named.calls s W)
  cases hk : kernNamed s with
  | false =>
    rw [hk] at HN
    have HK := Lib.hid hk
    clear hk hm
    go_enter Tryz.func58, Tryz.ntmps58
    go_wp2_with (go_at_call 59; go_must (refine (HN.out _).mono ?_); go_must (rintro e w' ⟨rfl, hB2⟩))
    go_ret
    exact ⟨by rw [HK.out]; rfl, hB2.mono hbw, fun g o _ h => blk_below h hB2, fun h => by rw [HK.out] at h; cases h⟩
  | true =>
    have hs := kernNamed_le hk
    have hkey := key_str (s := s) (by unfold maxLen; omega)
    rw [hk] at HN
    have HK := Lib.hid hk
    clear hk hs
    have HM := Lib.hid hm
    have HC := Lib.hid hc
    clear hm hc
    cases hL : seenIn L s with
    | true =>
      have hv : D.atKey (KL s) (.held (.bool false)) = .held (.bool true) := hD.2.2 (s, .bool true) (List.mem_map_of_mem (seenIn_true hL)) _
      have HV := Lib.hid hv
      have HL := Lib.hid hL
      clear hv hL hD
      go_enter Tryz.func58, Tryz.ntmps58
      go_wp2_with (first
        | (go_at_call 59; go_must (refine (HN.out _).mono ?_); go_must (rintro e w1 ⟨rfl, hB2⟩); have hc1 := HC.out _ hB2; have hm1 := owns_below HM.out hB2 HM.out.lt)
        | (at_lookup; refine wpList_lookup_held _ rfl _ _ 99 rfl 9 4 keyed9 Tryz.underlying99 (.bool false) (zero_bool _) bm n D rfl hm1 _ _ rfl hkey (.bool true) HV.out ?_))
      go_ret
      exact ⟨by rw [HK.out, HL.out]; rfl, hB2.mono hbw, fun g o _ h => blk_below h hB2, fun _ h => by rw [HL.out] at h; cases h⟩
    | false =>
      have hms : ∀ p ∈ seenE L, p.1 ≠ s := by
        intro p hp e
        obtain ⟨t, ht, rfl⟩ := List.mem_map.1 hp
        exact seenIn_false hL (e ▸ ht)
      have hv : D.atKey (KL s) (.held (.bool false)) = .held (.bool false) := Maps.atKey_of_not_has (hD.miss hms) _
      have HV := Lib.hid hv
      have HL := Lib.hid hL
      have HD2 := Lib.hid (hD.put s (.bool true) hms)
      clear hv hL hD hms
      go_enter Tryz.func58, Tryz.ntmps58
      go_wp2_with (first
        | (go_at_call 59; go_must (refine (HN.out _).mono ?_); go_must (rintro e w1 ⟨rfl, hB2⟩); have hc1 := HC.out _ hB2; have hm1 := owns_below HM.out hB2 HM.out.lt)
        | (at_lookup; refine wpList_lookup_held _ rfl _ _ 99 rfl 9 4 keyed9 Tryz.underlying99 (.bool false) (zero_bool _) bm n D rfl hm1 _ _ rfl hkey (.bool false) HV.out ?_)
        | (at_mapUpdate; refine wpList_mapUpdate_own _ rfl _ _ _ 99 rfl 9 4 keyed9 Tryz.underlying99 heldR bm n D rfl hm1 (by unfold maxLen; omega) _ _ _ rfl rfl hkey _ [] rfl ?_; intro w2 hm2 hg2)
        | go_in)
      go_ret
      refine ⟨by rw [HK.out, HL.out]; rfl, (hB2.mono hbw).grown hg2 (Nat.le_trans hbw hB2.size) (fun k e => by cases e; exact hB), fun g o hne h => blk_grown (blk_below h hB2) hg2 (fun e => hne (Option.some.inj e)), fun _ _ => ⟨_, hm2, ?_⟩⟩
      have e : seenE (L ++ [s]) = seenE L ++ [(s, .bool true)] := by simp [seenE]
      rw [e]
      exact HD2.out
set_option maxHeartbeats 2000000 in
set_option maxRecDepth 100000 in
theorem kern_CheckN.calls (A : Option Addr) (c : Nat) (l : List S50) (w : World) (hr : Kd.C k50 w A l.length l) (hcl : l.length ≤ c) :
    Calls Tryz.prog 31 #[.agg #[.slice A l.length c, .slice none 0 0, .slice none 0 0]] w fun e w' => e = .returned (.int .i64 (kcheckOf l)) ∧ Below w.heap.size w w' := by
  obtain ⟨N, hN⟩ : ∃ N, N = w.heap.size := ⟨_, rfl⟩
  rw [← hN]
  have hu := Tryz.underlying72
  have hu2 := Tryz.underlying50
  have hmm := @run_makeMap Tryz.prog
  have hmx := hr.2.1
  have HF := Lib.hid (fun W => faults_CheckNil.calls W)
  have HR := Lib.hid (fun W (hb : Below N w W) => Kd.C_below hr (hN ▸ hb))
  unfold kcheckOf
  by_cases hbig : 256 < l.length
  · rw [if_pos hbig]
    have g1 : decide ((l.length : Int) > 256) = true := by simp; omega
    have g2 : 256 < l.length := hbig
    clear hr
    go_enter Tryz.func31, Tryz.ntmps31
    go_wp2
    go_ret
    exact ⟨rfl, by rw [hN]; repeat (first | exact Below.refl _ _ | apply below_alloc | apply Below.drew)⟩
  · rw [if_neg hbig]
    obtain ⟨R, hR⟩ : ∃ R, R = kcheck [] l := ⟨_, rfl⟩
    rw [← hR]
    have g1 : decide ((l.length : Int) > 256) = false := by simp; omega
    have g2 : ¬ 256 < l.length := hbig
    have HL := Lib.hid (And.intro hbig hR.symm)
    clear hr hR hbig
    go_enter Tryz.func31, Tryz.ntmps31
    go_wp2
    have s1 : Below N w (((w.alloc (Obj.cells #[Value.slice A l.length c, Value.slice none 0 0, Value.slice none 0 0] 72)).alloc (Obj.map #[] 0)).alloc (Obj.cells #[Value.map (some (w.heap.size + 1))] 99)) := by
      rw [hN]; exact below_alloc (below_alloc (below_alloc (Below.refl _ _) _) _) _
    have s2 : (((w.alloc (Obj.cells #[Value.slice A l.length c, Value.slice none 0 0, Value.slice none 0 0] 72)).alloc (Obj.map #[] 0)).alloc (Obj.cells #[Value.map (some (w.heap.size + 1))] 99)).heap[N]? = some (Obj.cells #[Value.slice A l.length c, Value.slice none 0 0, Value.slice none 0 0] 72 (0, 0)) := by
      rw [hN]; exact blk_alloc (blk_alloc (blk_new w _) _) _
    have s3 : Boxed (((w.alloc (Obj.cells #[Value.slice A l.length c, Value.slice none 0 0, Value.slice none 0 0] 72)).alloc (Obj.map #[] 0)).alloc (Obj.cells #[Value.map (some (w.heap.size + 1))] 99)) (N + 1 + 1) 99 (.map (some (N + 1))) := by
      have := Boxed.new ((w.alloc (Obj.cells #[Value.slice A l.length c, Value.slice none 0 0, Value.slice none 0 0] 72)).alloc (Obj.map #[] 0)) 99 (.map (some (w.heap.size + 1)))
      simpa [hN] using this
    have s4 : (((w.alloc (Obj.cells #[Value.slice A l.length c, Value.slice none 0 0, Value.slice none 0 0] 72)).alloc (Obj.map #[] 0)).alloc (Obj.cells #[Value.map (some (w.heap.size + 1))] 99)).ownsMap Tryz.prog 9 heldR (N + 1) 0 (.map []) := by
      have := (World.ownsMap_made (w.alloc (Obj.cells #[Value.slice A l.length c, Value.slice none 0 0, Value.slice none 0 0] 72)) Tryz.prog 9 heldR).alloc (Obj.cells #[Value.map (some (w.heap.size + 1))] 99)
      simpa [hN] using this
    rw [← hN] at s1 s2 s3 s4 ⊢
    have HNN := Lib.hid hN
    clear hN
    have S := Lib.hid (And.intro s1 (And.intro s2 (And.intro s3 s4)))
    clear s1 s2 s3 s4
    go_loopg [28] l.length (fun k v wr => ∃ (i : Nat) (D : DataW Value), v = .int .i64 i ∧ i ≤ l.length ∧ k = l.length - i ∧ wr.ownsMap Tryz.prog 9 heldR (N + 1) i D ∧ MapOf D (seenE ((l.take i).map fun f => f.f0)) ∧ kcheck ((l.take i).map fun f => f.f0) (l.drop i) = R ∧
      wr.heap[N]? = some (Obj.cells #[Value.slice A l.length c, Value.slice none 0 0, Value.slice none 0 0] 72 (0, 0)) ∧ Boxed wr (N + 1 + 1) 99 (.map (some (N + 1))) ∧ Below N w wr)
    case atStart => exact ⟨0, _, rfl, by omega, by omega, S.out.2.2.2, MapOf.nil, HL.out.2, S.out.2.1, S.out.2.2.1, S.out.1⟩
    case round =>
      clear S
      obtain ⟨i, D, rfl, hi, hk, hm, hD, hch, hb, hbx, hB⟩ := hrel
      have HK := Lib.hid hk
      clear hk
      have hNl := blk_lt hb
      by_cases hlt : i < l.length
      · rw [List.drop_eq_getElem_cons hlt, kcheck] at hch
        obtain ⟨ad, A1, c1, eA, x0, x1, x2, x3⟩ := at_T50 (HR.out wr hB) (i : Int) (by omega) (by omega)
        subst eA
        have e0 : rd_T50 l (i : Int) = l[i] := by simp [rd_T50, List.getD_eq_getElem?_getD, hlt]
        rw [e0] at x0 x1 x2 x3
        simp only [Int.toNat_natCast] at x0 x1
        have htk : (l.take (i + 1)).map (fun f : S50 => f.f0) = (l.take i).map (fun f => f.f0) ++ [l[i].f0] := by
          rw [List.take_succ_eq_append_getElem hlt, List.map_append]; rfl
        have HTK := Lib.hid htk
        clear htk
        obtain ⟨fv, hfv⟩ : ∃ fv, fv = l[i] := ⟨_, rfl⟩
        rw [← hfv] at x0 x1 x2 hch HTK
        obtain ⟨L, hL⟩ : ∃ L, L = (l.take i).map (fun f : S50 => f.f0) := ⟨_, rfl⟩
        rw [← hL] at hch hD HTK
        clear hfv hL e0 x3
        have h3 : decide ((i : Int) < (l.length : Int)) = true := by simp; omega
        have p := eq_true (show 0 ≤ (i : Int) by omega)
        have q := eq_true (show (i : Int) < (l.length : Int) by omega)
        have HC := Lib.hid (fun W (hW : Below wr.heap.size wr W) => kern_freshN.calls fv.f0 L D (N + 1 + 1) (N + 1) i N W (by omega) (by rw [HNN.out]; exact Nat.le_trans hB.size hW.size) (blk_below hbx hW) (owns_below hm hW hm.lt) (by have := HL.out.1; omega) hD)
        have hml := hm.lt
        have HB := Lib.hid (And.intro hB (And.intro hb hbx))
        clear hm hD hB hb hbx x2
        have f0 := blk_cell HB.out.2.1 0
        clear f0
        cases hx : kernNamed fv.f0 with
        | false =>
          rw [hx, if_neg (by simp)] at hch
          have HX := Lib.hid hx
          have HCH := Lib.hid hch
          clear hx hch
          go_wp2_with (go_at_call 58; go_must (refine (HC.out _ (by repeat (first | with_reducible exact Below.refl _ _ | with_reducible apply below_alloc | with_reducible apply Below.drew))).mono ?_); go_must (rintro e w2 ⟨rfl, hB2, _⟩); simp only [HX.out, Bool.false_eq_true, if_false])
          go_ret
          exact ⟨by rw [← HCH.out]; rfl, HB.out.1.trans ((((Below.refl N wr).alloc (Nat.le_of_lt hNl) _)).trans hB2)⟩
        | true =>
          cases hy : seenIn L fv.f0 with
          | true =>
            rw [hx, hy, if_pos rfl, if_pos rfl] at hch
            have HX := Lib.hid (And.intro hx hy)
            have HCH := Lib.hid hch
            clear hx hy hch
            go_wp2_with (go_at_call 58; go_must (refine (HC.out _ (by repeat (first | with_reducible exact Below.refl _ _ | with_reducible apply below_alloc | with_reducible apply Below.drew))).mono ?_); go_must (rintro e w2 ⟨rfl, hB2, _⟩); simp only [HX.out.1, HX.out.2, if_true])
            go_ret
            exact ⟨by rw [← HCH.out]; rfl, HB.out.1.trans ((((Below.refl N wr).alloc (Nat.le_of_lt hNl) _)).trans hB2)⟩
          | false =>
            rw [hx, hy, if_pos rfl, if_neg (by simp)] at hch
            have HX := Lib.hid (And.intro hx hy)
            clear hx hy
            by_cases hz : 1048576 < fv.f1.length
            · rw [if_pos hz] at hch
              have HCH := Lib.hid hch
              have g5 : decide ((fv.f1.length : Int) > 1048576) = true := by simp; omega
              clear hch
              go_wp2_with (go_at_call 58; go_must (refine (HC.out _ (by repeat (first | with_reducible exact Below.refl _ _ | with_reducible apply below_alloc | with_reducible apply Below.drew))).mono ?_); go_must (rintro e w2 ⟨rfl, hB2, hK2, hN2⟩); simp only [HX.out.1, HX.out.2, if_true, Bool.false_eq_true, if_false]; have k1 := blk_cell (hK2 _ _ (by omega) (blk_new wr _)) 1; have HN2 := Lib.hid hN2; clear hN2)
              go_ret
              exact ⟨by rw [← HCH.out]; rfl, HB.out.1.trans ((((Below.refl N wr).alloc (Nat.le_of_lt hNl) _)).trans hB2)⟩
            · rw [if_neg hz] at hch
              have HCH := Lib.hid hch
              have g5 : decide ((fv.f1.length : Int) > 1048576) = false := by simp; omega
              clear hch
              go_wp2_with (go_at_call 58; go_must (refine (HC.out _ (by repeat (first | with_reducible exact Below.refl _ _ | with_reducible apply below_alloc | with_reducible apply Below.drew))).mono ?_); go_must (rintro e w2 ⟨rfl, hB2, hK2, hN2⟩); simp only [HX.out.1, HX.out.2, if_true, Bool.false_eq_true, if_false]; have k1 := blk_cell (hK2 _ _ (by omega) (blk_new wr _)) 1; have HN2 := Lib.hid hN2; clear hN2)
              go_roundg (l.length - (i + 1))
              case measure => have := HK.out; omega
              case rel =>
                obtain ⟨D', hD1, hD2⟩ := HN2.out HX.out.1 HX.out.2
                exact ⟨i + 1, D', by go_num, by omega, rfl, hD1, by rw [HTK.out]; exact hD2, by rw [HTK.out]; exact HCH.out, hK2 _ _ (by omega) (blk_alloc HB.out.2.1 _), hK2 _ _ (by omega) (blk_alloc HB.out.2.2 _), HB.out.1.trans ((((Below.refl N wr).alloc (Nat.le_of_lt hNl) _)).trans hB2)⟩
      · obtain rfl : i = l.length := by omega
        rw [List.drop_eq_nil_of_le (Nat.le_refl _), kcheck] at hch
        subst hch
        have h3 : decide ((l.length : Int) < (l.length : Int)) = false := by simp
        have f1 := blk_cell hb 1
        have f2 := blk_cell hb 2
        have HB := Lib.hid hB
        clear hm hD hbx hB HR HL
        go_wp2
        go_loopg [47] 1 (fun k v wr2 => k = 1 ∧ v = .int .i64 0 ∧ wr2 = wr)
        case atStart => exact ⟨rfl, rfl, rfl⟩
        case round =>
          obtain ⟨rfl, rfl, rfl⟩ := hrel
          go_wp2_with (go_at_call 61; go_must (refine (HF.out _).mono ?_); go_must (rintro e w2 ⟨rfl, hB2⟩))
          go_ret
          exact ⟨rfl, HB.out.trans (hB2.mono (Nat.le_of_lt hNl))⟩
end Go.Proofs.YthmijenlndnmcaaGreatDoor.Sh
