/-
  Hand-made contracts of functions of the program: OwnB, OwnEval, OwnEval2.
-/
import Derived.Test.YthmijenlndnmcaaGreatDoorHO
import Derived.Test.YthmijenlndnmcaaGreatDoorHI
import Derived.Test.YthmijenlndnmcaaGreatDoorShx2
import Derived.Test.YthmijenlndnmcaaGreatDoorShx0
namespace Go.Proofs.YthmijenlndnmcaaGreatDoor.Sh
open Go.RowKit Go.Proofs.YthmijenlndnmcaaGreatDoorW.PrintWords Go.Proofs.YthmijenlndnmcaaGreatDoorW.PrintLast Go.Proofs.YthmijenlndnmcaaGreatDoorW.PrintMore
attribute [local go_sem] max2_int min2_int max_two min_two max_three min_three max_four min_four
set_option linter.unusedVariables false
set_option linter.unusedSimpArgs false
theorem kcheck_ok : ∀ (l : List S50) (L : List ByteArray), kcheck L l = 0 → (∀ f ∈ l, kernNamed f.f0 = true ∧ f.f1.length ≤ 1048576 ∧ f.f0 ∉ L) ∧ namesApart l := by
  intro l
  induction l with
  | nil => exact fun L _ => ⟨(fun f h => nomatch h), List.Pairwise.nil⟩
  | cons x r ih =>
    intro L h
    rw [kcheck] at h
    by_cases h1 : kernNamed x.f0 = true
    · rw [if_pos h1] at h
      cases h2 : seenIn L x.f0 with
      | true => rw [h2, if_pos rfl] at h; cases h
      | false =>
        rw [h2, if_neg (by simp)] at h
        by_cases h3 : 1048576 < x.f1.length
        · rw [if_pos h3] at h; cases h
        · rw [if_neg h3] at h
          obtain ⟨a, b⟩ := ih _ h
          refine ⟨fun f hf => ?_, List.pairwise_cons.2 ⟨fun y hy e => ?_, b⟩⟩
          · rcases List.mem_cons.1 hf with hf | hf
            · rw [hf]; exact ⟨h1, by omega, seenIn_false h2⟩
            · obtain ⟨c1, c2, c3⟩ := a f hf
              exact ⟨c1, c2, fun hm => c3 (List.mem_append.2 (.inl hm))⟩
          · exact (a y hy).2.2 (List.mem_append.2 (.inr (by rw [e]; simp)))
    · rw [if_neg h1] at h; cases h
theorem kcheckOf_ok {l : List S50} (h : kcheckOf l = 0) : l.length ≤ 256 ∧ (∀ f ∈ l, kernNamed f.f0 = true ∧ f.f1.length ≤ 1048576) ∧ namesApart l := by
  unfold kcheckOf at h
  split at h
  · cases h
  · obtain ⟨a, b⟩ := kcheck_ok l [] h
    exact ⟨by omega, fun f hf => ⟨(a f hf).1, (a f hf).2.1⟩, b⟩
def hasF (l : List S50) (s : ByteArray) : Bool := l.any fun f => decide (f.f0 = s)
def dataF (l : List S50) (s : ByteArray) : List Int := ((l.find? fun f => decide (f.f0 = s)).map fun f => f.f1).getD []
def setF (l : List S50) (s : ByteArray) (t : List Int) : List S50 := if hasF l s = true then l.map (fun f => if f.f0 = s then ⟨s, t⟩ else f) else l ++ [⟨s, t⟩]
theorem hasF_true {l : List S50} {s : ByteArray} (h : hasF l s = true) : ∃ f ∈ l, f.f0 = s := by
  obtain ⟨f, hf, e⟩ := List.any_eq_true.1 h
  exact ⟨f, hf, of_decide_eq_true e⟩
theorem hasF_false {l : List S50} {s : ByteArray} (h : hasF l s = false) : ∀ f ∈ l, f.f0 ≠ s := fun f hf e => by
  have : hasF l s = true := List.any_eq_true.2 ⟨f, hf, decide_eq_true e⟩
  rw [h] at this; cases this
theorem dataF_of {l : List S50} (hn : namesApart l) {f : S50} (hf : f ∈ l) : dataF l f.f0 = f.f1 := by
  unfold dataF
  cases h : l.find? fun g => decide (g.f0 = f.f0) with
  | none => exact absurd (List.find?_eq_none.1 h f hf) (by simp)
  | some g =>
    have e : g.f0 = f.f0 := by have := List.find?_some h; simpa using this
    rw [apart_inj hn (List.mem_of_find?_eq_some h) hf e]
    rfl
theorem dataF_none {l : List S50} {s : ByteArray} (h : hasF l s = false) : dataF l s = [] := by
  unfold dataF
  rw [List.find?_eq_none.2 (fun f hf => by simpa using hasF_false h f hf)]
  rfl
theorem setF_apart {l : List S50} (hn : namesApart l) (s : ByteArray) (t : List Int) : namesApart (setF l s t) := by
  unfold setF
  cases h : hasF l s with
  | true =>
    rw [if_pos rfl]
    have nm : ∀ f : S50, (if f.f0 = s then (⟨s, t⟩ : S50) else f).f0 = f.f0 := by
      intro f; split
      · rename_i e; exact e.symm
      · rfl
    exact List.pairwise_map.2 (hn.imp fun hab => by rw [nm, nm]; exact hab)
  | false =>
    rw [if_neg (by simp)]
    exact List.pairwise_append.2 ⟨hn, List.pairwise_singleton _ _, fun a ha b hb => by rw [List.mem_singleton.1 hb]; exact hasF_false h a ha⟩
def evalOf (fr : ByteArray) (xs : List S74) (tp : ByteArray) (ap : Bool) (Gs : List (List Int → Int × List Int)) (l : List S50) : Int × List S50 :=
  if checkOf fr xs tp ≠ 0 then (checkOf fr xs tp, []) else if kcheckOf l ≠ 0 then (kcheckOf l, [])
  else if (fr.toList == ([] : List UInt8)) = false ∧ hasF l fr = false then (62, [])
  else if hasF l tp = false ∧ 256 ≤ l.length then (3, [])
  else if (chainOf Gs (dataF l fr)).1 ≠ 0 then ((chainOf Gs (dataF l fr)).1, [])
  else if 1048576 < ((if ap then dataF l tp else []) ++ (chainOf Gs (dataF l fr)).2).length then (31, [])
  else (0, sortN (setF l tp ((if ap then dataF l tp else []) ++ (chainOf Gs (dataF l fr)).2)))
def ReadsB (W : World) (v : Value) (t : List Int) : Prop := ∃ A c, v = .slice A t.length c ∧ t.length ≤ c ∧ Kd.C (Kd.int .u8) W A t.length t
theorem ReadsB.below {W W2 : World} {v : Value} {t : List Int} (h : ReadsB W v t) (hb : Below W.heap.size W W2) : ReadsB W2 v t := by
  obtain ⟨A, c, h1, h2, h3⟩ := h
  exact ⟨A, c, h1, h2, Kd.C_below h3 hb⟩
theorem ReadsB.quiet {W W' : World} {row : Option Nat} {v : Value} {t : List Int} (h : ReadsB W v t) (hr : ∀ r, row = some r → ∃ o : Obj, W.heap[r]? = some o ∧ o.isCells = false) (hg : W.grownBy W' row) : ReadsB W' v t := by
  obtain ⟨A, c, h1, h2, h3⟩ := h
  exact ⟨A, c, h1, h2, C_quiet hr hg h3⟩
theorem ReadsB.nil (W : World) : ReadsB W (.slice none 0 0) [] := ⟨none, 0, rfl, Nat.le_refl _, Kd.C_nil _ _⟩
abbrev FV := S50 × Value
def EF (F : List FV) : List (ByteArray × Value) := F.map fun x => (x.1.f0, x.2)
def FM (W : World) (F : List FV) : Prop := ∀ x ∈ F, ReadsB W x.2 x.1.f1
theorem FM.below {W W2 : World} {F : List FV} (h : FM W F) (hb : Below W.heap.size W W2) : FM W2 F := fun x hx => (h x hx).below hb
theorem FM.quiet {W W' : World} {row : Option Nat} {F : List FV} (h : FM W F) (hr : ∀ r, row = some r → ∃ o : Obj, W.heap[r]? = some o ∧ o.isCells = false) (hg : W.grownBy W' row) : FM W' F := fun x hx => (h x hx).quiet hr hg
theorem look_is {D : DataW Value} {F : List FV} {W : World} (hD : MapOf D (EF F)) (hF : FM W F) (hn : namesApart (F.map fun x => x.1)) (s : ByteArray) :
    ∃ v, D.atKey (KL s) (.held (.slice none 0 0)) = .held v ∧ Maps.has D (KL s) = hasF (F.map fun x => x.1) s ∧ ReadsB W v (dataF (F.map fun x => x.1) s) := by
  cases h : hasF (F.map fun x => x.1) s with
  | true =>
    obtain ⟨f, hf, e⟩ := hasF_true h
    obtain ⟨x, hx, rfl⟩ := List.mem_map.1 hf
    subst e
    have hm : (x.1.f0, x.2) ∈ EF F := List.mem_map_of_mem hx
    refine ⟨x.2, hD.2.2 _ hm _, (hD.2.1 _).2 ⟨_, hm, rfl⟩, ?_⟩
    rw [dataF_of hn hf]
    exact hF x hx
  | false =>
    have hm := hD.miss (s := s) (fun p hp => by
      obtain ⟨x, hx, rfl⟩ := List.mem_map.1 hp
      exact hasF_false h x.1 (List.mem_map_of_mem hx))
    refine ⟨.slice none 0 0, Maps.atKey_of_not_has hm _, hm, ?_⟩
    rw [dataF_none h]
    exact ReadsB.nil W
theorem set_is {D : DataW Value} {F : List FV} {W : World} (hD : MapOf D (EF F)) (hF : FM W F) (s : ByteArray) (v : Value) (t : List Int) (hv : ReadsB W v t) :
    ∃ F2 : List FV, MapOf (D.put (KL s) (.held v)) (EF F2) ∧ FM W F2 ∧ F2.map (fun x => x.1) = setF (F.map fun x => x.1) s t := by
  unfold setF
  cases h : hasF (F.map fun x => x.1) s with
  | true =>
    obtain ⟨f, hf, e⟩ := hasF_true h
    obtain ⟨x, hx, rfl⟩ := List.mem_map.1 hf
    refine ⟨F.map fun y => if y.1.f0 = s then (⟨s, t⟩, v) else y, ?_, ?_, ?_⟩
    · have := hD.over s v ⟨_, List.mem_map_of_mem hx, e⟩
      have e2 : (EF F).map (fun p => if p.1 = s then (s, v) else p) = EF (F.map fun y => if y.1.f0 = s then ((⟨s, t⟩ : S50), v) else y) := by
        unfold EF
        rw [List.map_map, List.map_map]
        refine List.map_congr_left fun y _ => ?_
        simp only [Function.comp]
        split <;> rfl
      rw [← e2]; exact this
    · intro y hy
      obtain ⟨z, hz, rfl⟩ := List.mem_map.1 hy
      split
      · exact hv
      · exact hF z hz
    · rw [if_pos rfl, List.map_map, List.map_map]
      refine List.map_congr_left fun y _ => ?_
      simp only [Function.comp]
      split <;> rfl
  | false =>
    refine ⟨F ++ [(⟨s, t⟩, v)], ?_, ?_, ?_⟩
    · have := hD.put s v (fun p hp => by
        obtain ⟨x, hx, rfl⟩ := List.mem_map.1 hp
        exact hasF_false h x.1 (List.mem_map_of_mem hx))
      have e2 : EF (F ++ [((⟨s, t⟩ : S50), v)]) = EF F ++ [(s, v)] := by simp [EF]
      rw [e2]; exact this
    · intro y hy
      rcases List.mem_append.1 hy with hy | hy
      · exact hF y hy
      · rw [List.mem_singleton.1 hy]; exact hv
    · rw [if_neg (by simp), List.map_append]; rfl
section
variable {P : Program} (w : World) {ops : Array Oper} {rest : List Oper} {o : Oper} {a : Act} {Q : Exit → Act → World → Prop}
theorem wpList_lookN (hg : o.guard = none) (m x : Operand) (hop : o.op = Op.lookup 73 m x true) (b n : Nat) (D : DataW Value) (s : ByteArray) (hs : s.size ≤ 1000) (v : Value) (hh : Bool)
    (hm : a.eval m = .map (some b)) (hown : w.ownsMap Tryz.prog 9 heldR b n D) (hx : a.eval x = .string s) (hv : D.atKey (KL s) (.held (.slice none 0 0)) = .held v) (hha : Maps.has D (KL s) = hh)
    (hK : wpList Tryz.prog ops Q rest (a.put o.dst (.tuple #[v, .bool hh])) w) : wpList Tryz.prog ops Q (o :: rest) a w := by
  refine wpList_lookup_own_ok w hg m x 73 hop 9 23 keyed9 Tryz.underlying73 heldR (Tryz.zeroValue23 w) (.held (.slice none 0 0)) [] rfl b n D hm hown _ (KL s) hx (key_str (by unfold maxLen; omega)) ?_
  intro v' ps hv'
  rw [hv] at hv'
  cases hv'
  rw [hha]
  exact hK
theorem wpList_next_files (hg : o.guard = none) (it : Operand) (hop : o.op = Op.next it false) (b r n : Nat) (D : DataW Value) (F : List FV) (hD : MapOf D (EF F)) (left : Lit → Bool) (cnt : Nat) (hit : a.eval it = .pointer (some ⟨r, 0, none⟩))
    (h : w.ranges Tryz.prog 9 heldR b r n D left cnt) (hsub : ∀ kl, left kl = true → Maps.has D kl = true)
    (hDone : (∀ kl, left kl = false) → wpList Tryz.prog ops Q rest (a.put o.dst (.tuple #[.bool false])) w)
    (hMore : ∀ (x : FV) (w' : World) (cnt' : Nat), x ∈ F → left (KL x.1.f0) = true → w'.ranges Tryz.prog 9 heldR b r n D (fun z => left z && !z.sameKey (KL x.1.f0)) cnt' → cnt' < cnt →
      w.grownBy w' (some r) → w'.heap.size = w.heap.size → (Instr.entry (.pointer (some ⟨r, 0, none⟩))).run Tryz.prog w' = .ok (.tuple #[.string x.1.f0, x.2]) w' → wpList Tryz.prog ops Q rest (a.put o.dst (.tuple #[.bool true, .string x.1.f0, x.2])) w') :
    wpList Tryz.prog ops Q (o :: rest) a w := by
  refine wpList_next_ranges w hg it hop 9 keyed9 heldR Value.string (fun v : Value => v) (fun key kl hk => by obtain ⟨s, rfl, _⟩ := key_inv hk; exact ⟨s, rfl⟩) (fun v y _ => ⟨v, rfl⟩) b r n _ left cnt hit h (fun _ hl => hDone hl) ?_
  intro s c kl y w' cnt' hkey hl hR hat hrg hlt hgr hsz hen
  obtain ⟨s', hs, hk⟩ := key_inv hkey
  cases hs
  cases hR
  have hk2 : kl = KL s := hk
  subst hk2
  obtain ⟨p, hp, e⟩ := (hD.2.1 _).1 (hsub _ hl)
  obtain ⟨x, hx, rfl⟩ := List.mem_map.1 hp
  have es : s = x.1.f0 := KL_inj e
  subst es
  have h1 := hat (.held c)
  rw [hD.2.2 _ hp] at h1
  obtain rfl : x.2 = c := DataW.held.inj h1
  exact hMore x w' cnt' hx hl hrg hlt hgr hsz hen
end
theorem ranges_below {H : Type} {k : TypeId} {R : Value → Option (DataW H × List MemPlace)} {W W2 : World} {B M r n : Nat} {D : DataW H} {left : Lit → Bool} {cnt : Nat} (h : W.ranges Tryz.prog k R M r n D left cnt) (hb : Below B W W2) (hM : M < B) (hr : r < B) : W2.ranges Tryz.prog k R M r n D left cnt := by
  obtain ⟨es, clock, since, seen, c0, h1, h2, h3, h4, h5, h6⟩ := h
  exact ⟨es, clock, since, seen, c0, (hb.block M hM).trans h1, h2, h3, h4, (hb.block r hr).trans h5, h6⟩
theorem ranges_cnt {H : Type} {k : TypeId} {R : Value → Option (DataW H × List MemPlace)} {W : World} {M r n : Nat} {D : DataW H} {left : Lit → Bool} {cnt : Nat} (h : W.ranges Tryz.prog k R M r n D left cnt) : cnt ≤ n := by
  obtain ⟨es, clock, since, seen, c0, h1, h2, h3, h4, h5, h6, h7, _⟩ := h
  rw [← h7]
  exact Nat.le_trans (Array.size_filter_le ..) h3
structure RS (N1 M r n : Nat) (w : World) (D : DataW Value) (F : List FV) (W4 W : World) (v : Value) (done : List S50) (left : Lit → Bool) (cnt : Nat) : Prop where
  rg : W.ranges Tryz.prog 9 heldR M r n D left cnt
  row : Kd.S k50 50 W N1 (fun _ => True) v done
  kp : W4.grownBy W (some r)
  bl : Below w.heap.size w W
  ls : N1 ≤ W.heap.size
  sub : ∀ kl, left kl = true → Maps.has D kl = true
  all : ∀ x ∈ F, left (KL x.1.f0) = false → x.1 ∈ done
  inn : ∀ y ∈ done, ∃ x ∈ F, x.1 = y
  gone : ∀ y ∈ done, left (KL y.f0) = false
  apart : namesApart done
  mx : done.length + cnt ≤ 1000
theorem RS.step {N1 M r n : Nat} {w : World} {D : DataW Value} {F : List FV} {W4 W : World} {v : Value} {done : List S50} {left : Lit → Bool} {cnt : Nat} (h : RS N1 M r n w D F W4 W v done left cnt) (hn : namesApart (F.map fun x => x.1)) (hM : M < N1) (hr : r < N1) (h4 : W4.heap.size = N1) (hw : w.heap.size ≤ N1) (hwr : w.heap.size ≤ r)
    {x : FV} (hx : x ∈ F) (hl : left (KL x.1.f0) = true) {W1 : World} {cnt1 : Nat} (hrg : W1.ranges Tryz.prog 9 heldR M r n D (fun z => left z && !z.sameKey (KL x.1.f0)) cnt1) (hg1 : W.grownBy W1 (some r)) (hs1 : W1.heap.size = W.heap.size) (hcn : cnt1 < cnt)
    {w7 : World} {v1 : Value} (hrow : Kd.S k50 50 w7 N1 (fun _ => True) v1 (done ++ [⟨x.1.f0, x.1.f1⟩])) (hb : Below N1 W1 w7) :
    RS N1 M r n w D F W4 w7 v1 (done ++ [x.1]) (fun z => left z && !z.sameKey (KL x.1.f0)) cnt1 := by
  have hx1 : (⟨x.1.f0, x.1.f1⟩ : S50) = x.1 := rfl
  have hs7 : W1.heap.size ≤ w7.heap.size := hb.size
  refine ⟨ranges_below hrg hb hM hr, hrow, ?_, ?_, by have := h.ls; omega, ?_, ?_, ?_, ?_, ?_, by have := h.mx; simp; omega⟩
  · refine ⟨hb.os.trans (hg1.os.trans h.kp.os), hb.tape.trans (hg1.tape.trans h.kp.tape), hb.output.trans (hg1.output.trans h.kp.output), by have := h.ls; omega, fun k hk hne => ?_⟩
    exact (hb.block k (by omega)).trans ((hg1.block k (by have := h.ls; omega) hne).trans (h.kp.block k hk hne))
  · have hb1 : Below w.heap.size w W1 := h.bl.grown hg1 h.bl.size (fun k e => by cases e; exact hwr)
    exact hb1.trans (hb.mono hw)
  · intro kl hk
    simp only [Bool.and_eq_true] at hk
    exact h.sub kl hk.1
  · intro y hy hl2
    by_cases e : y.1.f0 = x.1.f0
    · have : y.1 = x.1 := apart_inj hn (List.mem_map_of_mem hy) (List.mem_map_of_mem hx) e
      rw [this]; simp
    · have hne : (KL y.1.f0).sameKey (KL x.1.f0) = false := Maps.sameKey_ne (fun e2 => e (KL_inj e2))
      rw [hne] at hl2
      exact List.mem_append.2 (.inl (h.all y hy (by simpa using hl2)))
  · intro y hy
    rcases List.mem_append.1 hy with hy | hy
    · exact h.inn y hy
    · rw [List.mem_singleton.1 hy]; exact ⟨x, hx, rfl⟩
  · intro y hy
    rcases List.mem_append.1 hy with hy | hy
    · rw [h.gone y hy]; rfl
    · rw [List.mem_singleton.1 hy, WideAt.sameKey_self (KL_key _)]; simp
  · refine List.pairwise_append.2 ⟨h.apart, List.pairwise_singleton _ _, fun a ha b hb => ?_⟩
    rw [List.mem_singleton.1 hb]
    intro e
    have := h.gone a ha
    rw [e, hl] at this
    cases this
theorem RS.final {N1 M r n : Nat} {w : World} {D : DataW Value} {F : List FV} {W4 W : World} {v : Value} {done : List S50} {left : Lit → Bool} {cnt : Nat} (h : RS N1 M r n w D F W4 W v done left cnt) (hn : namesApart (F.map fun x => x.1)) (hl : ∀ kl, left kl = false) : done.Perm (F.map fun x => x.1) := by
  have nd : ∀ {l : List S50}, namesApart l → l.Nodup := fun h => h.imp fun hne e => hne (by rw [e])
  refine (List.perm_ext_iff_of_nodup (nd h.apart) (nd hn)).2 fun y => ⟨fun hy => ?_, fun hy => ?_⟩
  · obtain ⟨x, hx, rfl⟩ := h.inn y hy
    exact List.mem_map_of_mem hx
  · obtain ⟨x, hx, rfl⟩ := List.mem_map.1 hy
    exact h.all x hx (hl _)
def EvPost (w w' : World) (e : Ending) (r : Int × List S50) : Prop := Below w.heap.size w w' ∧ ∃ v, e = .returned (.tuple #[v, .int .i64 r.1]) ∧ Kd.S k50 50 w' w.heap.size (fun _ => True) v r.2
theorem EvPost.fail {w w' : World} (hb : Below w.heap.size w w') (c : Int) : EvPost w w' (.returned (.tuple #[.slice none 0 0, .int .i64 c])) (c, []) := ⟨hb, _, rfl, Kd.S_nil _ _ _ _ _⟩
set_option maxHeartbeats 8000000 in
set_option maxRecDepth 100000 in
theorem evalN.calls (fr tp : ByteArray) (ap : Bool) (xs : List S74) (Gs : List (List Int → Int × List Int)) (A : Option Addr) (c : Nat) (AF : Option Addr) (cF : Nat) (l : List S50) (w0 w : World) (hb0 : Below w0.heap.size w0 w) (hbl : ∀ f ∈ l, byteL f.f1)
    (hr : Kd.C k74 w A xs.length xs) (hc : xs.length ≤ c) (hGl : Gs.length = xs.length)
    (hGs : checkOf fr xs tp = 0 → ∀ i, (h : i < Gs.length) → ThrOK w0 (rd_T74 xs (i : Int)) Gs[i] ∧ ∀ u, byteL u → (Gs[i] u).1 = 0 → (Gs[i] u).2.length ≤ 1048576 ∧ byteL (Gs[i] u).2)
    (hl : Kd.C k50 w AF l.length l) (hlc : l.length ≤ cF) :
    Calls Tryz.prog 16 #[.agg #[.string fr, .slice A xs.length c, .string tp, .bool ap], .slice AF l.length cF] w fun e w' => EvPost w w' e (evalOf fr xs tp ap Gs l) := by
  have hu := Tryz.underlying46
  have hu2 := Tryz.underlying74
  have hu3 := Tryz.underlying50
  have hu4 := Tryz.underlying72
  have hmm := @run_makeMap Tryz.prog
  have hxl : xs.length ≤ 9223372036854775807 := hr.2.1
  have hll : l.length ≤ 9223372036854775807 := hl.2.1
  have HCK := Lib.hid (fun W (hB : Below w.heap.size w W) => shell_CheckH.calls fr tp ap A c xs W (Kd.C_below hr hB) hc)
  have HKK := Lib.hid (fun W (hB : Below w.heap.size w W) => kern_CheckN.calls AF cF l W (Kd.C_below hl hB) hlc)
  obtain ⟨V, hV⟩ : ∃ V, V = checkOf fr xs tp := ⟨_, rfl⟩
  obtain ⟨K, hK⟩ : ∃ K, K = kcheckOf l := ⟨_, rfl⟩
  obtain ⟨R, hR⟩ : ∃ R, R = evalOf fr xs tp ap Gs l := ⟨_, rfl⟩
  rw [← hR]
  unfold evalOf at hR
  rw [← hV, ← hK] at hR
  rw [← hV] at HCK
  rw [← hK] at HKK
  by_cases hv : V = 0
  · rw [if_neg (by simp [hv])] at hR
    by_cases hk : K = 0
    · rw [if_neg (by simp [hk])] at hR
      have HRV := Lib.hid hR
      clear hR
      subst hv hk
      obtain ⟨hkn, hkd, hap⟩ := kcheckOf_ok hK.symm
      obtain ⟨hls, hll2, htp, hfr, _⟩ := line_size hV.symm ap
      obtain ⟨hnt, hnf⟩ := check_names hV.symm
      have HX := Lib.hid (And.intro hkn (And.intro hkd (And.intro hap (And.intro hfr htp))))
      have HT := Lib.hid (And.intro hr (And.intro hc (And.intro hGl (hGs hV.symm))))
      have HF := Lib.hid (fun W (hB : Below w.heap.size w W) => Kd.C_below hl hB)
      have HB0 := Lib.hid (And.intro hb0 hbl)
      clear hr hc hGl hGs hl hlc hV hK hkn hkd hap hls hll2 htp hfr hnt hnf hb0 hbl
      go_enter Tryz.func16, Tryz.ntmps16
      go_wp2_with (first
        | (go_at_call 23; go_must (refine (HCK.out _ (by (repeat (first | with_reducible exact Below.refl _ _ | with_reducible apply below_alloc | with_reducible apply Below.drew | (refine below_step ?_ (by assumption)))))).mono ?_); go_must (rintro e w1 ⟨rfl, q1⟩); have k1 : w1.heap[w.heap.size]? = some (.cells #[.string fr, .slice A xs.length c, .string tp, .bool ap] 46 (0, 0)) := blk_below (blk_new w _) q1)
        | (go_at_call 31; go_must (refine (HKK.out _ (by (repeat (first | with_reducible exact Below.refl _ _ | with_reducible apply below_alloc | with_reducible apply Below.drew | (refine below_step ?_ (by assumption)))))).mono ?_); go_must (rintro e w2 ⟨rfl, q2⟩); have k2 := blk_below k1 q2))
      have hBM : Below w.heap.size w (w2.alloc (.map #[] 0)) := by (repeat (first | with_reducible exact Below.refl _ _ | with_reducible apply below_alloc | with_reducible apply Below.drew | (refine below_step ?_ (by assumption))))
      have hM0 := World.ownsMap_made w2 Tryz.prog 9 heldR
      have hk2 := blk_alloc k2 (.map #[] 0)
      have hNM : w.heap.size < w2.heap.size := blk_lt k2
      have HZ := Lib.hid (And.intro hBM (And.intro hM0 (And.intro hk2 hNM)))
      obtain ⟨M, hM⟩ : ∃ M, M = w2.heap.size := ⟨_, rfl⟩
      rw [← hM] at HZ ⊢
      clear hBM hM0 hk2 hNM k1 k2 q1 q2 hM HCK HKK
      go_loopg [34] l.length (fun k v wr => ∃ (i : Nat) (F : List FV) (D : DataW Value), v = .int .i64 i ∧ i ≤ l.length ∧ k = l.length - i ∧ F.map (fun x => x.1) = l.take i ∧ wr.ownsMap Tryz.prog 9 heldR M i D ∧ MapOf D (EF F) ∧ FM wr F ∧
        wr.heap[w.heap.size]? = some (.cells #[.string fr, .slice A xs.length c, .string tp, .bool ap] 46 (0, 0)) ∧ Below w.heap.size w wr ∧ w.heap.size < M)
      case atStart => exact ⟨0, [], _, rfl, by omega, by omega, rfl, HZ.out.2.1, MapOf.nil, (fun x hx => nomatch hx), HZ.out.2.2.1, HZ.out.1, HZ.out.2.2.2⟩
      case round =>
        clear HZ
        obtain ⟨i, F, D, rfl, hi, hk, hF, hm, hD, hFM, hb, hB, hNM⟩ := hrel
        have HK := Lib.hid (And.intro hk hi)
        clear hk
        have hml := hm.lt
        have hnl := blk_lt hb
        by_cases hlt : i < l.length
        · obtain ⟨ad, A1, c1, eA, x0, x1, x2, x3⟩ := at_T50 (HF.out wr hB) (i : Int) (by omega) (by omega)
          subst eA
          have e0 : rd_T50 l (i : Int) = l[i] := by simp [rd_T50, List.getD_eq_getElem?_getD, hlt]
          rw [e0] at x0 x1 x2 x3
          simp only [Int.toNat_natCast] at x0 x1
          have htk : l.take (i + 1) = l.take i ++ [l[i]] := List.take_succ_eq_append_getElem hlt
          have hkn := (HX.out.2.1 l[i] (List.getElem_mem hlt)).1
          have hap : ∀ p ∈ EF F, p.1 ≠ l[i].f0 := by
            intro p hp e
            obtain ⟨y, hy, rfl⟩ := List.mem_map.1 hp
            have hy1 : y.1 ∈ l.take i := by rw [← hF]; exact List.mem_map_of_mem hy
            obtain ⟨j, hj, ej⟩ := List.mem_iff_getElem.1 hy1
            have hji : j < i := by simp at hj; omega
            have hpw := List.pairwise_iff_getElem.1 HX.out.2.2.1 j i (by omega) hlt hji
            rw [List.getElem_take] at ej
            rw [ej] at hpw
            exact hpw e
          obtain ⟨fv, hfv⟩ : ∃ fv, fv = l[i] := ⟨_, rfl⟩
          rw [← hfv] at x0 x1 x2 x3 htk hkn hap
          have hkey := key_str (s := fv.f0) (by have := kernNamed_le hkn; unfold maxLen; omega)
          have HD := Lib.hid (hD.put fv.f0 (.slice A1 fv.f1.length c1) hap)
          have HV := Lib.hid (show ReadsB wr (.slice A1 fv.f1.length c1) fv.f1 from ⟨A1, c1, rfl, x2, x3⟩)
          have HH := Lib.hid (And.intro hm (And.intro hFM (And.intro hb (And.intro hB (And.intro hNM (And.intro hF htk))))))
          have h3 : decide ((i : Int) < (l.length : Int)) = true := by simp; omega
          have p := eq_true (show 0 ≤ (i : Int) by omega)
          have q := eq_true (show (i : Int) < (l.length : Int) by omega)
          clear hfv e0 hkn hap hD hFM hb hB hF htk x2 x3
          go_wp2_with (at_mapUpdate; refine wpList_mapUpdate_own _ rfl _ _ _ 73 rfl 9 23 keyed9 Tryz.underlying73 heldR M i D rfl (hm.alloc _) (by have := HX.out.1; unfold maxLen; omega) _ _ _ rfl rfl hkey _ [] rfl ?_; intro w3 hm3 hg3)
          go_roundg (l.length - (i + 1))
          case measure => have := HK.out; omega
          case rel =>
            obtain ⟨hm, hFM, hb, hB, hNM, hF, htk⟩ := HH.out
            have hq := quiet_map (hm.alloc (.cells #[.string fv.f0, .slice A1 fv.f1.length c1] 50))
            have hba : Below wr.heap.size wr (wr.alloc (.cells #[.string fv.f0, .slice A1 fv.f1.length c1] 50)) := below_alloc (Below.refl _ _) _
            refine ⟨i + 1, F ++ [(fv, .slice A1 fv.f1.length c1)], _, by go_num, by omega, rfl, by rw [List.map_append, hF, htk]; rfl, hm3, ?_, ?_, blk_grown (blk_alloc hb _) hg3 (fun e => by cases e; omega), (below_alloc hB _).grown hg3 (by have := hB.size; simp; omega) (fun k e => by cases e; omega), hNM⟩
            · have e : EF (F ++ [(fv, .slice A1 fv.f1.length c1)]) = EF F ++ [(fv.f0, .slice A1 fv.f1.length c1)] := by simp [EF]
              rw [e]; exact HD.out
            · intro y hy
              rcases List.mem_append.1 hy with hy | hy
              · exact ((hFM y hy).below hba).quiet hq hg3
              · rw [List.mem_singleton.1 hy]; exact (HV.out.below hba).quiet hq hg3
        · obtain rfl : i = l.length := by omega
          rw [List.take_of_length_le (Nat.le_refl _)] at hF
          obtain ⟨vf, f1, f2, f3⟩ := look_is hD hFM (hF ▸ HX.out.2.2.1) fr
          obtain ⟨vt, t1, t2, t3⟩ := look_is hD hFM (hF ▸ HX.out.2.2.1) tp
          rw [hF] at f2 f3 t2 t3
          have HS := Lib.hid (And.intro hm (And.intro hD (And.intro hFM (And.intro hb (And.intro hB (And.intro hNM hF))))))
          have u0 : wr.cell? ⟨w.heap.size, 0, none⟩ = some (.string fr) := by have h := blk_cell hb 0; exact h
          have u2 : wr.cell? ⟨w.heap.size, 2, none⟩ = some (.string tp) := by have h := blk_cell hb 2; exact h
          obtain ⟨eb, heb⟩ : ∃ eb, (fr.toList == ([] : List UInt8)) = eb := ⟨_, rfl⟩
          obtain ⟨fb, hfb⟩ : ∃ fb, hasF l fr = fb := ⟨_, rfl⟩
          obtain ⟨tb, htb⟩ : ∃ tb, hasF l tp = tb := ⟨_, rfl⟩
          have hei : fr.toList.isEmpty = eb := by rw [← heb]; cases fr.toList <;> rfl
          rw [hfb] at f2
          rw [htb] at t2
          have HQ := Lib.hid (And.intro heb (And.intro hfb htb))
          have HL := Lib.hid (And.intro f1 (And.intro f2 (And.intro t1 t2)))
          have HRD := Lib.hid (And.intro f3 t3)
          have h3 : decide ((l.length : Int) < (l.length : Int)) = false := by simp
          clear hm hD hFM hb hB hNM hF hfb htb f1 f2 f3 t1 t2 t3 hlt hi
          go_upto_region 14 with (at_lookup; refine wpList_lookN _ rfl _ _ rfl M l.length D fr (by have := HX.out.2.2.2.1; omega) vf fb rfl HS.out.1 rfl HL.out.1 HL.out.2.1 ?_)
          go_cut [57] (fun v57 wc => wc = wr ∧ v57 = .bool (!eb && !fb))
          case first =>
            have e1 : (fr.toList != ([] : List UInt8)) = !eb := by rw [← heb]; rfl
            cases eb <;> cases fb
            all_goals go_wp2
            all_goals go_meet
            all_goals (case rel => exact ⟨rfl, rfl⟩)
          case rest =>
            obtain ⟨rfl, rfl⟩ := hcut
            by_cases hne : eb = false ∧ fb = false
            · obtain ⟨rfl, rfl⟩ := hne
              clear heb hei
              go_wp2
              go_ret2
              rw [HRV.out, if_pos ⟨HQ.out.1, HQ.out.2.1⟩]
              exact EvPost.fail HS.out.2.2.2.2.1 _
            · have hbb : (!eb && !fb) = false := by cases eb <;> cases fb <;> simp at hne ⊢
              have HNE := Lib.hid hne
              rw [hbb]
              clear hne hbb heb hei
              go_upto_region 17 with (at_lookup; refine wpList_lookN _ rfl _ _ rfl M l.length D tp (by have := HX.out.2.2.2.2; omega) vt tb rfl HS.out.1 rfl HL.out.2.2.1 HL.out.2.2.2 ?_)
              obtain ⟨bg, hbg⟩ : ∃ bg, decide (256 ≤ l.length) = bg := ⟨_, rfl⟩
              have hbi : decide ((256 : Int) ≤ (l.length : Int)) = bg := by rw [← hbg]; exact decide_eq_decide.2 (by omega)
              have HBG := Lib.hid hbg
              go_cut [71] (fun v71 wc2 => wc2 = wc ∧ v71 = .bool (!tb && bg))
              case first =>
                cases tb <;> cases bg
                all_goals go_wp2
                all_goals go_meet
                all_goals (case rel => exact ⟨rfl, rfl⟩)
              case rest =>
                obtain ⟨rfl, rfl⟩ := hcut
                by_cases hnt : tb = false ∧ bg = true
                · obtain ⟨rfl, rfl⟩ := hnt
                  clear hbi hbg
                  go_wp2
                  go_ret2
                  rw [HRV.out, if_neg (by rw [HQ.out.1, HQ.out.2.1]; exact HNE.out), if_pos ⟨HQ.out.2.2, by simpa using HBG.out⟩]
                  exact EvPost.fail HS.out.2.2.2.2.1 _
                · have hbb : (!tb && bg) = false := by cases tb <;> cases bg <;> simp at hnt ⊢
                  have HNT := Lib.hid hnt
                  rw [hbb]
                  clear hnt hbb hbi hbg
                  have hr2 : R = if (chainOf Gs (dataF l fr)).1 ≠ 0 then ((chainOf Gs (dataF l fr)).1, []) else if 1048576 < ((if ap then dataF l tp else []) ++ (chainOf Gs (dataF l fr)).2).length then (31, []) else (0, sortN (setF l tp ((if ap then dataF l tp else []) ++ (chainOf Gs (dataF l fr)).2))) := by
                    rw [HRV.out, if_neg (by rw [HQ.out.1, HQ.out.2.1]; exact HNE.out), if_neg (fun h => HNT.out ⟨by rw [← HQ.out.2.2]; exact h.1, by rw [← HBG.out]; exact decide_eq_true h.2⟩)]
                  have HRV := Lib.hid hr2
                  clear hr2 HNE HNT HBG HL HQ u0 u2
                  have hdf : (dataF l fr).length ≤ 1048576 ∧ byteL (dataF l fr) := by
                    cases h : hasF l fr with
                    | true =>
                      obtain ⟨f, hf, e⟩ := hasF_true h
                      rw [← e, dataF_of HX.out.2.2.1 hf]
                      exact ⟨(HX.out.2.1 f hf).2, HB0.out.2 f hf⟩
                    | false => rw [dataF_none h]; exact ⟨by simp, byteL_nil⟩
                  have hdt : (dataF l tp).length ≤ 1048576 := by
                    cases h : hasF l tp with
                    | true =>
                      obtain ⟨f, hf, e⟩ := hasF_true h
                      rw [← e, dataF_of HX.out.2.2.1 hf]
                      exact (HX.out.2.1 f hf).2
                    | false => rw [dataF_none h]; simp
                  obtain ⟨tf, htf⟩ : ∃ tf, tf = dataF l fr := ⟨_, rfl⟩
                  obtain ⟨tt0, htt⟩ : ∃ tt0, tt0 = dataF l tp := ⟨_, rfl⟩
                  rw [← htf, ← htt] at HRV
                  rw [← htf, ← htt] at HRD
                  rw [← htf] at hdf
                  rw [← htt] at hdt
                  obtain ⟨Rc, hRc⟩ : ∃ Rc, Rc = chainOf Gs tf := ⟨_, rfl⟩
                  rw [← hRc] at HRV
                  obtain ⟨A0, c0, rfl, g2, g3⟩ := HRD.out.1
                  have HD0 := Lib.hid (And.intro hdf (And.intro hdt (And.intro hRc (And.intro g2 (And.intro g3 HRD.out.2)))))
                  clear hdf hdt hRc g2 g3 HRD htf htt
                  have u1 : wc.cell? ⟨w.heap.size, 1, none⟩ = some (.slice A xs.length c) := by have h := blk_cell HS.out.2.2.2.1 1; exact h
                  go_wp2
                  go_loopg [11, 75] xs.length (fun k v11 v75 wr => ∃ (i : Nat) (At : Option Addr) (ct : Nat) (tt : List Int), v75 = .int .i64 i ∧ v11 = .slice At tt.length ct ∧ i ≤ xs.length ∧ k = xs.length - i ∧ chainOf (Gs.drop i) tt = Rc ∧ Kd.C (Kd.int .u8) wr At tt.length tt ∧ tt.length ≤ ct ∧ (tt.length ≤ 1048576 ∧ byteL tt) ∧ Below wc.heap.size wc wr)
                  case atStart => exact ⟨0, A0, c0, tf, rfl, rfl, by omega, by omega, by rw [List.drop_zero]; exact HD0.out.2.2.1.symm, HD0.out.2.2.2.2.1, HD0.out.2.2.2.1, HD0.out.1, Below.refl _ _⟩
                  case round =>
                    clear u1
                    obtain ⟨i, At, ct, tt, rfl, rfl, hi, hk, hch, hT, hTc, ⟨hTl, hTb⟩, hB⟩ := hrel
                    have HK := Lib.hid hk
                    clear hk
                    by_cases hlt : i < xs.length
                    · have hgl := HT.out.2.2.1
                      have hig : i < Gs.length := by omega
                      obtain ⟨hth, hle⟩ := HT.out.2.2.2 i hig
                      rw [List.drop_eq_getElem_cons hig, chainOf] at hch
                      have hBw := HS.out.2.2.2.2.1.trans (hB.mono HS.out.2.2.2.2.1.size)
                      obtain ⟨ad, eA, x0, x1, x2⟩ := at_T74 (Kd.C_below HT.out.1 hBw) (i : Int) (by omega) (by omega)
                      subst eA
                      have hadl : ad.block < wr.heap.size := by have := World.block_lt_of_cell? wr _ x0; rwa [add_block] at this
                      obtain ⟨x, hxx⟩ : ∃ x, x = rd_T74 xs (i : Int) := ⟨_, rfl⟩
                      rw [← hxx] at x0 x1 x2 hth
                      simp only [Int.toNat_natCast] at x0 x1 x2
                      obtain ⟨G, hG⟩ : ∃ G, G = Gs[i] := ⟨_, rfl⟩
                      rw [← hG] at hth hle hch
                      clear hxx hG
                      have HTH := Lib.hid (hth At ct tt (wr.alloc (.cells #[.string x.f0, .int .i64 x.f1, .string x.f2] 74)) (below_alloc (HB0.out.1.trans (hBw.mono HB0.out.1.size)) _) hTb (Kd.C_below hT (below_alloc (Below.refl _ _) _)) hTc hTl)
                      have hle2 := hle tt hTb
                      clear hth hle
                      generalize hg2 : G tt = gr at *
                      obtain ⟨er, g2⟩ := gr
                      have h3 : decide ((i : Int) < (xs.length : Int)) = true := by simp; omega
                      have p := eq_true (show 0 ≤ (i : Int) by omega)
                      have q := eq_true (show (i : Int) < (xs.length : Int) by omega)
                      have HI := Lib.hid (And.intro hB (And.intro hBw hle2))
                      clear hT hTc hTl hTb hB hBw hle2 hgl hg2
                      by_cases he : er = 0
                      · subst he
                        rw [if_neg (by simp)] at hch
                        have HC := Lib.hid hch
                        clear hch hig
                        go_wp2_with (go_at_call 32; go_must (refine HTH.out.mono ?_); go_must (rintro e w3 ⟨vo, rfl, ho, q3⟩; obtain ⟨Ao, co, rfl, hco, hCo, hAo⟩ := ho))
                        go_roundg (xs.length - (i + 1))
                        case measure => have := HK.out; omega
                        case rel =>
                          have b3 := below_step (below_alloc (Below.refl wr.heap.size wr) _) q3
                          exact ⟨i + 1, Ao, co, g2, by go_num, rfl, by omega, rfl, HC.out, hCo, hco, HI.out.2.2 (by first | rfl | trivial), below_step HI.out.1 b3⟩
                      · rw [if_pos he] at hch
                        have HC := Lib.hid hch
                        have e0 : (er == 0) = false := by simpa using he
                        have e1 : (er != 0) = true := by simpa using he
                        have HE := Lib.hid he
                        clear hch hig he
                        go_wp2_with (go_at_call 32; go_must (refine HTH.out.mono ?_); go_must (rintro e w3 ⟨vo, rfl, ho, q3⟩))
                        go_ret2
                        have b3 := below_step (below_alloc (Below.refl wr.heap.size wr) _) q3
                        rw [HRV.out, ← HC.out, if_pos HE.out]
                        exact EvPost.fail (HI.out.2.1.trans (b3.mono HI.out.2.1.size)) _
                    · obtain rfl : i = xs.length := by omega
                      have hgl := HT.out.2.2.1
                      rw [List.drop_eq_nil_of_le (by omega), chainOf] at hch
                      have HRV2 := Lib.hid (show R = if 1048576 < ((if ap then tt0 else []) ++ tt).length then (31, []) else (0, sortN (setF l tp ((if ap then tt0 else []) ++ tt))) by rw [HRV.out, ← hch]; simp)
                      clear hch HRV hgl
                      obtain ⟨A9, c9, rfl, y2, y3⟩ := HD0.out.2.2.2.2.2
                      have hBw := HS.out.2.2.2.2.1.trans (hB.mono HS.out.2.2.2.2.1.size)
                      have HE := Lib.hid (And.intro hT (And.intro hTc (And.intro hTl (And.intro hB (And.intro y2 (And.intro y3 (And.intro HD0.out.2.1 hBw)))))))
                      have h3 : decide ((xs.length : Int) < (xs.length : Int)) = false := by simp
                      have u3 : wr.cell? ⟨w.heap.size, 3, none⟩ = some (.bool ap) := by have h := blk_cell (blk_below HS.out.2.2.2.1 hB) 3; exact h
                      clear hT hTc hTl hTb hB y2 y3 hBw hlt hi
                      go_upto_if 90 with (fail)
                      go_cut [11] (fun v11 wq => ∃ A2 c2, v11 = .slice A2 ((if ap then tt0 else []) ++ tt).length c2 ∧ ((if ap then tt0 else []) ++ tt).length ≤ c2 ∧ Kd.C (Kd.int .u8) wq A2 ((if ap then tt0 else []) ++ tt).length ((if ap then tt0 else []) ++ tt) ∧ Below wr.heap.size wr wq)
                      case first =>
                        cases ap with
                        | false =>
                          go_wp2
                          go_meet
                          case rel => exact ⟨At, ct, rfl, HE.out.2.1, HE.out.1, Below.refl _ _⟩
                        | true =>
                          have HCC := Lib.hid (fun (W : World) (hW : Below wr.heap.size wr W) (B : Nat) hb => concat2.calls B A9 At c9 ct tt0 tt W hb (Kd.C_below HE.out.2.2.2.2.2.1 (HE.out.2.2.2.1.trans (hW.mono HE.out.2.2.2.1.size))) (Kd.C_below HE.out.1 hW) (by have := HE.out.2.2.1; have := HE.out.2.2.2.2.2.2.1; omega))
                          go_wp2_with (go_at_call 33; go_must (refine (HCC.out _ (below_alloc (Below.refl _ _) _) _ (blk_new _ _)).mono ?_); go_must (rintro e w5 ⟨v5, rfl, h5, q5⟩; obtain ⟨A5, c5, rfl⟩ := Kd.R_slice h5))
                          go_meet
                          case rel =>
                            have hrd := (Kd.R_reads' h5).2
                            simp only [if_true]
                            exact ⟨A5, c5, by rw [List.length_append], hrd.1, hrd.2, below_step (below_alloc (Below.refl _ _) _) q5⟩
                      case rest =>
                        obtain ⟨A2, c2, rfl, z2, z3, z4⟩ := hcut
                        obtain ⟨t2, ht2⟩ : ∃ t2, t2 = ((if ap = true then tt0 else []) ++ tt) := ⟨_, rfl⟩
                        rw [← ht2] at z2 z3 HRV2 ⊢
                        clear ht2 u3
                        by_cases hbig : 1048576 < t2.length
                        · have g5 : decide ((t2.length : Int) > 1048576) = true := by simp; omega
                          have HBG := Lib.hid hbig
                          have HBL := Lib.hid (HE.out.2.2.2.2.2.2.2.trans (z4.mono HE.out.2.2.2.2.2.2.2.size))
                          clear hbig z2 z3 z4
                          go_wp2
                          go_ret2
                          rw [HRV2.out, if_pos HBG.out]
                          exact EvPost.fail HBL.out _
                        · have g5 : decide ((t2.length : Int) > 1048576) = false := by simp; omega
                          have hb4 := below_step HE.out.2.2.2.1 z4
                          have hFM := HS.out.2.2.1.below hb4
                          have hmq := owns_below HS.out.1 hb4 HS.out.1.lt
                          obtain ⟨F2, s1, s2, s3⟩ := set_is HS.out.2.1 hFM tp (.slice A2 t2.length c2) t2 ⟨A2, c2, rfl, z2, z3⟩
                          rw [HS.out.2.2.2.2.2.2] at s3
                          have hap2 : namesApart (F2.map fun x => x.1) := by rw [s3]; exact setF_apart HX.out.2.2.1 tp t2
                          have u2 : wc.cell? ⟨w.heap.size, 2, none⟩ = some (.string tp) := by have h := blk_cell (blk_below HS.out.2.2.2.1 hb4) 2; exact h
                          have hkeyT := key_str (s := tp) (by have := HX.out.2.2.2.2; unfold maxLen; omega)
                          have HBL := Lib.hid (HE.out.2.2.2.2.2.2.2.trans (z4.mono HE.out.2.2.2.2.2.2.2.size))
                          have HW := Lib.hid (And.intro s1 (And.intro s2 (And.intro s3 (And.intro hap2 (And.intro hmq (And.intro hbig HS.out.2.2.2.2.2.1))))))
                          obtain ⟨D2, hD2⟩ : ∃ D2, D2 = D.put (KL tp) (.held (.slice A2 t2.length c2)) := ⟨_, rfl⟩
                          clear hbig z2 z3 z4 hb4 hFM s1 s2 s3 hap2
                          go_wp2_with (first
                            | (at_mapUpdate; refine wpList_mapUpdate_own _ rfl _ _ _ 73 rfl 9 23 keyed9 Tryz.underlying73 heldR M l.length D rfl hmq (by have := HX.out.1; unfold maxLen; omega) _ _ _ rfl rfl hkeyT _ [] rfl ?_; intro w3 hm3 hg3)
                            | (at_range; refine wpList_range_own _ rfl _ 73 rfl 9 23 keyed9 Tryz.underlying73 heldR M (l.length + 1) _ rfl hm3 ?_; intro w4 hrg0 hg0 hs0))
                          go_frame
                          have hm3' : w3.ownsMap Tryz.prog 9 heldR M (l.length + 1) D2 := by rw [hD2]; exact hm3
                          have hrg0' : w4.ranges Tryz.prog 9 heldR M w3.heap.size (l.length + 1) D2 (Maps.has D2) (Maps.size D2) := by rw [hD2]; exact hrg0
                          have hMD : MapOf D2 (EF F2) := by rw [hD2]; exact HW.out.1
                          have hFM4 : FM w4 F2 := (HW.out.2.1.quiet (quiet_map hmq) hg3).quiet (row := none) (fun r e => by cases e) hg0
                          have hRS0 : RS w4.heap.size M w3.heap.size (l.length + 1) w D2 F2 w4 w4 (.slice none 0 0) [] (Maps.has D2) (Maps.size D2) :=
                            ⟨hrg0', Kd.S_nil _ _ _ _ _, ⟨rfl, rfl, rfl, Nat.le_refl _, fun k _ _ => rfl⟩, ((HBL.out.grown hg3 HBL.out.size (fun k e => by cases e; exact Nat.le_of_lt HW.out.2.2.2.2.2.2)).grown hg0 (Nat.le_trans HBL.out.size hg3.size) (fun k e => by cases e)), Nat.le_refl _, (fun kl h => h),
                              (fun x hx hl => by
                                have : Maps.has D2 (KL x.1.f0) = true := (hMD.2.1 _).2 ⟨_, List.mem_map_of_mem hx, rfl⟩
                                rw [this] at hl; cases hl), (fun y hy => nomatch hy), (fun y hy => nomatch hy), List.Pairwise.nil, by have := ranges_cnt hrg0'; have := HX.out.1; simp; omega⟩
                          have hMlt : M < w4.heap.size := by have := hm3'.lt; omega
                          have hwle : w.heap.size ≤ w3.heap.size := Nat.le_trans HBL.out.size hg3.size
                          have HR0 := Lib.hid hRS0
                          have HQR := Lib.hid (quiet_range hrg0')
                          have HG := Lib.hid (And.intro hMD (And.intro hFM4 (And.intro hMlt (And.intro hwle (And.intro hs0 HW.out)))))
                          clear hRS0 hm3 hm3' hrg0 hrg0' hMD hFM4 hMlt hwle hg3 hg0 hmq hD2 HW hkeyT u2
                          go_loopg [17] (Maps.size D2) (fun k v17 wr => ∃ done left, RS w4.heap.size M w3.heap.size (l.length + 1) w D2 F2 w4 wr v17 done left k)
                          case atStart => exact ⟨[], _, HR0.out⟩
                          case round =>
                            clear HR0
                            obtain ⟨done, left, hrs⟩ := hrel
                            have HRS := Lib.hid hrs
                            go_wp2_with (first
                              | (at_next; refine wpList_next_files _ rfl _ rfl M w3.heap.size (l.length + 1) D2 F2 HG.out.1 left _ rfl hrs.rg hrs.sub ?_ ?_)
                              | go_in)
                            · intro hl0
                              have hpm := HRS.out.final HG.out.2.2.2.2.2.2.2.2.1 hl0
                              have hs3 := HG.out.2.2.2.2.2.2.2.1
                              have hap2 := HG.out.2.2.2.2.2.2.2.2.1
                              have hlen : 0 < done.length := by
                                rw [hpm.length_eq, hs3]
                                unfold setF
                                split
                                · rename_i h
                                  obtain ⟨f, hf, _⟩ := hasF_true h
                                  rw [List.length_map]; exact List.length_pos_of_mem hf
                                · simp
                              have hlen2 : done.length ≤ 1000 := by
                                rw [hpm.length_eq, hs3]
                                have := HX.out.1
                                unfold setF
                                split
                                · rw [List.length_map]; omega
                                · simp; omega
                              obtain ⟨g, cap, rfl, _⟩ := Kd.S_form HRS.out.row hlen
                              have HSO := Lib.hid (sortN.calls rfl HRS.out.row hlen2)
                              have HPM := Lib.hid (And.intro hpm (And.intro hs3 hap2))
                              clear hpm hs3 hap2 hlen hlen2 hrs hl0
                              go_wp2_with (go_at_call 35; go_must (refine HSO.out.mono ?_); go_must (rintro e w5 ⟨rfl, ys, hyp, hys, hS, hB5⟩))
                              go_ret2
                              have e1 : ys = sortN (setF l tp t2) := by
                                rw [← HPM.out.2.1]
                                exact sortN_unique HPM.out.2.2 (hyp.trans HPM.out.1) hys
                              have hle : w.heap.size ≤ w4.heap.size := by have := HG.out.2.2.2.1; have := HG.out.2.2.2.2.1; omega
                              rw [HRV2.out, if_neg HG.out.2.2.2.2.2.2.2.2.2.2.1]
                              refine ⟨HRS.out.bl.trans (hB5.mono hle), _, rfl, ?_⟩
                              rw [← e1]
                              exact Kd.S_lower hS hle
                            · intro x fv w5 cnt1 hx hlf hrg1 hcl hg5 hs5 hen
                              obtain ⟨A6, c6, e6, y6, z6⟩ := ((HG.out.2.1 (x, fv) hx).quiet HQR.out HRS.out.kp).quiet (quiet_range HRS.out.rg) hg5
                              obtain rfl : fv = .slice A6 x.f1.length c6 := e6
                              have hdl : x.f1.length ≤ 1048576 := by
                                have hm : x ∈ F2.map (fun y => y.1) := List.mem_map_of_mem hx
                                rw [HG.out.2.2.2.2.2.2.2.1] at hm
                                unfold setF at hm
                                have hb := HG.out.2.2.2.2.2.2.2.2.2.2.1
                                split at hm
                                · obtain ⟨f, hf, rfl⟩ := List.mem_map.1 hm
                                  split
                                  · show t2.length ≤ _; omega
                                  · exact (HX.out.2.1 f hf).2
                                · rcases List.mem_append.1 hm with hm | hm
                                  · exact (HX.out.2.1 x hm).2
                                  · rw [List.mem_singleton.1 hm]; show t2.length ≤ _; omega
                              have HCL := Lib.hid (bytes_Clone.calls A6 c6 x.f1 x.f1 w5 z6 y6 (by rw [bytes_Clone.f, if_pos (by omega)]))
                              have HI := Lib.hid (And.intro hx (And.intro hlf (And.intro hrg1 (And.intro hg5 (And.intro hs5 hcl)))))
                              clear hx hlf hrg1 hg5 hs5 hcl y6 z6 hdl hrs
                              go_wp2_with (first
                                | (go_at_call 34; go_must (refine HCL.out.mono ?_); go_must (rintro e w6 ⟨vo, rfl, ho, q6⟩); obtain ⟨Ao, co, rfl⟩ := Kd.R_slice ho; have HCO := Lib.hid (And.intro ho q6); clear ho q6)
                                | (at_builtin; refine Kd.S_append k50 (w0 := w5) w4.heap.size rfl (.tmp 109) (.tmp 114) 39 50 (.agg #[.string ⟨#[]⟩, .slice none 0 0]) 40 rfl Tryz.underlying39 info50 rfl (by decide) (by decide) _ done ⟨x.f0, x.f1⟩ [.string x.f0, .slice Ao x.f1.length co] (fun _ => True) (fun k => w5.heap.size ≤ k) rfl rfl ?aP ?aK (fun _ _ => trivial) ?aO ?aB ?aS ?aL ?_
                                   (case aP => exact k50_mkM w6 _ _ ⟨x.f0, x.f1⟩ (Kd.R_lower (Kd.R_mono (Kd.R_bound HCO.out.1) (fun k hk => hk.2.1)) (by have := HRS.out.ls; have := HI.out.2.2.2.2.1; omega)))
                                   (case aK => exact fun k hk => ⟨trivial, fun e => by have := Kd.S_lt HRS.out.row k e.symm; have := HI.out.2.2.2.2.1; omega⟩)
                                   (case aO => exact Kd.S_mono (Kd.S_below (Kd.S_grown (Kd.S_bound HRS.out.row) HI.out.2.2.2.1 (fun k hk e => by have h1 := hk.2.1; have := HG.out.2.2.2.2.1; cases e; omega)) HCO.out.2) (fun k hk => ⟨trivial, fun h => by have h1 := hk.2.2.1; have := HI.out.2.2.2.2.1; omega⟩))
                                   (case aB => exact HCO.out.2.mono (by have := HRS.out.ls; have := HI.out.2.2.2.2.1; omega))
                                   (case aS => have := HRS.out.ls; have := HI.out.2.2.2.2.1; have := HCO.out.2.size; omega)
                                   (case aL => have := HRS.out.mx; omega)
                                   intro v7 w7 ho7 hb7 hg7 hat7
                                   have HF7 := Lib.hid (And.intro ho7 hb7)
                                   clear ho7 hb7 hg7 hat7))
                              go_roundg cnt1
                              case measure => exact HI.out.2.2.2.2.2
                              case rel => exact ⟨_, _, HRS.out.step HG.out.2.2.2.2.2.2.2.2.1 HG.out.2.2.1 (by have := HG.out.2.2.2.2.1; omega) rfl (by have := HG.out.2.2.2.1; have := HG.out.2.2.2.2.1; omega) HG.out.2.2.2.1 HI.out.1 HI.out.2.1 HI.out.2.2.1 HI.out.2.2.2.1 HI.out.2.2.2.2.1 HI.out.2.2.2.2.2 HF7.out.1 HF7.out.2⟩
    · rw [if_pos (by simpa using hk)] at hR
      subst hR hv
      have e0 : (K == 0) = false := by simpa using hk
      have e1 : (K != 0) = true := by simpa using hk
      clear hr hc hGl hGs hl hlc hV hK hb0 hbl hk
      go_enter Tryz.func16, Tryz.ntmps16
      go_wp2_with (first
        | (go_at_call 23; go_must (refine (HCK.out _ (by (repeat (first | with_reducible exact Below.refl _ _ | with_reducible apply below_alloc | with_reducible apply Below.drew | (refine below_step ?_ (by assumption)))))).mono ?_); go_must (rintro e w1 ⟨rfl, q1⟩))
        | (go_at_call 31; go_must (refine (HKK.out _ (by (repeat (first | with_reducible exact Below.refl _ _ | with_reducible apply below_alloc | with_reducible apply Below.drew | (refine below_step ?_ (by assumption)))))).mono ?_); go_must (rintro e w2 ⟨rfl, q2⟩)))
      go_ret2
      exact EvPost.fail (by (repeat (first | with_reducible exact Below.refl _ _ | with_reducible apply below_alloc | with_reducible apply Below.drew | (refine below_step ?_ (by assumption))))) _
  · rw [if_pos (by simpa using hv)] at hR
    subst hR
    have e0 : (V == 0) = false := by simpa using hv
    have e1 : (V != 0) = true := by simpa using hv
    clear hr hc hGl hGs hl hlc hV hK hb0 hbl hv
    go_enter Tryz.func16, Tryz.ntmps16
    go_wp2_with (go_at_call 23; go_must (refine (HCK.out _ (by (repeat (first | with_reducible exact Below.refl _ _ | with_reducible apply below_alloc | with_reducible apply Below.drew | (refine below_step ?_ (by assumption)))))).mono ?_); go_must (rintro e w1 ⟨rfl, q1⟩))
    go_ret2
    exact EvPost.fail (by (repeat (first | with_reducible exact Below.refl _ _ | with_reducible apply below_alloc | with_reducible apply Below.drew | (refine below_step ?_ (by assumption))))) _
end Go.Proofs.YthmijenlndnmcaaGreatDoor.Sh
