/-
  Hand-made contracts of functions of the program: EvalKit, EvalRange, Eval.
-/
import Derived.Test.YthmijenlndnmcaaGreatDoorHC
import Derived.Test.YthmijenlndnmcaaGreatDoorHD
import Derived.Maps.OwnSet
import Derived.Maps.OwnOps
import Derived.Maps.RangeWalk
import Derived.Test.YthmijenlndnmcaaGreatDoorShx2
import Derived.Test.YthmijenlndnmcaaGreatDoorShx0
namespace Go.Proofs.YthmijenlndnmcaaGreatDoor.Sh
open Go.RowKit Go.Proofs.YthmijenlndnmcaaGreatDoorW.PrintWords Go.Proofs.YthmijenlndnmcaaGreatDoorW.PrintLast Go.Proofs.YthmijenlndnmcaaGreatDoorW.PrintMore
attribute [local go_sem] max2_int min2_int max_two min_two max_three min_three max_four min_four
set_option linter.unusedVariables false
set_option linter.unusedSimpArgs false
def mapD1 (va : Value) : DataW Value := .map [(.string [97], .held va)]
def mapD2 (va vb : Value) : DataW Value := .map [(.string [97], .held va), (.string [98], .held vb)]
theorem keyA : keyOf Tryz.prog 9 (.string (⟨#[97]⟩ : ByteArray)) = some (.string [97]) := key_str (by decide)
theorem keyB : keyOf Tryz.prog 9 (.string (⟨#[98]⟩ : ByteArray)) = some (.string [98]) := key_str (by decide)
theorem key_inv {key : Value} {kl : Lit} (h : keyOf Tryz.prog 9 key = some kl) : ∃ s : ByteArray, key = .string s ∧ kl = .string s.data.toList := by
  rw [keyOf_string Tryz.underlying9] at h
  cases key <;> simp [mapKey, Tryz.underlying9] at h
  exact ⟨_, rfl, h.2.symm⟩
theorem name_of {s : ByteArray} {l : List UInt8} (h : s.data.toList = l) : s = ⟨l.toArray⟩ := str_eq_of (by simpa using h)
theorem entry_ab {x : ByteArray} {c : Value} {kl : Lit} {y : DataW Value × List MemPlace} {va vb : Value} (hkey : keyOf Tryz.prog 9 (.string x) = some kl) (hl : Maps.has (mapD2 va vb) kl = true) (hR : heldR c = some y)
    (hat : ∀ zd, (mapD2 va vb).atKey kl zd = y.1) : (x = (⟨#[97]⟩ : ByteArray) ∧ kl = .string [97] ∧ c = va) ∨ (x = (⟨#[98]⟩ : ByteArray) ∧ kl = .string [98] ∧ c = vb) := by
  obtain ⟨s, hs, hk⟩ := key_inv hkey
  cases hs
  cases hR
  subst hk
  have h := hat (.held va)
  rw [mapD2, Maps.has_eq] at hl
  simp [Lit.sameKey] at hl
  rcases hl with e | e
  · refine .inl ⟨name_of e.symm, by rw [← e], ?_⟩
    rw [← e] at h
    exact (DataW.held.inj h).symm
  · refine .inr ⟨name_of e.symm, by rw [← e], ?_⟩
    rw [← e] at h
    exact (DataW.held.inj h).symm
theorem infoN : (Tryz.prog.info? 50).map (fun i => (i.zero, i.size, i.bytes)) = some (some (.agg #[.string ⟨#[]⟩, .slice none 0 0]), 2, 40) := by kernel_rfl
theorem run_N_append {base : Nat} {W : World} {v : Value} {n : Nat} {xs : List Value} (hown : W.ownsRow base 50 2 v n xs) {B : Nat} (x : ByteArray × Option Addr × Nat × Nat) (hB : W.heap[B]? = some (.cells (encN x).toArray 50 (0, 0))) (hbase : base ≤ W.heap.size) (hn : n ≤ 10) :
    ∃ v1 w1, (Builtin.append_ #[39, 39] 39 #[v, .slice (some ⟨B, 0, none⟩) 1 1]).run Tryz.prog W = .ok v1 w1 ∧ w1.ownsRow base 50 2 v1 (n + 1) (xs ++ encN x) ∧ W.grownBy w1 v.ownBlock ∧ (v1.ownBlock = v.ownBlock ∨ v1.ownBlock = some W.heap.size) := by
  obtain ⟨i0, hi, hz0, hz1, hz2⟩ := info_parts infoN
  obtain ⟨v1, w1, hrun, h2, hg, _, hat⟩ := run_append_own_at (P := Tryz.prog) W base 39 39 50 i0 _ 2 40 Tryz.underlying39 hi hz0 hz1 hz2 rfl (by decide) v n xs hown ⟨B, 0, none⟩ 1 1 (encN x) rfl
    (by
      intro j u hj
      rw [add_plain]
      have : j < 2 := (List.getElem?_eq_some_iff.1 hj).1
      have h0 := blk_cell hB 0
      have h1 := blk_cell hB 1
      obtain rfl | rfl : j = 0 ∨ j = 1 := by omega
      · rw [← hj]; exact h0
      · rw [← hj]; exact h1)
    (by intro u hu; simp [encN] at hu; rcases hu with rfl | rfl <;> rfl) (by unfold maxLen; omega) (by omega) hbase
  exact ⟨v1, w1, hrun, h2, hg, hat⟩
theorem C_quiet {W W' : World} {row : Option Nat} (hr : ∀ r, row = some r → ∃ o : Obj, W.heap[r]? = some o ∧ o.isCells = false) (hg : W.grownBy W' row) {A : Option Addr} {n : Nat} {l : List Int} (h : Kd.C (Kd.int .u8) W A n l) : Kd.C (Kd.int .u8) W' A n l := by
  refine ⟨h.1, h.2.1, fun hn => ?_⟩
  obtain ⟨ad, e, hc⟩ := h.2.2 hn
  refine ⟨ad, e, fun j x hj => ?_⟩
  obtain ⟨cs, k1, k2, k3⟩ := hc j x hj
  refine ⟨cs, k1, k2, fun i u' hu' => ?_⟩
  have h5 := k3 i u' hu'
  rw [← h5]
  have hlt := World.block_lt_of_cell? W _ h5
  rw [add_block] at hlt
  refine World.cell?_of_block (w := W) (a := ad.add (j * (Kd.int .u8).sz + i)) ?_
  rw [add_block]
  refine hg.block _ hlt (fun e2 => ?_)
  obtain ⟨o, ho, hcl⟩ := hr _ e2.symm
  cases o with
  | cells cs' ty fr => cases hcl
  | _ => simp [World.cell?, add_block, ho] at h5
theorem quiet_map {W : World} {M n : Nat} {k : TypeId} {R : Value → Option (DataW Value × List MemPlace)} {D : DataW Value} (h : W.ownsMap Tryz.prog k R M n D) : ∀ r, some M = some r → ∃ o : Obj, W.heap[r]? = some o ∧ o.isCells = false := by
  intro r e
  cases e
  obtain ⟨es, clock, hb, _⟩ := h
  exact ⟨_, hb, rfl⟩
theorem quiet_range {W : World} {M r n cnt : Nat} {k : TypeId} {R : Value → Option (DataW Value × List MemPlace)} {D : DataW Value} {left : Lit → Bool} (h : W.ranges Tryz.prog k R M r n D left cnt) : ∀ s, some r = some s → ∃ o : Obj, W.heap[s]? = some o ∧ o.isCells = false := by
  intro s e
  cases e
  obtain ⟨es, clock, since, seen, c0, _, _, _, _, hr, _⟩ := h
  exact ⟨_, hr, rfl⟩
theorem fresh_quiet {W W' : World} {row : Option Nat} (hr : ∀ r, row = some r → ∃ o : Obj, W.heap[r]? = some o ∧ o.isCells = false) (hg : W.grownBy W' row) {base : Nat} {v : Value} {l : List Int} (h : Fresh W base v l) : Fresh W' base v l := by
  obtain ⟨A, c, h1, h2, h3, h4⟩ := h
  exact ⟨A, c, h1, h2, C_quiet hr hg h3, h4⟩
structure BX where
  b : Bool
def nmOf : Bool → ByteArray | false => ⟨#[97]⟩ | true => ⟨#[98]⟩
def keyO : Bool → Lit | false => .string [97] | true => .string [98]
def vOf (AO : Bool → Option Addr) (T : Bool → List Int) (C : Bool → Nat) (f : Bool) : Value := .slice (AO f) (T f).length (C f)
section
variable {P : Program} (w : World) {ops : Array Oper} {rest : List Oper} {o : Oper} {a : Act} {Q : Exit → Act → World → Prop}
theorem wpList_next_ab (hg : o.guard = none) (it : Operand) (hop : o.op = Op.next it false) (b r : Nat) (AO : Bool → Option Addr) (T : Bool → List Int) (C : Bool → Nat) (left : Lit → Bool) (cnt : Nat) (hit : a.eval it = .pointer (some ⟨r, 0, none⟩))
    (h : w.ranges Tryz.prog 9 heldR b r 2 (mapD2 (vOf AO T C false) (vOf AO T C true)) left cnt) (hsub : ∀ kl, left kl = true → Maps.has (mapD2 (vOf AO T C false) (vOf AO T C true)) kl = true)
    (hDone : (∀ kl, left kl = false) → wpList Tryz.prog ops Q rest (a.put o.dst (.tuple #[.bool false])) w)
    (hMore : ∀ (F : BX) (w' : World) (cnt' : Nat), left (keyO F.b) = true → w'.ranges Tryz.prog 9 heldR b r 2 (mapD2 (vOf AO T C false) (vOf AO T C true)) (fun z => left z && !z.sameKey (keyO F.b)) cnt' →
      w.grownBy w' (some r) → w'.heap.size = w.heap.size → (Instr.entry (.pointer (some ⟨r, 0, none⟩))).run Tryz.prog w' = .ok (.tuple #[.string (nmOf F.b), .slice (AO F.b) (T F.b).length (C F.b)]) w' → wpList Tryz.prog ops Q rest (a.put o.dst (.tuple #[.bool true, .string (nmOf F.b), .slice (AO F.b) (T F.b).length (C F.b)])) w') :
    wpList Tryz.prog ops Q (o :: rest) a w := by
  refine wpList_next_ranges w hg it hop 9 keyed9 heldR Value.string (fun v : Value => v) (fun key kl hk => by obtain ⟨s, rfl, _⟩ := key_inv hk; exact ⟨s, rfl⟩) (fun v y _ => ⟨v, rfl⟩) b r 2 _ left cnt hit h (fun _ hl => hDone hl) ?_
  intro x c kl y w' cnt' hkey hl hR hat hrg _ hgr hsz hen
  rcases entry_ab hkey (hsub kl hl) hR hat with ⟨rfl, rfl, rfl⟩ | ⟨rfl, rfl, rfl⟩
  · exact hMore ⟨false⟩ w' cnt' hl hrg hgr hsz hen
  · exact hMore ⟨true⟩ w' cnt' hl hrg hgr hsz hen
theorem wpList_append_run (hg : o.guard = none) (s x : Operand) (t : TypeId) (hop : o.op = Op.call { callee := Callee.builtin Builtin.append, args := #[s, x], argTypes := #[t, t] })
    (v : Value) (hs : a.eval s = v) (y : Value) (hx : a.eval x = y) (v1 : Value) (w1 : World) (hrun : (Builtin.append_ #[t, t] o.type #[v, y]).run P w = .ok v1 w1)
    (hK : wpList P ops Q rest (a.put o.dst v1) w1) : wpList P ops Q (o :: rest) a w := by
  refine wpList_plain hg fun K hK' => ?_
  unfold Oper.wp
  simp [execOp, hop, resolve, invoke, builtin, hs, hx, hrun, Result.andThen]
  exact hK' _ _ hK
end
structure FS (N M r : Nat) (w : World) (AO : Bool → Option Addr) (T : Bool → List Int) (C : Bool → Nat) (W : World) (v : Value) (done : List (Bool × (ByteArray × Option Addr × Nat × Nat))) (left : Lit → Bool) : Prop where
  rg : ∃ cnt, W.ranges Tryz.prog 9 heldR M r 2 (mapD2 (vOf AO T C false) (vOf AO T C true)) left cnt
  row : W.ownsRow N 50 2 v done.length (done.flatMap fun p => encN p.2)
  bl : Below N w W
  src : ∀ f, Kd.C (Kd.int .u8) W (AO f) (T f).length (T f)
  ok : ∀ p ∈ done, p.2.1 = nmOf p.1 ∧ p.2.2.2.1 = (T p.1).length ∧ Fresh W N (.slice p.2.2.1 p.2.2.2.1 p.2.2.2.2) (T p.1) ∧ ∀ ad, p.2.2.1 = some ad → 0 < (T p.1).length → v.ownBlock ≠ some ad.block
  sne : ∀ f ad, AO f = some ad → 0 < (T f).length → v.ownBlock ≠ some ad.block
  sub : ∀ kl, left kl = true → Maps.has (mapD2 (vOf AO T C false) (vOf AO T C true)) kl = true
  lt : N ≤ r ∧ N ≤ W.heap.size
theorem Fresh.blk_lt {W : World} {base : Nat} {A : Option Addr} {n c : Nat} {l : List Int} (h : Fresh W base (.slice A n c) l) {ad : Addr} (hA : A = some ad) (hl : 0 < l.length) : ad.block < W.heap.size := by
  obtain ⟨A', c', e1, e2, e3, e4⟩ := h
  cases e1
  obtain ⟨ad', e5, hc5⟩ := Kd.at_int e3 0 (by omega) (by omega)
  rw [hA] at e5; cases e5
  have := World.block_lt_of_cell? _ _ hc5
  rwa [add_block] at this
theorem FS.step {N M r : Nat} {w : World} {AO : Bool → Option Addr} {T : Bool → List Int} {C : Bool → Nat} {W : World} {v : Value} {done : List (Bool × (ByteArray × Option Addr × Nat × Nat))} {left : Lit → Bool} (h : FS N M r w AO T C W v done left) (hd : done.length ≤ 1)
    {f : Bool} {W1 : World} {cnt1 : Nat} (hrg : W1.ranges Tryz.prog 9 heldR M r 2 (mapD2 (vOf AO T C false) (vOf AO T C true)) (fun z => left z && !z.sameKey (keyO f)) cnt1) (hg1 : W.grownBy W1 (some r))
    {W2 : World} {A2 : Option Addr} {c2 : Nat} (hR : Fresh W2 W1.heap.size (.slice A2 (T f).length c2) (T f)) (hb : Below W1.heap.size W1 W2) :
    ∃ v1 W5, (Builtin.append_ #[39, 39] 39 #[v, .slice (some ⟨W2.heap.size, 0, none⟩) 1 1]).run Tryz.prog (W2.alloc (.cells #[.string (nmOf f), .slice A2 (T f).length c2] 50)) = .ok v1 W5 ∧
      FS N M r w AO T C W5 v1 (done ++ [(f, (nmOf f, A2, (T f).length, c2))]) (fun z => left z && !z.sameKey (keyO f)) ∧ ∃ A1 c1, v1 = .slice A1 (done.length + 1) c1 := by
  obtain ⟨cnt, hrg0⟩ := h.rg
  have hq := quiet_range hrg0
  have hs1 : W.heap.size ≤ W1.heap.size := hg1.size

  have row1 := h.row.kept hg1 (by
    rcases h.row.2 with ⟨rfl, _⟩ | ⟨g, cap, cur, rfl, hgb, hh, _⟩
    · exact .inl rfl
    · refine .inr fun e => ?_
      obtain ⟨o, ho, hcl⟩ := hq g (by simpa [Value.ownBlock] using e.symm)
      rw [hh] at ho; cases ho; cases hcl)
  have src1 := fun f => C_quiet hq hg1 (h.src f)
  have bl1 : Below N w W1 := h.bl.grown hg1 h.lt.2 (fun k e => by cases e; exact h.lt.1)

  obtain ⟨W3, hW3⟩ : ∃ W3, W3 = W2.alloc (.cells #[.string (nmOf f), .slice A2 (T f).length c2] 50) := ⟨_, rfl⟩
  have hb3 : Below W1.heap.size W1 W3 := by rw [hW3]; exact below_alloc hb _
  have hN3 : W3.heap[W2.heap.size]? = some (.cells (encN (nmOf f, A2, (T f).length, c2)).toArray 50 (0, 0)) := by rw [hW3]; exact blk_new _ _
  have row3 := pw_own_below row1 hb3
  have src3 := fun f => Kd.C_below (src1 f) hb3
  have hg3 : W1.grownBy W3 none := ⟨hb3.os, hb3.tape, hb3.output, hb3.size, fun i hi _ => hb3.block i hi⟩
  have hN1 : N ≤ W1.heap.size := Nat.le_trans h.lt.2 hs1
  have hN3' : N ≤ W3.heap.size := Nat.le_trans hN1 hb3.size
  have bl3 : Below N w W3 := bl1.trans (hb3.mono hN1)
  have rg3 := hrg.kept hg3 (by simp) (by simp)
  have hs23 : W3.heap.size = W2.heap.size + 1 := by rw [hW3]; simp
  obtain ⟨v1, W5, hrun, row5, hg5, hat5⟩ := run_N_append row3 (nmOf f, A2, (T f).length, c2) hN3 hN3' (by omega)
  rw [hW3] at hrun
  have hvl : ∀ g, v.ownBlock = some g → g < W.heap.size := fun g e => (h.row.lt g e).2
  have hvn : ∀ g, v.ownBlock = some g → N ≤ g := fun g e => own_base h.row g e
  have cg : ∀ {A : Option Addr} {l : List Int}, Kd.C (Kd.int .u8) W3 A l.length l → (∀ ad, A = some ad → 0 < l.length → v.ownBlock ≠ some ad.block) → Kd.C (Kd.int .u8) W5 A l.length l := fun {A l} hC hne => by
    obtain ⟨A', c', e1, _, e3, _⟩ := fresh_grown (g := 0) (base := 0) (W := W3) (u := .slice A l.length l.length) ⟨A, l.length, rfl, Nat.le_refl _, hC, fun _ _ => Nat.zero_le _⟩ hg5 (fun ad a b e hl => by cases e; exact hne ad rfl hl)
    cases e1
    exact e3
  have rg5 := rg3.kept hg5 (fun e => by
    obtain ⟨cs, hcs⟩ := own_typed row3 M e.symm
    obtain ⟨es, clock, hb', _⟩ := rg3.owns
    rw [hb'] at hcs; cases hcs) (fun e => by
    obtain ⟨cs, hcs⟩ := own_typed row3 r e.symm
    obtain ⟨o, ho, hcl⟩ := quiet_range rg3 r rfl
    rw [hcs] at ho; cases ho; cases hcl)
  refine ⟨v1, W5, hrun, ⟨⟨_, rg5⟩, ?_, bl3.grown hg5 hN3' (fun k e => hvn k e), fun f' => cg (src3 f') (h.sne f'), ?_, ?_, fun kl hl => h.sub kl (by simp at hl; exact hl.1), h.lt.1, Nat.le_trans hN3' hg5.size⟩, ?_⟩
  · rw [List.flatMap_append, List.length_append]
    simpa using row5
  · intro p hp
    rcases List.mem_append.1 hp with hp | hp
    · obtain ⟨h1, h2, h3, h4⟩ := h.ok p hp
      have hf1 := fresh_quiet hq hg1 h3
      have hf3 := hf1.below hb3
      refine ⟨h1, h2, fresh_grown (g := 0) hf3 hg5 (fun ad a b e hl => h4 ad (Value.slice.inj e).1 hl), fun ad e hl hk => ?_⟩
      rcases hat5 with ha | ha
      · rw [ha] at hk; exact h4 ad e hl hk
      · rw [ha] at hk
        have := Option.some.inj hk
        have := h3.blk_lt e hl
        have := hb3.size
        omega
    · simp only [List.mem_singleton] at hp
      subst hp
      have hf3 : Fresh W3 W1.heap.size (.slice A2 (T f).length c2) (T f) := by rw [hW3]; exact hR.below (below_alloc (Below.refl _ _) _)
      have hge : ∀ ad, A2 = some ad → W1.heap.size ≤ ad.block := fun ad e => by
        obtain ⟨A', c', e1, _, _, e4⟩ := hR
        cases e1
        exact e4 ad e
      refine ⟨rfl, rfl, (fresh_grown (g := 0) hf3 hg5 (fun ad a b e hl hk => by
        cases e
        have := hvl _ hk
        have := hge ad rfl
        omega)).mono hN1, fun ad e hl hk => ?_⟩
      rcases hat5 with ha | ha
      · rw [ha] at hk
        have := hvl _ hk
        have := hge ad e
        omega
      · rw [ha] at hk
        have := Option.some.inj hk
        have := hR.blk_lt e hl
        omega
  · intro f' ad e hl hk
    rcases hat5 with ha | ha
    · rw [ha] at hk; exact h.sne f' ad e hl hk
    · rw [ha] at hk
      have := Option.some.inj hk
      have h7 : Fresh W 0 (.slice (AO f') (T f').length (T f').length) (T f') := ⟨AO f', _, rfl, Nat.le_refl _, h.src f', fun _ _ => Nat.zero_le _⟩
      have := h7.blk_lt e hl
      have := hb3.size
      omega
  · rcases row5.2 with ⟨rfl, h0⟩ | ⟨g, cap, cur, rfl, _⟩
    · exact absurd h0 (by omega)
    · exact ⟨_, _, rfl⟩
theorem cmp_ab (x y : ByteArray × Option Addr × Nat × Nat) (f g : Bool) (hx : x.1 = nmOf f) (hy : y.1 = nmOf g) : ltOf cmpN x y = (!f && g) := by
  unfold ltOf cmpN
  rw [hx, hy]
  cases f <;> cases g <;> decide
theorem sorted_ab (f : Bool) (x y : ByteArray × Option Addr × Nat × Nat) (hx : x.1 = nmOf f) (hy : y.1 = nmOf (!f)) : sorted2 x y = #[bif f then y else x, bif f then x else y] := by
  have h1 : ltOf cmpN y x = f := by rw [cmp_ab y x (!f) f hy hx]; cases f <;> rfl
  unfold sorted2 Sort.insertionSort
  rw [Sort.insOuter, if_pos (by omega), Sort.insOuter, if_neg (by omega)]
  show Sort.insInner (ltOf cmpN) 0 1 #[x, y] = _
  rw [Sort.insInner]
  have e : (decide (0 + 1 > 0) && ltOf cmpN (#[x, y] : Array _)[0 + 1]! (#[x, y] : Array _)[0]!) = f := by
    show (decide (0 + 1 > 0) && ltOf cmpN y x) = f
    rw [h1]; simp
  rw [e]
  cases f with
  | false => rfl
  | true => rfl
theorem holds_row {W : World} {N g cap : Nat} {x y : ByteArray × Option Addr × Nat × Nat} (h : W.ownsRow N 50 2 (.slice (some ⟨g, 0, none⟩) 2 cap) 2 (encN x ++ encN y)) : Sort.HoldsK encN 2 W g 0 #[x, y] ∧ g < W.heap.size ∧ N ≤ g := by
  have hl : g < W.heap.size := (h.lt g rfl).2
  have hb : N ≤ g := own_base h g rfl
  refine ⟨?_, hl, hb⟩
  rcases h.2 with ⟨hv, _⟩ | ⟨g', cap', cur, hv, _, hh, hrest⟩
  · cases hv
  · cases hv
    intro j hj
    have hj4 : j < 4 := by simpa using hj
    have hc : W.cell? ⟨g, 0 + j, none⟩ = (encN x ++ encN y)[j]? := by
      rw [← hrest.2.2.2, List.getElem?_take, if_pos (by omega)]
      simp [World.cell?, hh]
    have hz : W.frozen? ⟨g, 0 + j, none⟩ = false := by simp [World.frozen?, hh]
    refine ⟨hc.trans ?_, hz⟩
    obtain rfl | rfl | rfl | rfl : j = 0 ∨ j = 1 ∨ j = 2 ∨ j = 3 := by omega
    all_goals (rw [Sort.get_flatK _ _ _ _ (by simp)]; rfl)
theorem row_cells {W : World} {g : Nat} {x y : ByteArray × Option Addr × Nat × Nat} (h : Sort.HoldsK encN 2 W g 0 #[x, y]) :
    W.cell? ⟨g, 0, none⟩ = some (.string x.1) ∧ W.cell? ⟨g, 1, none⟩ = some (.slice x.2.1 x.2.2.1 x.2.2.2) ∧ W.cell? ⟨g, 2, none⟩ = some (.string y.1) ∧ W.cell? ⟨g, 3, none⟩ = some (.slice y.2.1 y.2.2.1 y.2.2.2) := by
  have hs : (Sort.flatK encN 2 #[x, y]).size = 4 := by simp
  have k0 := (h 0 (by omega)).1
  have k1 := (h 1 (by omega)).1
  have k2 := (h 2 (by omega)).1
  have k3 := (h 3 (by omega)).1
  rw [Sort.get_flatK _ _ _ _ (by simp)] at k0 k1 k2 k3
  exact ⟨k0, k1, k2, k3⟩
def chainOf : List (List Int → Int × List Int) → List Int → Int × List Int
  | [], t => (0, t)
  | G :: r, t => if (G t).1 ≠ 0 then ((G t).1, []) else chainOf r (G t).2
def evalAB (xs : List S74) (Gs : List (List Int → Int × List Int)) (t : List Int) : Int × List Int :=
  if checkOf (⟨#[97]⟩ : ByteArray) xs (⟨#[98]⟩ : ByteArray) ≠ 0 then (checkOf (⟨#[97]⟩ : ByteArray) xs (⟨#[98]⟩ : ByteArray), []) else if 1048576 < t.length then (5, []) else chainOf Gs t
def EvalPost (w w' : World) (e : Ending) (r : Int × List Int) (t : List Int) : Prop :=
  Below w.heap.size w w' ∧ ((r.1 ≠ 0 ∧ e = .returned (.tuple #[.slice none 0 0, .int .i64 r.1])) ∨
    (r.1 = 0 ∧ ∃ g cap A1 c1 A2 c2, e = .returned (.tuple #[.slice (some ⟨g, 0, none⟩) 2 cap, .int .i64 0]) ∧ w.heap.size ≤ g ∧ w'.cell? ⟨g, 0, none⟩ = some (.string (⟨#[97]⟩ : ByteArray)) ∧ w'.cell? ⟨g, 1, none⟩ = some (.slice A1 t.length c1) ∧
      w'.cell? ⟨g, 2, none⟩ = some (.string (⟨#[98]⟩ : ByteArray)) ∧ w'.cell? ⟨g, 3, none⟩ = some (.slice A2 r.2.length c2) ∧ Fresh w' w.heap.size (.slice A1 t.length c1) t ∧ Fresh w' w.heap.size (.slice A2 r.2.length c2) r.2))
section
variable {P : Program} (w : World) {ops : Array Oper} {rest : List Oper} {o : Oper} {a : Act} {Q : Exit → Act → World → Prop}
theorem wpList_look_yes (hg : o.guard = none) (m x : Operand) (hop : o.op = Op.lookup 73 m x true) (b n : Nat) (va : Value)
    (hm : a.eval m = .map (some b)) (hown : w.ownsMap Tryz.prog 9 heldR b n (mapD1 va)) (hx : a.eval x = .string (⟨#[97]⟩ : ByteArray))
    (hK : wpList Tryz.prog ops Q rest (a.put o.dst (.tuple #[va, .bool true])) w) : wpList Tryz.prog ops Q (o :: rest) a w := by
  refine wpList_lookup_own_ok w hg m x 73 hop 9 23 keyed9 Tryz.underlying73 heldR (Tryz.zeroValue23 w) (.held (.slice none 0 0)) [] rfl b n _ hm hown _ _ hx keyA ?_
  intro v ps hv
  cases hv
  exact hK
theorem wpList_look_no (hg : o.guard = none) (m x : Operand) (hop : o.op = Op.lookup 73 m x true) (b n : Nat) (va : Value)
    (hm : a.eval m = .map (some b)) (hown : w.ownsMap Tryz.prog 9 heldR b n (mapD1 va)) (hx : a.eval x = .string (⟨#[98]⟩ : ByteArray))
    (hK : wpList Tryz.prog ops Q rest (a.put o.dst (.tuple #[.slice none 0 0, .bool false])) w) : wpList Tryz.prog ops Q (o :: rest) a w := by
  refine wpList_lookup_own_ok w hg m x 73 hop 9 23 keyed9 Tryz.underlying73 heldR (Tryz.zeroValue23 w) (.held (.slice none 0 0)) [] rfl b n _ hm hown _ _ hx keyB ?_
  intro v ps hv
  cases hv
  exact hK
end
theorem kernA : kernNamed (⟨#[97]⟩ : ByteArray) = true := by decide +kernel
theorem fresh_sort {W : World} {N g n : Nat} {d : Array (ByteArray × Option Addr × Nat × Nat)} {os : Array Obj} {A : Option Addr} {k c : Nat} {l : List Int} (h : Fresh W N (.slice A k c) l) (hne : ∀ ad, A = some ad → 0 < l.length → ad.block ≠ g) : Fresh (sortWorldK encN 2 W g 0 n d os) N (.slice A k c) l := by
  obtain ⟨A', c', e1, h2, h3, h4⟩ := h
  cases e1
  refine ⟨A, c, rfl, h2, ⟨h3.1, h3.2.1, fun hn => ?_⟩, h4⟩
  obtain ⟨ad, e, hc⟩ := h3.2.2 hn
  have hbg := hne ad e hn
  refine ⟨ad, e, fun j x hj => ?_⟩
  obtain ⟨cs, k1, k2, k3⟩ := hc j x hj
  refine ⟨cs, k1, k2, fun i u' hu' => ?_⟩
  have h5 := k3 i u' hu'
  rw [← h5]
  have hlt := World.block_lt_of_cell? W _ h5
  refine World.cell?_of_block (w := W) (a := ad.add (j * (Kd.int .u8).sz + i)) ?_
  rw [add_block] at hlt ⊢
  exact sortWorld_other W g n d os _ hbg hlt
theorem FS.final {M r : Nat} {w : World} {AO : Bool → Option Addr} {T : Bool → List Int} {C : Bool → Nat} {W : World} {v : Value} {f : Bool} {x y : ByteArray × Option Addr × Nat × Nat} {left : Lit → Bool} (h : FS w.heap.size M r w AO T C W v [(f, x), (!f, y)] left) :
    ∃ g cap, v = .slice (some ⟨g, 0, none⟩) 2 cap ∧ Sort.HoldsK encN 2 W g 0 #[x, y] ∧ g < W.heap.size ∧
      ∀ n os, EvalPost w (sortWorldK encN 2 W g 0 n (sorted2 x y) os) (.returned (.tuple #[.slice (some ⟨g, 0, none⟩) 2 cap, .int .i64 0])) (0, T true) (T false) := by
  obtain ⟨hx1, hx2, hx3, hx4⟩ := h.ok (f, x) (by simp)
  obtain ⟨hy1, hy2, hy3, hy4⟩ := h.ok (!f, y) (by simp)
  have hrow := h.row
  obtain ⟨g, cap, rfl⟩ : ∃ g cap, v = .slice (some ⟨g, 0, none⟩) 2 cap := by
    rcases hrow.2 with ⟨_, h0⟩ | ⟨g, cap, cur, hv, _⟩
    · simp at h0
    · exact ⟨g, cap, hv⟩
  simp only [List.length_cons, List.length_nil, List.flatMap_cons, List.flatMap_nil, List.append_nil] at hrow
  obtain ⟨hH, hgl, hgN⟩ := holds_row hrow
  refine ⟨g, cap, rfl, hH, hgl, fun n os => ?_⟩
  rw [sorted_ab f x y hx1 hy1]
  have hH2 := holdsK_sortWorldK_c encN 2 W g 0 #[x, y] #[bif f then y else x, bif f then x else y] n os hH hgl rfl
  have q := sortWorld_below W g n w.heap.size hgN hgl #[bif f then y else x, bif f then x else y] os
  have hfx := fresh_sort (n := n) (d := #[bif f then y else x, bif f then x else y]) (os := os) hx3 (fun ad e hl hb => hx4 ad e hl (by rw [hb]; rfl))
  have hfy := fresh_sort (n := n) (d := #[bif f then y else x, bif f then x else y]) (os := os) hy3 (fun ad e hl hb => hy4 ad e hl (by rw [hb]; rfl))
  obtain ⟨k0, k1, k2, k3⟩ := row_cells hH2
  generalize sortWorldK encN 2 W g 0 n #[bif f then y else x, bif f then x else y] os = W' at *
  refine ⟨h.bl.trans q, .inr ⟨rfl, ?_⟩⟩
  cases f with
  | false =>
    simp only [cond_false, Bool.not_false] at *
    rw [hx1] at k0; rw [hx2] at k1 hfx; rw [hy1] at k2; rw [hy2] at k3 hfy
    exact ⟨g, cap, x.2.1, x.2.2.2, y.2.1, y.2.2.2, rfl, hgN, k0, k1, k2, k3, hfx, hfy⟩
  | true =>
    simp only [cond_true, Bool.not_true] at *
    rw [hy1] at k0; rw [hy2] at k1 hfy; rw [hx1] at k2; rw [hx2] at k3 hfx
    exact ⟨g, cap, y.2.1, y.2.2.2, x.2.1, x.2.2.2, rfl, hgN, k0, k1, k2, k3, hfy, hfx⟩
set_option maxHeartbeats 4000000 in
set_option maxRecDepth 100000 in
theorem evalAB.calls (xs : List S74) (Gs : List (List Int → Int × List Int)) (A : Option Addr) (c : Nat) (w0 w : World) (adf : Addr) (cf : Nat) (DA : Option Addr) (dc : Nat) (t : List Int) (hb0 : Below w0.heap.size w0 w) (hbt : byteL t)
    (hr : Kd.C k74 w A xs.length xs) (hc : xs.length ≤ c) (hGl : Gs.length = xs.length)
    (hGs : checkOf (⟨#[97]⟩ : ByteArray) xs (⟨#[98]⟩ : ByteArray) = 0 → ∀ i, (h : i < Gs.length) → ThrOK w0 (rd_T74 xs (i : Int)) Gs[i] ∧ ∀ u, byteL u → (Gs[i] u).1 = 0 → (Gs[i] u).2.length ≤ 1048576 ∧ byteL (Gs[i] u).2)
    (hf0 : w.cell? adf = some (.string (⟨#[97]⟩ : ByteArray))) (hf1 : w.cell? (adf.add 1) = some (.slice DA t.length dc)) (ht : Kd.C (Kd.int .u8) w DA t.length t) (htc : t.length ≤ dc) :
    Calls Tryz.prog 16 #[.agg #[.string (⟨#[97]⟩ : ByteArray), .slice A xs.length c, .string (⟨#[98]⟩ : ByteArray), .bool false], .slice (some adf) 1 cf] w fun e w' => EvalPost w w' e (evalAB xs Gs t) t := by
  have hu := Tryz.underlying46
  have hu2 := Tryz.underlying74
  have hu3 := Tryz.underlying50
  have hu4 := Tryz.underlying72
  have hmm := @run_makeMap Tryz.prog
  have hxl : xs.length ≤ 9223372036854775807 := hr.2.1
  have HBT := Lib.hid hbt
  clear hbt
  have HCK := Lib.hid (fun W (hB : Below w.heap.size w W) => shell_CheckH.calls (⟨#[97]⟩ : ByteArray) (⟨#[98]⟩ : ByteArray) false A c xs W (Kd.C_below hr hB) hc)
  have HKK := fun W (hB : Below w.heap.size w W) => kern_Check1.calls (⟨#[97]⟩ : ByteArray) adf cf t.length dc DA W (pw_cell_below hB hf0) (pw_cell_below hB hf1)
  rw [kernA] at HKK
  simp only [if_true] at HKK
  obtain ⟨V, hV⟩ : ∃ V, V = checkOf (⟨#[97]⟩ : ByteArray) xs (⟨#[98]⟩ : ByteArray) := ⟨_, rfl⟩
  unfold evalAB
  rw [← hV] at HCK hGs ⊢
  have H0 : ∀ W, Below w.heap.size w W → W.cell? adf = some (.string (⟨#[97]⟩ : ByteArray)) := fun W hb => pw_cell_below hb hf0
  have H1 : ∀ W, Below w.heap.size w W → W.cell? ⟨adf.block, adf.off + 1, none⟩ = some (.slice DA t.length dc) := fun W hb => pw_cell_below hb hf1
  have HH := Lib.hid (And.intro H0 (And.intro H1 (And.intro hr (And.intro hc (And.intro hGl (And.intro hGs (And.intro ht (And.intro htc hb0))))))))
  clear H0 H1 hf0 hf1 hr hc hGl hGs ht htc hb0 hV
  by_cases hv : V = 0
  · subst hv
    rw [if_neg (by simp)]
    by_cases hl : 1048576 < t.length
    · rw [if_pos hl]
      simp only [hl, if_true] at HKK
      have HK2 := Lib.hid HKK
      clear HKK hl
      go_enter Tryz.func16, Tryz.ntmps16
      go_wp2_with (first
        | (go_at_call 23; go_must (refine (HCK.out _ (by (repeat (first | with_reducible exact Below.refl _ _ | with_reducible apply below_alloc | with_reducible apply Below.drew | (refine below_step ?_ (by assumption)))))).mono ?_); go_must (rintro e w1 ⟨rfl, q1⟩))
        | (go_at_call 31; go_must (refine (HK2.out _ (by (repeat (first | with_reducible exact Below.refl _ _ | with_reducible apply below_alloc | with_reducible apply Below.drew | (refine below_step ?_ (by assumption)))))).mono ?_); go_must (rintro e w2 ⟨rfl, q2⟩)))
      go_ret2
      exact ⟨by (repeat (first | with_reducible exact Below.refl _ _ | with_reducible apply below_alloc | with_reducible apply Below.drew | (refine below_step ?_ (by assumption)))), .inl ⟨by decide, rfl⟩⟩
    · rw [if_neg hl]
      obtain ⟨R, hR⟩ : ∃ R, R = chainOf Gs t := ⟨_, rfl⟩
      rw [← hR]
      have HR := Lib.hid hR
      clear hR
      simp only [hl, if_false] at HKK
      have HK2 := Lib.hid HKK
      have HL := Lib.hid hl
      clear HKK hl
      go_enter Tryz.func16, Tryz.ntmps16
      go_wp2_with (first
        | (go_at_call 23; go_must (refine (HCK.out _ (by (repeat (first | with_reducible exact Below.refl _ _ | with_reducible apply below_alloc | with_reducible apply Below.drew | (refine below_step ?_ (by assumption)))))).mono ?_); go_must (rintro e w1 ⟨rfl, q1⟩); have k1 : w1.heap[w.heap.size]? = some (.cells #[.string (⟨#[97]⟩ : ByteArray), .slice A xs.length c, .string (⟨#[98]⟩ : ByteArray), .bool false] 46 (0, 0)) := blk_below (blk_new w _) q1)
        | (go_at_call 31; go_must (refine (HK2.out _ (by (repeat (first | with_reducible exact Below.refl _ _ | with_reducible apply below_alloc | with_reducible apply Below.drew | (refine below_step ?_ (by assumption)))))).mono ?_); go_must (rintro e w2 ⟨rfl, q2⟩); have k2 := blk_below k1 q2))
      have hBM : Below w.heap.size w (w2.alloc (.map #[] 0)) := by (repeat (first | with_reducible exact Below.refl _ _ | with_reducible apply below_alloc | with_reducible apply Below.drew | (refine below_step ?_ (by assumption))))
      have hM0 := World.ownsMap_made w2 Tryz.prog 9 heldR
      have hk2 := blk_alloc k2 (.map #[] 0)
      have hNM : w.heap.size < w2.heap.size := blk_lt k2
      have HZ := Lib.hid (And.intro hBM (And.intro hM0 (And.intro hk2 hNM)))
      obtain ⟨M, hM⟩ : ∃ M, M = w2.heap.size := ⟨_, rfl⟩
      rw [← hM] at HZ ⊢
      clear hBM hM0 hk2 hNM k1 k2 q1 q2
      have HMM := Lib.hid hM
      clear hM
      go_loopg [34] 1 (fun k v wr => ((k = 1 ∧ v = .int .i64 0 ∧ wr.ownsMap Tryz.prog 9 heldR M 0 (.map [])) ∨ (k = 0 ∧ v = .int .i64 1 ∧ wr.ownsMap Tryz.prog 9 heldR M 1 (mapD1 (.slice DA t.length dc)))) ∧
        wr.heap[w.heap.size]? = some (.cells #[.string (⟨#[97]⟩ : ByteArray), .slice A xs.length c, .string (⟨#[98]⟩ : ByteArray), .bool false] 46 (0, 0)) ∧ Below w.heap.size w wr ∧ w.heap.size < M)
      case atStart => exact ⟨.inl ⟨rfl, rfl, HZ.out.2.1⟩, HZ.out.2.2.1, HZ.out.1, HZ.out.2.2.2⟩
      case round =>
        clear HZ
        obtain ⟨hcase, hb, hB, hNM⟩ := hrel
        have HB := Lib.hid hB
        have u0 : wr.cell? ⟨w.heap.size, 0, none⟩ = some (.string (⟨#[97]⟩ : ByteArray)) := by have h := blk_cell hb 0; exact h
        have u1 : wr.cell? ⟨w.heap.size, 1, none⟩ = some (.slice A xs.length c) := by have h := blk_cell hb 1; exact h
        have u2 : wr.cell? ⟨w.heap.size, 2, none⟩ = some (.string (⟨#[98]⟩ : ByteArray)) := by have h := blk_cell hb 2; exact h
        have u3 : wr.cell? ⟨w.heap.size, 3, none⟩ = some (.bool false) := by have h := blk_cell hb 3; exact h
        rcases hcase with ⟨rfl, rfl, hm⟩ | ⟨rfl, rfl, hm⟩
        · have c0 := HH.out.1 _ hB
          have c1 := HH.out.2.1 _ hB
          have hml := hm.lt
          have hnl := blk_lt hb
          have HBX := Lib.hid hb
          clear hb hB
          go_wp2_with (at_mapUpdate; refine wpList_mapUpdate_own _ rfl _ _ _ 73 rfl 9 23 keyed9 Tryz.underlying73 heldR M 0 _ rfl (hm.alloc _) (by unfold maxLen; omega) _ _ _ rfl rfl keyA _ [] rfl ?_; intro w3 hm3 hg3)
          go_roundg 0
          case measure => omega
          case rel => exact ⟨.inr ⟨rfl, rfl, hm3⟩, blk_grown (blk_alloc HBX.out _) hg3 (fun e => by cases e; omega), (below_alloc HB.out _).grown hg3 (by have := HB.out.size; simp; omega) (fun k e => by cases e; omega), hNM⟩
        · have HM := Lib.hid hm
          clear hB
          go_wp2_with (at_lookup; first | (refine wpList_look_yes _ rfl _ _ rfl M 1 _ rfl HM.out rfl ?_) | (refine wpList_look_no _ rfl _ _ rfl M 1 _ rfl HM.out rfl ?_))
          go_loopg [11, 75] xs.length (fun k v11 v75 wr => ∃ (i : Nat) (At : Option Addr) (ct : Nat) (tt : List Int), v75 = .int .i64 i ∧ v11 = .slice At tt.length ct ∧ i ≤ xs.length ∧ k = xs.length - i ∧ chainOf (Gs.drop i) tt = R ∧ Kd.C (Kd.int .u8) wr At tt.length tt ∧ tt.length ≤ ct ∧ (tt.length ≤ 1048576 ∧ byteL tt) ∧
            wr.ownsMap Tryz.prog 9 heldR M 1 (mapD1 (.slice DA t.length dc)) ∧ wr.heap[w.heap.size]? = some (.cells #[.string (⟨#[97]⟩ : ByteArray), .slice A xs.length c, .string (⟨#[98]⟩ : ByteArray), .bool false] 46 (0, 0)) ∧ Below w.heap.size w wr ∧ w.heap.size < M)
          case atStart => exact ⟨0, DA, dc, t, rfl, rfl, by omega, by omega, by rw [List.drop_zero]; exact HR.out.symm, Kd.C_below HH.out.2.2.2.2.2.2.1 HB.out, HH.out.2.2.2.2.2.2.2.1, ⟨by have := HL.out; omega, HBT.out⟩, HM.out, hb, HB.out, hNM⟩
          case round =>
            clear hb u0 u1 u2 u3 HB HM hm
            obtain ⟨i, At, ct, tt, rfl, rfl, hi, hk, hch, hT, hTc, ⟨hTl, hTb⟩, hm, hb, hB, _⟩ := hrel
            have HK := Lib.hid hk
            clear hk
            by_cases hlt : i < xs.length
            · have hgl := HH.out.2.2.2.2.1
              have hig : i < Gs.length := by omega
              obtain ⟨hth, hle⟩ := HH.out.2.2.2.2.2.1 (by first | rfl | trivial) i hig
              rw [List.drop_eq_getElem_cons hig, chainOf] at hch
              obtain ⟨ad, eA, x0, x1, x2⟩ := at_T74 (Kd.C_below HH.out.2.2.1 hB) (i : Int) (by omega) (by omega)
              subst eA
              have hadl : ad.block < wr.heap.size := by have := World.block_lt_of_cell? wr _ x0; rwa [add_block] at this
              obtain ⟨x, hxx⟩ : ∃ x, x = rd_T74 xs (i : Int) := ⟨_, rfl⟩
              rw [← hxx] at x0 x1 x2 hth
              simp only [Int.toNat_natCast] at x0 x1 x2
              obtain ⟨G, hG⟩ : ∃ G, G = Gs[i] := ⟨_, rfl⟩
              rw [← hG] at hth hle hch
              clear hxx hG
              have HTH := Lib.hid (hth At ct tt (wr.alloc (.cells #[.string x.f0, .int .i64 x.f1, .string x.f2] 74)) (below_alloc (HH.out.2.2.2.2.2.2.2.2.trans (hB.mono HH.out.2.2.2.2.2.2.2.2.size)) _) hTb (Kd.C_below hT (below_alloc (Below.refl _ _) _)) hTc hTl)
              have hle2 := hle tt hTb
              clear hth hle
              generalize hg2 : G tt = gr at *
              obtain ⟨er, g2⟩ := gr
              have h3 : decide ((i : Int) < (xs.length : Int)) = true := by simp; omega
              have p := eq_true (show 0 ≤ (i : Int) by omega)
              have q := eq_true (show (i : Int) < (xs.length : Int) by omega)
              have HI := Lib.hid (And.intro hT (And.intro hTc (And.intro hTl (And.intro hm (And.intro hb (And.intro hB hle2))))))
              have u1 : wr.cell? ⟨w.heap.size, 1, none⟩ = some (.slice (some ad) xs.length c) := by have h := blk_cell hb 1; exact h
              clear hT hTc hTl hTb hm hb hB hle2 hgl hg2
              by_cases he : er = 0
              · subst he
                rw [if_neg (by simp)] at hch
                have HC := Lib.hid hch
                clear hch hig
                go_wp2_with (go_at_call 32; go_must (refine HTH.out.mono ?_); go_must (rintro e w3 ⟨vo, rfl, ho, q3⟩; obtain ⟨Ao, co, rfl, hco, hCo, hAo⟩ := ho))
                go_roundg (xs.length - (i + 1))
                case measure => have := HK.out; omega
                case rel =>
                  have b3 := below_step (below_alloc (Below.refl wr.heap.size wr) _) q3
                  exact ⟨i + 1, Ao, co, g2, by go_num, rfl, by omega, rfl, HC.out, hCo, hco, HI.out.2.2.2.2.2.2 (by first | rfl | trivial), owns_below HI.out.2.2.2.1 b3 HI.out.2.2.2.1.lt, blk_below HI.out.2.2.2.2.1 b3, HI.out.2.2.2.2.2.1.trans (b3.mono HI.out.2.2.2.2.2.1.size), hNM⟩
              · rw [if_pos he] at hch
                have HC := Lib.hid hch
                have e0 : (er == 0) = false := by simpa using he
                have e1 : (er != 0) = true := by simpa using he
                have HE := Lib.hid he
                clear hch hig he
                go_wp2_with (go_at_call 32; go_must (refine HTH.out.mono ?_); go_must (rintro e w3 ⟨vo, rfl, ho, q3⟩))
                go_ret2
                have b3 := below_step (below_alloc (Below.refl wr.heap.size wr) _) q3
                rw [← HC.out]
                exact ⟨HI.out.2.2.2.2.2.1.trans (b3.mono HI.out.2.2.2.2.2.1.size), .inl ⟨HE.out, rfl⟩⟩
            · obtain rfl : i = xs.length := by omega
              have hgl := HH.out.2.2.2.2.1
              rw [List.drop_eq_nil_of_le (by omega), chainOf] at hch
              subst hch
              have u2 : wr.cell? ⟨w.heap.size, 2, none⟩ = some (.string (⟨#[98]⟩ : ByteArray)) := by have h := blk_cell hb 2; exact h
              have u3 : wr.cell? ⟨w.heap.size, 3, none⟩ = some (.bool false) := by have h := blk_cell hb 3; exact h
              have h3 : decide ((xs.length : Int) < (xs.length : Int)) = false := by simp
              have h4 : decide ((tt.length : Int) > 1048576) = false := by simp; omega
              have HI := Lib.hid (And.intro hT (And.intro hTc (And.intro hTl (And.intro hm hB))))
              have HTF := Lib.hid (And.intro HH.out.2.2.2.2.2.2.1 (And.intro HH.out.2.2.2.2.2.2.2.1 HL.out))
              clear hT hTc hTl hTb hm hB hb hgl HH HR HCK HK2 HL hlt hi
              go_wp2_with (first
                | (at_mapUpdate; refine wpList_mapUpdate_own _ rfl _ _ _ 73 rfl 9 23 keyed9 Tryz.underlying73 heldR M 1 _ rfl HI.out.2.2.2.1 (by unfold maxLen; omega) _ _ _ rfl rfl keyB _ [] rfl ?_; intro w3 hm3 hg3)
                | (at_range; refine wpList_range_own _ rfl _ 73 rfl 9 23 keyed9 Tryz.underlying73 heldR M 2 _ rfl hm3 ?_; intro w4 hrg0 hg0 hs0))
              go_frame
              obtain ⟨AO, hAO⟩ : ∃ AO : Bool → Option Addr, AO = fun f => bif f then At else DA := ⟨_, rfl⟩
              obtain ⟨T, hTT⟩ : ∃ T : Bool → List Int, T = fun f => bif f then tt else t := ⟨_, rfl⟩
              obtain ⟨C, hCC⟩ : ∃ C : Bool → Nat, C = fun f => bif f then ct else dc := ⟨_, rfl⟩
              have hTC : ∀ f, (T f).length ≤ C f := by intro f; rw [hTT, hCC]; cases f; exact HTF.out.2.1; exact HI.out.2.1
              have hTZ : ∀ f, (T f).length ≤ 1048576 := by intro f; rw [hTT]; have := HTF.out.2.2; cases f; (show t.length ≤ _; omega); exact HI.out.2.2.1
              have hv : mapD2 (.slice DA t.length dc) (.slice At tt.length ct) = mapD2 (vOf AO T C false) (vOf AO T C true) := by rw [hAO, hTT, hCC]; rfl
              have hFS0 : FS w.heap.size M w3.heap.size w AO T C w4 (.slice none 0 0) [] (Maps.has (mapD2 (vOf AO T C false) (vOf AO T C true))) := by
                have hq := quiet_map HI.out.2.2.2.1
                refine ⟨⟨_, by rw [← hv]; exact hrg0⟩, World.ownsRow_nil _ _ _ _, (HI.out.2.2.2.2.grown hg3 HI.out.2.2.2.2.size (fun k e => by cases e; omega)).grown hg0 (Nat.le_trans HI.out.2.2.2.2.size hg3.size) (fun k e => by cases e), ?_, by simp, fun f ad _ _ h => (by simp [Value.ownBlock] at h), fun kl h => h, Nat.le_trans HI.out.2.2.2.2.size hg3.size, Nat.le_trans HI.out.2.2.2.2.size (Nat.le_trans hg3.size hg0.size)⟩
                intro f
                refine C_quiet (row := none) (fun r e => by cases e) hg0 (C_quiet hq hg3 ?_)
                rw [hAO, hTT]
                cases f
                · exact Kd.C_below HTF.out.1 HI.out.2.2.2.2
                · exact HI.out.1
              have hT1 : T true = tt := by rw [hTT]; rfl
              have hT0 : T false = t := by rw [hTT]; rfl
              have HT10 := Lib.hid (And.intro hT1 hT0)
              have HFS := Lib.hid hFS0
              have HTZ := Lib.hid (And.intro hTC hTZ)
              clear hFS0 hTC hTZ hv hAO hTT hCC hm3 hrg0 HI HTF hs0 hT1 hT0
              have hk9 : ∀ f : Bool, Maps.has (mapD2 (vOf AO T C false) (vOf AO T C true)) (keyO f) = true := by intro f; cases f <;> rfl
              have hkk : ∀ f g : Bool, (keyO f).sameKey (keyO g) = (f == g) := by intro f g; cases f <;> cases g <;> rfl
              have HKY := Lib.hid (And.intro hk9 hkk)
              clear hk9 hkk
              go_loopg [17] 2 (fun k v17 wr => ∃ done left, FS w.heap.size M w3.heap.size w AO T C wr v17 done left ∧ ((k = 2 ∧ done = [] ∧ left = Maps.has (mapD2 (vOf AO T C false) (vOf AO T C true))) ∨
                (k = 1 ∧ ∃ f x, done = [(f, x)] ∧ left = fun z => Maps.has (mapD2 (vOf AO T C false) (vOf AO T C true)) z && !z.sameKey (keyO f)) ∨
                (k = 0 ∧ ∃ f x y, done = [(f, x), (!f, y)] ∧ left = fun z => (Maps.has (mapD2 (vOf AO T C false) (vOf AO T C true)) z && !z.sameKey (keyO f)) && !z.sameKey (keyO (!f)))))
              case atStart => exact ⟨[], _, HFS.out, .inl ⟨rfl, rfl, rfl⟩⟩
              case round =>
                clear HFS
                obtain ⟨done, left, hfs, hst⟩ := hrel
                obtain ⟨cnt, hrg⟩ := hfs.rg
                have HFS := Lib.hid hfs
                have HST := Lib.hid hst
                clear hst
                go_wp2_with (first
                  | (at_next; refine wpList_next_ab _ rfl _ rfl M w3.heap.size AO T C left cnt rfl hrg hfs.sub ?_ ?_)
                  | go_in)
                · intro hl0
                  rcases HST.out with ⟨rfl, rfl, rfl⟩ | ⟨rfl, f, x, rfl, rfl⟩ | ⟨rfl, f, x, y, rfl, rfl⟩
                  · exact absurd (hl0 (keyO false)) (by rw [HKY.out.1]; simp)
                  · have h := hl0 (keyO (!f))
                    simp only [HKY.out.1, HKY.out.2] at h
                    cases f <;> simp at h
                  · clear hl0 hrg
                    obtain ⟨g, cap, rfl, hH, hgl2, hpost⟩ := hfs.final
                    have HS := Lib.hid (sort2.calls g cap x y _ hH hgl2)
                    have HP := Lib.hid hpost
                    clear hH hgl2 hpost hfs HFS HST
                    go_wp2_with (go_at_call 35; go_must (refine HS.out.mono ?_); go_must (rintro e w5 ⟨rfl, n, os, rfl⟩))
                    go_ret2
                    have h := HP.out n os
                    rw [HT10.out.1, HT10.out.2] at h
                    exact h
                · rintro ⟨f⟩ w5 cnt1 hlf hrg1 hg5 hs5 hen
                  have hlen : done.length ≤ 1 := by
                    rcases HST.out with ⟨_, rfl, _⟩ | ⟨_, f, x, rfl, _⟩ | ⟨_, g, x, y, _, rfl⟩
                    · simp
                    · simp
                    · have h2 : (Maps.has (mapD2 (vOf AO T C false) (vOf AO T C true)) (keyO f) && !(keyO f).sameKey (keyO g) && !(keyO f).sameKey (keyO (!g))) = true := hlf
                      rw [HKY.out.1, HKY.out.2, HKY.out.2] at h2
                      cases f <;> cases g <;> simp at h2
                  have HCL := Lib.hid (bytes_Clone.calls (AO f) (C f) (T f) (T f) w5 (C_quiet (quiet_range hrg) hg5 (hfs.src f)) (HTZ.out.1 f) (by rw [bytes_Clone.f, if_pos (by have := HTZ.out.2 f; omega)]))
                  have HR := Lib.hid (And.intro hrg1 (And.intro hg5 (And.intro hlf hlen)))
                  clear hrg hrg1 hg5 hlf hlen hfs
                  go_wp2_with (first
                    | (go_at_call 34; go_must (refine HCL.out.mono ?_); go_must (
                        rintro e w6 ⟨vo, rfl, ho, q6⟩
                        obtain ⟨A2, c2, rfl⟩ := Kd.R_slice ho
                        obtain ⟨v1, w7, hrun, hfs7, _⟩ := HFS.out.step HR.out.2.2.2 HR.out.1 HR.out.2.1 (Fresh.of_R ho) q6
                        have HF7 := Lib.hid hfs7
                        clear hfs7))
                    | (at_builtin; refine wpList_append_run _ rfl _ _ 39 rfl _ rfl _ rfl v1 w7 hrun ?_))
                  rcases HST.out with ⟨rfl, rfl, rfl⟩ | ⟨rfl, g, x, rfl, rfl⟩ | ⟨rfl, g, x, y, rfl, rfl⟩
                  · go_roundg 1
                    case measure => omega
                    case rel => exact ⟨_, _, HF7.out, .inr (.inl ⟨rfl, f, _, rfl, rfl⟩)⟩
                  · have hfg : f = !g := by
                      have h2 : (Maps.has (mapD2 (vOf AO T C false) (vOf AO T C true)) (keyO f) && !(keyO f).sameKey (keyO g)) = true := HR.out.2.2.1
                      rw [HKY.out.1, HKY.out.2] at h2
                      cases f <;> cases g <;> simp at h2 <;> rfl
                    subst hfg
                    go_roundg 0
                    case measure => omega
                    case rel => exact ⟨_, _, HF7.out, .inr (.inr ⟨rfl, g, x, _, rfl, rfl⟩)⟩
                  · have := HR.out.2.2.2
                    simp at this
  · rw [if_pos hv]
    have hv0 : (V == 0) = false := by simpa using hv
    have hv1 : (V != 0) = true := by simpa using hv
    have HV := Lib.hid hv
    clear HKK hv
    go_enter Tryz.func16, Tryz.ntmps16
    go_wp2_with (go_at_call 23; go_must (refine (HCK.out _ (by (repeat (first | with_reducible exact Below.refl _ _ | with_reducible apply below_alloc | with_reducible apply Below.drew | (refine below_step ?_ (by assumption)))))).mono ?_); go_must (rintro e w1 ⟨rfl, q1⟩))
    go_ret2
    exact ⟨by (repeat (first | with_reducible exact Below.refl _ _ | with_reducible apply below_alloc | with_reducible apply Below.drew | (refine below_step ?_ (by assumption)))), .inl ⟨HV.out, rfl⟩⟩
end Go.Proofs.YthmijenlndnmcaaGreatDoor.Sh
