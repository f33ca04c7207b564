/-
  A range over a function ('for x := range seq'), where the iterator may keep a state of its own in cells: the law of the statement, in the plain (wide) fence. No program is named here.
-/
import Derived.RangeFuncFrom
import Derived.RangeFuncBox
import Derived.RangeFuncLeaves
import Derived.RangeFuncCalls
import Derived.WalkKit
import Derived.OwnWalkIn
import Derived.TacticsInMore
import Derived.LoopNIn
import Derived.LoopIn
import Derived.Shelf.Abstract
namespace Go.Proofs.YthmijenlndnmcaaGreatDoor.Rng
open Go.RowKit
set_option linter.unusedVariables false
theorem wide_fn (f : FuncId) : Fence.wide.fn f = True := rfl
theorem wide_depth : Fence.wide.depth = none := rfl
theorem wide_alive : Fence.wide.alive = false := rfl
def Abides {β : Type} (bs : Nat → Prop) (B : Nat) (J : β → World → Prop) : Prop :=
  ∀ s W W' row, J s W → W.grownBy W' row → (∀ r, row = some r → bs r ∨ (B ≤ r ∧ ∃ o : Obj, W.heap[r]? = some o ∧ o.isWalk = true)) → J s W'
def Owns {β : Type} (bs : Nat → Prop) (B : Nat) (I : β → World → Prop) : Prop :=
  ∀ s W W' row, I s W → W.grownBy W' row → (∀ r, row = some r → bs r ∨ (B ≤ r ∧ ∃ o : Obj, W.heap[r]? = some o ∧ o.isCells = false)) → I s W'
theorem Owns.putObj {β : Type} {bs : Nat → Prop} {B : Nat} {I : β → World → Prop} (h : Owns bs B I) {s : β} {W : World} {l : Nat} {o : Obj} (o' : Obj) (hs : I s W) (hB : B ≤ l) (hl : W.heap[l]? = some o) (ho : o.isCells = false) : I s (W.putObj l o') :=
  h s W _ (some l) hs (grownBy_putObj' W l o') (fun r e => by cases e; exact .inr ⟨hB, o, hl, ho⟩)
theorem Owns.alloc {β : Type} {bs : Nat → Prop} {B : Nat} {I : β → World → Prop} (h : Owns bs B I) {s : β} {W : World} (o : Obj) (hs : I s W) : I s (W.alloc o) :=
  h s W _ none hs (World.grownBy_alloc W o none) (fun r e => by cases e)
theorem Owns.and {β : Type} {bs : Nat → Prop} {B : Nat} {I I' : β → World → Prop} (h : Owns bs B I) (h' : Owns bs B I') : Owns bs B (fun s W => I s W ∧ I' s W) :=
  fun s W W' row hs hg hr => ⟨h s W W' row hs.1 hg hr, h' s W W' row hs.2 hg hr⟩
theorem Owns.never {β : Type} {bs : Nat → Prop} {B : Nat} : Owns bs B (fun (_ : β) _ => False) := fun _ _ _ _ h _ _ => h
theorem Owns.blk {β : Type} {bs : Nat → Prop} {B : Nat} (k : β → Nat) (f : β → Obj) (hk : ∀ s, ¬ bs (k s)) (hf : ∀ s, (f s).isCells = true) : Owns bs B (fun s W => W.heap[k s]? = some (f s)) := by
  intro s W W' row hs hg hr
  refine (hg.block _ (Array.getElem?_eq_some_iff.1 hs).1 ?_).trans hs
  intro e
  rcases hr _ e.symm with h | ⟨_, o, ho, hc⟩
  · exact hk s h
  · rw [hs] at ho; cases ho; rw [hf] at hc; cases hc
theorem Owns.below {β : Type} {bs : Nat → Prop} {n₀ B : Nat} {w₀ : World} (hn : n₀ ≤ w₀.heap.size) (hB : n₀ ≤ B) (hbs : ∀ r, bs r → n₀ ≤ r) : Owns bs B (fun (_ : β) W => Below n₀ w₀ W) :=
  fun s W W' row hs hg hr => hs.grown hg (Nat.le_trans hn hs.size) (fun r e => by
    rcases hr r e with h | ⟨h, _⟩
    · exact hbs r h
    · omega)
theorem Owns.row {β : Type} {bs : Nat → Prop} {B : Nat} (n₀ : Nat) (e : TypeId) (size : Nat) (v : β → Value) (n : β → Nat) (xs : β → List Value) (hb : ∀ s k, (v s).ownBlock = some k → ¬ bs k) : Owns bs B (fun s W => W.ownsRow n₀ e size (v s) (n s) (xs s)) := by
  intro s W W' row hs hg hr
  refine hs.kept hg ?_
  rcases hs.2 with ⟨hv, _⟩ | ⟨g, cap, cur, hv, _, hgb, _⟩
  · exact .inl (by rw [hv]; rfl)
  · refine .inr fun e' => ?_
    have hg' : (v s).ownBlock = some g := by rw [hv]; rfl
    rcases hr g (by rw [← e']; exact hg') with h | ⟨_, o, ho, hc⟩
    · exact hb s g hg' h
    · rw [hgb] at ho; cases ho; cases hc
theorem Owns.holds {β : Type} {bs : Nat → Prop} {Bd : Nat} (n₀ B : Nat) (t e : TypeId) (size : Nat) (k : β → Nat) (f : β → List Value) (G : β → Value → Prop) (hB : ¬ bs B) (hbs : ∀ r, bs r → r < n₀) :
    Owns bs Bd (fun s W => ∃ v, Boxed W B t v ∧ W.ownsRow n₀ e size v (k s) (f s) ∧ G s v) := by
  rintro s X Y row ⟨v, hv, hr, hG⟩ hg hrow
  refine ⟨v, hv.kept hg (fun e' => ?_), hr.kept hg ?_, hG⟩
  · rcases hrow B e'.symm with h | ⟨_, o, ho, hc⟩
    · exact hB h
    · rw [show X.heap[B]? = _ from hv] at ho; cases ho; cases hc
  · rcases hr.2 with ⟨rfl, _⟩ | ⟨g, cap, cur, rfl, hgb0, hgb, _⟩
    · exact .inl rfl
    · refine .inr fun e' => ?_
      rcases hrow g (by simpa [Value.ownBlock] using e'.symm) with h | ⟨_, o, ho, hc⟩
      · have := hbs g h; omega
      · rw [hgb] at ho; cases ho; cases hc
structure Same (ks : Nat → Prop) (W W' : World) : Prop where
  size : W.heap.size ≤ W'.heap.size
  same : ∀ k, ks k → k < W.heap.size → W'.heap[k]? = W.heap[k]?
theorem Same.refl (ks : Nat → Prop) (W : World) : Same ks W W := ⟨Nat.le_refl _, fun _ _ _ => rfl⟩
theorem Same.trans {ks : Nat → Prop} {A B C : World} (h : Same ks A B) (k : Same ks B C) : Same ks A C :=
  ⟨Nat.le_trans h.size k.size, fun i hi hl => (k.same i hi (Nat.lt_of_lt_of_le hl h.size)).trans (h.same i hi hl)⟩
theorem Same.alloc (ks : Nat → Prop) (W : World) (o : Obj) : Same ks W (W.alloc o) := ⟨by simp, fun k _ hl => Below.heap_alloc W o k hl⟩
theorem Same.drew (ks : Nat → Prop) (W : World) : Same ks W W.drew := ⟨Nat.le_refl _, fun _ _ _ => rfl⟩
theorem Same.setCell {ks : Nat → Prop} (W : World) {a : Addr} (ha : ¬ ks a.block) (v : Value) : Same ks W (W.setCell a v) :=
  ⟨(KeepsWalks.setCell W a v).size, fun k hk _ => Below.heap_setCell W a v k (fun e => ha (e ▸ hk))⟩
theorem Same.grown {ks : Nat → Prop} {W W' : World} {row : Option Nat} (hg : W.grownBy W' row) (hr : ∀ r, row = some r → ¬ ks r) : Same ks W W' :=
  ⟨hg.size, fun k hk hl => hg.block k hl (fun e => hr k e.symm hk)⟩
theorem Same.below {ks : Nat → Prop} {W W' : World} {B : Nat} (hb : Below B W W') (hk : ∀ k, ks k → k < B) : Same ks W W' := ⟨hb.size, fun k h _ => hb.block k (hk k h)⟩
theorem Same.put {ks : Nat → Prop} {W : World} {l : Nat} {o : Obj} (hl : ¬ ks l) : Same ks W (W.putObj l o) :=
  ⟨by simp, fun k hk _ => World.putObj_heap_other (fun e => hl (e ▸ hk))⟩
abbrev YieldW (P : Program) (l : Nat) (args : Array Value) (W : World) (R : Ending → World → Prop) : Prop := ∀ m, YieldAt Fence.wide m P l args W R
def SeqW {α : Type} (P : Program) (g : Nat) (lb : Array Value) (encs : α → Array Value) (bs ks : Nat → Prop) (S Sp : List α → Prop) (w : World) : Prop :=
  ∀ (l : Nat) (J Jx : List α → World → Prop) (W : World), Below w.heap.size w W → Abides bs W.heap.size J → Abides bs W.heap.size Jx →
    (∀ pre x W1, J pre W1 → Sp (pre ++ [x]) → YieldW P l (encs x) W1 fun e W' =>
      (e = .returned (.bool true) ∧ J (pre ++ [x]) W' ∧ KeepsOthers' l W1 W' ∧ Same ks W1 W') ∨ (e = .returned (.bool false) ∧ Jx (pre ++ [x]) W')) →
    J [] W →
    Calls P g (#[.func (.yield l) #[] #[]] ++ lb) W fun e W' => (∃ v, e = .returned v) ∧ ((∃ xs, S xs ∧ J xs W') ∨ (∃ pre, Sp pre ∧ Jx pre W'))
where
  KeepsOthers' (l : Nat) (W W' : World) : Prop := W.heap.size ≤ W'.heap.size ∧ ∀ (k : Nat) (o : Obj), W.heap[k]? = some o → o.isWalk = true → W'.heap[k]? = some o
def postW {α : Type} (ks : Nat → Prop) (I : List α → World → Prop) (Ix : Code → List α → World → Prop) (xs : List α) (W : World) : Exit → Act → World → Prop
  | .normal, _, W' => KeepsOthers W W' ∧ Same ks W W' ∧ I xs W'
  | .ret, _, W' => KeepsOthers W W' ∧ Ix .ret xs W'
  | .exit id, _, W' => KeepsOthers W W' ∧ Ix (.exit id) xs W'
  | .goto t, _, W' => KeepsOthers W W' ∧ Ix (.goto t) xs W'
  | .panic _, _, _ => False
  | .outgrown, _, _ => False
theorem rangeW {α : Type} {P : Program} {g : Operand} {ps : Array Tmp} {assign body : Code} {Q : Exit → Act → World → Prop} {a : Act} {w : World} {n : Nat}
    {gf : Nat} {lb : Array Value} (hg : a.eval g = .func (.func gf) #[] lb) (eg : ∀ args w, (callFunc gf args).run P w = .ok (.enter gf args) w)
    {encs : α → Array Value} {bs ks : Nat → Prop} {S Sp : List α → Prop} {w0 : World} (hseq : SeqW P gf lb encs bs ks S Sp w0)
    (hb0 : Below w0.heap.size w0 w) (hbs : ∀ r, bs r → r < w.heap.size) (hks : ∀ r, ks r → r < w.heap.size) (hps : ∀ x, (encs x).size = ps.size)
    (I : List α → World → Prop) (Ix : Code → List α → World → Prop) (hI : Owns bs w.heap.size I) (hIx : ∀ c, Owns bs w.heap.size (Ix c)) (h0 : I [] w) (a₁ : α → Act)
    (hassign : ∀ (l : Nat) (x : α) (W : World) (K : Act → World → Prop), K (a₁ x) W →
      assign.wpIn (Fence.wide.inRound l) (n - 1 - 1) P (Exit.then K (fun _ _ _ => False)) { tmps := (ps.zip (encs x)).foldl (fun t (p, v) => t.setIfInBounds p v) a.tmps, defers := [] } W)
    (hbody : ∀ (l : Nat) (pre : List α) (x : α) (W : World), I pre W → Sp (pre ++ [x]) → w.heap.size ≤ W.heap.size → body.wpIn (Fence.wide.inRound l) (n - 1 - 1) P (postW ks I Ix (pre ++ [x]) W) (a₁ x) W)
    (hdone : ∀ (D : Nat) (xs : List α) (W : World), w.heap.size ≤ D → S xs → I xs W → W.heap[D]? = some (.deferred (some [])) → Q .normal { a with defers := { target := .collected D, args := #[] } :: a.defers } W)
    (hstop : ∀ (D : Nat) (c : Code) (pre : List α) (W : World), w.heap.size ≤ D → Sp pre → Ix c pre W → W.heap[D]? = some (.deferred (some [])) → c.wpIn Fence.wide n P Q { a with defers := { target := .collected D, args := #[] } :: a.defers } W) :
    (Code.rangeFunc g ps assign body).wpIn Fence.wide n P Q a w := by
  refine wpIn_rangeFunc ?_
  intro fn hfn
  obtain ⟨rec, hrec⟩ : ∃ rec : LoopState → Option Code → Loop, rec = fun st pe => { state := st, pending := pe, fn, tmps := a.tmps, params := ps, assign, body, defers := w.heap.size } := ⟨_, rfl⟩
  obtain ⟨W1, hW1⟩ : ∃ W1, (w.alloc (.deferred (some []))).alloc (.loop (rec .ready none)) = W1 := ⟨_, rfl⟩
  have hL1 : W1.heap[w.heap.size + 1]? = some (.loop (rec .ready none)) := by
    rw [← hW1]; have := World.alloc_heap_new (w.alloc (.deferred (some []))) (.loop (rec .ready none)); rwa [World.size_alloc] at this
  have hK1 : W1.heap[w.heap.size]? = some (.deferred (some [])) := by
    rw [← hW1]; exact (Below.heap_alloc _ _ _ (by simp)).trans (World.alloc_heap_new w _)
  have hs1 : W1.heap.size = w.heap.size + 2 := by rw [← hW1]; simp
  have hI1 : I [] W1 := by rw [← hW1]; exact hI.alloc _ (hI.alloc _ h0)
  have hb1 : Below w0.heap.size w0 W1 := by
    rw [← hW1]; exact hb0.trans ((((Below.refl _ w).alloc (Nat.le_refl _) _).alloc (by simp) _).mono hb0.size)
  refine ⟨w.heap.size + 1, [{ target := .collected w.heap.size, args := #[] }], W1, { target := .fn (.func gf) lb, args := #[.func (.yield (w.heap.size + 1)) #[] #[]] }, W1, gf,
    #[.func (.yield (w.heap.size + 1)) #[] #[]] ++ lb, W1, ?_, ?_, ?_, ?_, fun h => by simp [Fence.wide] at h, ?_⟩
  · rw [← hW1, hrec]; exact run_enterLoop_outer _ _ _ _ _
  · simp only [resolve, hg]
    simp [go_sem]
  · intro f' _; trivial
  · simp [invoke, go_sem, eg]
  · refine callsIn_wide.2 ?_
    have keep : ∀ {A B : World} {row : Option Nat} (k : Nat) (o : Obj), A.grownBy B row → (∀ r, row = some r → bs r ∨ (W1.heap.size ≤ r ∧ ∃ o : Obj, A.heap[r]? = some o ∧ o.isWalk = true)) → A.heap[k]? = some o → w.heap.size ≤ k → k < w.heap.size + 2 → B.heap[k]? = some o :=
      fun k o hg' hr ho h1 h2 => (hg'.block k (Array.getElem?_eq_some_iff.1 ho).1 (fun e => by
        rcases hr k e.symm with h | ⟨h, _⟩
        · have := hbs k h; omega
        · omega)).trans ho
    have conv : ∀ {A : World} {row : Option Nat}, (∀ r, row = some r → bs r ∨ (W1.heap.size ≤ r ∧ ∃ o : Obj, A.heap[r]? = some o ∧ o.isWalk = true)) → (∀ r, row = some r → bs r ∨ (w.heap.size ≤ r ∧ ∃ o : Obj, A.heap[r]? = some o ∧ o.isCells = false)) :=
      fun hr r e => by
        rcases hr r e with h | ⟨hB, o, ho, hw⟩
        · exact .inl h
        · exact .inr ⟨by omega, o, ho, Obj.not_cells_of_walk hw⟩
    refine (hseq (w.heap.size + 1)
      (fun pre W => I pre W ∧ W.heap[w.heap.size + 1]? = some (.loop (rec .ready none)) ∧ W.heap[w.heap.size]? = some (.deferred (some [])) ∧ w.heap.size ≤ W.heap.size)
      (fun pre W => ∃ c, Ix c pre W ∧ W.heap[w.heap.size + 1]? = some (.loop (rec .done (some c))) ∧ W.heap[w.heap.size]? = some (.deferred (some [])))
      W1 hb1
      (fun s A B row hs hg' hr => ⟨hI s A B row hs.1 hg' (conv hr), keep _ _ hg' hr hs.2.1 (by omega) (by omega), keep _ _ hg' hr hs.2.2.1 (by omega) (by omega), Nat.le_trans hs.2.2.2 hg'.size⟩)
      (fun s A B row hs hg' hr => by
        obtain ⟨c, hc, hl, hk⟩ := hs
        exact ⟨c, hIx c s A B row hc hg' (conv hr), keep _ _ hg' hr hl (by omega) (by omega), keep _ _ hg' hr hk (by omega) (by omega)⟩)
      ?_ ⟨hI1, hL1, hK1, by omega⟩).mono ?_
    · rintro pre x W ⟨hi, hl, hk, hsz⟩ hsp m
      have hlt : w.heap.size + 1 < W.heap.size := (Array.getElem?_eq_some_iff.1 hl).1
      have hy := run_yield (P := P) (args := encs x) hl (by rw [hrec]; exact hps x)
      rw [hrec] at hy
      have hrnd : RoundIn Fence.wide (n - 1 - 1) P (w.heap.size + 1) fn ((ps.zip (encs x)).foldl (fun t (p, v) => t.setIfInBounds p v) a.tmps) assign body W (fun e W' =>
          (e = .returned (.bool true) ∧ (I (pre ++ [x]) W' ∧ W'.heap[w.heap.size + 1]? = some (.loop (rec .ready none)) ∧ W'.heap[w.heap.size]? = some (.deferred (some [])) ∧ w.heap.size ≤ W'.heap.size) ∧ SeqW.KeepsOthers' (w.heap.size + 1) W W' ∧ Same ks W W') ∨
          (e = .returned (.bool false) ∧ ∃ c, Ix c (pre ++ [x]) W' ∧ W'.heap[w.heap.size + 1]? = some (.loop (rec .done (some c))) ∧ W'.heap[w.heap.size]? = some (.deferred (some [])))) := by
        refine roundIn_of_wpIn hfn (hassign _ x W _ ⟨_, run_beginRound hl (by rw [hrec]), ?_⟩)
        have hl2 : (W.putObj (w.heap.size + 1) (.loop { rec .ready none with state := .busy })).heap[w.heap.size + 1]? = some (.loop { rec .ready none with state := .busy }) := World.putObj_heap_same hlt
        have hk2 : (W.putObj (w.heap.size + 1) (.loop { rec .ready none with state := .busy })).heap[w.heap.size]? = some (.deferred (some [])) := (World.putObj_heap_other (by omega)).trans hk
        have hnk : ¬ ks (w.heap.size + 1) := fun h => by have := hks _ h; omega
        refine wpIn_mono (hbody _ pre x _ (hI.putObj _ hi (by omega) hl rfl) hsp (by simpa using hsz)) ?_
        have fin : ∀ (jump : Option Code) (W3 : World), KeepsOthers (W.putObj (w.heap.size + 1) (.loop { rec .ready none with state := .busy })) W3 →
            (Instr.endRound (w.heap.size + 1) jump).run P W3 = .ok (.bool jump.isNone) (W3.putObj (w.heap.size + 1) (.loop (rec (if jump.isNone then .ready else .done) jump))) ∧
            W3.heap[w.heap.size + 1]? = some (.loop { rec .ready none with state := .busy }) ∧
            (W3.putObj (w.heap.size + 1) (.loop (rec (if jump.isNone then .ready else .done) jump))).heap[w.heap.size + 1]? = some (.loop (rec (if jump.isNone then .ready else .done) jump)) ∧
            (W3.putObj (w.heap.size + 1) (.loop (rec (if jump.isNone then .ready else .done) jump))).heap[w.heap.size]? = some (.deferred (some [])) := fun jump W3 hk3 => by
          have hl3 := hk3.same _ _ hl2 rfl
          have := run_endRound (P := P) jump hl3
          rw [hrec] at this ⊢
          exact ⟨this, by rw [hrec] at hl3; exact hl3, World.putObj_heap_same (Array.getElem?_eq_some_iff.1 hl3).1, (World.putObj_heap_other (by omega)).trans (hk3.same _ _ hk2 rfl)⟩
        rintro e a3 W3 hp
        cases e with
        | normal =>
          obtain ⟨hk3, hkp3, hi3⟩ := hp
          obtain ⟨hr, hl3, hl4, hk4⟩ := fin none W3 hk3
          have hw3 : KeepsWalks W3 (W3.putObj (w.heap.size + 1) (.loop (rec (if (none : Option Code).isNone then .ready else .done) none))) := KeepsWalks.putObj _ hl3 rfl
          have hw2 : KeepsWalks W (W.putObj (w.heap.size + 1) (.loop { rec .ready none with state := .busy })) := KeepsWalks.putObj _ hl rfl
          have hw := (hw2.trans hk3.walks).trans hw3
          exact ⟨_, _, hr, .inl ⟨rfl, ⟨hI.putObj _ hi3 (by omega) hl3 rfl, hl4, hk4, Nat.le_trans hsz hw.size⟩, ⟨hw.size, hw.same⟩, ((Same.put hnk).trans hkp3).trans (Same.put hnk)⟩⟩
        | ret =>
          obtain ⟨hk3, hi3⟩ := hp
          obtain ⟨hr, hl3, hl4, hk4⟩ := fin (some .ret) W3 hk3
          exact ⟨_, _, hr, .inr ⟨rfl, .ret, (hIx _).putObj _ hi3 (by omega) hl3 rfl, hl4, hk4⟩⟩
        | exit id =>
          obtain ⟨hk3, hi3⟩ := hp
          obtain ⟨hr, hl3, hl4, hk4⟩ := fin (some (.exit id)) W3 hk3
          exact ⟨_, _, hr, .inr ⟨rfl, .exit id, (hIx _).putObj _ hi3 (by omega) hl3 rfl, hl4, hk4⟩⟩
        | goto t =>
          obtain ⟨hk3, hi3⟩ := hp
          obtain ⟨hr, hl3, hl4, hk4⟩ := fin (some (.goto t)) W3 hk3
          exact ⟨_, _, hr, .inr ⟨rfl, .goto t, (hIx _).putObj _ hi3 (by omega) hl3 rfl, hl4, hk4⟩⟩
        | panic ch => exact hp.elim
        | outgrown => exact hp.elim
      refine ⟨fn, _, assign, body, hy, hrnd.1, fun c cs _ => ?_⟩
      exact hrnd.2 c cs (room_wide _)
    · rintro e W2 ⟨⟨v, rfl⟩, (⟨xs, hS, hi, hl, hk, _⟩ | ⟨pre, hSp, c, hi, hl, hk⟩)⟩
      · exact ⟨none, _, by have := run_endLoop (P := P) hl (by rw [hrec]; simp); rw [hrec] at this; exact this, hdone _ xs _ (Nat.le_refl _) hS (hI.putObj _ hi (by omega) hl rfl) ((World.putObj_heap_other (by omega)).trans hk)⟩
      · exact ⟨some c, _, by have := run_endLoop (P := P) hl (by rw [hrec]; simp); rw [hrec] at this; exact this, hstop _ c pre _ (Nat.le_refl _) hSp ((hIx c).putObj _ hi (by omega) hl rfl) ((World.putObj_heap_other (by omega)).trans hk)⟩
end Go.Proofs.YthmijenlndnmcaaGreatDoor.Rng
