/-
  Hand-made contracts of functions of the program: OwnSort, OwnSort2, OwnLays, OwnSort3.
-/
import Derived.Test.YthmijenlndnmcaaGreatDoorHM
import Derived.Shelf.SlSortCmp.WholeK
import Derived.Test.YthmijenlndnmcaaGreatDoorShx0
namespace Go.Proofs.YthmijenlndnmcaaGreatDoor.Sh
open Go.RowKit Go.Proofs.YthmijenlndnmcaaGreatDoorW.PrintWords Go.Proofs.YthmijenlndnmcaaGreatDoorW.PrintLast Go.Proofs.YthmijenlndnmcaaGreatDoorW.PrintMore
attribute [local go_sem] max2_int min2_int max_two min_two max_three min_three max_four min_four
set_option linter.unusedVariables false
set_option linter.unusedSimpArgs false
theorem compare_lt : ∀ a b : List UInt8, Lib.compareBytes a b < 0 ↔ a < b
  | [], [] => by simp [Lib.compareBytes]
  | [], _ :: _ => by simp [Lib.compareBytes]
  | _ :: _, [] => by simp [Lib.compareBytes]
  | a :: la, b :: lb => by
    rw [Lib.compareBytes, List.cons_lt_cons_iff]
    by_cases h1 : a < b
    · simp [h1]
    · rw [if_neg h1]
      by_cases h2 : b < a
      · rw [if_pos h2]
        have h3 : a ≠ b := fun e => by subst e; exact h1 h2
        simp [h1, h3]
      · rw [if_neg h2, compare_lt la lb]
        have h3 : a = b := UInt8.le_antisymm (UInt8.not_lt.1 h2) (UInt8.not_lt.1 h1)
        simp [h1, h3]
def hdOf : List Value → ByteArray × Option Addr × Nat × Nat
  | [.string s, .slice A n c] => (s, A, n, c)
  | _ => (⟨#[]⟩, none, 0, 0)
def nmKey (hd : Nat → ByteArray × Option Addr × Nat × Nat) (i : Nat) : List UInt8 := (hd i).1.data.toList
def cmpI (hd : Nat → ByteArray × Option Addr × Nat × Nat) (i j : Nat) : Int := cmpN (hd i) (hd j)
theorem ltI_is (hd : Nat → ByteArray × Option Addr × Nat × Nat) (i j : Nat) : ltOf (cmpI hd) i j = decide (nmKey hd i < nmKey hd j) := by
  unfold ltOf cmpI cmpN nmKey
  exact decide_eq_decide.2 (compare_lt _ _)
theorem swoI (hd : Nat → ByteArray × Option Addr × Nat × Nat) : Sort.SWO (ltOf (cmpI hd)) where
  irrefl x := by rw [ltI_is]; simp [List.lt_irrefl]
  trans x y z h1 h2 := by
    rw [ltI_is, decide_eq_true_eq] at *; exact List.lt_trans h1 h2
  ntrans x y z h1 h2 := by
    rw [ltI_is, decide_eq_false_iff_not, List.not_lt] at *; exact List.le_trans h2 h1
def encI (hd : Nat → ByteArray × Option Addr × Nat × Nat) (i : Nat) : List Value := encN (hd i)
theorem cmpI_lays (hd : Nat → ByteArray × Option Addr × Nat × Nat) (g size : Nat) (w : World) : CmpLays Tryz.prog 36 #[] (encI hd) 2 (cmpI hd) g 0 size w := fun _ _ _ _ x y => evalCmp.calls (hd x) (hd y) _
def byName (a b : S50) : Prop := ¬ b.f0.data.toList < a.f0.data.toList
def sortN (l : List S50) : List S50 := l.mergeSort (fun a b => !decide (b.f0.data.toList < a.f0.data.toList))
theorem sortN_perm (l : List S50) : (sortN l).Perm l := List.mergeSort_perm _ _
theorem sortN_sorted (l : List S50) : (sortN l).Pairwise byName := by
  have := List.pairwise_mergeSort (le := fun a b : S50 => !decide (b.f0.data.toList < a.f0.data.toList)) ?_ ?_ l
  · exact this.imp (fun h => by unfold byName; simpa using h)
  · intro a b c h1 h2
    simp only [Bool.not_eq_true', decide_eq_false_iff_not, List.not_lt] at *
    exact List.le_trans h1 h2
  · intro a b
    by_cases h : b.f0.data.toList < a.f0.data.toList
    · have := List.le_of_lt h
      simp [h]
      exact this
    · simp [h]
def namesApart (l : List S50) : Prop := l.Pairwise (fun a b => a.f0 ≠ b.f0)
theorem apart_inj {l : List S50} (h : namesApart l) {a b : S50} (ha : a ∈ l) (hb : b ∈ l) (e : a.f0 = b.f0) : a = b := by
  induction l with
  | nil => cases ha
  | cons x r ih =>
    obtain ⟨h1, h2⟩ := List.pairwise_cons.1 h
    rcases List.mem_cons.1 ha with ha | ha <;> rcases List.mem_cons.1 hb with hb | hb
    · rw [ha, hb]
    · exact absurd (ha ▸ e) (h1 b hb)
    · exact absurd (hb ▸ e).symm (h1 a ha)
    · exact ih h2 ha hb
theorem sortN_unique {l ys : List S50} (h : namesApart l) (hp : ys.Perm l) (hs : ys.Pairwise byName) : ys = sortN l := by
  refine List.Perm.eq_of_pairwise (le := byName) ?_ hs (sortN_sorted l) (hp.trans (sortN_perm l).symm)
  intro a b ha hb h1 h2
  have ha' := hp.mem_iff.1 ha
  have hb' := (sortN_perm l).mem_iff.1 hb
  exact apart_inj h ha' hb' (str_eq_of (List.le_antisymm (List.not_lt.1 h1) (List.not_lt.1 h2)))
theorem flatMap_get {α : Type} (enc : α → List Value) (hk : ∀ x, (enc x).length = 2) : ∀ (l : List α) (j : Nat) (x : α), l[j]? = some x → ((l.flatMap enc).drop (j * 2)).take 2 = enc x := by
  intro l
  induction l with
  | nil => intro j x h; simp at h
  | cons y r ih =>
    intro j x h
    cases j with
    | zero =>
      simp at h
      subst h
      simp only [List.flatMap_cons, Nat.zero_mul, List.drop_zero]
      rw [List.take_append_of_le_length (by rw [hk]; omega), List.take_of_length_le (by rw [hk]; omega)]
    | succ j =>
      simp at h
      have := ih j x h
      rw [List.flatMap_cons, show (j + 1) * 2 = (enc y).length + j * 2 by rw [hk]; omega, List.drop_append]
      rw [List.drop_eq_nil_of_le (by omega), List.nil_append, show (enc y).length + j * 2 - (enc y).length = j * 2 by omega]
      exact this
section
open Go.Sort
variable {α : Type} [Inhabited α]
theorem sortG_other (enc : α → List Value) (w : World) (g m : Nat) (d : Array α) (os : Array Obj) (k : Nat) (hk : k ≠ g) (hl : k < w.heap.size) : (sortWorldK enc 2 w g 0 m d os).heap[k]? = w.heap[k]? := by
  unfold sortWorldK grow putRowK
  simp only [putRow, mapBlock, Sort.ahead]
  rw [Array.getElem?_append_left (by simpa using hl), Array.getElem?_modify, if_neg (by omega)]
theorem sortG_below (enc : α → List Value) (w : World) (g m base : Nat) (hb : base ≤ g) (hg : g < w.heap.size) (d : Array α) (os : Array Obj) : Below base w (sortWorldK enc 2 w g 0 m d os) :=
  ⟨rfl, rfl, rfl, size_sortWorldK_c enc 2 w g 0 m d os, fun k hk => sortG_other enc w g m d os k (by omega) (by omega)⟩
theorem sortG_block (enc : α → List Value) (w : World) (g m : Nat) (d : Array α) (os : Array Obj) {cur : Array Value} {e : TypeId} {fr : Nat × Nat} (h : w.heap[g]? = some (.cells cur e fr)) :
    (sortWorldK enc 2 w g 0 m d os).heap[g]? = some (.cells (putCells id 0 (flatK enc 2 d) cur) e fr) := by
  have hg : g < w.heap.size := blk_lt h
  unfold sortWorldK grow putRowK
  simp only [putRow, mapBlock, Sort.ahead]
  rw [Array.getElem?_append_left (by simpa using hg), Array.getElem?_modify, if_pos rfl, h]
  rfl
theorem take_put (F cur : Array Value) (h : F.size ≤ cur.size) : (putCells id 0 F cur).toList.take F.size = F.toList := by
  apply List.ext_getElem?
  intro j
  by_cases hj : j < F.size
  · rw [List.getElem?_take_of_lt hj, Array.getElem?_toList]
    simp [putCells, hj, show j < cur.size by omega]
  · rw [List.getElem?_take_eq_none (by omega), List.getElem?_eq_none (by simp; omega)]
theorem flat_is (enc : α → List Value) (hk : ∀ x, (enc x).length = 2) (d : Array α) : (flatK enc 2 d).toList = d.toList.flatMap enc := by
  have hlen : ∀ l : List α, (l.flatMap enc).length = l.length * 2 := by
    intro l
    induction l with
    | nil => rfl
    | cons x r ih => rw [List.flatMap_cons, List.length_append, hk, ih, List.length_cons]; omega
  apply List.ext_getElem
  · rw [hlen]; simp
  · intro t h1 h2
    have ht : t < d.size * 2 := by simpa using h1
    have hq : t / 2 < d.size := by omega
    have hx : d.toList[t / 2]? = some d[t / 2]! := by
      rw [getElem!_pos d _ hq]; simp [hq]
    have hg := flatMap_get enc hk d.toList (t / 2) _ hx
    have e1 : (flatK enc 2 d).toList[t] = (enc d[t / 2]!)[t % 2]! := by
      have := get_flatK enc 2 d t ht
      rw [getElem!_pos _ t (by simpa using ht)] at this
      simpa using this
    rw [e1]
    have hm : t % 2 < 2 := Nat.mod_lt _ (by omega)
    have e2 : (((d.toList.flatMap enc).drop (t / 2 * 2)).take 2)[t % 2]? = (d.toList.flatMap enc)[t]? := by
      rw [List.getElem?_take_of_lt hm, List.getElem?_drop, show t / 2 * 2 + t % 2 = t by omega]
    rw [hg, List.getElem?_eq_getElem h2, List.getElem?_eq_getElem (by rw [hk]; exact hm)] at e2
    rw [getElem!_pos _ _ (by rw [hk]; exact hm)]
    exact Option.some.inj e2
theorem holds_flat (enc : α → List Value) (hk : ∀ x, (enc x).length = 2) {w : World} {g : Nat} {cur : Array Value} {e : TypeId} (d : Array α) (h : w.heap[g]? = some (.cells cur e (0, 0))) (ht : cur.toList.take (d.size * 2) = d.toList.flatMap enc) : HoldsK enc 2 w g 0 d := by
  intro j hj
  have hj' : j < d.size * 2 := by simpa using hj
  refine ⟨?_, by simp [World.frozen?, h]⟩
  have h1 : (cur.toList.take (d.size * 2))[j]? = (flatK enc 2 d).toList[j]? := by rw [ht, flat_is enc hk]
  rw [List.getElem?_take_of_lt hj', Array.getElem?_toList] at h1
  simp only [World.cell?, h, Nat.zero_add, Option.isSome_none, Bool.false_eq_true, if_false]
  rw [h1, getElem!_pos _ j hj]
  simp [hj]
end
theorem range_map (xs : List S50) : (List.range xs.length).map (fun j => xs.getD j z50) = xs := by
  apply List.ext_getElem
  · simp
  · intro j h1 h2; simp [h2]
open Go.Sort in
theorem sorted_row {W : World} {base g cap : Nat} {ok : Nat → Prop} {xs : List S50} (h : Kd.S k50 50 W base ok (.slice (some ⟨g, 0, none⟩) xs.length cap) xs) :
    ∃ hd : Nat → ByteArray × Option Addr × Nat × Nat, HoldsK (encI hd) 2 W g 0 (Array.range xs.length) ∧ g < W.heap.size ∧
      ∀ (d' : Array Nat) (m : Nat) (os : Array Obj), PermIn 0 xs.length (Array.range xs.length) d' → SortedIn (ltOf (cmpI hd)) 0 xs.length d' →
        ∃ ys : List S50, ys.Perm xs ∧ ys.Pairwise byName ∧ Kd.S k50 50 (sortWorldK (encI hd) 2 W g 0 m d' os) base ok (.slice (some ⟨g, 0, none⟩) xs.length cap) ys ∧ Below base W (sortWorldK (encI hd) 2 W g 0 m d' os) := by
  obtain ⟨f, h0, inner, ho, hr⟩ := h
  rw [List.length_zipIdx] at ho
  obtain ⟨hl, hcase⟩ := ho
  obtain ⟨cur, hbase, hh, hcap, hmax, hcs, htake⟩ : ∃ cur, base ≤ g ∧ W.heap[g]? = some (.cells cur 50 (0, 0)) ∧ xs.length ≤ cap ∧ cap ≤ maxLen ∧ cur.size = cap * 2 ∧ cur.toList.take (xs.length * 2) = inner := by
    rcases hcase with ⟨hv, _⟩ | ⟨g', cap', cur, hv, h1, h2, h3, h4, h5, h6⟩
    · cases hv
    · cases hv; exact ⟨cur, h1, h2, h3, h4, h5, h6⟩
  have hgl : g < W.heap.size := blk_lt hh
  let hd : Nat → ByteArray × Option Addr × Nat × Nat := fun j => hdOf ((inner.drop (j * 2)).take 2)
  have hsz : k50.sz = 2 := rfl
  have each : ∀ j x, xs[j]? = some x → encI hd j = (inner.drop (j * 2)).take 2 ∧ (hd j).1 = x.f0 ∧ k50.M W base (fun k => (ok k ∧ some k ≠ (Value.slice (some ⟨g, 0, none⟩) xs.length cap).ownBlock) ∧ f k = j) x ((inner.drop (j * 2)).take 2) := by
    intro j x hj
    have hm := hr.2 j (x, j) (Kd.zip_at hj)
    have hm2 : k50.M W base (fun k => (ok k ∧ some k ≠ (Value.slice (some ⟨g, 0, none⟩) xs.length cap).ownBlock) ∧ f k = j) x ((inner.drop (j * 2)).take 2) := hm
    obtain ⟨v1, hc, hR⟩ := k50_openM hm2
    obtain ⟨A, c, rfl⟩ := Kd.R_slice hR
    have e : hd j = (x.f0, A, x.f1.length, c) := by show hdOf _ = _; rw [hc]; rfl
    refine ⟨?_, by rw [e], hm2⟩
    unfold encI encN
    rw [e, hc]
  have hkl : ∀ x, (encI hd x).length = 2 := fun _ => rfl
  have hinner : inner = (List.range xs.length).flatMap (encI hd) := by
    have hle : inner.length = xs.length * 2 := hl
    apply List.ext_getElem?
    intro t
    by_cases ht : t < xs.length * 2
    · have hq : t / 2 < xs.length := by omega
      have h1 := (each (t / 2) _ (List.getElem?_eq_getElem hq)).1
      have h2 := flatMap_get (encI hd) hkl (List.range xs.length) (t / 2) (t / 2) (by simp [hq])
      have hm : t % 2 < 2 := Nat.mod_lt _ (by omega)
      have e1 : ((inner.drop (t / 2 * 2)).take 2)[t % 2]? = inner[t]? := by
        rw [List.getElem?_take_of_lt hm, List.getElem?_drop, show t / 2 * 2 + t % 2 = t by omega]
      have e2 : ((((List.range xs.length).flatMap (encI hd)).drop (t / 2 * 2)).take 2)[t % 2]? = ((List.range xs.length).flatMap (encI hd))[t]? := by
        rw [List.getElem?_take_of_lt hm, List.getElem?_drop, show t / 2 * 2 + t % 2 = t by omega]
      rw [← e1, ← e2, h2, h1]
    · rw [List.getElem?_eq_none (by omega), List.getElem?_eq_none]
      have := flat_is (encI hd) hkl (Array.range xs.length)
      have h3 := congrArg List.length this
      simp only [Array.length_toList, size_flatK, Array.size_range, Array.toList_range] at h3
      omega
  have hHold : HoldsK (encI hd) 2 W g 0 (Array.range xs.length) := holds_flat (encI hd) hkl (Array.range xs.length) hh (by rw [Array.size_range, htake, hinner, Array.toList_range])
  refine ⟨hd, hHold, hgl, fun d' m os hp hs => ?_⟩
  obtain ⟨hds, _, hperm⟩ := hp
  rw [Array.size_range] at hds
  have e1 : d'.extract 0 xs.length = d' := by rw [← hds]; exact Array.extract_size
  have e2 : (Array.range xs.length).extract 0 xs.length = Array.range xs.length := by
    have : (Array.range xs.length).extract 0 (Array.range xs.length).size = Array.range xs.length := Array.extract_size
    rwa [Array.size_range] at this
  rw [e1, e2, Array.toList_range] at hperm
  have hnd : d'.toList.Nodup := hperm.nodup_iff.2 List.nodup_range
  have hmem : ∀ j (hj : j < d'.size), d'[j] < xs.length := fun j hj => by
    have : d'[j] ∈ d'.toList := by simp
    simpa using hperm.mem_iff.1 this
  refine ⟨d'.toList.map (fun j => xs.getD j z50), ?_, ?_, ?_, sortG_below _ W g m base hbase hgl d' os⟩
  · have := hperm.map (fun j => xs.getD j z50)
    rwa [range_map] at this
  · rw [List.pairwise_map, List.pairwise_iff_getElem]
    intro i j hi hj hij
    have hi' : i < d'.size := by simpa using hi
    have hj' : j < d'.size := by simpa using hj
    have h1 := hs i j (Nat.zero_le _) hij (by omega)
    rw [getElem!_pos d' j hj', getElem!_pos d' i hi', ltI_is, decide_eq_false_iff_not] at h1
    unfold byName
    have xi := hmem i hi'
    have xj := hmem j hj'
    have n1 := (each d'[i] _ (List.getElem?_eq_getElem xi)).2.1
    have n2 := (each d'[j] _ (List.getElem?_eq_getElem xj)).2.1
    have g1 : xs.getD d'.toList[i] z50 = xs[d'[i]] := by simp [xi]
    have g2 : xs.getD d'.toList[j] z50 = xs[d'[j]] := by simp [xj]
    rw [g1, g2, ← n1, ← n2]
    exact h1
  · have hys : (d'.toList.map (fun j => xs.getD j z50)).length = xs.length := by simp [hds]
    have hflat := flat_is (encI hd) hkl d'
    have hfl : (flatK (encI hd) 2 d').size = xs.length * 2 := by rw [size_flatK, hds]
    have hrow : (sortWorldK (encI hd) 2 W g 0 m d' os).ownsRow base 50 2 (.slice (some ⟨g, 0, none⟩) xs.length cap) xs.length (d'.toList.flatMap (encI hd)) := by
      refine ⟨by rw [← hflat]; simp [hds], .inr ⟨g, cap, _, rfl, hbase, sortG_block (encI hd) W g m d' os hh, hcap, hmax, by simp [putCells, hcs], ?_⟩⟩
      have := take_put (flatK (encI hd) 2 d') cur (by rw [hfl, hcs]; exact Nat.mul_le_mul_right 2 hcap)
      rw [hfl, hflat] at this
      exact this
    obtain ⟨f', hreps⟩ := Kd.reps_tag (d := k50) (w := sortWorldK (encI hd) 2 W g 0 m d' os) (base := base) (ok := fun k => ok k ∧ some k ≠ (Value.slice (some ⟨g, 0, none⟩) xs.length cap).ownBlock) (xs := d'.toList.map (fun j => xs.getD j z50)) (inner := d'.toList.flatMap (encI hd))
      (fun j k => (ok k ∧ some k ≠ (Value.slice (some ⟨g, 0, none⟩) xs.length cap).ownBlock) ∧ ∃ hj : j < d'.size, f k = d'[j])
      (by
        rintro i j k ⟨_, hi, e3⟩ ⟨_, hj, e4⟩
        have : d'.toList[i]'(by simpa using hi) = d'.toList[j]'(by simpa using hj) := by simp [← e3, ← e4]
        have hpw := List.pairwise_iff_getElem.1 hnd
        rcases Nat.lt_trichotomy i j with h | h | h
        · exact absurd this (hpw i j (by simpa using hi) (by simpa using hj) h)
        · exact h
        · exact absurd this.symm (hpw j i (by simpa using hj) (by simpa using hi) h))
      (fun j k h => h.1)
      (by rw [hys]; exact hrow.1)
      (by
        intro j x hj
        have hjl : j < d'.size := by have := (List.getElem?_eq_some_iff.1 hj).1; simpa using this
        have xj := hmem j hjl
        have ex : x = xs[d'[j]] := by
          have := (List.getElem?_eq_some_iff.1 hj).2
          rw [← this]; simp [xj]
        obtain ⟨c1, _, c3⟩ := each d'[j] _ (List.getElem?_eq_getElem xj)
        have c4 := flatMap_get (encI hd) hkl d'.toList j d'[j] (by simp [hjl])
        rw [hsz, c4, c1, ex]
        refine k50.M_mono (fun k hk => ⟨hk.1, hjl, hk.2⟩) (Kd.M_step c3 (fun k hk hlt => sortG_other (encI hd) W g m d' os k (fun e => hk.1.2 (by rw [e]; rfl)) hlt)))
    refine ⟨f', h0, d'.toList.flatMap (encI hd), ?_, ?_⟩
    · rw [List.length_zipIdx, hys]; exact hrow
    · have e5 : (Kd.tag f' k50).sz = k50.sz := rfl
      exact hreps
def sortN_ren : Go.Shelf.Ren := ⟨fun | 6 => 35 | 15 => 67 | 14 => 66 | 28 => 108 | 29 => 109 | 20 => 100 | 21 => 101 | 22 => 102 | 23 => 103 | 24 => 104 | 25 => 105 | 26 => 106 | 27 => 107 | 46 => 126 | 47 => 127 | 48 => 128 | 49 => 129 | 50 => 130 | 57 => 146 | n => n, fun | 22 => 39 | 24 => 50 | 25 => 80 | 3 => 3 | 39 => 118 | 0 => 0 | 53 => 167 | 55 => 131 | 4 => 4 | 46 => 161 | 45 => 160 | 50 => 97 | 5 => 5 | 9 => 9 | 66 => 190 | 70 => 194 | 76 => 215 | 77 => 144 | n => n, fun | n => n⟩
theorem sortN_lays : Go.Proofs.SlLaysF0.n6 Tryz.prog sortN_ren where
  mixed := by kernel_rfl
  f6 := ⟨"slices.SortFunc[[]millrace/api.Named,millrace/api.Named]", by decide, Tryz.func35.trans (congrArg some (by kernel_rfl))⟩
  f14 := ⟨"slices.pdqsortCmpFunc[millrace/api.Named]", by decide, Tryz.func66.trans (congrArg some (by kernel_rfl))⟩
  f15 := Tryz.func67.trans (congrArg some (by kernel_rfl))
  f20 := ⟨"slices.insertionSortCmpFunc[millrace/api.Named]", by decide, Tryz.func100.trans (congrArg some (by kernel_rfl))⟩
  f21 := ⟨"slices.heapSortCmpFunc[millrace/api.Named]", by decide, Tryz.func101.trans (congrArg some (by kernel_rfl))⟩
  f22 := ⟨"slices.breakPatternsCmpFunc[millrace/api.Named]", by decide, Tryz.func102.trans (congrArg some (by kernel_rfl))⟩
  f23 := ⟨"slices.choosePivotCmpFunc[millrace/api.Named]", by decide, Tryz.func103.trans (congrArg some (by kernel_rfl))⟩
  f24 := ⟨"slices.reverseRangeCmpFunc[millrace/api.Named]", by decide, Tryz.func104.trans (congrArg some (by kernel_rfl))⟩
  f25 := ⟨"slices.partialInsertionSortCmpFunc[millrace/api.Named]", by decide, Tryz.func105.trans (congrArg some (by kernel_rfl))⟩
  f26 := ⟨"slices.partitionEqualCmpFunc[millrace/api.Named]", by decide, Tryz.func106.trans (congrArg some (by kernel_rfl))⟩
  f27 := ⟨"slices.partitionCmpFunc[millrace/api.Named]", by decide, Tryz.func107.trans (congrArg some (by kernel_rfl))⟩
  f28 := Tryz.func108.trans (congrArg some (by kernel_rfl))
  f29 := Tryz.func109.trans (congrArg some (by kernel_rfl))
  f46 := ⟨"slices.siftDownCmpFunc[millrace/api.Named]", by decide, Tryz.func126.trans (congrArg some (by kernel_rfl))⟩
  f47 := Tryz.func127.trans (congrArg some (by kernel_rfl))
  f48 := Tryz.func128.trans (congrArg some (by kernel_rfl))
  f49 := ⟨"slices.medianAdjacentCmpFunc[millrace/api.Named]", by decide, Tryz.func129.trans (congrArg some (by kernel_rfl))⟩
  f50 := ⟨"slices.medianCmpFunc[millrace/api.Named]", by decide, Tryz.func130.trans (congrArg some (by kernel_rfl))⟩
  f57 := ⟨"slices.order2CmpFunc[millrace/api.Named]", by decide, Tryz.func146.trans (congrArg some (by kernel_rfl))⟩
  t0 := Tryz.underlying0
  a0 := Tryz.isAgg0
  z0 := Tryz.sizeOf0
  v0 := Tryz.zeroValue0
  t3 := Tryz.underlying3
  a3 := Tryz.isAgg3
  z3 := Tryz.sizeOf3
  v3 := Tryz.zeroValue3
  t4 := Tryz.underlying4
  a4 := Tryz.isAgg4
  z4 := Tryz.sizeOf4
  v4 := Tryz.zeroValue4
  t5 := Tryz.underlying5
  a5 := Tryz.isAgg5
  z5 := Tryz.sizeOf5
  v5 := Tryz.zeroValue5
  t9 := Tryz.underlying9
  a9 := Tryz.isAgg9
  z9 := Tryz.sizeOf9
  v9 := Tryz.zeroValue9
  t22 := Tryz.underlying39
  a22 := Tryz.isAgg39
  z22 := Tryz.sizeOf39
  v22 := Tryz.zeroValue39
  t25 := Tryz.underlying80
  a25 := Tryz.isAgg80
  z25 := Tryz.sizeOf80
  v25 := Tryz.zeroValue80
  t39 := Tryz.underlying118
  a39 := Tryz.isAgg118
  z39 := Tryz.sizeOf118
  v39 := Tryz.zeroValue118
  t45 := Tryz.underlying160
  a45 := Tryz.isAgg160
  z45 := Tryz.sizeOf160
  v45 := Tryz.zeroValue160
  t46 := Tryz.underlying161
  a46 := Tryz.isAgg161
  z46 := Tryz.sizeOf161
  v46 := Tryz.zeroValue161
  t50 := Tryz.underlying97
  a50 := Tryz.isAgg97
  z50 := Tryz.sizeOf97
  v50 := Tryz.zeroValue97
  t53 := Tryz.underlying167
  a53 := Tryz.isAgg167
  z53 := Tryz.sizeOf167
  v53 := Tryz.zeroValue167
  t55 := Tryz.underlying131
  a55 := Tryz.isAgg131
  z55 := Tryz.sizeOf131
  v55 := Tryz.zeroValue131
  t66 := Tryz.underlying190
  a66 := Tryz.isAgg190
  z66 := Tryz.sizeOf190
  v66 := Tryz.zeroValue190
  t70 := Tryz.underlying194
  a70 := Tryz.isAgg194
  z70 := Tryz.sizeOf194
  v70 := Tryz.zeroValue194
  t76 := Tryz.underlying215
  a76 := Tryz.isAgg215
  z76 := Tryz.sizeOf215
  v76 := Tryz.zeroValue215
  t77 := Tryz.underlying144
  a77 := Tryz.isAgg144
  z77 := Tryz.sizeOf144
  v77 := Tryz.zeroValue144
open Go.Sort in
set_option maxHeartbeats 1000000 in
set_option maxRecDepth 100000 in
theorem sortN.calls {W : World} {base g cap n : Nat} {ok : Nat → Prop} {xs : List S50} (hn : n = xs.length) (h : Kd.S k50 50 W base ok (.slice (some ⟨g, 0, none⟩) n cap) xs) (hx : xs.length ≤ 1000) :
    Calls Tryz.prog 35 #[.slice (some ⟨g, 0, none⟩) n cap, .func (.func 36) #[] #[]] W fun e w' => e = .returned (.tuple #[]) ∧
      ∃ ys : List S50, ys.Perm xs ∧ ys.Pairwise byName ∧ Kd.S k50 50 w' base ok (.slice (some ⟨g, 0, none⟩) n cap) ys ∧ Below base W w' := by
  subst hn
  obtain ⟨hd, hH, hg, hpost⟩ := sorted_row h
  have HC := AnyQ.slices_SortFunc sortN_lays 2 Tryz.isAgg50 Tryz.sizeOf50 (encI hd) (fun _ => rfl) (fun x v hv => by simp [encI, encN] at hv; rcases hv with rfl | rfl <;> rfl) (cmpI hd) (swoI hd) 36 #[] g 0 cap (Array.range xs.length) W
    (enters_of Tryz.func36 (by kernel_rfl) rfl) (cmpI_lays hd g _ W) hH hg (by rw [Array.size_range]; omega)
  rw [Array.size_range] at HC
  refine Calls.mono (show Calls Tryz.prog 35 #[.slice (some ⟨g, 0, none⟩) xs.length cap, .func (.func 36) #[] #[]] W _ from HC) ?_
  rintro e w' ⟨rfl, d', m, os, hp, hs, rfl⟩
  exact ⟨rfl, hpost d' m os hp hs⟩
end Go.Proofs.YthmijenlndnmcaaGreatDoor.Sh
