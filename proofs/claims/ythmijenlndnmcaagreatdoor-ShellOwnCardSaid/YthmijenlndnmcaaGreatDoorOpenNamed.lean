/- An argument that is a slice of named bytes, opened to its cells. -/
import Derived.Test.YthmijenlndnmcaaGreatDoorSx50
import Derived.Deep.SlicePairs
import Derived.ChangeSame
import Derived.SizedLaws
import Derived.ChangeOld
import Derived.ChangeArms
import Derived.ChangeSlices
import Derived.Test.YthmijenlndnmcaaGreatDoorWSized
namespace Go.Proofs.YthmijenlndnmcaaGreatDoor.Sh
open Go Go.RowKit Go.Proofs.YthmijenlndnmcaaGreatDoorW.PrintWords Go.ChangeShapes Go.WideShapes Go.Deep
set_option linter.unusedVariables false
set_option maxRecDepth 100000
theorem weights_mem_all {H : Type} {P : Program} {e : TypeId} : ∀ {ds : List (DataW H)} {d : DataW H}, d ∈ ds → ∀ n ∈ d.weights P e, n ∈ DataW.weightsAll P e ds
  | d0 :: ds, d, hd, n, hn => by
    rw [DataW.weightsAll, List.mem_append]
    rcases List.mem_cons.1 hd with rfl | hd
    · exact .inl hn
    · exact .inr (weights_mem_all hd n hn)
theorem open_named {H : Type} {enc : TypeId × Value → H} {W : World} {base : Nat} {held : Bool} {a0 : Option Addr} {len0 cap0 : Nat} {d : DataW H} {ps : List MemPlace} {ts : List TypeId} {ds : List (DataW H)} {j : Nat}
    (hsz : (DataW.weightsEach Tryz.prog ts ds).all (· ≤ reachBytes) = true) (ht : ts[j]? = some 39) (hd : ds[j]? = some d) (h : DataW.Trod enc Tryz.prog W base (fun _ => true) held 39 (.slice a0 len0 cap0) d ps) :
    ∃ l : List S50, l.length = len0 ∧ Kd.C k50 W a0 len0 l ∧ len0 ≤ cap0 ∧ len0 < 3518437208883 ∧ ∀ f ∈ l, f.f1.length < 140737488355328 ∧ ∀ x ∈ f.f1, (Lit.int .u8 x).wf = true := by
  obtain ⟨fuel, hf⟩ := h
  replace hf : DataW.trod enc Tryz.prog W base (fun _ => true) held fuel 39 [.slice a0 len0 cap0] = some (d, ps) := hf
  rcases open_slice_pairs Tryz.underlying39 Tryz.underlying50 (by kernel_rfl) rfl rfl (by kernel_rfl) (by kernel_rfl) hf with ⟨hcs, _⟩ | ⟨a, len, cap, m, n, V0, V1, D0, D1, P0, P1, hcs, _, hl, hm, hmm, hx, hi⟩
  · simp only [List.cons.injEq, Value.slice.injEq, and_true] at hcs
    obtain ⟨rfl, rfl, rfl⟩ := hcs
    exact ⟨[], rfl, Kd.C_nil _ _, Nat.le_refl _, by omega, fun f hf => nomatch hf⟩
  · simp only [List.cons.injEq, Value.slice.injEq, and_true] at hcs
    obtain ⟨rfl, rfl, rfl⟩ := hcs
    have hlm : len0 ≤ m := by rw [hmm]; split <;> omega
    have hx1 := (Prod.mk.inj hx).1
    have hmem : ∀ q ∈ d.weights Tryz.prog 39, q ≤ reachBytes := fun q hq => by
      have := List.all_eq_true.1 hsz q (DataW.weights_mem_each ht hd q hq)
      simpa using this
    rw [hx1, DataW.weights, Tryz.underlying39] at hmem
    have hB : Tryz.prog.bytesOf 50 = 40 := by kernel_rfl
    have hlen0 : len0 < 3518437208883 := by
      have := hmem _ (List.mem_cons_self ..)
      rw [hB] at this
      simp only [List.length_map, List.length_range] at this
      unfold reachBytes at this
      omega
    have each : ∀ i, i < len0 → ∃ p : S50, (∃ A1 c1, W.cell? (a.add (i * 2)) = some (.string p.f0) ∧ W.cell? (a.add (i * 2 + 1)) = some (.slice A1 p.f1.length c1) ∧ p.f1.length ≤ c1 ∧ (Kd.int .u8).C W A1 p.f1.length p.f1) ∧ p.f1.length < 140737488355328 ∧ ∀ x ∈ p.f1, (Lit.int .u8 x).wf = true := by
      intro i hil
      obtain ⟨e0, e1, t0, t1⟩ := hi i (by omega)
      obtain ⟨s, q0, _⟩ := DataW.trod_string Tryz.underlying9 t0
      have hV0 : V0 i = .string s := by simpa using q0
      obtain ⟨A1, n1, c1, zs, hV1, hrow⟩ : ∃ A1 n1 c1 zs, V1 i = .slice A1 n1 c1 ∧ ((A1 = none ∧ n1 = 0 ∧ c1 = 0 ∧ zs = []) ∨ ∃ x, A1 = some x ∧ n1 ≤ c1 ∧ c1 ≤ maxLen ∧ zs.length = c1 ∧ (∀ i, i < zs.length → W.cell? (x.add i) = some (.int .u8 (zs.getD i 0))) ∧ ∀ n ∈ zs, (Lit.int .u8 n).wf = true) := by
        rcases open_ints Tryz.underlying23 Tryz.underlying5 (by kernel_rfl) t1 with ⟨hc1, _⟩ | ⟨x, l, c, zs, hc1, _, hl1, hm1, hz, _, hcell, hwz⟩
        · exact ⟨none, 0, 0, [], by simpa using hc1, .inl ⟨rfl, rfl, rfl, rfl⟩⟩
        · exact ⟨some x, l, c, zs, by simpa using hc1, .inr ⟨x, rfl, hl1, hm1, by simpa using hz, hcell, hwz⟩⟩
      rw [hV0] at e0
      rw [hV1] at e1 t1
      have hsi : (DataW.weightsEach Tryz.prog [9, 23] [D0 i, D1 i]).all (· ≤ reachBytes) = true := List.all_eq_true.2 (fun q hq => by
        have hq2 : q ∈ (DataW.agg [D0 i, D1 i]).weights Tryz.prog 50 := by
          rw [DataW.weights, Tryz.underlying50]
          exact hq
        have := hmem q (List.mem_cons_of_mem _ (List.mem_append_left _ (weights_mem_all (List.mem_map.2 ⟨i, List.mem_range.2 hil, rfl⟩) q hq2)))
        simpa using this)
      have hb := sized_ints hsi (j := 1) (t := 23) rfl rfl Tryz.underlying23 Tryz.underlying5 (by kernel_rfl) (B := 1) (by kernel_rfl) ⟨_, t1⟩
      obtain ⟨l1, rfl, hr1, hm1, hw1, hc1⟩ := ReadsInt.ofRowC hrow
      exact ⟨⟨s, l1⟩, ⟨A1, c1, e0, e1, hc1, Kd.C_of_reads (d := (0 : Int)) (h1 := fun _ => rfl) hr1⟩, by show l1.length < _; omega, hw1⟩
    let g : Nat → S50 := fun i => if hil : i < len0 then Classical.choose (each i hil) else z50
    have hg : ∀ i, i < len0 → (∃ A1 c1, W.cell? (a.add (i * 2)) = some (.string (g i).f0) ∧ W.cell? (a.add (i * 2 + 1)) = some (.slice A1 (g i).f1.length c1) ∧ (g i).f1.length ≤ c1 ∧ (Kd.int .u8).C W A1 (g i).f1.length (g i).f1) ∧ (g i).f1.length < 140737488355328 ∧ ∀ x ∈ (g i).f1, (Lit.int .u8 x).wf = true := by
      intro i hil
      have e : g i = Classical.choose (each i hil) := dif_pos hil
      rw [e]; exact Classical.choose_spec (each i hil)
    have hlen : ((List.range len0).map g).length = len0 := by simp
    refine ⟨(List.range len0).map g, hlen, ⟨hlen, by unfold maxLen at hm; omega, fun _ => ⟨a, rfl, fun j p hj => ?_⟩⟩, hl, hlen0, fun f hf => ?_⟩
    · have hjl : j < len0 := by have := (List.getElem?_eq_some_iff.1 hj).1; simpa using this
      have hp : p = g j := by
        rw [List.getElem?_map, List.getElem?_range hjl] at hj
        exact (Option.some.inj hj).symm
      subst hp
      obtain ⟨⟨A1, c1, g0, g1, g2, g3⟩, _⟩ := hg j hjl
      refine ⟨_, rfl, k50_mk _ _ g2 g3, fun i u hu => ?_⟩
      match i, hu with
      | 0, hu => cases hu; exact g0
      | 1, hu => cases hu; exact g1
    · obtain ⟨i, hil, rfl⟩ := List.mem_map.1 hf
      exact (hg i (List.mem_range.1 hil)).2
end Go.Proofs.YthmijenlndnmcaaGreatDoor.Sh
