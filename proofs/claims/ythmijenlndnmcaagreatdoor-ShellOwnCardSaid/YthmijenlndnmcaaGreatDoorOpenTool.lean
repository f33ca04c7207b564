/- An argument that is a slice of the page's tools, opened to its cells. -/
import Derived.Test.YthmijenlndnmcaaGreatDoorShx0
import Derived.Deep.Slices
import Derived.Deep.Fields
import Derived.ChangeSame
import Derived.SizedLaws
import Derived.ChangeOld
import Derived.ChangeArms
namespace Go.Proofs.YthmijenlndnmcaaGreatDoor.Sh
open Go Go.RowKit Go.Proofs.YthmijenlndnmcaaGreatDoorW.PrintWords Go.ChangeShapes Go.WideShapes Go.Deep
set_option linter.unusedVariables false
set_option maxRecDepth 100000
theorem tool_cells {H : Type} {enc : TypeId × Value → H} {W : World} {base n : Nat} {spare : Nat → Bool} {held : Bool} {cs : List Value} {x : DataW H × List MemPlace}
    (h : DataW.trod enc Tryz.prog W base spare held n 28 cs = some x) : ∃ p : S28, cs = [.string p.f0, .int .i64 p.f1, .string p.f2] := by
  obtain ⟨ys, n', hn', hy, hlen, hyl, hf⟩ := DataW.trod_struct Tryz.underlying28 h
  have hl2 : cs.length = 3 := hlen.trans (by kernel_rfl)
  obtain ⟨c0, c1, c2, rfl⟩ : ∃ c0 c1 c2, cs = [c0, c1, c2] := by
    match cs, hl2 with
    | [a, b, c], _ => exact ⟨a, b, c, rfl⟩
  have h0 := hf 0 _ rfl
  have h1 := hf 1 _ rfl
  have h2 := hf 2 _ rfl
  have k0 : Tryz.prog.cellsOf 3 = 1 := by kernel_rfl
  have k1 : Tryz.prog.cellsOf 9 = 1 := by kernel_rfl
  have e0 : ys[0]? = some (ys[0]'(by rw [hyl]; decide)) := List.getElem?_eq_getElem _
  have e1 : ys[1]? = some (ys[1]'(by rw [hyl]; decide)) := List.getElem?_eq_getElem _
  have e2 : ys[2]? = some (ys[2]'(by rw [hyl]; decide)) := List.getElem?_eq_getElem _
  rw [e0] at h0
  rw [e1] at h1
  rw [e2] at h2
  replace h0 : DataW.trod enc Tryz.prog W base spare held n' 9 (([c0, c1, c2].drop 0).take (Tryz.prog.cellsOf 9)) = _ := h0
  replace h1 : DataW.trod enc Tryz.prog W base spare held n' 3 (([c0, c1, c2].drop 1).take (Tryz.prog.cellsOf 3)) = _ := h1
  replace h2 : DataW.trod enc Tryz.prog W base spare held n' 9 (([c0, c1, c2].drop 2).take (Tryz.prog.cellsOf 9)) = _ := h2
  rw [k0] at h1
  rw [k1] at h0 h2
  obtain ⟨n1, q1, _, _⟩ := DataW.trod_int Tryz.underlying3 h1
  obtain ⟨n0, q0, _⟩ := DataW.trod_string Tryz.underlying9 h0
  obtain ⟨n2, q2, _⟩ := DataW.trod_string Tryz.underlying9 h2
  cases q0
  cases q1
  cases q2
  exact ⟨⟨n0, n1, n2⟩, rfl⟩
theorem open_tools {H : Type} {enc : TypeId × Value → H} {W : World} {base fuel : Nat} {spare : Nat → Bool} {held : Bool} {a0 : Option Addr} {len0 cap0 : Nat} {d : DataW H} {ps : List MemPlace}
    (h : DataW.trod enc Tryz.prog W base spare held fuel 22 [.slice a0 len0 cap0] = some (d, ps)) :
    ∃ l : List S28, l.length = len0 ∧ Kd.C k28 W a0 len0 l ∧ len0 ≤ cap0 ∧ (len0 = 0 ∨ ∃ el sp, d = .slice el sp ∧ len0 ≤ el.length) := by
  rcases open_slice Tryz.underlying22 h with ⟨hcs, _⟩ | ⟨a, len, cap, m, n, D, Pl, hcs, _, hl, hm, hmm, hx, hi⟩
  · simp only [List.cons.injEq, Value.slice.injEq, and_true] at hcs
    obtain ⟨rfl, rfl, rfl⟩ := hcs
    exact ⟨[], rfl, Kd.C_nil _ _, Nat.le_refl _, .inl rfl⟩
  · simp only [List.cons.injEq, Value.slice.injEq, and_true] at hcs
    obtain ⟨rfl, rfl, rfl⟩ := hcs
    have hlm : len0 ≤ m := by rw [hmm]; split <;> omega
    have hc2 : Tryz.prog.cellsOf 28 = 3 := by kernel_rfl
    have each : ∀ i, i < len0 → ∃ p : S28, ∀ j u, [Value.string p.f0, .int .i64 p.f1, .string p.f2][j]? = some u → W.cell? (a.add (i * 3 + j)) = some u := by
      intro i hil
      obtain ⟨cs', hc, ht⟩ := hi i (by omega)
      obtain ⟨p, rfl⟩ := tool_cells ht
      rw [hc2] at hc
      obtain ⟨_, _, hat⟩ := World.cells?_some hc
      refine ⟨p, fun j u hj => ?_⟩
      have hj2 : j < 3 := (List.getElem?_eq_some_iff.1 hj).1
      have := hat j hj2
      rw [hj] at this
      rw [← Go.Deep.add_add]
      exact this
    let g : Nat → S28 := fun i => if hil : i < len0 then Classical.choose (each i hil) else z28
    have hg : ∀ i, i < len0 → ∀ j u, [Value.string (g i).f0, .int .i64 (g i).f1, .string (g i).f2][j]? = some u → W.cell? (a.add (i * 3 + j)) = some u := by
      intro i hil
      have e : g i = Classical.choose (each i hil) := dif_pos hil
      rw [e]; exact Classical.choose_spec (each i hil)
    have hlen : ((List.range len0).map g).length = len0 := by simp
    refine ⟨(List.range len0).map g, hlen, ⟨hlen, by unfold maxLen at hm; omega, fun _ => ⟨a, rfl, fun j p hj => ?_⟩⟩, hl, .inr ⟨_, _, (Prod.mk.inj hx).1, by simp⟩⟩
    have hjl : j < len0 := by have := (List.getElem?_eq_some_iff.1 hj).1; simpa using this
    have hp : p = g j := by
      rw [List.getElem?_map, List.getElem?_range hjl] at hj
      exact (Option.some.inj hj).symm
    subst hp
    exact ⟨_, rfl, k28_mk _ _, fun i u hu => hg j hjl i u hu⟩
end Go.Proofs.YthmijenlndnmcaaGreatDoor.Sh
