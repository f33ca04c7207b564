/- An argument that is a line of the page's, opened to its cells. -/
import Derived.Test.YthmijenlndnmcaaGreatDoorOpenTool
import Derived.Lib.SmallJoins
namespace Go.Proofs.YthmijenlndnmcaaGreatDoor.Sh
open Go Go.RowKit Go.Proofs.YthmijenlndnmcaaGreatDoorW.PrintWords Go.ChangeShapes Go.WideShapes Go.Deep Go.Joins
set_option linter.unusedVariables false
set_option maxRecDepth 100000
theorem open_line {H : Type} {enc : TypeId × Value → H} {W : World} {base : Nat} {r : Reach} {b0 : Nat} {spare : Nat → Bool} {held : Bool} {v : Value} {d : DataW H} {ps : List MemPlace} {ts : List TypeId} {ds : List (DataW H)} {j : Nat}
    (hsz : (DataW.weightsEach Tryz.prog ts ds).all (· ≤ reachBytes) = true) (ht : ts[j]? = some 38) (hd : ds[j]? = some d) (hv : Value.okWide Tryz.prog W r b0 38 v) (h : DataW.Trod enc Tryz.prog W base spare held 38 v d ps) :
    ∃ (fr : ByteArray) (a : Option Addr) (n c : Nat) (tp : ByteArray) (ap : Bool) (l : List S28), v = .agg #[.string fr, .slice a n c, .string tp, .bool ap] ∧ l.length = n ∧ Kd.C k28 W a n l ∧ n ≤ c ∧ n < 3518437208883 := by
  have hu := Tryz.underlying38
  obtain ⟨v0, v1, v2, v3, y0, y1, y2, y3, n, rfl, rfl, rfl, h0, h1, h2, h3⟩ := open_agg4 hu (by kernel_rfl) (by kernel_rfl) hv h
  obtain ⟨s0, q0, _⟩ := DataW.trod_string Tryz.underlying9 h0
  obtain ⟨s2, q2, _⟩ := DataW.trod_string Tryz.underlying9 h2
  cases q0
  cases q2
  obtain ⟨b3, q3, _⟩ := DataW.trod_bool Tryz.underlying4 h3
  cases q3
  obtain ⟨a, len, c, rfl⟩ : ∃ a len c, v1 = Value.slice a len c := by
    rcases open_slice Tryz.underlying22 h1 with ⟨hcs, _⟩ | ⟨a, len, cap, _, _, _, _, hcs, _⟩
    · exact ⟨_, _, _, by simpa using hcs⟩
    · exact ⟨_, _, _, by simpa using hcs⟩
  obtain ⟨l, e1, e2, e3, e4⟩ := open_tools h1
  refine ⟨s0, a, len, c, s2, b3, l, rfl, e1, e2, e3, ?_⟩
  rcases e4 with e4 | ⟨el, sp, e5, e4⟩
  · omega
  · have hm : (el.length + sp.length) * Tryz.prog.bytesOf 28 ∈ (DataW.agg [y0.1, y1.1, y2.1, y3.1] : DataW H).weights Tryz.prog 38 := by
      rw [DataW.weights, hu]
      refine DataW.weights_mem_each (j := 1) (t := 22) (d := y1.1) rfl rfl _ ?_
      rw [e5, DataW.weights, Tryz.underlying22]
      simp
    have := List.all_eq_true.1 hsz _ (DataW.weights_mem_each ht hd _ hm)
    have z : (el.length + sp.length) * Tryz.prog.bytesOf 28 ≤ reachBytes := by simpa using this
    have hB : Tryz.prog.bytesOf 28 = 40 := by kernel_rfl
    rw [hB] at z
    unfold reachBytes at z
    omega
end Go.Proofs.YthmijenlndnmcaaGreatDoor.Sh
