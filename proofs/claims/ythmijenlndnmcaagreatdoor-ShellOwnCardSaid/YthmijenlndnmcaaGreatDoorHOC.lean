/-
  Hand-made contracts of functions of the program: OwnC, OwnWalk.
-/
import Derived.Test.YthmijenlndnmcaaGreatDoorHW
import Derived.Test.YthmijenlndnmcaaGreatDoorHF
import Derived.Test.YthmijenlndnmcaaGreatDoorHG
import Derived.Test.YthmijenlndnmcaaGreatDoorShx5
import Derived.Test.YthmijenlndnmcaaGreatDoorShx6
import Derived.Test.YthmijenlndnmcaaGreatDoorShx9
import Derived.Test.YthmijenlndnmcaaGreatDoorShx0
namespace Go.Proofs.YthmijenlndnmcaaGreatDoor.Sh
open Go.RowKit Go.Proofs.YthmijenlndnmcaaGreatDoorW.PrintWords Go.Proofs.YthmijenlndnmcaaGreatDoorW.PrintLast Go.Proofs.YthmijenlndnmcaaGreatDoorW.PrintMore
attribute [local go_sem] max2_int min2_int max_two min_two max_three min_three max_four min_four
set_option linter.unusedVariables false
set_option linter.unusedSimpArgs false
theorem rd50 (l : List S50) (i : Nat) (hi : i < l.length) : rd_T50 l (i : Int) = l[i] := by simp [rd_T50, List.getD_eq_getElem?_getD, hi]
theorem copy_named (l : List S50) (hl : l.length < 3518437208883) (hd : ∀ f ∈ l, f.f1.length < 140737488355328) : millraceplain_CopyNamed.f (l.length + 1) l = some l := by
  unfold millraceplain_CopyNamed.f
  have : ∀ (m i : Nat), i + m = l.length → millraceplain_CopyNamed.l0 (m + 1) l (l.take i) (i : Int) = some l := by
    intro m
    induction m with
    | zero => intro i hi; rw [millraceplain_CopyNamed.l0, if_neg (by omega), List.take_of_length_le (by omega)]
    | succ m ih =>
      intro i hi
      have hil : i < l.length := by omega
      have hn : wrap64 ((i : Int) + 1) = ((i + 1 : Nat) : Int) := by unfold wrap64; omega
      have hc : millraceplain_CopyBytes.f l[i].f1 = some l[i].f1 := by
        have := hd l[i] (List.getElem_mem hil)
        unfold millraceplain_CopyBytes.f
        rw [if_pos (by simpa using this), List.nil_append]
      rw [millraceplain_CopyNamed.l0, if_pos (by omega), if_pos (by omega), rd50 l i hil, hc, hn]
      simp only [Option.bind_some]
      rw [if_pos (by simp; omega), show l.take i ++ [(⟨l[i].f0, l[i].f1⟩ : S50)] = l.take (i + 1) from (List.take_succ_eq_append_getElem hil).symm]
      exact ih (i + 1) (by omega)
  exact this l.length 0 (by omega)
theorem same_bytes (a : List Int) (k : Nat) (hk : a.length + 1 ≤ k) (ha : a.length ≤ 4611686018427387904) : millraceplain_SameBytes.f k a a = some true := by
  refine Pure.up (fun k => millraceplain_SameBytes.f k a a) (fun k => millraceplain_SameBytes.mono a a k) (k := a.length + 1) ?_ hk
  show millraceplain_SameBytes.f (a.length + 1) a a = _
  unfold millraceplain_SameBytes.f
  rw [if_pos rfl]
  have : ∀ (m i : Nat), i + m = a.length → millraceplain_SameBytes.l0 (m + 1) a a (i : Int) = some true := by
    intro m
    induction m with
    | zero => intro i hi; rw [millraceplain_SameBytes.l0, if_neg (by omega)]
    | succ m ih =>
      intro i hi
      rw [millraceplain_SameBytes.l0, if_pos (by omega), if_pos (by omega), if_pos (by omega), if_pos rfl]
      have e : wrap64 ((i : Int) + 1) = ((i + 1 : Nat) : Int) := by unfold wrap64; omega
      rw [e]
      exact ih (i + 1) (by omega)
  exact this a.length 0 (by omega)
theorem same_named (l : List S50) (hl : l.length ≤ 1000) (hd : ∀ f ∈ l, f.f1.length ≤ 1048576) : millraceplain_SameNamed.f (1048600 + l.length) l l = some true := by
  unfold millraceplain_SameNamed.f
  rw [if_pos rfl]
  have : ∀ (m i : Nat), i + m = l.length → millraceplain_SameNamed.l0 (1048600 + m) l l (i : Int) = some true := by
    intro m
    induction m with
    | zero => intro i hi; rw [show 1048600 + 0 = 1048599 + 1 from rfl, millraceplain_SameNamed.l0, if_neg (by omega)]
    | succ m ih =>
      intro i hi
      have hil : i < l.length := by omega
      have hdl := hd l[i] (List.getElem_mem hil)
      have hn : wrap64 ((i : Int) + 1) = ((i + 1 : Nat) : Int) := by unfold wrap64; omega
      rw [show 1048600 + (m + 1) = (1048600 + m) + 1 by omega, millraceplain_SameNamed.l0, if_pos (by omega), if_pos (by omega), if_pos (by omega), if_pos rfl, rd50 l i hil, same_bytes _ _ (by omega) (by omega), hn]
      simp only [Option.bind_some, if_true]
      exact ih (i + 1) (by omega)
  exact this l.length 0 (by omega)
theorem spoil_some (l : List Int) (hl : l.length ≤ 9223372036854775807) : ∃ r, millraceplain_Spoil.f (l.length + 1) l = some r := by
  unfold millraceplain_Spoil.f
  have : ∀ (m i : Nat) (x : List Int), x.length = l.length → i + m = l.length → ∃ r, millraceplain_Spoil.l0 (m + 1) x (i : Int) = some r := by
    intro m
    induction m with
    | zero => intro i x hx hi; exact ⟨x, by rw [millraceplain_Spoil.l0, if_neg (by omega)]⟩
    | succ m ih =>
      intro i x hx hi
      have hn : wrap64 ((i : Int) + 1) = ((i + 1 : Nat) : Int) := by unfold wrap64; omega
      rw [millraceplain_Spoil.l0, if_pos (by omega), if_pos (by omega), hn]
      exact ih (i + 1) _ (by rw [List.length_set]; exact hx) (by omega)
  exact this l.length 0 l rfl (by omega)
theorem setF_len (l : List S50) (s : ByteArray) (t : List Int) : (setF l s t).length ≤ l.length + 1 := by
  unfold setF
  split
  · rw [List.length_map]; omega
  · simp
theorem setF_data {l : List S50} {s : ByteArray} {t : List Int} {n : Nat} (h : ∀ f ∈ l, f.f1.length ≤ n) (ht : t.length ≤ n) : ∀ f ∈ setF l s t, f.f1.length ≤ n := by
  intro f hf
  unfold setF at hf
  split at hf
  · obtain ⟨g, hg, rfl⟩ := List.mem_map.1 hf
    split
    · exact ht
    · exact h g hg
  · rcases List.mem_append.1 hf with hf | hf
    · exact h f hf
    · rw [List.mem_singleton.1 hf]; exact ht
theorem evalOf_ok (fr : ByteArray) (xs : List S74) (tp : ByteArray) (ap : Bool) (Gs : List (List Int → Int × List Int)) (l : List S50) : (evalOf fr xs tp ap Gs l).2.length ≤ 1000 ∧ ∀ f ∈ (evalOf fr xs tp ap Gs l).2, f.f1.length ≤ 1048576 := by
  have z : ∀ c : Int, ((c, ([] : List S50)) : Int × List S50).2.length ≤ 1000 ∧ ∀ f ∈ ((c, ([] : List S50)) : Int × List S50).2, f.f1.length ≤ 1048576 := fun c => ⟨by simp, fun f hf => nomatch hf⟩
  unfold evalOf
  split
  · exact z _
  split
  · exact z _
  rename_i hk
  have hk0 : kcheckOf l = 0 := by simpa using hk
  obtain ⟨h1, h2, _⟩ := kcheckOf_ok hk0
  split
  · exact z _
  split
  · exact z _
  split
  · exact z _
  generalize ((if ap = true then dataF l tp else []) ++ (chainOf Gs (dataF l fr)).2) = t2
  split
  · exact z _
  rename_i hb
  refine ⟨?_, fun f hf => ?_⟩
  · show (sortN _).length ≤ 1000
    rw [(sortN_perm _).length_eq]
    have := setF_len l tp t2
    omega
  · exact setF_data (fun g hg => (h2 g hg).2) (by omega) f ((sortN_perm _).mem_iff.1 hf)
theorem R_int_ok {W : World} {N e : Nat} {okA okB : Nat → Prop} {v : Value} {l : List Int} (h : Kd.R (Kd.int .u8) e W N okA v l) (hb : ∀ k, v.ownBlock = some k → okB k) : Kd.R (Kd.int .u8) e W N okB v l :=
  ⟨hb, h.2.imp_ (fun _ _ hp => hp)⟩
theorem S_spoil {W : World} {N n cap : Nat} {ad : Addr} {ok : Nat → Prop} {xs : List S50} (h : Kd.S k50 50 W N ok (.slice (some ad) n cap) xs) (i : Nat) (hi : i < xs.length) :
    ∃ (u : Value) (P : Nat → Prop), Kd.R (Kd.int .u8) 5 W N P u xs[i].f1 ∧ W.cell? ⟨(ad.add (i * 2)).block, (ad.add (i * 2)).off + 1, none⟩ = some u ∧ (∀ k, P k → ok k ∧ N ≤ k ∧ k < W.heap.size) ∧
      ∀ (W' : World) (r : List Int) (Q : Nat → Prop), Kd.R (Kd.int .u8) 5 W' N Q u r → Kept W W' P → Kd.S k50 50 W' N ok (.slice (some ad) n cap) (xs.set i ⟨xs[i].f0, r⟩) := by
  obtain ⟨g, rfl⟩ := Kd.R_head (Kd.S_R h)
  have hn := (Kd.S_reads' h).1
  obtain ⟨oki, c, hcl, hM, hcc, hoki, hH⟩ := Kd.S_lend (Kd.S_bound h) z50 (i : Int) (by omega) (by omega)
  have ex : xs.getD (i : Int).toNat z50 = xs[i] := by simp [hi]
  rw [ex] at hM
  obtain ⟨v1, rfl, hR⟩ := k50_openM hM
  refine ⟨v1, oki, hR, ?_, fun k hk => ⟨(hoki k hk).1.1, (hoki k hk).1.2.1, (hoki k hk).1.2.2.1⟩, fun W' r Q hQ hK => ?_⟩
  · have := hcc 1 v1 rfl
    rw [← add_field _ _ 1 (by omega), add_at, Nat.zero_add]
    exact this
  · have hs := Kd.H_step hH (w1 := W') (fun k _ hn hlt => hK.2 k hlt hn)
    have hb := Kd.H_back hs (okp := oki) (x' := ⟨xs[i].f0, r⟩) (k50_mkM W' N oki ⟨xs[i].f0, r⟩ (R_int_ok hQ (fun k e => hR.1 k e))) (fun _ hk => hk)
    exact Kd.S_mono hb (fun k hk => hk.1)
theorem eval_law (fr : ByteArray) (l : List S28) (tp : ByteArray) (ap : Bool) (W : World) (hml : MaxCell W) (A : Option Addr) (c : Nat) (hr : Kd.C k74 W A l.length (l.map tOf)) (hc : l.length ≤ c) (AF : Option Addr) (cF n : Nat) (fs : List S50) (hn : n = fs.length) (hF : Kd.C k50 W AF n fs) (hFc : n ≤ cF) (hb : ∀ f ∈ fs, byteL f.f1) :
    Calls Tryz.prog 16 #[.agg #[.string fr, .slice A l.length c, .string tp, .bool ap], .slice AF n cF] W fun e w' => EvPost W w' e (evalOf fr (l.map tOf) tp ap ((l.map tOf).map gOf) fs) := by
  subst hn
  have e : (l.map tOf).length = l.length := List.length_map ..
  have := evalN.calls fr tp ap (l.map tOf) ((l.map tOf).map gOf) A c AF cF fs W W (Below.refl _ _) hb (by rw [e]; exact hr) (by rw [e]; exact hc) (by simp) (fun hch i hi => by
    have hi2 : i < (l.map tOf).length := by simpa using hi
    have e1 : ((l.map tOf).map gOf)[i] = gOf (l.map tOf)[i] := List.getElem_map ..
    rw [e1, rd74 _ i hi2]
    have hm := mayB_all hch _ (List.getElem_mem hi2)
    exact ⟨gOf_ok W _ hm (fun _ => con_ok hml _), fun u hu h => gOf_bytes _ u hu h⟩) hF hFc
  rw [e] at this
  exact this
set_option maxHeartbeats 8000000 in
set_option maxRecDepth 100000 in
theorem millracelaw21_ShellOwn.calls (fr : ByteArray) (A : Option Addr) (c : Nat) (l : List S28) (tp : ByteArray) (ap : Bool) (AF : Option Addr) (cF : Nat) (fs : List S50) (r : Bool) (w : World) (hr : Kd.C k28 w A l.length l) (hc : l.length ≤ c) (hF : Kd.C k50 w AF fs.length fs) (hFc : fs.length ≤ cF)
    (h : r = true ∧ MaxCell w ∧ l.length < 3518437208883 ∧ fs.length < 3518437208883 ∧ (∀ f ∈ fs, f.f1.length < 140737488355328 ∧ byteL f.f1)) :
    Calls Tryz.prog 6 #[.agg #[.string fr, .slice A l.length c, .string tp, .bool ap], .slice AF fs.length cF] w fun e w' => e = .returned (.bool r) ∧ Below w.heap.size w w' := by
  obtain ⟨rfl, hml, hl, hfl, hfb⟩ := h
  have hu := Tryz.underlying38
  have hu2 := Tryz.underlying46
  have hu3 := Tryz.underlying50
  have hmxf := hF.2.1
  obtain ⟨k, hk⟩ := Of_is fr tp ap l hl
  have HR := Lib.hid (fun W (hB : Below w.heap.size w W) => Kd.C_below hr hB)
  have HRF := Lib.hid (fun W (hB : Below w.heap.size w W) => Kd.C_below hF hB)
  have HO := Lib.hid (fun W (hB : Below w.heap.size w W) => millracelaw21_Of.calls k fr A c l tp ap _ _ _ _ W (HR.out W hB) hc hk)
  have HN := Lib.hid (fun (a : Int) (W : World) => millracelaw21_num.calls a a W rfl)
  have HAL := Lib.hid (fun W (hB : Below w.heap.size w W) => law_alive.calls W (hml.below hB))
  have HLM : (l.map tOf).length = l.length := List.length_map ..
  obtain ⟨R, hRR⟩ : ∃ R, R = evalOf fr (l.map tOf) tp ap ((l.map tOf).map gOf) fs := ⟨_, rfl⟩
  have hok := evalOf_ok fr (l.map tOf) tp ap ((l.map tOf).map gOf) fs
  rw [← hRR] at hok
  have HE := Lib.hid (fun W (hB : Below w.heap.size w W) A2 c2 h1 h2 AF2 cF2 n hn h3 h4 => eval_law fr l tp ap W (hml.below hB) A2 c2 h1 h2 AF2 cF2 n fs hn h3 h4 (fun f hf => (hfb f hf).2))
  rw [← hRR] at HE
  have HCF := Lib.hid (fun W (hB : Below w.heap.size w W) => millraceplain_CopyNamed.calls (fs.length + 1) AF cF fs fs W (HRF.out W hB) hFc (copy_named fs hfl (fun f hf => (hfb f hf).1)))
  have HCR := Lib.hid (fun W A2 c2 h1 h2 => millraceplain_CopyNamed.calls (R.2.length + 1) A2 c2 R.2 R.2 W h1 h2 (copy_named R.2 (by have := hok.1; omega) (fun f hf => by have := hok.2 f hf; omega)))
  have HSN := Lib.hid (fun W A2 c2 A3 c3 h1 h2 h3 h4 => millraceplain_SameNamed.calls (1048600 + R.2.length) A2 c2 R.2 A3 c3 R.2 true W h1 h2 h3 h4 (same_named R.2 hok.1 hok.2))
  have HFC := Lib.hid hFc
  have HL1 := Lib.hid (And.intro hok.1 hok.2)
  have hmr : R.2.length ≤ 9223372036854775807 := by have := hok.1; omega
  obtain ⟨er, rs⟩ := R
  simp only at HE HCR HSN hmr HL1
  clear hr hc hF hFc hk hml hl hfl hfb hRR hok
  go_enter Tryz.func6, Tryz.ntmps6
  go_wp2_with fail
  refine (HAL.out _ (below_alloc (Below.refl _ _) _)).mono ?_
  rintro e w1 ⟨rfl, q1⟩
  have kp := blk_below (blk_new w (.cells #[.string fr, .slice A l.length c, .string tp, .bool ap] 38)) q1
  have b1 := Lib.hid (below_step (below_alloc (Below.refl w.heap.size w) (.cells #[.string fr, .slice A l.length c, .string tp, .bool ap] 38)) q1)
  have hw1 : w.heap.size < w1.heap.size := blk_lt kp
  clear q1
  simp only []
  go_at_K
  go_wp2_with fail
  refine (HCF.out w1 b1.out).mono ?_
  rintro e w2 ⟨vo, rfl, ho, q2⟩
  obtain ⟨Ao, co, rfl, hco, hCo⟩ := Kd.S_reads ho
  have b2 := Lib.hid (below_step b1.out q2)
  have kp := blk_below kp q2
  have HO2 := Lib.hid (And.intro ho (And.intro hco (And.intro hCo q2)))
  clear ho hco hCo q2
  have p0 := blk_cell kp 0
  have p1 := blk_cell kp 1
  have p2 := blk_cell kp 2
  have p3 := blk_cell kp 3
  simp only []
  go_at_K
  go_wp2_with fail
  refine (HO.out w2 b2.out).mono ?_
  rintro e w3 ⟨v1, rfl, h1, q3⟩
  obtain ⟨A3, c3, rfl⟩ := Kd.R_slice h1
  simp only [List.length_map] at h1 ⊢
  have hRd := (Kd.R_reads' h1).2
  simp only [List.length_map] at hRd
  have R1 := Lib.hid hRd
  have b3 := Lib.hid (below_step b2.out q3)
  have q23 := Lib.hid q3
  have kp := blk_below kp q3
  clear hRd h1 q3 p0 p1 p2 p3
  go_at_K
  go_wp2_with fail
  refine (HE.out w3 b3.out A3 c3 R1.out.2 R1.out.1 Ao co fs.length rfl (Kd.C_below HO2.out.2.2.1 q23.out) HO2.out.2.1).mono ?_
  rintro e w4 ⟨q4, va, rfl, ha⟩
  obtain ⟨Aa, ca, rfl, hca, hCa⟩ := Kd.S_reads ha
  have b4 := Lib.hid (below_step b3.out q4)
  have kp := blk_below kp q4
  have HA4 := Lib.hid (And.intro ha (And.intro hca (And.intro hCa q4)))
  clear ha hca hCa q4
  simp only []
  go_at_K
  go_wp2_with fail
  refine (HCR.out w4 Aa ca HA4.out.2.2.1 HA4.out.2.1).mono ?_
  rintro e w5 ⟨vk, rfl, hk, q5⟩
  obtain ⟨Ak, ck, rfl, hck, hCk⟩ := Kd.S_reads hk
  have b5 := Lib.hid (below_step b4.out q5)
  have kp := blk_below kp q5
  have HK5 := Lib.hid (And.intro hk (And.intro hck (And.intro hCk q5)))
  clear hk hck hCk q5
  simp only []
  go_at_K
  go_wp2_with fail
  have S5 : Kd.S k50 50 w5 w1.heap.size (fun k => k < w2.heap.size) (.slice Ao fs.length co) fs := Kd.S_below (Kd.S_mono (Kd.S_bound HO2.out.1) (fun k hk => hk.2.2.1)) (below_step (below_step q23.out HA4.out.2.2.2) HK5.out.2.2.2)
  have HS5 := Lib.hid (And.intro S5 (below_step HO2.out.2.2.2 (below_step (below_step q23.out HA4.out.2.2.2) HK5.out.2.2.2)))
  have HZ := Lib.hid (And.intro hw1 (And.intro q23.out.size HA4.out.2.2.2.size))
  have HKP := Lib.hid kp
  clear S5 hw1 kp
  go_loopg [9] fs.length (fun k v wr => ∃ (i : Nat) (xs : List S50), v = .int .i64 i ∧ i ≤ fs.length ∧ k = fs.length - i ∧ xs.length = fs.length ∧ Kd.S k50 50 wr w1.heap.size (fun k => k < w2.heap.size) (.slice Ao fs.length co) xs ∧ Below w1.heap.size w1 wr ∧ Kept w5 wr (fun k => w1.heap.size ≤ k ∧ k < w2.heap.size))
  case atStart => exact ⟨0, fs, rfl, by omega, by omega, rfl, HS5.out.1, HS5.out.2, Kept.refl _ _⟩
  case round =>
    clear HS5
    obtain ⟨i, xs, rfl, hi, hk, hx, hS, hB, hKp⟩ := hrel
    have HK := Lib.hid (And.intro hk (And.intro hi hx))
    clear hk
    by_cases hlt : i < fs.length
    · obtain ⟨ad, eA⟩ : ∃ ad, Ao = some ad := by
        obtain ⟨g, cap, e, _⟩ := Kd.S_form hS (by omega)
        simp only [Value.slice.injEq] at e
        exact ⟨_, e.1⟩
      subst eA
      obtain ⟨u, P, hR, hc, hP, hset⟩ := S_spoil hS i (by omega)
      obtain ⟨el, hel⟩ : ∃ el, el = xs[i]'(by omega) := ⟨_, rfl⟩
      rw [← hel] at hR hset
      have hul : el.f1.length ≤ 9223372036854775807 := by
        obtain ⟨_, _, _, _, hC⟩ := Kd.R_reads hR
        exact hC.2.1
      obtain ⟨r, hr⟩ := spoil_some el.f1 hul
      have HC := Lib.hid (millraceplain_Spoil.calls _ P u _ r w1 wr hB hR hr)
      have HX := Lib.hid (And.intro hset (And.intro hP hKp))
      have h3 : decide ((i : Int) < (fs.length : Int)) = true := by simp; omega
      have p := eq_true (show 0 ≤ (i : Int) by omega)
      have q := eq_true (show (i : Int) < (fs.length : Int) by omega)
      clear hel hi hx hS hB hKp hR hP hset hul hr
      go_wp2_with fail
      refine HC.out.mono ?_
      rintro e w6 ⟨rfl, hR6, hB6, hK6⟩
      simp only []
      go_at_K
      go_wp2
      go_roundg (fs.length - (i + 1))
      case measure => have := HK.out; omega
      case rel => exact ⟨i + 1, xs.set i _, by go_num, by omega, rfl, by rw [List.length_set]; exact HK.out.2.2, HX.out.1 w6 r _ hR6 hK6, hB6, HX.out.2.2.then_ hK6 (fun k hk => .inl (by have := HX.out.2.1 k hk; exact ⟨this.2.1, this.1⟩))⟩
    · obtain rfl : i = fs.length := by omega
      have b6 := Lib.hid (below_step b1.out hB)
      have kp := blk_kept HKP.out hKp (fun h => by have := HZ.out.1; omega)
      have HAr := Lib.hid (Kd.S_reads' (Kd.S_step (Kd.S_bound (Kd.S_below HA4.out.1 HK5.out.2.2.2)) (fun k hk hlt => hKp.2 k hlt (fun h => by have := hk.2.1; have := HZ.out.2.1; omega)))).2
      have HKr := Lib.hid (Kd.S_reads' (Kd.S_step (Kd.S_bound HK5.out.1) (fun k hk hlt => hKp.2 k hlt (fun h => by have := hk.2.1; have := HZ.out.2; omega)))).2
      have h3 : decide ((fs.length : Int) < (fs.length : Int)) = false := by simp
      clear hS hB hKp hi hlt hx HA4 HK5 HO2 q23 HZ HKP b1 b2 b3 b4 b5
      go_wp2_with fail
      refine (HSN.out wr Aa ca Ak ck HAr.out.2 HAr.out.1 HKr.out.2 HKr.out.1).mono ?_
      rintro e w6 ⟨rfl, d6⟩
      have q6 := d6.below
      have b7 := Lib.hid (below_step b6.out q6)
      have kp := blk_below kp q6
      have HK6 := Lib.hid (And.intro HKr.out.1 (Kd.C_below HKr.out.2 q6))
      have p0 := blk_cell kp 0
      have p1 := blk_cell kp 1
      have p2 := blk_cell kp 2
      have p3 := blk_cell kp 3
      clear q6 d6 HAr HKr
      simp only []
      go_at_K
      go_wp2_with fail
      refine (HO.out w6 b7.out).mono ?_
      rintro e w7 ⟨v1, rfl, h1, q7⟩
      obtain ⟨A7, c7, rfl⟩ := Kd.R_slice h1
      simp only [List.length_map] at h1 ⊢
      have hRd := (Kd.R_reads' h1).2
      simp only [List.length_map] at hRd
      have R7 := Lib.hid hRd
      have b8 := Lib.hid (below_step b7.out q7)
      have kp := blk_below kp q7
      have HK7 := Lib.hid (And.intro HK6.out.1 (Kd.C_below HK6.out.2 q7))
      clear hRd h1 q7 p0 p1 p2 p3
      go_at_K
      go_wp2_with fail
      refine (HE.out w7 b8.out A7 c7 R7.out.2 R7.out.1 AF cF fs.length rfl (HRF.out w7 b8.out) HFC.out).mono ?_
      rintro e w8 ⟨q8, vb, rfl, hb⟩
      obtain ⟨Ab, cb, rfl, -, -⟩ := Kd.S_reads hb
      have HB8 := Lib.hid (And.intro hb q8)
      clear hb q8
      simp only []
      go_at_K
      go_wp2_with fail
      have HKP := Lib.hid kp
      clear kp h3
      go_loopg [12] rs.length (fun k v wr => ∃ (i : Nat) (xs : List S50), v = .int .i64 i ∧ i ≤ rs.length ∧ k = rs.length - i ∧ xs.length = rs.length ∧ Kd.S k50 50 wr w7.heap.size (fun _ => True) (.slice Ab rs.length cb) xs ∧ Below w7.heap.size w7 wr)
      case atStart => exact ⟨0, rs, rfl, by omega, by omega, rfl, HB8.out.1, HB8.out.2⟩
      case round =>
        clear HB8
        obtain ⟨i, xs, rfl, hi, hk, hx, hS, hB⟩ := hrel
        have HK := Lib.hid (And.intro hk (And.intro hi hx))
        clear hk
        by_cases hlt : i < rs.length
        · obtain ⟨ad, eA⟩ : ∃ ad, Ab = some ad := by
            obtain ⟨g, cap, e, _⟩ := Kd.S_form hS (by omega)
            simp only [Value.slice.injEq] at e
            exact ⟨_, e.1⟩
          subst eA
          obtain ⟨u, P, hR, hc, hP, hset⟩ := S_spoil hS i (by omega)
          obtain ⟨el, hel⟩ : ∃ el, el = xs[i]'(by omega) := ⟨_, rfl⟩
          rw [← hel] at hR hset
          have hul : el.f1.length ≤ 9223372036854775807 := by
            obtain ⟨_, _, _, _, hC⟩ := Kd.R_reads hR
            exact hC.2.1
          obtain ⟨r, hr⟩ := spoil_some el.f1 hul
          have HC := Lib.hid (millraceplain_Spoil.calls _ P u _ r w7 wr hB hR hr)
          have HX := Lib.hid hset
          have h3 : decide ((i : Int) < (rs.length : Int)) = true := by simp; omega
          have p := eq_true (show 0 ≤ (i : Int) by omega)
          have q := eq_true (show (i : Int) < (rs.length : Int) by omega)
          clear hel hi hx hS hB hR hP hset hul hr
          go_wp2_with fail
          refine HC.out.mono ?_
          rintro e w9 ⟨rfl, hR9, hB9, hK9⟩
          simp only []
          go_at_K
          go_wp2
          go_roundg (rs.length - (i + 1))
          case measure => have := HK.out; omega
          case rel => exact ⟨i + 1, xs.set i _, by go_num, by omega, rfl, by rw [List.length_set]; exact HK.out.2.2, HX.out w9 r _ hR9 hK9, hB9⟩
        · obtain rfl : i = rs.length := by omega
          have b9 := Lib.hid (below_step b8.out hB)
          have kp := blk_below HKP.out hB
          have HK9 := Lib.hid (And.intro HK7.out.1 (Kd.C_below HK7.out.2 hB))
          have h3 : decide ((rs.length : Int) < (rs.length : Int)) = false := by simp
          have p0 := blk_cell kp 0
          have p1 := blk_cell kp 1
          have p2 := blk_cell kp 2
          have p3 := blk_cell kp 3
          clear hS hB hi hlt hx HKP kp b6 b7 b8
          go_wp2_with fail
          refine (HO.out wr b9.out).mono ?_
          rintro e wa ⟨v1, rfl, h1, qa⟩
          obtain ⟨A9, c9, rfl⟩ := Kd.R_slice h1
          simp only [List.length_map] at h1 ⊢
          have hRd := (Kd.R_reads' h1).2
          simp only [List.length_map] at hRd
          have R9 := Lib.hid hRd
          have ba := Lib.hid (below_step b9.out qa)
          have HKa := Lib.hid (And.intro HK9.out.1 (Kd.C_below HK9.out.2 qa))
          clear hRd h1 qa p0 p1 p2 p3
          go_at_K
          go_wp2_with fail
          refine (HE.out wa ba.out A9 c9 R9.out.2 R9.out.1 AF cF fs.length rfl (HRF.out wa ba.out) HFC.out).mono ?_
          rintro e wb ⟨qb, vc, rfl, hc⟩
          obtain ⟨Ac, cc, rfl, hcc, hCc⟩ := Kd.S_reads hc
          have HCc := Lib.hid (And.intro hcc hCc)
          have bb := Lib.hid (below_step ba.out qb)
          have HKb := Lib.hid (And.intro HKa.out.1 (Kd.C_below HKa.out.2 qb))
          clear hc hcc hCc qb
          simp only []
          go_at_K
          go_wp2_with fail
          refine (HSN.out wb Ac cc Ak ck HCc.out.2 HCc.out.1 HKb.out.2 HKb.out.1).mono ?_
          rintro e wc ⟨rfl, dc⟩
          have bc := Lib.hid (below_step bb.out dc.below)
          clear dc
          simp only []
          go_at_K
          go_wp2
          go_ret
          exact ⟨rfl, bc.out⟩
end Go.Proofs.YthmijenlndnmcaaGreatDoor.Sh
