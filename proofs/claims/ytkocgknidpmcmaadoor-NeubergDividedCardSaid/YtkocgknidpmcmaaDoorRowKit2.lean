/- Results and small results as arguments. -/
import Derived.Test.YtkocgknidpmcmaaDoorSplitC
import Derived.Test.YtkocgknidpmcmaaDoorAll
import Derived.Deep.SlicePairs
import Derived.Deep.Matrix
namespace Go.Proofs.YtkocgknidpmcmaaDoor
open Go.ChangeShapes Go.WideShapes Go.ChangeAt Go.RowKit
set_option linter.unusedVariables false
set_option linter.unusedSimpArgs false

theorem bounds64 {n : Int} (h : (Lit.int .i64 n).wf = true) : -9223372036854775808 ≤ n ∧ n ≤ 9223372036854775807 := by
  simp [Lit.wf, IntKind.min, IntKind.max, IntKind.signed, IntKind.bits] at h
  omega
theorem bounds32 {n : Int} (h : (Lit.int .u32 n).wf = true) : 0 ≤ n ∧ n ≤ 4294967295 := by
  simp [Lit.wf, IntKind.min, IntKind.max, IntKind.signed, IntKind.bits] at h
  omega
theorem cellsPart : Tryd.prog.cellsOf 80 = 2 := by kernel_rfl
theorem cellsResult : Tryd.prog.cellsOf 35 = 1 := by kernel_rfl
def numV : Value → Int
  | .int _ n => n
  | _ => 0
theorem maxLen_is : maxLen = 9223372036854775807 := by decide

set_option maxRecDepth 100000 in
theorem open_parts {H : Type} {enc : TypeId × Value → H} {W : World} {sp : Nat → Bool} {held : Bool} {base0 fuel : Nat} {cs : List Value} {x : DataW H × List MemPlace}
    (h : DataW.trod enc Tryd.prog W base0 sp held fuel 35 cs = some x) :
    ∃ A c r, cs = [.slice A (List.length r) c] ∧ Parts W A r ∧ r.length ≤ 9223372036854775807 := by
  rcases Go.Deep.open_slice_pairs Tryd.underlying35 Tryd.underlying80 cellsPart rfl rfl cellsInt cellsInt h with ⟨rfl, _⟩ | ⟨a, len, cap, m, n, V0, V1, D0, D1, P0, P1, rfl, _, hlc, hcm, hm, _, hx⟩
  · exact ⟨none, 0, [], rfl, fun i p hp => by simp at hp, by decide⟩
  · have hlm : len ≤ m := by rw [hm]; split <;> omega
    refine ⟨some a, cap, (List.range len).map fun i => (numV (V0 i), numV (V1 i)), by simp, ?_, by rw [maxLen_is] at hcm; simp; omega⟩
    intro i p hp
    have hi : i < len := by
      have := (List.getElem?_eq_some_iff.1 hp).1
      simpa using this
    have hp' : p = (numV (V0 i), numV (V1 i)) := by
      rw [List.getElem?_map, List.getElem?_range hi] at hp
      simpa using hp.symm
    have hs := spot_none (v := V0 0) (by simpa using (hx 0 (by omega)).1)
    obtain ⟨b, o, s⟩ := a
    simp only at hs
    subst hs
    obtain ⟨e0, e1, t0, t1⟩ := hx i (by omega)
    obtain ⟨n0, k0, _, _⟩ := DataW.trod_int Tryd.underlying3 t0
    obtain ⟨n1, k1, _, _⟩ := DataW.trod_int Tryd.underlying3 t1
    simp only [List.cons.injEq, and_true] at k0 k1
    rw [k0] at e0
    rw [k1] at e1
    rw [hp', k0, k1]
    rw [add_none] at e0 e1
    exact ⟨b, o, rfl, e0, by rw [Nat.add_assoc]; exact e1⟩

set_option maxRecDepth 100000 in
theorem open_ress {H : Type} {enc : TypeId × Value → H} {W : World} {sp : Nat → Bool} {held : Bool} {b0 base0 : Nat} {r : Reach} {v : Value} {d : DataW H} {ps : List MemPlace}
    (hval : Value.okWide Tryd.prog W r b0 33 v) (hd : DataW.Trod enc Tryd.prog W base0 sp held 33 v d ps) :
    ∃ A c l, v = .slice A (List.length l) c ∧ Ress W A l ∧ l.length ≤ 9223372036854775807 ∧ ∀ r ∈ l, r.length ≤ 9223372036854775807 := by
  obtain ⟨a0, len0, cap0, rfl⟩ := okWide_slice Tryd.underlying33 hval
  obtain ⟨fuel, hf⟩ := hd
  have hf' : DataW.trod enc Tryd.prog W base0 sp held fuel 33 [.slice a0 len0 cap0] = some (d, ps) := by simpa [Value.cells] using hf
  rcases Go.Deep.open_slice1 Tryd.underlying33 cellsResult hf' with ⟨hc, _⟩ | ⟨a, len, cap, m, n, V, D, Pl, hc, _, hlc, hcm, hm, _, hx⟩
  · simp only [List.cons.injEq, and_true] at hc
    rw [hc]
    exact ⟨none, 0, [], rfl, fun i p hp => by simp at hp, by decide, fun r hr => by simp at hr⟩
  · simp only [List.cons.injEq, and_true] at hc
    rw [hc]
    have hlm : len ≤ m := by rw [hm]; split <;> omega
    have each : ∀ i : Nat, ∃ r : List (Int × Int), i < len → ∃ A c, V i = .slice A r.length c ∧ Parts W A r ∧ r.length ≤ 9223372036854775807 := by
      intro i
      by_cases hi : i < len
      · obtain ⟨A, c, r, e, hp, hl⟩ := open_parts (hx i (by omega)).2
        simp only [List.cons.injEq, and_true] at e
        exact ⟨r, fun _ => ⟨A, c, e, hp, hl⟩⟩
      · exact ⟨[], fun h => absurd h hi⟩
    obtain ⟨R, hR⟩ : ∃ R : Nat → List (Int × Int), ∀ i, i < len → ∃ A c, V i = .slice A (R i).length c ∧ Parts W A (R i) ∧ (R i).length ≤ 9223372036854775807 := ⟨fun i => (each i).choose, fun i => (each i).choose_spec⟩
    refine ⟨some a, cap, (List.range len).map R, by simp, ?_, by rw [maxLen_is] at hcm; simp; omega, ?_⟩
    · intro i r hr
      have hi : i < len := by
        have := (List.getElem?_eq_some_iff.1 hr).1
        simpa using this
      have hr' : r = R i := by
        rw [List.getElem?_map, List.getElem?_range hi] at hr
        simpa using hr.symm
      have hs := spot_none (v := V 0) (hx 0 (by omega)).1
      obtain ⟨b, o, s⟩ := a
      simp only at hs
      subst hs
      obtain ⟨A, c, e, hp, _⟩ := hR i hi
      have h1 := (hx i (by omega)).1
      rw [add_none, e] at h1
      subst hr'
      exact ⟨b, o, rfl, A, c, h1, hp⟩
    · intro r hr
      obtain ⟨i, hi, rfl⟩ := List.mem_map.1 hr
      obtain ⟨_, _, _, _, h⟩ := hR i (List.mem_range.1 hi)
      exact h


set_option maxRecDepth 100000 in
theorem open_result {H : Type} {enc : TypeId × Value → H} {W : World} {sp : Nat → Bool} {held : Bool} {b0 base0 : Nat} {r : Reach} {v : Value} {d : DataW H} {ps : List MemPlace}
    (hval : Value.okWide Tryd.prog W r b0 35 v) (hd : DataW.Trod enc Tryd.prog W base0 sp held 35 v d ps) :
    ∃ A c r, v = .slice A (List.length r) c ∧ Parts W A r ∧ r.length ≤ 9223372036854775807 := by
  obtain ⟨a0, len0, cap0, rfl⟩ := okWide_slice Tryd.underlying35 hval
  obtain ⟨fuel, hf⟩ := hd
  have hf' : DataW.trod enc Tryd.prog W base0 sp held fuel 35 [.slice a0 len0 cap0] = some (d, ps) := by simpa [Value.cells] using hf
  obtain ⟨A, c, r, e, h1, h2⟩ := open_parts hf'
  simp only [List.cons.injEq, and_true] at e
  exact ⟨A, c, r, e, h1, h2⟩
set_option maxRecDepth 100000 in
theorem open_small_trod {H : Type} {enc : TypeId × Value → H} {W : World} {sp : Nat → Bool} {held : Bool} {base0 fuel : Nat} {cs : List Value} {x : DataW H × List MemPlace} (hlen : cs.length = 3)
    (hf : DataW.trod enc Tryd.prog W base0 sp held fuel 85 cs = some x) :
    ∃ s : Sm, cs = [.int .i16 s.p, .int .u8 s.wt, .slice s.A s.l.length s.c] ∧ SmallOk W s.p s.wt s.A s.c s.l := by
  obtain ⟨c0, c1, c2, rfl⟩ := list3 hlen
  obtain ⟨y0, y1, y2, n, _, _, h0, h1, h2⟩ := Go.Deep.trod_struct3 Tryd.underlying85 hf
  simp only [cells16, cells8, cellsS16, List.drop_zero, List.drop_succ_cons, List.take_succ_cons, List.take_zero] at h0 h1 h2
  obtain ⟨p, ea, rfl, wp⟩ := DataW.trod_int Tryd.underlying82 h0
  obtain ⟨wt, eb, rfl, ww⟩ := DataW.trod_int Tryd.underlying5 h1
  simp only [List.cons.injEq, and_true] at ea eb
  subst ea; subst eb
  rcases open_ints Tryd.underlying83 Tryd.underlying82 cells16 h2 with ⟨hc, _⟩ | ⟨a, len, cap, zs, hc, _, hlc, hcm, hzl, _, hcell, hwf⟩
  · simp only [List.cons.injEq, and_true] at hc
    subst hc
    exact ⟨⟨p, wt, none, 0, []⟩, rfl, bounds16 wp, bounds8 ww, fun i x hx => by simp at hx, fun x hx => by simp at hx, Nat.le_refl _, Nat.zero_le _⟩
  · simp only [List.cons.injEq, and_true] at hc
    subst hc
    have hlz : len ≤ zs.length := by rw [hzl]; split <;> omega
    refine ⟨⟨p, wt, some a, cap, zs.take len⟩, ?_, bounds16 wp, bounds8 ww, ?_, ?_, ?_, ?_⟩
    · simp only [List.length_take, Nat.min_eq_left hlz]
    · intro i x hx
      have hi : i < len := by
        rcases Nat.lt_or_ge i len with h | h
        · exact h
        · rw [List.getElem?_eq_none (by simp; omega)] at hx; cases hx
      rw [List.getElem?_take_of_lt hi] at hx
      have hs := spot_none (hcell 0 (by omega))
      obtain ⟨b, o, s⟩ := a
      simp only at hs
      subst hs
      refine ⟨b, o, rfl, ?_⟩
      have hk := hcell i (by omega)
      rw [List.getD_eq_getElem?_getD, hx] at hk
      rw [← add_none]; exact hk
    · exact fun x hx => bounds16 (hwf x (List.mem_of_mem_take hx))
    · rw [List.length_take, Nat.min_eq_left hlz]; exact hlc
    · show cap ≤ 9223372036854775807
      have : maxLen = 9223372036854775807 := by decide
      omega

set_option maxRecDepth 100000 in
theorem open_smalls {H : Type} {enc : TypeId × Value → H} {W : World} {sp : Nat → Bool} {held : Bool} {b0 base0 : Nat} {r : Reach} {v : Value} {d : DataW H} {ps : List MemPlace}
    (hval : Value.okWide Tryd.prog W r b0 49 v) (hd : DataW.Trod enc Tryd.prog W base0 sp held 49 v d ps) :
    ∃ A c l, v = .slice A (List.length l) c ∧ Smalls W A l ∧ l.length ≤ c ∧ c ≤ 9223372036854775807 := by
  obtain ⟨a0, len0, cap0, rfl⟩ := okWide_slice Tryd.underlying49 hval
  obtain ⟨fuel, hf⟩ := hd
  have hf' : DataW.trod enc Tryd.prog W base0 sp held fuel 49 [.slice a0 len0 cap0] = some (d, ps) := by simpa [Value.cells] using hf
  rcases Go.Deep.open_slice Tryd.underlying49 hf' with ⟨hc, _⟩ | ⟨a, len, cap, m, n, D, Pl, hc, _, hlc, hcm, hm, _, hx⟩
  · simp only [List.cons.injEq, and_true] at hc
    rw [hc]
    exact ⟨none, 0, [], rfl, fun i p hp => by simp at hp, Nat.le_refl _, by decide⟩
  · simp only [List.cons.injEq, and_true] at hc
    rw [hc]
    have hlm : len ≤ m := by rw [hm]; split <;> omega
    rw [cellsSmall] at hx
    have each : ∀ i : Nat, ∃ s : Sm, i < len → W.cell? (a.add (i * 3 + 0)) = some (.int .i16 s.p) ∧ W.cell? (a.add (i * 3 + 1)) = some (.int .u8 s.wt) ∧ W.cell? (a.add (i * 3 + 2)) = some (.slice s.A s.l.length s.c) ∧ SmallOk W s.p s.wt s.A s.c s.l := by
      intro i
      by_cases hi : i < len
      · obtain ⟨cs', h1, h2⟩ := hx i (by omega)
        obtain ⟨_, hlen, hcell⟩ := World.cells?_some h1
        obtain ⟨s, hs, hok⟩ := open_small_trod hlen h2
        refine ⟨s, fun _ => ⟨?_, ?_, ?_, hok⟩⟩
        · have := hcell 0 (by omega); rw [Go.Deep.add_add] at this; rw [this, hs]; rfl
        · have := hcell 1 (by omega); rw [Go.Deep.add_add] at this; rw [this, hs]; rfl
        · have := hcell 2 (by omega); rw [Go.Deep.add_add] at this; rw [this, hs]; rfl
      · exact ⟨⟨0, 0, none, 0, []⟩, fun h => absurd h hi⟩
    obtain ⟨R, hR⟩ : ∃ R : Nat → Sm, ∀ i, i < len → W.cell? (a.add (i * 3 + 0)) = some (.int .i16 (R i).p) ∧ W.cell? (a.add (i * 3 + 1)) = some (.int .u8 (R i).wt) ∧ W.cell? (a.add (i * 3 + 2)) = some (.slice (R i).A (R i).l.length (R i).c) ∧ SmallOk W (R i).p (R i).wt (R i).A (R i).c (R i).l := ⟨fun i => (each i).choose, fun i => (each i).choose_spec⟩
    refine ⟨some a, cap, (List.range len).map R, by simp, ?_, by simpa using hlc, by rw [maxLen_is] at hcm; exact hcm⟩
    intro i s hs
    have hi : i < len := by
      have := (List.getElem?_eq_some_iff.1 hs).1
      simpa using this
    have hs' : s = R i := by
      rw [List.getElem?_map, List.getElem?_range hi] at hs
      simpa using hs.symm
    obtain ⟨k0, k1, k2, k3⟩ := hR i hi
    have hsp := spot_none (a := a) (v := .int .i16 (R 0).p) (by simpa using (hR 0 (by omega)).1)
    obtain ⟨b, o, s⟩ := a
    simp only at hsp
    subst hsp
    subst hs'
    rw [add_none] at k0 k1 k2
    exact ⟨b, o, rfl, k0, by rw [Nat.add_assoc]; exact k1, by rw [Nat.add_assoc]; exact k2, k3⟩
end Go.Proofs.YtkocgknidpmcmaaDoor
