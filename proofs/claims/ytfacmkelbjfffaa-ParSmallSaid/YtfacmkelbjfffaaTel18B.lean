/- ParTells: the walk; a table as an argument. -/
import Derived.Test.YtfacmkelbjfffaaTel18A
import Derived.Test.YtfacmkelbjfffaaRow18
namespace Go.Proofs.Ytfacmkelbjfffaa
open Go.ChangeShapes Go.WideShapes Go.ChangeAt Go.RowKit
set_option linter.unusedVariables false
set_option linter.unusedSimpArgs false
set_option maxRecDepth 100000

set_option maxHeartbeats 2000000 in
theorem ParTells_any (T : Nat → Int) (u b s d : Int) (w : World) (hu : 0 ≤ u ∧ u ≤ 255) (hb : 0 ≤ b ∧ b ≤ 255) (hs : 0 ≤ s ∧ s ≤ 255) (hd : 0 ≤ d ∧ d ≤ 255) :
    Calls Try.prog 6 #[.agg (tabV T), .int .u8 u, .int .u8 b, .int .u8 s, .int .u8 d] w fun e w' => e = .returned (.bool true) ∧ Below w.heap.size w w' := by
  obtain ⟨b', rfl, hb'⟩ : ∃ n : Nat, b = (n : Int) ∧ n ≤ 255 := ⟨b.toNat, by omega, by omega⟩
  obtain ⟨s', rfl, hs'⟩ : ∃ n : Nat, s = (n : Int) ∧ n ≤ 255 := ⟨s.toNat, by omega, by omega⟩
  obtain ⟨d', rfl, hd'⟩ : ∃ n : Nat, d = (n : Int) ∧ n ≤ 255 := ⟨d.toNat, by omega, by omega⟩
  have HT := Sec.mk fun w' => tells_true T u b' s' d' w' hu hb' hs' hd'
  have HA := Sec.mk awake_true
  have hsz1 : (Try.prog.info? 25).map (·.size) = some (tabV T).toList.length := by kernel_rfl
  have hra := rtab_hra w T 25
  go_enter Try.func6, Try.ntmps6
  go_wp2_with (refine wpList_load_mid (by rfl) 25 (.tmp 5) (by rfl) w.heap.size 0 (by rfl) (tabV T).toList _ hra Try.underlying25 rfl hsz1 ?_; simp only [Array.toArray_toList])
  refine (HT.out _).mono ?_
  rintro e w1 ⟨rfl, hb1⟩
  have hB := sbtr (sst1 _ _) hb1
  clear hra HT hb1
  go_wp2_with fail
  refine (HA.out _).mono ?_
  rintro e w2 ⟨rfl, hb2⟩
  go_wp2_with fail
  go_ret
  exact ⟨rfl, sbtr hB hb2⟩
theorem cellsInt : Try.prog.cellsOf 3 = 1 := by kernel_rfl
theorem cellsFour : Try.prog.cellsOf 23 = 4 := by kernel_rfl
theorem cellsTab : Try.prog.cellsOf 25 = 20 := by kernel_rfl
theorem open_table {H : Type} {enc : TypeId × Value → H} {W : World} {sp : Nat → Bool} {held : Bool} {b0 base0 : Nat} {r : Reach} {v : Value} {d : DataW H} {ps : List MemPlace}
    (hval : Value.okWide Try.prog W r b0 25 v) (hd : DataW.Trod enc Try.prog W base0 sp held 25 v d ps) : ∃ T, v = .agg (tabV T) := by
  simp only [Value.okWide, Try.underlying25] at hval
  obtain ⟨cs, rfl, hsz, -⟩ := hval
  rw [cellsTab] at hsz
  obtain ⟨fuel, hf⟩ := hd
  obtain ⟨xs, m, _, _, _, hxl, hel⟩ := DataW.trod_array Try.underlying25 hf
  rw [cellsFour] at hel
  have each : ∀ i, i < 20 → ∃ n, cs[i]? = some (.int .i64 n) := by
    intro i hi
    have h := hel (i / 4) (by omega)
    rw [List.getElem?_eq_getElem (by omega)] at h
    obtain ⟨ys, m2, _, _, _, hyl, hey⟩ := DataW.trod_array Try.underlying23 h
    rw [cellsInt] at hey
    have h2 := hey (i % 4) (by omega)
    rw [List.getElem?_eq_getElem (by omega)] at h2
    obtain ⟨n, e, _, hw⟩ := DataW.trod_int Try.underlying3 h2
    refine ⟨n, ?_⟩
    have e2 := congrArg List.head? e
    simp only [Nat.mul_one, List.head?_cons] at e2
    rw [List.head?_take, if_neg (by omega), List.head?_drop, List.getElem?_take, if_pos (by omega), List.getElem?_drop] at e2
    rw [show i / 4 * 4 + i % 4 = i by omega] at e2
    simpa [Value.cells] using e2
  let T : Nat → Int := fun k => match cs[k]? with
    | some (.int _ n) => n
    | _ => 0
  have hT : ∀ i, i < 20 → cs[i]? = some (.int .i64 (T i)) := by
    intro i hi
    obtain ⟨n, h⟩ := each i hi
    have : T i = n := by simp only [T, h]
    rw [this]; exact h
  refine ⟨T, ?_⟩
  congr 1
  apply Array.ext_getElem?
  intro i
  by_cases hi : i < 20
  · rw [hT i hi, tab_cells T i hi]
  · rw [Array.getElem?_eq_none (by omega), Array.getElem?_eq_none (by show 20 ≤ i; omega)]
end Go.Proofs.Ytfacmkelbjfffaa
