/- For all results, 'finesselaw20.MatchPoints' returns true and its argument reads as it did: Points agrees with its definition. Condition: the table 'finesse/match.gets' is as the program's text lays it, which the card ties. -/
import Derived.Test.YtfajnggdlhbgnaaDoorPointsA
import Derived.Test.YtfajnggdlhbgnaaDoorSplitC
import Derived.Deep.SlicePairs
namespace Go.Proofs.YtfajnggdlhbgnaaDoor
open Go.ChangeShapes Go.WideShapes Go.ChangeAt Go.RowKit
set_option linter.unusedVariables false
set_option linter.unusedSimpArgs false

theorem cellsPart : Tryd.prog.cellsOf 44 = 2 := by kernel_rfl
theorem cellsResult : Tryd.prog.cellsOf 24 = 1 := by kernel_rfl
def numV : Value → Int
  | .int _ n => n
  | _ => 0
theorem maxLen_is : maxLen = 9223372036854775807 := by decide

set_option maxRecDepth 100000 in
theorem open_parts {H : Type} {enc : TypeId × Value → H} {W : World} {sp : Nat → Bool} {held : Bool} {base0 fuel : Nat} {cs : List Value} {x : DataW H × List MemPlace}
    (h : DataW.trod enc Tryd.prog W base0 sp held fuel 24 cs = some x) :
    ∃ A c r, cs = [.slice A (List.length r) c] ∧ Parts W A r ∧ r.length ≤ 9223372036854775807 := by
  rcases Go.Deep.open_slice_pairs Tryd.underlying24 Tryd.underlying44 cellsPart rfl rfl cellsInt cellsInt h with ⟨rfl, _⟩ | ⟨a, len, cap, m, n, V0, V1, D0, D1, P0, P1, rfl, _, hlc, hcm, hm, _, hx⟩
  · exact ⟨none, 0, [], rfl, fun i p hp => by simp at hp, by decide⟩
  · have hlm : len ≤ m := by rw [hm]; split <;> omega
    refine ⟨some a, cap, (List.range len).map fun i => (numV (V0 i), numV (V1 i)), by simp, ?_, by rw [maxLen_is] at hcm; simp; omega⟩
    intro i p hp
    have hi : i < len := by
      have := (List.getElem?_eq_some_iff.1 hp).1
      simpa using this
    have hp' : p = (numV (V0 i), numV (V1 i)) := by
      rw [List.getElem?_map, List.getElem?_range hi] at hp
      simpa using hp.symm
    have hs := spot_none (v := V0 0) (by simpa using (hx 0 (by omega)).1)
    obtain ⟨b, o, s⟩ := a
    simp only at hs
    subst hs
    obtain ⟨e0, e1, t0, t1⟩ := hx i (by omega)
    obtain ⟨n0, k0, _, _⟩ := DataW.trod_int Tryd.underlying3 t0
    obtain ⟨n1, k1, _, _⟩ := DataW.trod_int Tryd.underlying3 t1
    simp only [List.cons.injEq, and_true] at k0 k1
    rw [k0] at e0
    rw [k1] at e1
    rw [hp', k0, k1]
    rw [add_none] at e0 e1
    exact ⟨b, o, rfl, e0, by rw [Nat.add_assoc]; exact e1⟩

set_option maxRecDepth 100000 in
theorem open_ress {H : Type} {enc : TypeId × Value → H} {W : World} {sp : Nat → Bool} {held : Bool} {b0 base0 : Nat} {r : Reach} {v : Value} {d : DataW H} {ps : List MemPlace}
    (hval : Value.okWide Tryd.prog W r b0 22 v) (hd : DataW.Trod enc Tryd.prog W base0 sp held 22 v d ps) :
    ∃ A c l, v = .slice A (List.length l) c ∧ Ress W A l ∧ l.length ≤ 9223372036854775807 ∧ ∀ r ∈ l, r.length ≤ 9223372036854775807 := by
  obtain ⟨a0, len0, cap0, rfl⟩ := okWide_slice Tryd.underlying22 hval
  obtain ⟨fuel, hf⟩ := hd
  have hf' : DataW.trod enc Tryd.prog W base0 sp held fuel 22 [.slice a0 len0 cap0] = some (d, ps) := by simpa [Value.cells] using hf
  rcases Go.Deep.open_slice1 Tryd.underlying22 cellsResult hf' with ⟨hc, _⟩ | ⟨a, len, cap, m, n, V, D, Pl, hc, _, hlc, hcm, hm, _, hx⟩
  · simp only [List.cons.injEq, and_true] at hc
    rw [hc]
    exact ⟨none, 0, [], rfl, fun i p hp => by simp at hp, by decide, fun r hr => by simp at hr⟩
  · simp only [List.cons.injEq, and_true] at hc
    rw [hc]
    have hlm : len ≤ m := by rw [hm]; split <;> omega
    have each : ∀ i : Nat, ∃ r : List (Int × Int), i < len → ∃ A c, V i = .slice A r.length c ∧ Parts W A r ∧ r.length ≤ 9223372036854775807 := by
      intro i
      by_cases hi : i < len
      · obtain ⟨A, c, r, e, hp, hl⟩ := open_parts (hx i (by omega)).2
        simp only [List.cons.injEq, and_true] at e
        exact ⟨r, fun _ => ⟨A, c, e, hp, hl⟩⟩
      · exact ⟨[], fun h => absurd h hi⟩
    obtain ⟨R, hR⟩ : ∃ R : Nat → List (Int × Int), ∀ i, i < len → ∃ A c, V i = .slice A (R i).length c ∧ Parts W A (R i) ∧ (R i).length ≤ 9223372036854775807 := ⟨fun i => (each i).choose, fun i => (each i).choose_spec⟩
    refine ⟨some a, cap, (List.range len).map R, by simp, ?_, by rw [maxLen_is] at hcm; simp; omega, ?_⟩
    · intro i r hr
      have hi : i < len := by
        have := (List.getElem?_eq_some_iff.1 hr).1
        simpa using this
      have hr' : r = R i := by
        rw [List.getElem?_map, List.getElem?_range hi] at hr
        simpa using hr.symm
      have hs := spot_none (v := V 0) (hx 0 (by omega)).1
      obtain ⟨b, o, s⟩ := a
      simp only at hs
      subst hs
      obtain ⟨A, c, e, hp, _⟩ := hR i hi
      have h1 := (hx i (by omega)).1
      rw [add_none, e] at h1
      subst hr'
      exact ⟨b, o, rfl, A, c, h1, hp⟩
    · intro r hr
      obtain ⟨i, hi, rfl⟩ := List.mem_map.1 hr
      obtain ⟨_, _, _, _, h⟩ := hR i (List.mem_range.1 hi)
      exact h

set_option maxRecDepth 100000 in
theorem matchPoints_lifted (os : Os) (started : os.Started) (H : Type) (enc : TypeId × Value → H) :
    ReturnsInHanded {} Tryd.checked os 3 .any (fun w args => (Rows.matchPointsSpec.pre enc Tryd.prog Tryd.f3 [] false w args ∧ laidMetH Tryd.prog theLaid w) ∧ sizedMet enc Tryd.prog Tryd.f3 (OpenSpec.ofChange Rows.matchPointsSpec) false w args)
      (Rows.matchPointsSpec.post enc Tryd.prog Tryd.f3 false true false false) := by
  refine returnsInHanded_of_change_and (C := Tryd.checked) (X := fun w _ => laidMetH Tryd.prog theLaid w) (fun _ _ _ hh h => h.of_heap hh) ownGodebug started (by kernel_rfl) Tryd.func3
    (ChangeSpec.witness_at (enc := enc) (C := Tryd.checked) (os := os) (X := fun w _ => laidMetH Tryd.prog theLaid w) false (laidWorld os) #[.slice none 0 0] 8 rfl (by kernel_rfl) (by kernel_rfl) (by kernel_rfl) (by kernel_rfl) (by kernel_rfl) (laidWorld_met os _)) ?_
  intro W base args ds gs before hval0 hW _ _ hL _
  have hval : ∀ (j : Nat) t v, Tryd.f3.params[j]? = some t → args[j]? = some v → Value.okWide Tryd.prog W .any base t v := hval0
  have hW' := hW
  obtain ⟨p, q, hA0, hV, rfl, hfz, hnd⟩ := hW
  have hA : DataW.TrodAll enc Tryd.prog W 0 (fun _ => true) true Tryd.f3.params.toList args.toList ds p := hA0
  rw [Tryd.params3] at hA hval
  obtain ⟨v0, d0, rfl, rfl, h0⟩ := trodAll_one hA
  obtain ⟨rfl, rfl⟩ := trodVars_none hV
  obtain ⟨A1, c1, l1, rfl, s1, s2, s3⟩ := open_ress (hval 0 22 v0 rfl rfl) h0
  have hlt : ∀ x ∈ p, x.block < W.heap.size := fun x hx => hW'.lt x (by simpa using hx)
  refine (MatchPoints_any A1 c1 l1 W s1 (gets_of_laid hL) s2 s3).mono fun e W' ⟨he, hb⟩ => ?_
  subst he
  have e1 : Rows.matchPointsSpec.fn H ([d0] ++ []) = { results := [.lit (.bool true)], args := [d0] } := by simp [Rows.matchPointsSpec]
  refine ⟨_, rfl, _, _, _, [], p, [], hW', ?_, ?_, ?_, hb.frame _, fun h => by cases h⟩
  · rw [e1]; exact trodAll_mk1 (shut_bool Tryd.underlying4 true)
  · rw [e1]
    exact trodAll_mk1 (Below.trod laidOutAll (by kernel_rfl) (of_decide_eq_true (by kernel_rfl)) h0 hb hlt)
  · rw [e1]; rfl

theorem matchPoints_holds : Rows.MatchPointsSaid :=
  OpenClaim.holds_of_wide 3 Tryd.f3 rfl rfl rfl rfl rfl rfl rfl ⟨rfl, rfl, rfl, rfl, rfl⟩ rfl rfl rfl rfl rfl (by kernel_rfl) Tryd.func3 (by kernel_rfl)
    (of_decide_eq_true (by kernel_rfl)) (by unfold Func.isWrapper; first | (rw [if_pos (by decide +kernel)]; kernel_rfl) | (rw [if_neg (by decide +kernel)]; exact ⟨rfl, rfl⟩))
    (fun os started H enc _ => matchPoints_lifted os started H enc)

theorem matchPoints_card : Rows.MatchPointsCardSaid :=
  Claim7.holds_tied_plain_at .later [] [.data] true (true, "4730c0772b95275ea09ea363ff2a14b87d68003f77a754f587614aece61dc744") false
    matchPoints_holds (fun _ h => by cases h) (by kernel_rfl) (fun _ h => by cases h) matchPoints_row_tie rfl ⟨rfl, rfl⟩ (by kernel_rfl) rfl
    (fun f fn hf hfn => by
      obtain rfl : f = 3 := Option.some.inj ((show Tryd.prog.funcNamed "finesse/finesselaw20.MatchPoints" = some 3 by kernel_rfl).symm.trans hf) |>.symm
      obtain rfl : fn = Tryd.f3 := (Option.some.inj (Tryd.func3.symm.trans hfn)).symm
      exact ⟨by kernel_rfl, fun j t ht => by
        rw [Tryd.params3] at ht
        have hm : t ∈ [22] := by
          have := List.mem_of_getElem? (by simpa using ht)
          simpa using this
        have hall : [22].all (fun t => !Tryd.prog.wantsStandIn t) = true := by kernel_rfl
        exact (by simpa using List.all_eq_true.1 hall t hm : Tryd.prog.wantsStandIn t = false)⟩)
    (by kernel_rfl)
#print axioms matchPoints_card
end Go.Proofs.YtfajnggdlhbgnaaDoor
