/- For all results and integers, 'finesselaw20.MatchTells' returns true and its arguments read as they did: One, Right, Turn, Compare, Sum and Top agree with their definitions. Condition: the table 'finesse/match.gets' is as the program's text lays it, which the card ties. -/
import Derived.Test.YtfajnggdlhbgnaaDoorTellsA
import Derived.Test.YtfajnggdlhbgnaaDoorRowKit2
import Derived.Test.YtfajnggdlhbgnaaDoorCards
namespace Go.Proofs.YtfajnggdlhbgnaaDoor
open Go.ChangeShapes Go.WideShapes Go.ChangeAt Go.RowKit
set_option linter.unusedVariables false
set_option linter.unusedSimpArgs false

set_option maxRecDepth 100000 in
theorem matchTells_lifted (os : Os) (started : os.Started) (H : Type) (enc : TypeId × Value → H) :
    ReturnsInHanded {} Tryd.checked os 5 .any (fun w args => (Rows.matchTellsSpec.pre enc Tryd.prog Tryd.f5 [] false w args ∧ laidMetH Tryd.prog theLaid w) ∧ sizedMet enc Tryd.prog Tryd.f5 (OpenSpec.ofChange Rows.matchTellsSpec) false w args)
      (Rows.matchTellsSpec.post enc Tryd.prog Tryd.f5 false true false false) := by
  refine returnsInHanded_of_change_and (C := Tryd.checked) (X := fun w _ => laidMetH Tryd.prog theLaid w) (fun _ _ _ hh h => h.of_heap hh) ownGodebug started (by kernel_rfl) Tryd.func5
    (ChangeSpec.witness_at (enc := enc) (C := Tryd.checked) (os := os) (X := fun w _ => laidMetH Tryd.prog theLaid w) false (laidWorld os) #[.slice none 0 0, .slice none 0 0, .int .i64 0] 8 rfl (by kernel_rfl) (by kernel_rfl) (by kernel_rfl) (by kernel_rfl) (by kernel_rfl) (laidWorld_met os _)) ?_
  intro W base args ds gs before hval0 hW _ _ hL _
  have hval : ∀ (j : Nat) t v, Tryd.f5.params[j]? = some t → args[j]? = some v → Value.okWide Tryd.prog W .any base t v := hval0
  have hW' := hW
  obtain ⟨p, q, hA0, hV, rfl, hfz, hnd⟩ := hW
  have hA : DataW.TrodAll enc Tryd.prog W 0 (fun _ => true) true Tryd.f5.params.toList args.toList ds p := hA0
  rw [Tryd.params5] at hA hval
  obtain ⟨v0, v1, v2, d0, d1, d2, p0, p1, p2, rfl, rfl, rfl, h0, h1, h2⟩ := trodAll_three hA
  obtain ⟨rfl, rfl⟩ := trodVars_none hV
  obtain ⟨A0, c0, l0, rfl, s0, b0⟩ := open_result (hval 0 24 v0 rfl rfl) h0
  obtain ⟨A1, c1, l1, rfl, s1, b1⟩ := open_result (hval 1 24 v1 rfl rfl) h1
  obtain ⟨n2, rfl, rfl, rfl, w2⟩ := open_int Tryd.underlying3 (hval 2 3 v2 rfl rfl) h2
  have hlt : ∀ x ∈ p0 ++ p1, x.block < W.heap.size := fun x hx => hW'.lt x (by simpa using hx)
  refine (MatchTells_any A0 c0 l0 A1 c1 l1 n2 W s0 b0 s1 b1 (bounds64 w2) (gets_of_laid hL)).mono fun e W' ⟨he, hb⟩ => ?_
  subst he
  have e1 : Rows.matchTellsSpec.fn H ([d0, d1, .lit (.int .i64 n2)] ++ []) = { results := [.lit (.bool true)], args := [d0, d1, .lit (.int .i64 n2)] } := by simp [Rows.matchTellsSpec]
  refine ⟨_, rfl, _, _, _, [], p0 ++ (p1 ++ []), [], hW', ?_, ?_, ?_, hb.frame _, fun h => by cases h⟩
  · rw [e1]; exact trodAll_mk1 (shut_bool Tryd.underlying4 true)
  · rw [e1]
    exact trodAll_mk3 (Below.trod laidOutAll (by kernel_rfl) (of_decide_eq_true (by kernel_rfl)) h0 hb (fun x hx => hlt x (by simp [hx]))) (Below.trod laidOutAll (by kernel_rfl) (of_decide_eq_true (by kernel_rfl)) h1 hb (fun x hx => hlt x (by simp [hx]))) (shut_int Tryd.underlying3 w2)
  · rw [e1]; rfl

theorem matchTells_holds : Rows.MatchTellsSaid :=
  OpenClaim.holds_of_wide 5 Tryd.f5 rfl rfl rfl rfl rfl rfl rfl ⟨rfl, rfl, rfl, rfl, rfl⟩ rfl rfl rfl rfl rfl (by kernel_rfl) Tryd.func5 (by kernel_rfl)
    (of_decide_eq_true (by kernel_rfl)) (by unfold Func.isWrapper; first | (rw [if_pos (by decide +kernel)]; kernel_rfl) | (rw [if_neg (by decide +kernel)]; exact ⟨rfl, rfl⟩))
    (fun os started H enc _ => matchTells_lifted os started H enc)

theorem matchTells_card : Rows.MatchTellsCardSaid :=
  Claim7.holds_tied_plain_at .later [] [.data] true (true, "4730c0772b95275ea09ea363ff2a14b87d68003f77a754f587614aece61dc744") false
    matchTells_holds (fun _ h => by cases h) (by kernel_rfl) (fun _ h => by cases h) matchTells_row_tie rfl ⟨rfl, rfl⟩ (by kernel_rfl) rfl
    (fun f fn hf hfn => by
      obtain rfl : f = 5 := Option.some.inj ((show Tryd.prog.funcNamed "finesse/finesselaw20.MatchTells" = some 5 by kernel_rfl).symm.trans hf) |>.symm
      obtain rfl : fn = Tryd.f5 := (Option.some.inj (Tryd.func5.symm.trans hfn)).symm
      exact ⟨by kernel_rfl, fun j t ht => by
        rw [Tryd.params5] at ht
        have hm : t ∈ [24, 3] := by
          have := List.mem_of_getElem? (by simpa using ht)
          simpa using this
        have hall : [24, 3].all (fun t => !Tryd.prog.wantsStandIn t) = true := by kernel_rfl
        exact (by simpa using List.all_eq_true.1 hall t hm : Tryd.prog.wantsStandIn t = false)⟩)
    (by kernel_rfl)
#print axioms matchTells_card
end Go.Proofs.YtfajnggdlhbgnaaDoor
