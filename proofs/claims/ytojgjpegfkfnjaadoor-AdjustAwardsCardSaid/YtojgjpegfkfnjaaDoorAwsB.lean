/- For all bytes, 'finesselaw22.AdjustAwards' returns true: an award of p and of 100 - p per cent gives the top together, one of 50 per cent half of it, any award of both sides is not more than twice the top. Condition: the table 'finesse/adjust.shares' is as the program's text lays it, which the card ties. -/
import Derived.Test.YtojgjpegfkfnjaaDoorAwsA
import Derived.Test.YtojgjpegfkfnjaaDoorRowKitS
import Derived.Test.YtojgjpegfkfnjaaDoorCards
namespace Go.Proofs.YtojgjpegfkfnjaaDoor
open Go.ChangeShapes Go.WideShapes Go.ChangeAt Go.RowKit
set_option linter.unusedVariables false
set_option linter.unusedSimpArgs false

set_option maxRecDepth 100000 in
theorem adjustAwards_lifted (os : Os) (started : os.Started) (H : Type) (enc : TypeId × Value → H) :
    ReturnsInHanded {} Tryd.checked os 8 .any (fun w args => (Rows.adjustAwardsSpec.pre enc Tryd.prog Tryd.f8 [] false w args ∧ laidMetH Tryd.prog theLaid w) ∧ sizedMet enc Tryd.prog Tryd.f8 (OpenSpec.ofChange Rows.adjustAwardsSpec) false w args)
      (Rows.adjustAwardsSpec.post enc Tryd.prog Tryd.f8 false true false false) := by
  refine returnsInHanded_of_change_and (C := Tryd.checked) (X := fun w _ => laidMetH Tryd.prog theLaid w) (fun _ _ _ hh h => h.of_heap hh) ownGodebug started (by kernel_rfl) Tryd.func8
    (ChangeSpec.witness_shaped (enc := enc) (C := Tryd.checked) (os := os) (X := fun w _ => laidMetH Tryd.prog theLaid w) false (laidWorld os) #[.int .u8 0, .int .u8 0] 8 rfl (World.shaped_of_RefB (by kernel_rfl) (by kernel_rfl)) (by kernel_rfl) (by kernel_rfl) (by kernel_rfl) (laidWorld_met os _)) ?_
  intro W base args ds gs before hval0 hW _ _ hL _
  have hval : ∀ (j : Nat) t v, Tryd.f8.params[j]? = some t → args[j]? = some v → Value.okWide Tryd.prog W .any base t v := hval0
  have hW' := hW
  obtain ⟨p, q, hA0, hV, rfl, hfz, hnd⟩ := hW
  have hA : DataW.TrodAll enc Tryd.prog W 0 (fun _ => true) true Tryd.f8.params.toList args.toList ds p := hA0
  rw [Tryd.params8] at hA hval
  obtain ⟨v0, v1, d0, d1, p0, p1, rfl, rfl, rfl, h0, h1⟩ := trodAll_two hA
  obtain ⟨rfl, rfl⟩ := trodVars_none hV
  obtain ⟨n0, rfl, rfl, rfl, w0⟩ := open_int Tryd.underlying5 (hval 0 5 v0 rfl rfl) h0
  obtain ⟨n1, rfl, rfl, rfl, w1⟩ := open_int Tryd.underlying5 (hval 1 5 v1 rfl rfl) h1
  refine (AdjustAwards_any n0 n1 W (bounds8 w0) (bounds8 w1) (shares_of_laid hL)).mono fun e W' ⟨he, hb⟩ => ?_
  subst he
  have e1 : Rows.adjustAwardsSpec.fn H ([.lit (.int .u8 n0), .lit (.int .u8 n1)] ++ []) = { results := [.lit (.bool true)], args := [.lit (.int .u8 n0), .lit (.int .u8 n1)] } := by simp [Rows.adjustAwardsSpec]
  refine ⟨_, rfl, _, _, _, [], [] ++ [], [], hW', ?_, ?_, ?_, hb.frame _, fun h => by cases h⟩
  · rw [e1]; exact trodAll_mk1 (shut_bool Tryd.underlying4 true)
  · rw [e1]
    exact trodAll_mk2 (shut_int Tryd.underlying5 w0) (shut_int Tryd.underlying5 w1)
  · rw [e1]; rfl

theorem adjustAwards_holds : Rows.AdjustAwardsSaid :=
  OpenClaim.holds_of_wide 8 Tryd.f8 rfl rfl rfl rfl rfl rfl rfl ⟨rfl, rfl, rfl, rfl, rfl⟩ rfl rfl rfl rfl rfl (by kernel_rfl) Tryd.func8 (by kernel_rfl)
    (of_decide_eq_true (by kernel_rfl)) (by unfold Func.isWrapper; first | (rw [if_pos (by decide +kernel)]; kernel_rfl) | (rw [if_neg (by decide +kernel)]; exact ⟨rfl, rfl⟩))
    (fun os started H enc _ => adjustAwards_lifted os started H enc)

theorem adjustAwards_card : Rows.AdjustAwardsCardSaid :=
  Claim7.holds_tied_plain_at .later [] [.widerDeep] true (true, "d83a21ec5ece7273d2e076a1a758866a05b3398fa1bfac0c6a640f9a76dce9ee") false
    adjustAwards_holds (fun _ h => by cases h) (by kernel_rfl) (fun _ h => by cases h) adjustAwards_row_tie rfl ⟨rfl, rfl⟩ (by kernel_rfl) rfl
    (fun f fn hf hfn => by
      obtain rfl : f = 8 := Option.some.inj ((show Tryd.prog.funcNamed "finesse/finesselaw22.AdjustAwards" = some 8 by kernel_rfl).symm.trans hf) |>.symm
      obtain rfl : fn = Tryd.f8 := (Option.some.inj (Tryd.func8.symm.trans hfn)).symm
      exact ⟨by kernel_rfl, fun j t ht => by
        rw [Tryd.params8] at ht
        have hm : t ∈ [5] := by
          have := List.mem_of_getElem? (by simpa using ht)
          simpa using this
        have hall : [5].all (fun t => !Tryd.prog.wantsStandIn t) = true := by kernel_rfl
        exact (by simpa using List.all_eq_true.1 hall t hm : Tryd.prog.wantsStandIn t = false)⟩)
    (by kernel_rfl)
#print axioms adjustAwards_card
end Go.Proofs.YtojgjpegfkfnjaaDoor
