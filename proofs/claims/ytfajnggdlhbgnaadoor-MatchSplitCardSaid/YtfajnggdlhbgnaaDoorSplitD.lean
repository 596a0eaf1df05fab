/- For every two small results, every choice of a part and every weight, 'finesselaw20.MatchSplit' returns true and its arguments read as they did: a part may be split into two, and the order of parts does not matter. Condition: the table 'finesse/match.gets' is as the program's text lays it, which the card ties. -/
import Derived.Test.YtfajnggdlhbgnaaDoorSplitC
namespace Go.Proofs.YtfajnggdlhbgnaaDoor
open Go

theorem matchSplit_card : Rows.MatchSplitCardSaid :=
  Claim7.holds_tied_plain_at .later [] [.data] true (true, "4730c0772b95275ea09ea363ff2a14b87d68003f77a754f587614aece61dc744") false
    matchSplit_holds (fun _ h => by cases h) (by kernel_rfl) (fun _ h => by cases h) matchSplit_row_tie rfl ⟨rfl, rfl⟩ (by kernel_rfl) rfl
    (fun f fn hf hfn => by
      obtain rfl : f = 4 := Option.some.inj ((show Tryd.prog.funcNamed "finesse/finesselaw20.MatchSplit" = some 4 by kernel_rfl).symm.trans hf) |>.symm
      obtain rfl : fn = Tryd.f4 := (Option.some.inj (Tryd.func4.symm.trans hfn)).symm
      exact ⟨by kernel_rfl, fun j t ht => by
        rw [Tryd.params4] at ht
        have hm : t ∈ [41, 5] := by
          have := List.mem_of_getElem? (by simpa using ht)
          simpa using this
        have hall : [41, 5].all (fun t => !Tryd.prog.wantsStandIn t) = true := by kernel_rfl
        exact (by simpa using List.all_eq_true.1 hall t hm : Tryd.prog.wantsStandIn t = false)⟩)
    (by kernel_rfl)
#print axioms matchSplit_card
end Go.Proofs.YtfajnggdlhbgnaaDoor
