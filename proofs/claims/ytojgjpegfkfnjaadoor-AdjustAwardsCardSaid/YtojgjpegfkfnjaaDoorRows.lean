/-
  NARROWER THAN 'FOR EVERY INPUT', by the rows' own cells (each row's printed sentence says how): AdjustTells: laid · AdjustWeighted: laid · AdjustOnce: laid · AdjustWrong: laid · AdjustMeans: laid · AdjustAwards: laid · AdjustSides: laid.
  DERIVED. THE GIVEN ROWS OF THIS SEAT. 7 by the template 'for every input the law returns true; each argument reads behind the call as it read before'; 0 by the template 'total and deterministic' (their statements: YtojgjpegfkfnjaaDoorTotals.lean).
  GIVEN WITH THE SEED: the statements are not yours to turn. If you find one false, say at which input.
  Laid BY PROGRAM, IN A SANDBOX (cutbox-rows.mjs): the forced cells as the released guide's own fill.sh prints them over the translation 24944bb0e19e56b5… (all of the seat's roots in one cut). By AI agents, Wed Nov 11 2026. No macro, syntax, notation, axiom, sorry.
-/
import Derived.Test.YtojgjpegfkfnjaaDoorChecked
import GoSem.Claim
import GoSem.ClaimJoined
import GoSem.ClaimMapViews
import Derived.JoinedTies
import Derived.KernelRfl
namespace Go.Proofs.YtojgjpegfkfnjaaDoor
/- THE CELL 'sum', in the pinned program and in every row, IS THE sha256 OF THE DUMP (.gsa) THAT YtojgjpegfkfnjaaDoorProg.lean LOADS. Nothing in Lean hashes anything: it is a label: what it is worth is what the hold of that sum in a sandbox is worth. -/
noncomputable def Tryd.pinned : Pinned := { name := "ytojgjpegfkfnjaadoor", sum := "24944bb0e19e56b524e258c8083063c676d57d5eaa812cd91466e3fceac479bb", checked := Tryd.checked }
namespace Rows
def none {H : Type} : Left H := { results := [], args := [] }

/- WHAT THE LISTED PACKAGE-LEVEL VARIABLES READ AS WHEN THE CALL BEGINS. Each datum BY PROGRAM (the guide's laid-datum.mjs) off the statement by which the dump's own 'gosem.cut.vars' lays the variable. In a bare row this is a premise. The card (YtojgjpegfkfnjaaDoorCards.lean) ties it to the program's text. -/
def laid_finesse_adjust_shares {H : Type} : DataW H := .slice [.lit (.int .i64 0), .lit (.int .i64 30), .lit (.int .i64 40), .lit (.int .i64 50), .lit (.int .i64 60), .lit (.int .i64 70), .lit (.int .i64 100)] []
def laid_finesse_match_gets {H : Type} : DataW H := .agg [.lit (.int .i64 0), .lit (.int .i64 1), .lit (.int .i64 2)]

/-- 'finesselaw22.AdjustTells': WHATEVER THE INPUT: true; the input reads as it did. -/
def adjustTellsSpec : ChangeSpec := { name := "adjustTells", fn := fun _ => fun
  | [d1, d2, d3] => { results := [.lit (.bool true)], args := [d1, d2, d3] }
  | _ => none }
def adjustTellsRow : OpenClaim := { program := "ytojgjpegfkfnjaadoor", sum := "24944bb0e19e56b524e258c8083063c676d57d5eaa812cd91466e3fceac479bb", func := "finesse/finesselaw22.AdjustTells", spec := "adjustTells", unfollowed := true, recurses := true, named := ["finesse/adjust.shares"], apart := false, laid := [("finesse/adjust.shares", laid_finesse_adjust_shares)] }
def AdjustTellsSaid : Prop := adjustTellsRow.holds Tryd.pinned (OpenSpec.ofChange adjustTellsSpec)

/-- ITS FALSE NEIGHBOUR: 'it returns false'. Refute it at one input. -/
def adjustTellsWrong : ChangeSpec := { name := "adjustTells", fn := fun _ => fun
  | [d1, d2, d3] => { results := [.lit (.bool false)], args := [d1, d2, d3] }
  | _ => none }
def AdjustTellsWrongFalsely : Prop := adjustTellsRow.holds Tryd.pinned (OpenSpec.ofChange adjustTellsWrong)

/-- 'finesselaw22.AdjustWeighted': WHATEVER THE INPUT: true; the input reads as it did. -/
def adjustWeightedSpec : ChangeSpec := { name := "adjustWeighted", fn := fun _ => fun
  | [d1, d2] => { results := [.lit (.bool true)], args := [d1, d2] }
  | _ => none }
def adjustWeightedRow : OpenClaim := { program := "ytojgjpegfkfnjaadoor", sum := "24944bb0e19e56b524e258c8083063c676d57d5eaa812cd91466e3fceac479bb", func := "finesse/finesselaw22.AdjustWeighted", spec := "adjustWeighted", unfollowed := true, recurses := true, named := ["finesse/adjust.shares"], apart := false, laid := [("finesse/adjust.shares", laid_finesse_adjust_shares)] }
def AdjustWeightedSaid : Prop := adjustWeightedRow.holds Tryd.pinned (OpenSpec.ofChange adjustWeightedSpec)

/-- ITS FALSE NEIGHBOUR: 'it returns false'. Refute it at one input. -/
def adjustWeightedWrong : ChangeSpec := { name := "adjustWeighted", fn := fun _ => fun
  | [d1, d2] => { results := [.lit (.bool false)], args := [d1, d2] }
  | _ => none }
def AdjustWeightedWrongFalsely : Prop := adjustWeightedRow.holds Tryd.pinned (OpenSpec.ofChange adjustWeightedWrong)

/-- 'finesselaw22.AdjustOnce': WHATEVER THE INPUT: true; the input reads as it did. -/
def adjustOnceSpec : ChangeSpec := { name := "adjustOnce", fn := fun _ => fun
  | [d1, d2, d3, d4] => { results := [.lit (.bool true)], args := [d1, d2, d3, d4] }
  | _ => none }
def adjustOnceRow : OpenClaim := { program := "ytojgjpegfkfnjaadoor", sum := "24944bb0e19e56b524e258c8083063c676d57d5eaa812cd91466e3fceac479bb", func := "finesse/finesselaw22.AdjustOnce", spec := "adjustOnce", unfollowed := true, recurses := true, named := ["finesse/adjust.shares"], apart := false, laid := [("finesse/adjust.shares", laid_finesse_adjust_shares)] }
def AdjustOnceSaid : Prop := adjustOnceRow.holds Tryd.pinned (OpenSpec.ofChange adjustOnceSpec)

/-- ITS FALSE NEIGHBOUR: 'it returns false'. Refute it at one input. -/
def adjustOnceWrong : ChangeSpec := { name := "adjustOnce", fn := fun _ => fun
  | [d1, d2, d3, d4] => { results := [.lit (.bool false)], args := [d1, d2, d3, d4] }
  | _ => none }
def AdjustOnceWrongFalsely : Prop := adjustOnceRow.holds Tryd.pinned (OpenSpec.ofChange adjustOnceWrong)

/-- 'finesselaw22.AdjustWrong': WHATEVER THE INPUT: true; the input reads as it did. -/
def adjustWrongSpec : ChangeSpec := { name := "adjustWrong", fn := fun _ => fun
  | [d1, d2] => { results := [.lit (.bool true)], args := [d1, d2] }
  | _ => none }
def adjustWrongRow : OpenClaim := { program := "ytojgjpegfkfnjaadoor", sum := "24944bb0e19e56b524e258c8083063c676d57d5eaa812cd91466e3fceac479bb", func := "finesse/finesselaw22.AdjustWrong", spec := "adjustWrong", unfollowed := true, recurses := true, named := ["finesse/adjust.shares"], apart := false, laid := [("finesse/adjust.shares", laid_finesse_adjust_shares)] }
def AdjustWrongSaid : Prop := adjustWrongRow.holds Tryd.pinned (OpenSpec.ofChange adjustWrongSpec)

/-- ITS FALSE NEIGHBOUR: 'it returns false'. Refute it at one input. -/
def adjustWrongWrong : ChangeSpec := { name := "adjustWrong", fn := fun _ => fun
  | [d1, d2] => { results := [.lit (.bool false)], args := [d1, d2] }
  | _ => none }
def AdjustWrongWrongFalsely : Prop := adjustWrongRow.holds Tryd.pinned (OpenSpec.ofChange adjustWrongWrong)

/-- 'finesselaw22.AdjustMeans': WHATEVER THE INPUT: true; the input reads as it did. -/
def adjustMeansSpec : ChangeSpec := { name := "adjustMeans", fn := fun _ => fun
  | [d1, d2] => { results := [.lit (.bool true)], args := [d1, d2] }
  | _ => none }
def adjustMeansRow : OpenClaim := { program := "ytojgjpegfkfnjaadoor", sum := "24944bb0e19e56b524e258c8083063c676d57d5eaa812cd91466e3fceac479bb", func := "finesse/finesselaw22.AdjustMeans", spec := "adjustMeans", unfollowed := true, recurses := true, named := ["finesse/adjust.shares"], apart := false, laid := [("finesse/adjust.shares", laid_finesse_adjust_shares)] }
def AdjustMeansSaid : Prop := adjustMeansRow.holds Tryd.pinned (OpenSpec.ofChange adjustMeansSpec)

/-- ITS FALSE NEIGHBOUR: 'it returns false'. Refute it at one input. -/
def adjustMeansWrong : ChangeSpec := { name := "adjustMeans", fn := fun _ => fun
  | [d1, d2] => { results := [.lit (.bool false)], args := [d1, d2] }
  | _ => none }
def AdjustMeansWrongFalsely : Prop := adjustMeansRow.holds Tryd.pinned (OpenSpec.ofChange adjustMeansWrong)

/-- 'finesselaw22.AdjustAwards': WHATEVER THE INPUT: true; the input reads as it did. -/
def adjustAwardsSpec : ChangeSpec := { name := "adjustAwards", fn := fun _ => fun
  | [d1, d2] => { results := [.lit (.bool true)], args := [d1, d2] }
  | _ => none }
def adjustAwardsRow : OpenClaim := { program := "ytojgjpegfkfnjaadoor", sum := "24944bb0e19e56b524e258c8083063c676d57d5eaa812cd91466e3fceac479bb", func := "finesse/finesselaw22.AdjustAwards", spec := "adjustAwards", unfollowed := true, recurses := true, named := ["finesse/adjust.shares"], apart := false, laid := [("finesse/adjust.shares", laid_finesse_adjust_shares)] }
def AdjustAwardsSaid : Prop := adjustAwardsRow.holds Tryd.pinned (OpenSpec.ofChange adjustAwardsSpec)

/-- ITS FALSE NEIGHBOUR: 'it returns false'. Refute it at one input. -/
def adjustAwardsWrong : ChangeSpec := { name := "adjustAwards", fn := fun _ => fun
  | [d1, d2] => { results := [.lit (.bool false)], args := [d1, d2] }
  | _ => none }
def AdjustAwardsWrongFalsely : Prop := adjustAwardsRow.holds Tryd.pinned (OpenSpec.ofChange adjustAwardsWrong)

/-- 'finesselaw22.AdjustSides': WHATEVER THE INPUT: true; the input reads as it did. -/
def adjustSidesSpec : ChangeSpec := { name := "adjustSides", fn := fun _ => fun
  | [d1, d2, d3] => { results := [.lit (.bool true)], args := [d1, d2, d3] }
  | _ => none }
def adjustSidesRow : OpenClaim := { program := "ytojgjpegfkfnjaadoor", sum := "24944bb0e19e56b524e258c8083063c676d57d5eaa812cd91466e3fceac479bb", func := "finesse/finesselaw22.AdjustSides", spec := "adjustSides", unfollowed := true, recurses := true, named := ["finesse/adjust.shares", "finesse/match.gets"], apart := false, laid := [("finesse/match.gets", laid_finesse_match_gets), ("finesse/adjust.shares", laid_finesse_adjust_shares)] }
def AdjustSidesSaid : Prop := adjustSidesRow.holds Tryd.pinned (OpenSpec.ofChange adjustSidesSpec)

/-- ITS FALSE NEIGHBOUR: 'it returns false'. Refute it at one input. -/
def adjustSidesWrong : ChangeSpec := { name := "adjustSides", fn := fun _ => fun
  | [d1, d2, d3] => { results := [.lit (.bool false)], args := [d1, d2, d3] }
  | _ => none }
def AdjustSidesWrongFalsely : Prop := adjustSidesRow.holds Tryd.pinned (OpenSpec.ofChange adjustSidesWrong)

/- THE SECOND FORM. 'bulk': how many values and letters a reading holds, each counted each time it is reached (what is shared counts as often as it is met; a slice's spare places count too). A statement '..UptoSaid' is the law's where the arguments, and the package variables that the reading takes, are together of bulk at most 1048576: NARROWER than '..Said'. Prove '..Said' where nothing that the law and all that it calls make is longer than what came in: it says more and counts as full. Else prove '..UptoSaid'. A law counts once. -/
mutual
def uptoBulk {H : Type} : DataW H → Nat
  | .lit (.string bytes) => bytes.length + 1
  | .lit _ => 1
  | .nil => 1
  | .ptr d => uptoBulk d + 1
  | .slice elems spare => uptoBulkAll elems + uptoBulkAll spare + 1
  | .agg parts => uptoBulkAll parts + 1
  | .iface _ d => uptoBulk d + 1
  | .map entries => uptoBulkEntries entries + 1
  | .held _ => 1
def uptoBulkAll {H : Type} : List (DataW H) → Nat
  | [] => 0
  | d :: r => uptoBulk d + uptoBulkAll r
def uptoBulkEntries {H : Type} : List (Lit × DataW H) → Nat
  | [] => 0
  | x :: r => uptoBulkEntry x + uptoBulkEntries r
def uptoBulkEntry {H : Type} : Lit × DataW H → Nat
  | (.string bytes, d) => bytes.length + uptoBulk d + 1
  | (_, d) => uptoBulk d + 1
 end
def uptoSmall : (H : Type) → List (DataW H) → Bool := fun _ ds => decide (uptoBulkAll ds ≤ 1048576)
def OpenSpec.upto (s : _root_.Go.ChangeSpec) : _root_.Go.OpenSpec := { _root_.Go.OpenSpec.ofChange s with cond := some uptoSmall }

/-- 'finesselaw22.AdjustTells', WHERE WHAT IT READS IS OF BULK AT MOST 1048576: true; the input reads as it did. -/
def adjustTellsUptoRow : OpenClaim := { program := "ytojgjpegfkfnjaadoor", sum := "24944bb0e19e56b524e258c8083063c676d57d5eaa812cd91466e3fceac479bb", func := "finesse/finesselaw22.AdjustTells", spec := "adjustTells", unfollowed := true, recurses := true, named := ["finesse/adjust.shares"], apart := false, laid := [("finesse/adjust.shares", laid_finesse_adjust_shares)], narrowed := true }
def AdjustTellsUptoSaid : Prop := adjustTellsUptoRow.holds Tryd.pinned (OpenSpec.upto adjustTellsSpec)

/-- 'finesselaw22.AdjustWeighted', WHERE WHAT IT READS IS OF BULK AT MOST 1048576: true; the input reads as it did. -/
def adjustWeightedUptoRow : OpenClaim := { program := "ytojgjpegfkfnjaadoor", sum := "24944bb0e19e56b524e258c8083063c676d57d5eaa812cd91466e3fceac479bb", func := "finesse/finesselaw22.AdjustWeighted", spec := "adjustWeighted", unfollowed := true, recurses := true, named := ["finesse/adjust.shares"], apart := false, laid := [("finesse/adjust.shares", laid_finesse_adjust_shares)], narrowed := true }
def AdjustWeightedUptoSaid : Prop := adjustWeightedUptoRow.holds Tryd.pinned (OpenSpec.upto adjustWeightedSpec)

/-- 'finesselaw22.AdjustOnce', WHERE WHAT IT READS IS OF BULK AT MOST 1048576: true; the input reads as it did. -/
def adjustOnceUptoRow : OpenClaim := { program := "ytojgjpegfkfnjaadoor", sum := "24944bb0e19e56b524e258c8083063c676d57d5eaa812cd91466e3fceac479bb", func := "finesse/finesselaw22.AdjustOnce", spec := "adjustOnce", unfollowed := true, recurses := true, named := ["finesse/adjust.shares"], apart := false, laid := [("finesse/adjust.shares", laid_finesse_adjust_shares)], narrowed := true }
def AdjustOnceUptoSaid : Prop := adjustOnceUptoRow.holds Tryd.pinned (OpenSpec.upto adjustOnceSpec)

/-- 'finesselaw22.AdjustWrong', WHERE WHAT IT READS IS OF BULK AT MOST 1048576: true; the input reads as it did. -/
def adjustWrongUptoRow : OpenClaim := { program := "ytojgjpegfkfnjaadoor", sum := "24944bb0e19e56b524e258c8083063c676d57d5eaa812cd91466e3fceac479bb", func := "finesse/finesselaw22.AdjustWrong", spec := "adjustWrong", unfollowed := true, recurses := true, named := ["finesse/adjust.shares"], apart := false, laid := [("finesse/adjust.shares", laid_finesse_adjust_shares)], narrowed := true }
def AdjustWrongUptoSaid : Prop := adjustWrongUptoRow.holds Tryd.pinned (OpenSpec.upto adjustWrongSpec)

/-- 'finesselaw22.AdjustMeans', WHERE WHAT IT READS IS OF BULK AT MOST 1048576: true; the input reads as it did. -/
def adjustMeansUptoRow : OpenClaim := { program := "ytojgjpegfkfnjaadoor", sum := "24944bb0e19e56b524e258c8083063c676d57d5eaa812cd91466e3fceac479bb", func := "finesse/finesselaw22.AdjustMeans", spec := "adjustMeans", unfollowed := true, recurses := true, named := ["finesse/adjust.shares"], apart := false, laid := [("finesse/adjust.shares", laid_finesse_adjust_shares)], narrowed := true }
def AdjustMeansUptoSaid : Prop := adjustMeansUptoRow.holds Tryd.pinned (OpenSpec.upto adjustMeansSpec)

/-- 'finesselaw22.AdjustAwards', WHERE WHAT IT READS IS OF BULK AT MOST 1048576: true; the input reads as it did. -/
def adjustAwardsUptoRow : OpenClaim := { program := "ytojgjpegfkfnjaadoor", sum := "24944bb0e19e56b524e258c8083063c676d57d5eaa812cd91466e3fceac479bb", func := "finesse/finesselaw22.AdjustAwards", spec := "adjustAwards", unfollowed := true, recurses := true, named := ["finesse/adjust.shares"], apart := false, laid := [("finesse/adjust.shares", laid_finesse_adjust_shares)], narrowed := true }
def AdjustAwardsUptoSaid : Prop := adjustAwardsUptoRow.holds Tryd.pinned (OpenSpec.upto adjustAwardsSpec)

/-- 'finesselaw22.AdjustSides', WHERE WHAT IT READS IS OF BULK AT MOST 1048576: true; the input reads as it did. -/
def adjustSidesUptoRow : OpenClaim := { program := "ytojgjpegfkfnjaadoor", sum := "24944bb0e19e56b524e258c8083063c676d57d5eaa812cd91466e3fceac479bb", func := "finesse/finesselaw22.AdjustSides", spec := "adjustSides", unfollowed := true, recurses := true, named := ["finesse/adjust.shares", "finesse/match.gets"], apart := false, laid := [("finesse/match.gets", laid_finesse_match_gets), ("finesse/adjust.shares", laid_finesse_adjust_shares)], narrowed := true }
def AdjustSidesUptoSaid : Prop := adjustSidesUptoRow.holds Tryd.pinned (OpenSpec.upto adjustSidesSpec)

end Rows
end Go.Proofs.YtojgjpegfkfnjaaDoor
