/-
  No cell of these rows narrows 'for every input' (looked for: loops, veiled, ifaces, maps, wideKeys, modest, calm, conditions, laid).
  DERIVED. THE GIVEN ROWS OF THIS SEAT. 8 by the template 'for every input the law returns true; each argument reads behind the call as it read before'; 0 by the template 'total and deterministic' (their statements: YtfacmkelbjfffaaTotals.lean).
  GIVEN WITH THE SEED: the statements are not yours to turn. If you find one false, say at which input.
  Laid BY PROGRAM, IN A SANDBOX (cutbox-rows.mjs): the forced cells as the released guide's own fill.sh prints them over the translation 4dc2fbf3e02b0ec8… (all of the seat's roots in one cut). By AI agents, Wed Nov 11 2026. No macro, syntax, notation, axiom, sorry.
-/
import Derived.Test.YtfacmkelbjfffaaChecked
import GoSem.Claim
import GoSem.ClaimJoined
import GoSem.ClaimMapViews
import Derived.JoinedTies
import Derived.KernelRfl
namespace Go.Proofs.Ytfacmkelbjfffaa
/- THE CELL 'sum', in the pinned program and in every row, IS THE sha256 OF THE DUMP (.gsa) THAT YtfacmkelbjfffaaProg.lean LOADS. Nothing in Lean hashes anything: it is a label: what it is worth is what the hold of that sum in a sandbox is worth. -/
noncomputable def Try.pinned : Pinned := { name := "ytfacmkelbjfffaa", sum := "4dc2fbf3e02b0ec820171e724d4caa21fcaf6e03de7839b512a2188808e0a056", checked := Try.checked }
namespace Rows
def none {H : Type} : Left H := { results := [], args := [] }

/-- 'finesselaw18.ParTurned': WHATEVER THE INPUT: true; the input reads as it did. -/
def parTurnedSpec : ChangeSpec := { name := "parTurned", fn := fun _ => fun
  | [d1, d2, d3] => { results := [.lit (.bool true)], args := [d1, d2, d3] }
  | _ => none }
def parTurnedRow : OpenClaim := { program := "ytfacmkelbjfffaa", sum := "4dc2fbf3e02b0ec820171e724d4caa21fcaf6e03de7839b512a2188808e0a056", func := "finesse/finesselaw18.ParTurned", spec := "parTurned", unfollowed := true, recurses := true, apart := false }
def ParTurnedSaid : Prop := parTurnedRow.holds Try.pinned (OpenSpec.ofChange parTurnedSpec)

/-- ITS FALSE NEIGHBOUR: 'it returns false'. Refute it at one input. -/
def parTurnedWrong : ChangeSpec := { name := "parTurned", fn := fun _ => fun
  | [d1, d2, d3] => { results := [.lit (.bool false)], args := [d1, d2, d3] }
  | _ => none }
def ParTurnedWrongFalsely : Prop := parTurnedRow.holds Try.pinned (OpenSpec.ofChange parTurnedWrong)

/-- 'finesselaw18.ParMore': WHATEVER THE INPUT: true; the input reads as it did. -/
def parMoreSpec : ChangeSpec := { name := "parMore", fn := fun _ => fun
  | [d1, d2, d3, d4, d5] => { results := [.lit (.bool true)], args := [d1, d2, d3, d4, d5] }
  | _ => none }
def parMoreRow : OpenClaim := { program := "ytfacmkelbjfffaa", sum := "4dc2fbf3e02b0ec820171e724d4caa21fcaf6e03de7839b512a2188808e0a056", func := "finesse/finesselaw18.ParMore", spec := "parMore", unfollowed := true, recurses := true, apart := false }
def ParMoreSaid : Prop := parMoreRow.holds Try.pinned (OpenSpec.ofChange parMoreSpec)

/-- ITS FALSE NEIGHBOUR: 'it returns false'. Refute it at one input. -/
def parMoreWrong : ChangeSpec := { name := "parMore", fn := fun _ => fun
  | [d1, d2, d3, d4, d5] => { results := [.lit (.bool false)], args := [d1, d2, d3, d4, d5] }
  | _ => none }
def ParMoreWrongFalsely : Prop := parMoreRow.holds Try.pinned (OpenSpec.ofChange parMoreWrong)

/-- 'finesselaw18.ParNone': WHATEVER THE INPUT: true; the input reads as it did. -/
def parNoneSpec : ChangeSpec := { name := "parNone", fn := fun _ => fun
  | [d1, d2, d3, d4] => { results := [.lit (.bool true)], args := [d1, d2, d3, d4] }
  | _ => none }
def parNoneRow : OpenClaim := { program := "ytfacmkelbjfffaa", sum := "4dc2fbf3e02b0ec820171e724d4caa21fcaf6e03de7839b512a2188808e0a056", func := "finesse/finesselaw18.ParNone", spec := "parNone", unfollowed := true, recurses := true, apart := false }
def ParNoneSaid : Prop := parNoneRow.holds Try.pinned (OpenSpec.ofChange parNoneSpec)

/-- ITS FALSE NEIGHBOUR: 'it returns false'. Refute it at one input. -/
def parNoneWrong : ChangeSpec := { name := "parNone", fn := fun _ => fun
  | [d1, d2, d3, d4] => { results := [.lit (.bool false)], args := [d1, d2, d3, d4] }
  | _ => none }
def ParNoneWrongFalsely : Prop := parNoneRow.holds Try.pinned (OpenSpec.ofChange parNoneWrong)

/-- 'finesselaw18.ParTells': WHATEVER THE INPUT: true; the input reads as it did. -/
def parTellsSpec : ChangeSpec := { name := "parTells", fn := fun _ => fun
  | [d1, d2, d3, d4, d5] => { results := [.lit (.bool true)], args := [d1, d2, d3, d4, d5] }
  | _ => none }
def parTellsRow : OpenClaim := { program := "ytfacmkelbjfffaa", sum := "4dc2fbf3e02b0ec820171e724d4caa21fcaf6e03de7839b512a2188808e0a056", func := "finesse/finesselaw18.ParTells", spec := "parTells", unfollowed := true, recurses := true, apart := false }
def ParTellsSaid : Prop := parTellsRow.holds Try.pinned (OpenSpec.ofChange parTellsSpec)

/-- ITS FALSE NEIGHBOUR: 'it returns false'. Refute it at one input. -/
def parTellsWrong : ChangeSpec := { name := "parTells", fn := fun _ => fun
  | [d1, d2, d3, d4, d5] => { results := [.lit (.bool false)], args := [d1, d2, d3, d4, d5] }
  | _ => none }
def ParTellsWrongFalsely : Prop := parTellsRow.holds Try.pinned (OpenSpec.ofChange parTellsWrong)

/-- 'finesselaw18.ParSmall': WHATEVER THE INPUT: true; the input reads as it did. -/
def parSmallSpec : ChangeSpec := { name := "parSmall", fn := fun _ => fun
  | [] => { results := [.lit (.bool true)], args := [] }
  | _ => none }
def parSmallRow : OpenClaim := { program := "ytfacmkelbjfffaa", sum := "4dc2fbf3e02b0ec820171e724d4caa21fcaf6e03de7839b512a2188808e0a056", func := "finesse/finesselaw18.ParSmall", spec := "parSmall", unfollowed := true, recurses := true, apart := false }
def ParSmallSaid : Prop := parSmallRow.holds Try.pinned (OpenSpec.ofChange parSmallSpec)

/-- ITS FALSE NEIGHBOUR: 'it returns false'. Refute it at one input. -/
def parSmallWrong : ChangeSpec := { name := "parSmall", fn := fun _ => fun
  | [] => { results := [.lit (.bool false)], args := [] }
  | _ => none }
def ParSmallWrongFalsely : Prop := parSmallRow.holds Try.pinned (OpenSpec.ofChange parSmallWrong)

/-- 'finesselaw18.ParStable': WHATEVER THE INPUT: true; the input reads as it did. -/
def parStableSpec : ChangeSpec := { name := "parStable", fn := fun _ => fun
  | [d1, d2, d3] => { results := [.lit (.bool true)], args := [d1, d2, d3] }
  | _ => none }
def parStableRow : OpenClaim := { program := "ytfacmkelbjfffaa", sum := "4dc2fbf3e02b0ec820171e724d4caa21fcaf6e03de7839b512a2188808e0a056", func := "finesse/finesselaw18.ParStable", spec := "parStable", unfollowed := true, recurses := true, apart := false }
def ParStableSaid : Prop := parStableRow.holds Try.pinned (OpenSpec.ofChange parStableSpec)

/-- ITS FALSE NEIGHBOUR: 'it returns false'. Refute it at one input. -/
def parStableWrong : ChangeSpec := { name := "parStable", fn := fun _ => fun
  | [d1, d2, d3] => { results := [.lit (.bool false)], args := [d1, d2, d3] }
  | _ => none }
def ParStableWrongFalsely : Prop := parStableRow.holds Try.pinned (OpenSpec.ofChange parStableWrong)

/-- 'finesselaw18.ParFinal': WHATEVER THE INPUT: true; the input reads as it did. -/
def parFinalSpec : ChangeSpec := { name := "parFinal", fn := fun _ => fun
  | [d1, d2, d3] => { results := [.lit (.bool true)], args := [d1, d2, d3] }
  | _ => none }
def parFinalRow : OpenClaim := { program := "ytfacmkelbjfffaa", sum := "4dc2fbf3e02b0ec820171e724d4caa21fcaf6e03de7839b512a2188808e0a056", func := "finesse/finesselaw18.ParFinal", spec := "parFinal", unfollowed := true, recurses := true, apart := false }
def ParFinalSaid : Prop := parFinalRow.holds Try.pinned (OpenSpec.ofChange parFinalSpec)

/-- ITS FALSE NEIGHBOUR: 'it returns false'. Refute it at one input. -/
def parFinalWrong : ChangeSpec := { name := "parFinal", fn := fun _ => fun
  | [d1, d2, d3] => { results := [.lit (.bool false)], args := [d1, d2, d3] }
  | _ => none }
def ParFinalWrongFalsely : Prop := parFinalRow.holds Try.pinned (OpenSpec.ofChange parFinalWrong)

/-- 'finesselaw18.ParWrong': WHATEVER THE INPUT: true; the input reads as it did. -/
def parWrongSpec : ChangeSpec := { name := "parWrong", fn := fun _ => fun
  | [d1, d2, d3] => { results := [.lit (.bool true)], args := [d1, d2, d3] }
  | _ => none }
def parWrongRow : OpenClaim := { program := "ytfacmkelbjfffaa", sum := "4dc2fbf3e02b0ec820171e724d4caa21fcaf6e03de7839b512a2188808e0a056", func := "finesse/finesselaw18.ParWrong", spec := "parWrong", unfollowed := true, recurses := true, apart := false }
def ParWrongSaid : Prop := parWrongRow.holds Try.pinned (OpenSpec.ofChange parWrongSpec)

/-- ITS FALSE NEIGHBOUR: 'it returns false'. Refute it at one input. -/
def parWrongWrong : ChangeSpec := { name := "parWrong", fn := fun _ => fun
  | [d1, d2, d3] => { results := [.lit (.bool false)], args := [d1, d2, d3] }
  | _ => none }
def ParWrongWrongFalsely : Prop := parWrongRow.holds Try.pinned (OpenSpec.ofChange parWrongWrong)

/- THE SECOND FORM. 'bulk': how many values and letters a reading holds, each counted each time it is reached (what is shared counts as often as it is met; a slice's spare places count too). A statement '..UptoSaid' is the law's where the arguments, and the package variables that the reading takes, are together of bulk at most 1048576: NARROWER than '..Said'. Prove '..Said' where nothing that the law and all that it calls make is longer than what came in: it says more and counts as full. Else prove '..UptoSaid'. A law counts once. -/
mutual
def uptoBulk {H : Type} : DataW H → Nat
  | .lit (.string bytes) => bytes.length + 1
  | .lit _ => 1
  | .nil => 1
  | .ptr d => uptoBulk d + 1
  | .slice elems spare => uptoBulkAll elems + uptoBulkAll spare + 1
  | .agg parts => uptoBulkAll parts + 1
  | .iface _ d => uptoBulk d + 1
  | .map entries => uptoBulkEntries entries + 1
  | .held _ => 1
def uptoBulkAll {H : Type} : List (DataW H) → Nat
  | [] => 0
  | d :: r => uptoBulk d + uptoBulkAll r
def uptoBulkEntries {H : Type} : List (Lit × DataW H) → Nat
  | [] => 0
  | x :: r => uptoBulkEntry x + uptoBulkEntries r
def uptoBulkEntry {H : Type} : Lit × DataW H → Nat
  | (.string bytes, d) => bytes.length + uptoBulk d + 1
  | (_, d) => uptoBulk d + 1
 end
def uptoSmall : (H : Type) → List (DataW H) → Bool := fun _ ds => decide (uptoBulkAll ds ≤ 1048576)
def OpenSpec.upto (s : _root_.Go.ChangeSpec) : _root_.Go.OpenSpec := { _root_.Go.OpenSpec.ofChange s with cond := some uptoSmall }

/-- 'finesselaw18.ParTurned', WHERE WHAT IT READS IS OF BULK AT MOST 1048576: true; the input reads as it did. -/
def parTurnedUptoRow : OpenClaim := { program := "ytfacmkelbjfffaa", sum := "4dc2fbf3e02b0ec820171e724d4caa21fcaf6e03de7839b512a2188808e0a056", func := "finesse/finesselaw18.ParTurned", spec := "parTurned", unfollowed := true, recurses := true, apart := false, narrowed := true }
def ParTurnedUptoSaid : Prop := parTurnedUptoRow.holds Try.pinned (OpenSpec.upto parTurnedSpec)

/-- 'finesselaw18.ParMore', WHERE WHAT IT READS IS OF BULK AT MOST 1048576: true; the input reads as it did. -/
def parMoreUptoRow : OpenClaim := { program := "ytfacmkelbjfffaa", sum := "4dc2fbf3e02b0ec820171e724d4caa21fcaf6e03de7839b512a2188808e0a056", func := "finesse/finesselaw18.ParMore", spec := "parMore", unfollowed := true, recurses := true, apart := false, narrowed := true }
def ParMoreUptoSaid : Prop := parMoreUptoRow.holds Try.pinned (OpenSpec.upto parMoreSpec)

/-- 'finesselaw18.ParNone', WHERE WHAT IT READS IS OF BULK AT MOST 1048576: true; the input reads as it did. -/
def parNoneUptoRow : OpenClaim := { program := "ytfacmkelbjfffaa", sum := "4dc2fbf3e02b0ec820171e724d4caa21fcaf6e03de7839b512a2188808e0a056", func := "finesse/finesselaw18.ParNone", spec := "parNone", unfollowed := true, recurses := true, apart := false, narrowed := true }
def ParNoneUptoSaid : Prop := parNoneUptoRow.holds Try.pinned (OpenSpec.upto parNoneSpec)

/-- 'finesselaw18.ParTells', WHERE WHAT IT READS IS OF BULK AT MOST 1048576: true; the input reads as it did. -/
def parTellsUptoRow : OpenClaim := { program := "ytfacmkelbjfffaa", sum := "4dc2fbf3e02b0ec820171e724d4caa21fcaf6e03de7839b512a2188808e0a056", func := "finesse/finesselaw18.ParTells", spec := "parTells", unfollowed := true, recurses := true, apart := false, narrowed := true }
def ParTellsUptoSaid : Prop := parTellsUptoRow.holds Try.pinned (OpenSpec.upto parTellsSpec)

/-- 'finesselaw18.ParSmall', WHERE WHAT IT READS IS OF BULK AT MOST 1048576: true; the input reads as it did. -/
def parSmallUptoRow : OpenClaim := { program := "ytfacmkelbjfffaa", sum := "4dc2fbf3e02b0ec820171e724d4caa21fcaf6e03de7839b512a2188808e0a056", func := "finesse/finesselaw18.ParSmall", spec := "parSmall", unfollowed := true, recurses := true, apart := false, narrowed := true }
def ParSmallUptoSaid : Prop := parSmallUptoRow.holds Try.pinned (OpenSpec.upto parSmallSpec)

/-- 'finesselaw18.ParStable', WHERE WHAT IT READS IS OF BULK AT MOST 1048576: true; the input reads as it did. -/
def parStableUptoRow : OpenClaim := { program := "ytfacmkelbjfffaa", sum := "4dc2fbf3e02b0ec820171e724d4caa21fcaf6e03de7839b512a2188808e0a056", func := "finesse/finesselaw18.ParStable", spec := "parStable", unfollowed := true, recurses := true, apart := false, narrowed := true }
def ParStableUptoSaid : Prop := parStableUptoRow.holds Try.pinned (OpenSpec.upto parStableSpec)

/-- 'finesselaw18.ParFinal', WHERE WHAT IT READS IS OF BULK AT MOST 1048576: true; the input reads as it did. -/
def parFinalUptoRow : OpenClaim := { program := "ytfacmkelbjfffaa", sum := "4dc2fbf3e02b0ec820171e724d4caa21fcaf6e03de7839b512a2188808e0a056", func := "finesse/finesselaw18.ParFinal", spec := "parFinal", unfollowed := true, recurses := true, apart := false, narrowed := true }
def ParFinalUptoSaid : Prop := parFinalUptoRow.holds Try.pinned (OpenSpec.upto parFinalSpec)

/-- 'finesselaw18.ParWrong', WHERE WHAT IT READS IS OF BULK AT MOST 1048576: true; the input reads as it did. -/
def parWrongUptoRow : OpenClaim := { program := "ytfacmkelbjfffaa", sum := "4dc2fbf3e02b0ec820171e724d4caa21fcaf6e03de7839b512a2188808e0a056", func := "finesse/finesselaw18.ParWrong", spec := "parWrong", unfollowed := true, recurses := true, apart := false, narrowed := true }
def ParWrongUptoSaid : Prop := parWrongUptoRow.holds Try.pinned (OpenSpec.upto parWrongSpec)

end Rows
end Go.Proofs.Ytfacmkelbjfffaa
