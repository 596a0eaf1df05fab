/- What every row of this seat needs: the laid variable, the witness's world, small results as arguments. -/
import Derived.Test.YtkocgknidpmcmaaDoorSplitA
import Derived.Test.YtkocgknidpmcmaaDoorRows
import Derived.Test.YtkocgknidpmcmaaDoorTie
import Derived.ProofKit
import Derived.LaidLaws
import Derived.LaidHandle
import Derived.Handed
import Derived.SevenTiedAt
import Derived.Deep.Strs
import Derived.Laws.IdiomArrays
import Derived.OpenShut
namespace Go.Proofs.YtkocgknidpmcmaaDoor
open Go.ChangeShapes Go.WideShapes Go.ChangeAt Go.RowKit
set_option linter.unusedVariables false
set_option linter.unusedSimpArgs false

theorem ownGodebug : ownKnob Tryd.prog.godebug = none := by kernel_rfl
theorem laidOutAll : laidOutB Tryd.prog = true := by kernel_rfl
theorem getsNamed : Tryd.prog.globalNamed "finesse/match.gets" = some 0 := by kernel_rfl
theorem getsType : (Tryd.prog.globals[0]?).map (·.type) = some 114 := by kernel_rfl
theorem cellsInt : Tryd.prog.cellsOf 3 = 1 := by kernel_rfl

def theLaid : List (String × DataW Unit) := [("finesse/match.gets", Rows.laid_finesse_match_gets)]

theorem list3 {α : Type} {l : List α} (h : l.length = 3) : ∃ a b c, l = [a, b, c] := by
  match l, h with
  | [a, b, c], _ => exact ⟨a, b, c, rfl⟩
theorem gets_of_laid {W : World} (h : laidMetH Tryd.prog theLaid W) : Gets W := by
  have h' : laidMet Tryd.prog theLaid W := h
  obtain ⟨ps, ⟨g, t, cs, fuel, p, q, hg, ht, hvar, hd, _, _⟩, _⟩ := h'
  obtain rfl := Option.some.inj (getsNamed.symm.trans hg)
  obtain rfl := Option.some.inj (getsType.symm.trans ht)
  obtain ⟨xs, m, _, hx, hlen, hxs, hi⟩ := DataW.trod_array Tryd.underlying114 hd
  have hc3 : Tryd.prog.cellsOf 114 = 3 := by kernel_rfl
  rw [hc3] at hlen
  obtain ⟨l⟩ := cs
  obtain ⟨c0, c1, c2, rfl⟩ := list3 hlen
  obtain ⟨y0, y1, y2, n, hx', e0, e1, e2⟩ := trod_array3 Tryd.underlying114 cellsInt hd
  obtain ⟨n0, ea, rfl, _⟩ := DataW.trod_int Tryd.underlying3 e0
  obtain ⟨n1, eb, rfl, _⟩ := DataW.trod_int Tryd.underlying3 e1
  obtain ⟨n2, ec, rfl, _⟩ := DataW.trod_int Tryd.underlying3 e2
  simp only [List.cons.injEq, and_true] at ea eb ec
  subst ea; subst eb; subst ec
  simp only [Rows.laid_finesse_match_gets, Prod.mk.injEq, DataW.agg.injEq, List.cons.injEq, DataW.lit.injEq, Lit.int.injEq, true_and, and_true] at hx'
  obtain ⟨⟨rfl, rfl, rfl⟩, _⟩ := hx'
  have k := World.var?_cell hg hvar
  exact ⟨by simpa using k 0, by simpa using k 1, by simpa using k 2⟩

noncomputable def laidWorld (os : Os) : World :=
  let w0 := World.holding Tryd.prog os ⟨#[], #[], []⟩
  { w0 with heap := w0.heap.modify 0 fun
      | .cells _ t frozen => .cells #[.int .i64 0, .int .i64 1, .int .i64 2] t frozen
      | o => o }
theorem laidWorld_met (os : Os) (args : Array Value) : laidMetH Tryd.prog theLaid ((laidWorld os).forCall (fun _ _ => 0) ⟨#[], args, []⟩).memory :=
  (laidMet_of_run' 8 (by kernel_rfl) (by kernel_rfl) : laidMet Tryd.prog theLaid _)

theorem bounds16 {n : Int} (h : (Lit.int .i16 n).wf = true) : -32768 ≤ n ∧ n ≤ 32767 := by
  simp [Lit.wf, IntKind.min, IntKind.max, IntKind.signed, IntKind.bits] at h
  omega
theorem bounds8 {n : Int} (h : (Lit.int .u8 n).wf = true) : 0 ≤ n ∧ n ≤ 255 := by
  simp [Lit.wf, IntKind.min, IntKind.max, IntKind.signed, IntKind.bits] at h
  omega
end Go.Proofs.YtkocgknidpmcmaaDoor
