/- What every row of chapter 22 needs: the laid table of shares, the witness's world. -/
import Derived.Test.YtojgjpegfkfnjaaDoorAwkA
import Derived.Test.YtojgjpegfkfnjaaDoorRows
import Derived.Test.YtojgjpegfkfnjaaDoorTie
import Derived.ProofKit
import Derived.LaidLaws
import Derived.LaidHandle
import Derived.Handed
import Derived.SevenTiedAt
import Derived.Deep.Strs
import Derived.Laws.IdiomArrays
import Derived.OpenShut
namespace Go.Proofs.YtojgjpegfkfnjaaDoor
open Go.ChangeShapes Go.WideShapes Go.ChangeAt Go.RowKit
set_option linter.unusedVariables false
set_option linter.unusedSimpArgs false

theorem ownGodebug : ownKnob Tryd.prog.godebug = none := by kernel_rfl
theorem laidOutAll : laidOutB Tryd.prog = true := by kernel_rfl
theorem sharesNamed : Tryd.prog.globalNamed "finesse/adjust.shares" = some 0 := by kernel_rfl
theorem sharesType : (Tryd.prog.globals[0]?).map (·.type) = some 61 := by kernel_rfl
theorem cellsIntS : Tryd.prog.cellsOf 3 = 1 := by kernel_rfl

def theLaid : List (String × DataW Unit) := [("finesse/adjust.shares", Rows.laid_finesse_adjust_shares)]

theorem spot_none {w : World} {a : Addr} {v : Value} (h : w.cell? (a.add 0) = some v) : a.spot = none := by
  unfold World.cell? at h
  simp only [Addr.add, if_true] at h
  split at h
  · split at h
    · cases h
    · rename_i hs
      cases hsp : a.spot with
      | none => rfl
      | some x => rw [hsp] at hs; simp at hs
  · cases h
theorem add_none (b o i : Nat) : (⟨b, o, none⟩ : Addr).add i = ⟨b, o + i, none⟩ := by
  unfold Addr.add
  split
  · rename_i h; subst h; rfl
  · rfl
theorem lits7 {zs : List Int} {a b c d e f g : Int} (h : lits (H := Unit) .i64 zs = [.lit (.int .i64 a), .lit (.int .i64 b), .lit (.int .i64 c), .lit (.int .i64 d), .lit (.int .i64 e), .lit (.int .i64 f), .lit (.int .i64 g)]) : zs = [a, b, c, d, e, f, g] := by
  match zs, h with
  | [], h => simp [lits] at h
  | [_], h => simp [lits] at h
  | [_, _], h => simp [lits] at h
  | [_, _, _], h => simp [lits] at h
  | [_, _, _, _], h => simp [lits] at h
  | [_, _, _, _, _], h => simp [lits] at h
  | [_, _, _, _, _, _], h => simp [lits] at h
  | [_, _, _, _, _, _, _], h => simpa [lits] using h
  | _ :: _ :: _ :: _ :: _ :: _ :: _ :: _ :: _, h => simp [lits] at h
set_option maxRecDepth 100000 in
theorem shares_of_laid {W : World} (h : laidMetH Tryd.prog theLaid W) : Shares W := by
  have h' : laidMet Tryd.prog theLaid W := h
  obtain ⟨ps, ⟨g, t, cs, fuel, p, q, hg, ht, hvar, hd, _, _⟩, _⟩ := h'
  obtain rfl := Option.some.inj (sharesNamed.symm.trans hg)
  obtain rfl := Option.some.inj (sharesType.symm.trans ht)
  have k := World.var?_cell hg hvar
  rcases open_ints Tryd.underlying61 Tryd.underlying3 cellsIntS hd with ⟨_, hx⟩ | ⟨a, len, cap, zs, hc, _, hlc, hcm, hzl, hx, hcell, hwf⟩
  · simp [Rows.laid_finesse_adjust_shares] at hx
  · simp only [Rows.laid_finesse_adjust_shares, Prod.mk.injEq, DataW.slice.injEq] at hx
    obtain ⟨⟨h1, h2⟩, _⟩ := hx
    simp only [if_true] at hzl
    have h3 : (lits (H := Unit) .i64 (zs.drop len)).length = 0 := by rw [← h2]; rfl
    simp only [lits, List.length_map, List.length_drop] at h3
    have h4 : zs.take len = zs := List.take_of_length_le (by omega)
    rw [h4] at h1
    have h5 := lits7 h1.symm
    subst h5
    have hs := spot_none (hcell 0 (by simp))
    obtain ⟨b, o, s⟩ := a
    simp only at hs
    subst hs
    have hl7 : len = 7 := by simp at hzl h3; omega
    subst hl7
    refine ⟨b, o, cap, ?_, fun i y hy => ?_⟩
    · have k0 := k 0
      rw [k0]
      have : cs.toList[0]? = some (.slice (some ⟨b, o, none⟩) 7 cap) := by rw [hc]; rfl
      simpa using this
    · have hi : i < [(0 : Int), 30, 40, 50, 60, 70, 100].length := by
        rcases Nat.lt_or_ge i shL.length with h | h
        · exact h
        · rw [List.getElem?_eq_none h] at hy; cases hy
      have hk := hcell i hi
      rw [List.getD_eq_getElem?_getD, show [(0 : Int), 30, 40, 50, 60, 70, 100][i]? = some y from hy] at hk
      rw [← add_none]; exact hk

noncomputable def laidWorld (os : Os) : World :=
  let w0 := World.holding Tryd.prog os ⟨#[], #[], []⟩
  let w1 := w0.alloc (.cells #[.int .i64 0, .int .i64 30, .int .i64 40, .int .i64 50, .int .i64 60, .int .i64 70, .int .i64 100] 3)
  { w1 with heap := w1.heap.modify 0 fun
      | .cells _ t frozen => .cells #[.slice (some ⟨w0.heap.size, 0, none⟩) 7 7] t frozen
      | o => o }
theorem laidWorld_met (os : Os) (args : Array Value) : laidMetH Tryd.prog theLaid ((laidWorld os).forCall (fun _ _ => 0) ⟨#[], args, []⟩).memory :=
  (laidMet_of_run' 8 (by kernel_rfl) (by kernel_rfl) : laidMet Tryd.prog theLaid _)

theorem bounds64 {n : Int} (h : (Lit.int .i64 n).wf = true) : -9223372036854775808 ≤ n ∧ n ≤ 9223372036854775807 := by
  simp [Lit.wf, IntKind.min, IntKind.max, IntKind.signed, IntKind.bits] at h
  omega
theorem bounds8 {n : Int} (h : (Lit.int .u8 n).wf = true) : 0 ≤ n ∧ n ≤ 255 := by
  simp [Lit.wf, IntKind.min, IntKind.max, IntKind.signed, IntKind.bits] at h
  omega
end Go.Proofs.YtojgjpegfkfnjaaDoor
