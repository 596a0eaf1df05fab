/- Package neuberg: within, Adjust. -/
import Derived.Test.YtojgjpegfkfnjaaDoorNeuA
namespace Go.Proofs.YtojgjpegfkfnjaaDoor
open Go.RowKit
set_option linter.unusedVariables false
set_option linter.unusedSimpArgs false

def withinB (mn md most : Int) : Bool := rightB mn md && decide (0 ≤ mn) && decide (md ≤ 10000) && decide (ordQ ((mn : Rat) / (md : Rat)) (most : Rat) ≤ 0)

theorem top_any (n : Nat) (w : World) (h : 1 ≤ n ∧ n ≤ 1000) : Calls Tryd.prog 65 #[.int .i64 n] w fun e w' => e = .returned (.int .i64 (2 * ((n : Int) - 1))) ∧ w = w' := by
  have h1 := top_small n w (by omega)
  rw [if_neg (by omega)] at h1
  exact h1
def qs3 (q r s : Rat) : Nat → Rat
  | 0 => q
  | 1 => r
  | _ => s
theorem steps2 {w : World} {v1 v2 : Value} {T : Nat} {qs : Nat → Rat} (h1 : Step w v1 (qs 0) (qs 1)) (h2 : Step w v2 (qs 1) (qs 2)) : Steps (w.alloc (.cells #[v1, v2] T)) (some ⟨w.heap.size, 0, none⟩) 2 qs := by
  intro k hk
  match k, hk with
  | 0, _ => exact ⟨w.heap.size, 0, rfl, v1, by go_simp, h1.later (st1 _ _)⟩
  | 1, _ => exact ⟨w.heap.size, 0, rfl, v2, by go_simp, h2.later (st1 _ _)⟩
theorem Steps.later {w w' : World} {A : Option Addr} {n : Nat} {qs : Nat → Rat} (h : Steps w A n qs) (hb : Below w.heap.size w w') : Steps w' A n qs := fun k hk =>
  let ⟨b, o, e, v, h1, h2⟩ := h k hk
  ⟨b, o, e, v, cell_later hb h1, h2.later hb⟩

end Go.Proofs.YtojgjpegfkfnjaaDoor
