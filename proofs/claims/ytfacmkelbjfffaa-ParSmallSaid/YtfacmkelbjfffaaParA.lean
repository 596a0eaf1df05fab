/- par: tables. -/
import Derived.Test.YtfacmkelbjfffaaScoD
namespace Go.Proofs.Ytfacmkelbjfffaa
open Go.RowKit
set_option linter.unusedVariables false
set_option linter.unusedSimpArgs false

/-- A table's cells: T (4 d + s). -/
def tabV (T : Nat → Int) : Array Value := #[.int .i64 (T 0), .int .i64 (T 1), .int .i64 (T 2), .int .i64 (T 3), .int .i64 (T 4), .int .i64 (T 5), .int .i64 (T 6), .int .i64 (T 7), .int .i64 (T 8), .int .i64 (T 9), .int .i64 (T 10), .int .i64 (T 11), .int .i64 (T 12), .int .i64 (T 13), .int .i64 (T 14), .int .i64 (T 15), .int .i64 (T 16), .int .i64 (T 17), .int .i64 (T 18), .int .i64 (T 19)]
def bestN (T : Nat → Int) (d s : Nat) : Int := if T (d * 4 + s) < T (d * 4 + (s + 2)) then T (d * 4 + (s + 2)) else T (d * 4 + s)
def bestS (T : Nat → Int) (d s : Nat) : Int := if T (d * 4 + s) < T (d * 4 + (s + 2)) then (s : Int) + 2 else s
theorem tab_cells (T : Nat → Int) (k : Nat) (h : k < 20) : (tabV T)[k]? = some (.int .i64 (T k)) := by
  unfold tabV
  match k, h with
  | 0, _ | 1, _ | 2, _ | 3, _ | 4, _ | 5, _ | 6, _ | 7, _ | 8, _ | 9, _ | 10, _ | 11, _ | 12, _ | 13, _ | 14, _ | 15, _ | 16, _ | 17, _ | 18, _ | 19, _ => rfl
  | k + 20, h => exact absurd h (by omega)
theorem tab_box (w : World) (T : Nat → Int) : ∃ W g, W = w.alloc (.cells (tabV T) 25) ∧ g = w.heap.size ∧ (∀ k, k < 20 → W.cell? ⟨g, k, none⟩ = some (.int .i64 (T k))) ∧ Below w.heap.size w W :=
  ⟨_, _, rfl, rfl, fun k hk => (cell_of_row _ _ _ _ _ _ (heap_alloc_new w _)).trans (tab_cells T k hk), sst1 _ _⟩
set_option maxRecDepth 100000 in
set_option maxHeartbeats 2000000 in
theorem best_ok (T : Nat → Int) (d s : Nat) (w : World) (hd : d ≤ 4) (hs : s ≤ 1) : Calls Try.prog 32 #[.agg (tabV T), .int .u8 d, .int .u8 s] w fun e w' => e = .returned (.tuple #[.int .i64 (bestN T d s), .int .u8 (bestS T d s)]) ∧ Below w.heap.size w w' := by
  have h0 : (0 : Int) ≤ (d : Int) := by omega
  have h1 : (d : Int) < 5 := by omega
  have h2 : (0 : Int) ≤ (s : Int) := by omega
  have h3 : (s : Int) < 4 := by omega
  have h4 : (s : Int) + 2 < 4 := by omega
  have h5 : (0 : Int) ≤ (s : Int) + 2 := by omega
  have hw : IntKind.u8.wrap ((s : Int) + 2) = (s : Int) + 2 := IntWalk.u8_in _ ⟨by omega, by omega⟩
  unfold bestN bestS
  by_cases hlt : T (d * 4 + s) < T (d * 4 + (s + 2))
  all_goals
    first | simp only [if_pos hlt] | simp only [if_neg hlt]
    go_enter Try.func32, Try.ntmps32
    go_wp2_with fail
    obtain ⟨W, g, e1, e2, hc, hB⟩ := tab_box w T
    rw [← e1, ← e2]
    clear e1 e2
    have c0 := hc (d * 4 + s) (by omega)
    have c1 := hc (d * 4 + (s + 2)) (by omega)
    go_quiet (fail)
    go_wp2_with fail
    go_ret2
    exact ⟨rfl, sc_drewN hB _⟩

end Go.Proofs.Ytfacmkelbjfffaa
