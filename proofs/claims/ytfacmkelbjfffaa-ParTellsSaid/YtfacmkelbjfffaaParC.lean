/- par: Right, wrong. -/
import Derived.Test.YtfacmkelbjfffaaParB
namespace Go.Proofs.Ytfacmkelbjfffaa
open Go.RowKit
set_option linter.unusedVariables false
set_option linter.unusedSimpArgs false

/-- A table is right. -/
def rightT (T : Nat → Int) : Bool := (List.range 20).all fun k => decide (0 ≤ T k) && decide (T k ≤ 13)
theorem rightT_iff (T : Nat → Int) : rightT T = true ↔ ∀ k, k < 20 → 0 ≤ T k ∧ T k ≤ 13 := by simp [rightT]
theorem rightT_bad {T : Nat → Int} {k : Nat} (hk : k < 20) (h : T k < 0 ∨ 13 < T k) : rightT T = false := by
  cases e : rightT T
  · rfl
  · have := (rightT_iff T).1 e k hk; omega
theorem parret_b {a b : Bool} (h : a = b) : Ending.returned (.bool a) = .returned (.bool b) := by rw [h]
theorem index_row (T : Nat → Int) (i : Nat) (w : World) (h : i < 5) : (Instr.index 25 (.agg (tabV T)) (.int .i64 (i : Int))).run Try.prog w = .ok (.agg #[.int .i64 (T (4 * i)), .int .i64 (T (4 * i + 1)), .int .i64 (T (4 * i + 2)), .int .i64 (T (4 * i + 3))]) w := by
  have h5 : i = 0 ∨ i = 1 ∨ i = 2 ∨ i = 3 ∨ i = 4 := by omega
  rcases h5 with rfl | rfl | rfl | rfl | rfl <;> simp [Instr.index, asIntOf, run_underlying Try.underlying25, go_sem, tabV]
theorem index_cell (T : Nat → Int) (i j : Nat) (w : World) (h : j < 4) : (Instr.index 23 (.agg #[.int .i64 (T (4 * i)), .int .i64 (T (4 * i + 1)), .int .i64 (T (4 * i + 2)), .int .i64 (T (4 * i + 3))]) (.int .i64 (j : Int))).run Try.prog w = .ok (.int .i64 (T (4 * i + j))) w := by
  have h5 : j = 0 ∨ j = 1 ∨ j = 2 ∨ j = 3 := by omega
  rcases h5 with rfl | rfl | rfl | rfl <;> simp [Instr.index, asIntOf, run_underlying Try.underlying23, go_sem]
def RightRel (w : World) (T : Nat → Int) (i : Value) (wr : World) : Prop := ∃ k : Nat, k ≤ 5 ∧ i = .int .i64 k ∧ Sec (∀ m, m < 4 * k → 0 ≤ T m ∧ T m ≤ 13) ∧ Below w.heap.size w wr
def RowRel (w : World) (T : Nat → Int) (k : Nat) (i : Value) (wr : World) : Prop := ∃ j : Nat, j ≤ 4 ∧ i = .int .i64 j ∧ Sec (∀ m, m < 4 * k + j → 0 ≤ T m ∧ T m ≤ 13) ∧ Below w.heap.size w wr
set_option maxRecDepth 100000 in
set_option maxHeartbeats 2000000 in
theorem Right_ok (T : Nat → Int) (w : World) : Calls Try.prog 21 #[.agg (tabV T)] w fun e w' => e = .returned (.bool (rightT T)) ∧ Below w.heap.size w w' := by
  have hra := rangeAt_tab (w.alloc (.cells (tabV T) 25)) T w.heap.size (fun k hk => (cell_of_row _ _ _ _ _ _ (heap_alloc_new w _)).trans (tab_cells T k hk))
  have hsz : (Try.prog.info? 25).map (·.size) = some (tabV T).toList.length := by kernel_rfl
  have hir := index_row T
  have hic := index_cell T
  go_enter Try.func21, Try.ntmps21
  go_wp2_with (refine wpList_load_mid (by rfl) 25 (.tmp 1) (by rfl) w.heap.size 0 (by rfl) (tabV T).toList _ hra Try.underlying25 rfl hsz ?_; simp only [Array.toArray_toList])
  clear hra hsz
  obtain ⟨W, eW, hB0⟩ : ∃ W, W = w.alloc (.cells (tabV T) 25) ∧ Below w.heap.size w W := ⟨_, rfl, sst1 _ _⟩
  rw [← eW]
  clear eW
  go_loopw [8] (fun i wr => RightRel w T i wr) (fun i _ => 5 - (intOf i).toNat)
  case atStart => exact ⟨0, by omega, rfl, ⟨fun m hm => by omega⟩, hB0⟩
  case round =>
    obtain ⟨k, hk, rfl, hall, hB⟩ := hrel
    by_cases hlt : k < 5
    · replace hir := fun w => hir k w hlt
      go_wp2_with fail
      go_loopw [12] (fun i wx => RowRel w T k i wx) (fun i _ => 4 - (intOf i).toNat)
      case atStart => exact ⟨0, by omega, rfl, ⟨fun m hm => hall.out m (by omega)⟩, hB.alloc hB.size _⟩
      case round =>
        obtain ⟨j, hj, rfl, hin, hBx⟩ := hrel
        by_cases hlj : j < 4
        · replace hic := fun w => hic k j w hlj
          have hkk : 4 * k + j < 20 := by omega
          have hbad := Sec.mk (fun h => rightT_bad (T := T) hkk h)
          have hgood : 0 ≤ T (4 * k + j) ∧ T (4 * k + j) ≤ 13 → Sec (∀ m, m < 4 * k + (j + 1) → 0 ≤ T m ∧ T m ≤ 13) := fun h => ⟨fun m hm => by
            by_cases e : m = 4 * k + j
            · rw [e]; exact h
            · exact hin.out m (by omega)⟩
          replace hgood := Sec.mk hgood
          clear hir hall hin hkk
          generalize T (4 * k + j) = x at *
          by_cases b1 : x < 0
          · go_wp2_with fail
            go_ret
            exact ⟨parret_b (hbad.out (.inl b1)).symm, hBx⟩
          · by_cases b2 : 13 < x
            · go_wp2_with fail
              go_ret
              exact ⟨parret_b (hbad.out (.inr b2)).symm, hBx⟩
            · go_wp2_with fail
              exact ⟨⟨j + 1, hlj, rfl, hgood.out (by omega), hBx⟩, by simp only [intOf]; omega⟩
        · go_wp2_with fail
          exact ⟨⟨k + 1, hlt, rfl, ⟨fun m hm => hin.out m (by omega)⟩, hBx⟩, by simp only [intOf]; omega⟩
    · go_wp2_with fail
      go_ret
      exact ⟨parret_b ((rightT_iff T).2 fun m hm => hall.out m (by omega)).symm, hB⟩

/-- A bid cannot be asked for. -/
def wrongT (T : Nat → Int) (u b s : Int) : Bool := !rightT T || decide (3 < u) || decide (b < 3) || decide (37 < b) || decide (1 < s)
set_option maxRecDepth 100000 in
set_option maxHeartbeats 2000000 in
theorem wrong_ok (T : Nat → Int) (u b s : Int) (w : World) : Calls Try.prog 25 #[.agg (tabV T), .int .u8 u, .int .u8 b, .int .u8 s] w fun e w' => e = .returned (.bool (wrongT T u b s)) ∧ Below w.heap.size w w' := by
  have HR := Sec.mk fun w' => Right_ok T w'
  have hra := rangeAt_tab (w.alloc (.cells (tabV T) 25)) T w.heap.size (fun k hk => (cell_of_row _ _ _ _ _ _ (heap_alloc_new w _)).trans (tab_cells T k hk))
  have hsz : (Try.prog.info? 25).map (·.size) = some (tabV T).toList.length := by kernel_rfl
  unfold wrongT
  generalize rightT T = r at *
  go_enter Try.func25, Try.ntmps25
  go_wp2_with (refine wpList_load_mid (by rfl) 25 (.tmp 4) (by rfl) w.heap.size 0 (by rfl) (tabV T).toList _ hra Try.underlying25 rfl hsz ?_; simp only [Array.toArray_toList])
  clear hra hsz
  refine (HR.out _).mono ?_
  rintro e w1 ⟨rfl, hb1⟩
  have hB := sbtr (sst1 _ _) hb1
  clear hb1 HR
  cases r
  · go_wp2_with fail
    go_ret
    exact ⟨rfl, hB⟩
  · by_cases h1 : 3 < u
    · go_wp2_with fail
      go_ret
      exact ⟨parret_b (by simp [h1]), hB⟩
    · by_cases h2 : b < 3
      · go_wp2_with fail
        go_ret
        exact ⟨parret_b (by simp [h2]), hB⟩
      · by_cases h3 : 37 < b
        · go_wp2_with fail
          go_ret
          exact ⟨parret_b (by simp [h3]), hB⟩
        · go_wp2_with fail
          go_ret
          exact ⟨parret_b (by simp [h1, h2, h3]), hB⟩
end Go.Proofs.Ytfacmkelbjfffaa
