/- par: Best, Final, Value. -/
import Derived.Test.YtfacmkelbjfffaaParF
namespace Go.Proofs.Ytfacmkelbjfffaa
open Go.RowKit
set_option linter.unusedVariables false
set_option linter.unusedSimpArgs false
set_option maxRecDepth 100000

theorem wrongT_false {T : Nat → Int} {u : Int} {b s : Nat} (hT : rightT T = true) (hu : 0 ≤ u ∧ u ≤ 3) (hb : 3 ≤ b ∧ b ≤ 37) (hs : s ≤ 1) : wrongT T u b s = false := by
  unfold wrongT
  rw [hT]
  simp; omega
theorem tab_hra (w : World) (T : Nat → Int) : (w.alloc (.cells (tabV T) 25)).rangeAt w.heap.size 0 (tabV T).toList := rangeAt_tab (w.alloc (.cells (tabV T) 25)) T w.heap.size (fun k hk => (cell_of_row _ _ _ _ _ _ (heap_alloc_new w _)).trans (tab_cells T k hk))
theorem range_later {W W' : World} {T : Nat → Int} {g : Nat} (h : ∀ k, k < 20 → W.cell? ⟨g, k, none⟩ = some (.int .i64 (T k))) (hb : Below W.heap.size W W') : W'.rangeAt g 0 (tabV T).toList := rangeAt_tab W' T g fun k hk => sc_later hb (h k hk)
theorem tab_hc (w : World) (T : Nat → Int) : ∀ k, k < 20 → (w.alloc (.cells (tabV T) 25)).cell? ⟨w.heap.size, k, none⟩ = some (.int .i64 (T k)) := fun k hk => (cell_of_row _ _ _ _ _ _ (heap_alloc_new w _)).trans (tab_cells T k hk)
set_option maxHeartbeats 2000000 in
theorem Best_ok (T : Nat → Int) (d s : Nat) (w : World) (hT : rightT T = true) (hd : d ≤ 4) (hs : s ≤ 1) : Calls Try.prog 20 #[.agg (tabV T), .int .u8 d, .int .u8 s] w fun e w' =>
    e = .returned (.tuple #[.int .i64 (bestN T d s), .int .u8 (bestS T d s), .int .i64 0]) ∧ Below w.heap.size w w' := by
  have HR := Sec.mk fun w' => Right_ok T w'
  have HB := Sec.mk fun w' => best_ok T d s w' hd hs
  have hsz : (Try.prog.info? 25).map (·.size) = some (tabV T).toList.length := by kernel_rfl
  have hra := tab_hra w T
  have hc := tab_hc w T
  rw [hT] at HR
  have d1 : (d : Int) ≤ 4 := by omega
  have s1 : (s : Int) ≤ 1 := by omega
  go_enter Try.func20, Try.ntmps20
  go_wp2_with (refine wpList_load_mid (by rfl) 25 (.tmp 3) (by rfl) w.heap.size 0 (by rfl) (tabV T).toList _ hra Try.underlying25 rfl hsz ?_; simp only [Array.toArray_toList])
  refine (HR.out _).mono ?_
  rintro e w1 ⟨rfl, hb1⟩
  have hra1 := range_later hc hb1
  have hB := sbtr (sst1 _ _) hb1
  clear hra hc hb1 HR
  go_wp2_with (refine wpList_load_mid (by rfl) 25 (.tmp 3) (by rfl) w.heap.size 0 (by rfl) (tabV T).toList _ hra1 Try.underlying25 rfl hsz ?_; simp only [Array.toArray_toList])
  clear hra1
  refine (HB.out _).mono ?_
  rintro e w2 ⟨rfl, hb2⟩
  have hB2 := sbtr hB hb2
  go_wp2_with fail
  go_ret3
  exact ⟨rfl, hB2⟩
set_option maxHeartbeats 2000000 in
theorem Best_wrong (T : Nat → Int) (d s : Int) (w : World) (h : rightT T = false ∨ 4 < d ∨ 1 < s) : Calls Try.prog 20 #[.agg (tabV T), .int .u8 d, .int .u8 s] w fun e w' =>
    e = .returned (.tuple #[.int .i64 0, .int .u8 0, .int .i64 2]) ∧ Below w.heap.size w w' := by
  have HR := Sec.mk fun w' => Right_ok T w'
  have hsz : (Try.prog.info? 25).map (·.size) = some (tabV T).toList.length := by kernel_rfl
  have hra := tab_hra w T
  generalize rightT T = r at *
  go_enter Try.func20, Try.ntmps20
  go_wp2_with (refine wpList_load_mid (by rfl) 25 (.tmp 3) (by rfl) w.heap.size 0 (by rfl) (tabV T).toList _ hra Try.underlying25 rfl hsz ?_; simp only [Array.toArray_toList])
  refine (HR.out _).mono ?_
  rintro e w1 ⟨rfl, hb1⟩
  have hB := sbtr (sst1 _ _) hb1
  clear hra hb1 HR
  cases r
  · clear h
    go_wp2_with fail
    go_ret3
    exact ⟨rfl, hB⟩
  · by_cases h1 : 4 < d
    · clear h
      go_wp2_with fail
      go_ret3
      exact ⟨rfl, hB⟩
    · have h2 : 1 < s := by simpa [h1] using h
      clear h
      go_wp2_with fail
      go_ret3
      exact ⟨rfl, hB⟩
set_option maxHeartbeats 2000000 in
theorem Value_wrong (T : Nat → Int) (u b s : Int) (w : World) (h : wrongT T u b s = true) : Calls Try.prog 19 #[.agg (tabV T), .int .u8 u, .int .u8 b, .int .u8 s] w fun e w' =>
    e = .returned (.tuple #[.int .i64 0, .int .i64 2]) ∧ Below w.heap.size w w' := by
  have HR := Sec.mk fun w' => wrong_ok T u b s w'
  have hsz : (Try.prog.info? 25).map (·.size) = some (tabV T).toList.length := by kernel_rfl
  have hra := tab_hra w T
  rw [h] at HR
  go_enter Try.func19, Try.ntmps19
  go_wp2_with (refine wpList_load_mid (by rfl) 25 (.tmp 4) (by rfl) w.heap.size 0 (by rfl) (tabV T).toList _ hra Try.underlying25 rfl hsz ?_; simp only [Array.toArray_toList])
  refine (HR.out _).mono ?_
  rintro e w1 ⟨rfl, hb1⟩
  have hB := sbtr (sst1 _ _) hb1
  clear hra hb1 HR
  go_wp2_with fail
  go_ret2
  exact ⟨rfl, hB⟩
set_option maxHeartbeats 2000000 in
theorem Value_ok (T : Nat → Int) (u : Int) (b s : Nat) (w : World) (hT : rightT T = true) (hu : 0 ≤ u ∧ u ≤ 3) (hb : 3 ≤ b ∧ b ≤ 37) (hs : s ≤ 1) : Calls Try.prog 19 #[.agg (tabV T), .int .u8 u, .int .u8 b, .int .u8 s] w fun e w' =>
    e = .returned (.tuple #[.int .i64 (ansZ (finalZ T u) b s).2, .int .i64 0]) ∧ Below w.heap.size w w' := by
  have HR := Sec.mk fun w' => wrong_ok T u b s w'
  have HS := Sec.mk fun w' => solve_ok T u w' ((rightT_iff T).1 hT) hu
  have hsz : (Try.prog.info? 25).map (·.size) = some (tabV T).toList.length := by kernel_rfl
  have hra := tab_hra w T
  have hc := tab_hc w T
  rw [wrongT_false hT hu hb hs] at HR
  have b0 : (0 : Int) ≤ (b : Int) := by omega
  have b1 : (b : Int) < 38 := by omega
  have s0 : (0 : Int) ≤ (s : Int) := by omega
  have s1 : (s : Int) < 2 := by omega
  go_enter Try.func19, Try.ntmps19
  go_wp2_with (refine wpList_load_mid (by rfl) 25 (.tmp 4) (by rfl) w.heap.size 0 (by rfl) (tabV T).toList _ hra Try.underlying25 rfl hsz ?_; simp only [Array.toArray_toList])
  refine (HR.out _).mono ?_
  rintro e w1 ⟨rfl, hb1⟩
  have hra1 := range_later hc hb1
  have hB := sbtr (sst1 _ _) hb1
  clear hra hc hb1 HR
  go_wp2_with (refine wpList_load_mid (by rfl) 25 (.tmp 4) (by rfl) w.heap.size 0 (by rfl) (tabV T).toList _ hra1 Try.underlying25 rfl hsz ?_; simp only [Array.toArray_toList])
  clear hra1
  refine (HS.out _).mono ?_
  rintro e w2 ⟨rfl, hI⟩
  have hB2 := sbtr hB hI.below
  have ha := (hI.ans b s hb.1 hb.2 hs trivial).2.1
  clear hI HS hB
  go_wp2_with fail
  go_ret2
  exact ⟨rfl, hB2⟩
set_option maxHeartbeats 2000000 in
theorem Final_wrong (T : Nat → Int) (u b s : Int) (w : World) (h : wrongT T u b s = true) : Calls Try.prog 16 #[.agg (tabV T), .int .u8 u, .int .u8 b, .int .u8 s] w fun e w' =>
    e = .returned (.tuple #[.agg #[.int .u8 0, .int .u8 0, .int .u8 0, .int .u8 0, .int .i64 0, .int .i64 0], .int .i64 0, .int .i64 2]) ∧ Below w.heap.size w w' := by
  have HR := Sec.mk fun w' => wrong_ok T u b s w'
  have hsz : (Try.prog.info? 25).map (·.size) = some (tabV T).toList.length := by kernel_rfl
  have hra := fun X => range_later (tab_hc w T) (sst1 (w.alloc (.cells (tabV T) 25)) X)
  rw [h] at HR
  go_enter Try.func16, Try.ntmps16
  go_wp2_with (refine wpList_load_mid (by rfl) 25 (.tmp 4) (by rfl) w.heap.size 0 (by rfl) (tabV T).toList _ (hra _) Try.underlying25 rfl hsz ?_; simp only [Array.toArray_toList])
  obtain ⟨W, g, eW, eg, hO, hBW⟩ : ∃ W g, W = (w.alloc (.cells (tabV T) 25)).alloc (.cells #[.int .u8 0, .int .u8 0, .int .u8 0, .int .u8 0, .int .i64 0, .int .i64 0] 30) ∧ g = w.heap.size + 1 ∧ (∀ k, k < 6 → ∃ v, CellIs W ⟨g, k, none⟩ v) ∧ Below w.heap.size w W := by
    refine ⟨_, _, rfl, rfl, ?_, sbtr (sst1 _ _) (sst1 _ _)⟩
    intro k hk
    have := cellIs_row (w.alloc (.cells (tabV T) 25)) #[.int .u8 0, .int .u8 0, .int .u8 0, .int .u8 0, .int .i64 0, .int .i64 0] 30 k _ (Array.getElem?_eq_getElem (by simpa using hk))
    rw [World.size_alloc] at this
    exact ⟨_, this⟩
  have hgw : w.heap.size ≤ g := by omega
  rw [← eW, ← eg]
  clear eW eg hra
  refine (HR.out _).mono ?_
  rintro e w1 ⟨rfl, hb1⟩
  have hB := sbtr hBW hb1
  have hO1 := fun k hk => (let ⟨v, hv⟩ := hO k hk; ⟨v, cellIs_later hb1 hv⟩ : ∃ v, CellIs w1 ⟨g, k, none⟩ v)
  obtain ⟨x0, o0, f0⟩ := hO1 0 (by omega)
  obtain ⟨x1, o1, f1⟩ := hO1 1 (by omega)
  obtain ⟨x2, o2, f2⟩ := hO1 2 (by omega)
  obtain ⟨x3, o3, f3⟩ := hO1 3 (by omega)
  obtain ⟨x4, o4, f4⟩ := hO1 4 (by omega)
  obtain ⟨x5, o5, f5⟩ := hO1 5 (by omega)
  clear hO hO1 hb1 HR hBW
  go_wp2_with fail
  exact bodyPost_ret (v := .tuple #[.agg #[.int .u8 0, .int .u8 0, .int .u8 0, .int .u8 0, .int .i64 0, .int .i64 0], .int .i64 0, .int .i64 2]) (by simp [results, Try.results16, go_sem, o0, o1, o2, o3, o4, o5]) rfl ⟨rfl, (((((hB.setCell (p := ⟨g, 0, none⟩) hgw _).setCell (p := ⟨g, 1, none⟩) hgw _).setCell (p := ⟨g, 2, none⟩) hgw _).setCell (p := ⟨g, 3, none⟩) hgw _).setCell (p := ⟨g, 4, none⟩) hgw _).setCell (p := ⟨g, 5, none⟩) hgw _⟩
/-- What comes of a bid, as a value. -/
def outV (T : Nat → Int) (b s : Nat) : Value := .agg #[.int .u8 (lev b), .int .u8 (den b), .int .u8 (riskZ T b s), .int .u8 (bestS T (den b) s), .int .i64 (bestN T (den b) s), .int .i64 0]
set_option maxHeartbeats 2000000 in
theorem Final_ok (T : Nat → Int) (u : Int) (b s : Nat) (w : World) (hT : rightT T = true) (hu : 0 ≤ u ∧ u ≤ 3) (hb : 3 ≤ b ∧ b ≤ 37) (hs : s ≤ 1) : Calls Try.prog 16 #[.agg (tabV T), .int .u8 u, .int .u8 b, .int .u8 s] w fun e w' =>
    e = .returned (.tuple #[outV T b s, .int .i64 (finalZ T u b s), .int .i64 0]) ∧ Below w.heap.size w w' := by
  have HR := Sec.mk fun w' => wrong_ok T u b s w'
  have HF := Sec.mk fun w' => final_ok T u b s w' ((rightT_iff T).1 hT) hu hb hs
  have hsz : (Try.prog.info? 25).map (·.size) = some (tabV T).toList.length := by kernel_rfl
  have hra := fun X => range_later (tab_hc w T) (sst1 (w.alloc (.cells (tabV T) 25)) X)
  rw [wrongT_false hT hu hb hs] at HR
  unfold outV
  generalize riskZ T b s = q1 at *
  generalize bestS T (den b) s = q2 at *
  generalize bestN T (den b) s = q3 at *
  generalize lev b = q4 at *
  generalize den b = q5 at *
  generalize finalZ T u b s = q6 at *
  go_enter Try.func16, Try.ntmps16
  go_wp2_with (refine wpList_load_mid (by rfl) 25 (.tmp 4) (by rfl) w.heap.size 0 (by rfl) (tabV T).toList _ (hra _) Try.underlying25 rfl hsz ?_; simp only [Array.toArray_toList])
  obtain ⟨W, g, eW, eg, hO, hBW, hc⟩ : ∃ W g, W = (w.alloc (.cells (tabV T) 25)).alloc (.cells #[.int .u8 0, .int .u8 0, .int .u8 0, .int .u8 0, .int .i64 0, .int .i64 0] 30) ∧ g = w.heap.size + 1 ∧ (∀ k, k < 6 → ∃ v, CellIs W ⟨g, k, none⟩ v) ∧ Below w.heap.size w W ∧ (∀ k, k < 20 → W.cell? ⟨w.heap.size, k, none⟩ = some (.int .i64 (T k))) := by
    refine ⟨_, _, rfl, rfl, ?_, sbtr (sst1 _ _) (sst1 _ _), fun k hk => sc_later (sst1 _ _) (tab_hc w T k hk)⟩
    intro k hk
    have := cellIs_row (w.alloc (.cells (tabV T) 25)) #[.int .u8 0, .int .u8 0, .int .u8 0, .int .u8 0, .int .i64 0, .int .i64 0] 30 k _ (Array.getElem?_eq_getElem (by simpa using hk))
    rw [World.size_alloc] at this
    exact ⟨_, this⟩
  have hgw : w.heap.size ≤ g := by omega
  rw [← eW, ← eg]
  clear eW eg hra
  refine (HR.out _).mono ?_
  rintro e w1 ⟨rfl, hb1⟩
  have hB := sbtr hBW hb1
  have hra1 := range_later hc hb1
  have hO1 := fun k hk => (let ⟨v, hv⟩ := hO k hk; ⟨v, cellIs_later hb1 hv⟩ : ∃ v, CellIs w1 ⟨g, k, none⟩ v)
  clear hO hc hb1 HR hBW
  go_wp2_with (refine wpList_load_mid (by rfl) 25 (.tmp 4) (by rfl) w.heap.size 0 (by rfl) (tabV T).toList _ hra1 Try.underlying25 rfl hsz ?_; simp only [Array.toArray_toList])
  clear hra1
  refine (HF.out _).mono ?_
  rintro e w2 ⟨rfl, hb2⟩
  have hO2 := fun k hk => (let ⟨v, hv⟩ := hO1 k hk; ⟨v, cellIs_later (sbtr hb2 (sst1 _ _)) hv⟩ : ∃ v, CellIs (w2.alloc (.cells #[.int .u8 q4, .int .u8 q5, .int .u8 q1, .int .u8 q2, .int .i64 q3, .int .i64 0] 30)) ⟨g, k, none⟩ v)
  have hB3 := sbtr (sbtr hB hb2) (sst1 w2 (.cells #[.int .u8 q4, .int .u8 q5, .int .u8 q1, .int .u8 q2, .int .i64 q3, .int .i64 0] 30))
  obtain ⟨x0, o0, f0⟩ := hO2 0 (by omega)
  obtain ⟨x1, o1, f1⟩ := hO2 1 (by omega)
  obtain ⟨x2, o2, f2⟩ := hO2 2 (by omega)
  obtain ⟨x3, o3, f3⟩ := hO2 3 (by omega)
  obtain ⟨x4, o4, f4⟩ := hO2 4 (by omega)
  obtain ⟨x5, o5, f5⟩ := hO2 5 (by omega)
  clear hO1 hO2 hb2 hB HF
  go_wp2_with fail
  exact bodyPost_ret (v := .tuple #[.agg #[.int .u8 q4, .int .u8 q5, .int .u8 q1, .int .u8 q2, .int .i64 q3, .int .i64 0], .int .i64 q6, .int .i64 0]) (by simp [results, Try.results16, go_sem, o0, o1, o2, o3, o4, o5]) rfl ⟨rfl, (((((hB3.setCell (p := ⟨g, 0, none⟩) hgw _).setCell (p := ⟨g, 1, none⟩) hgw _).setCell (p := ⟨g, 2, none⟩) hgw _).setCell (p := ⟨g, 3, none⟩) hgw _).setCell (p := ⟨g, 4, none⟩) hgw _).setCell (p := ⟨g, 5, none⟩) hgw _⟩
end Go.Proofs.Ytfacmkelbjfffaa
