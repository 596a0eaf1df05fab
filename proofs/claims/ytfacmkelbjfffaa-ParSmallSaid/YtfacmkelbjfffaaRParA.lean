/- finesseref18: Right and Best. -/
import Derived.Test.YtfacmkelbjfffaaRScoC
import Derived.Test.YtfacmkelbjfffaaParM
namespace Go.Proofs.Ytfacmkelbjfffaa
open Go.RowKit
set_option linter.unusedVariables false
set_option linter.unusedSimpArgs false
set_option maxRecDepth 100000

def RRel1 (w : World) (T : Nat → Int) (i : Value) (wr : World) : Prop := ∃ k : Nat, k ≤ 5 ∧ i = .int .i64 k ∧ Sec (∀ m, m < 4 * k → 0 ≤ T m ∧ T m ≤ 13) ∧ TabAt wr w.heap.size T ∧ Below w.heap.size w wr
def RRel2 (w : World) (T : Nat → Int) (k : Nat) (i : Value) (wr : World) : Prop := ∃ j : Nat, j ≤ 4 ∧ i = .int .i64 j ∧ Sec (∀ m, m < 4 * k + j → 0 ≤ T m ∧ T m ≤ 13) ∧ TabAt wr w.heap.size T ∧ Below w.heap.size w wr
set_option maxHeartbeats 2000000 in
theorem rRight_ok (T : Nat → Int) (w : World) : Calls Try.prog 27 #[.agg (tabV T)] w fun e w' => e = .returned (.bool (rightT T)) ∧ Below w.heap.size w w' := by
  go_enter Try.func27, Try.ntmps27
  go_wp2_with fail
  obtain ⟨W, eW, hT0, hB0⟩ : ∃ W, W = w.alloc (.cells (tabV T) 63) ∧ TabAt W w.heap.size T ∧ Below w.heap.size w W := ⟨_, rfl, fun k hk => cellIs_row w (tabV T) _ k _ (tab_cells T k hk), sst1 _ _⟩
  rw [← eW]
  clear eW
  go_loopw [3] (fun i wr => RRel1 w T i wr) (fun i _ => 5 - (intOf i).toNat)
  case atStart => exact ⟨0, by omega, rfl, ⟨fun m hm => by omega⟩, hT0, hB0⟩
  case round =>
    obtain ⟨k, hk, rfl, hall, hT, hB⟩ := hrel
    by_cases hlt : k < 5
    · go_wp2_with fail
      go_loopw [4] (fun i wx => RRel2 w T k i wx) (fun i _ => 4 - (intOf i).toNat)
      case atStart => exact ⟨0, by omega, rfl, ⟨fun m hm => hall.out m (by omega)⟩, hT, hB⟩
      case round =>
        obtain ⟨j, hj, rfl, hin, hTx, hBx⟩ := hrel
        by_cases hlj : j < 4
        · have hc := (hTx (k * 4 + j) (by omega)).1
          have hkk : 4 * k + j < 20 := by omega
          have ekk : k * 4 + j = 4 * k + j := by omega
          have hbad := Sec.mk (fun h => rightT_bad (T := T) hkk h)
          have hgood : 0 ≤ T (4 * k + j) ∧ T (4 * k + j) ≤ 13 → Sec (∀ m, m < 4 * k + (j + 1) → 0 ≤ T m ∧ T m ≤ 13) := fun h => ⟨fun m hm => by
            by_cases e : m = 4 * k + j
            · rw [e]; exact h
            · exact hin.out m (by omega)⟩
          replace hgood := Sec.mk hgood
          have k0 : (0 : Int) ≤ (k : Int) := by omega
          have k5 : (k : Int) < 5 := by omega
          have j0 : (0 : Int) ≤ (j : Int) := by omega
          have j4 : (j : Int) < 4 := by omega
          rw [show T (k * 4 + j) = T (4 * k + j) by rw [ekk]] at hc
          replace hTx := Sec.mk hTx
          clear hall hin hkk ekk
          generalize T (4 * k + j) = x at *
          by_cases b1 : x < 0
          · go_wp2_with fail
            go_ret
            exact ⟨parret_b (hbad.out (.inl b1)).symm, hBx⟩
          · by_cases b2 : 13 < x
            · go_wp2_with fail
              go_ret
              exact ⟨parret_b (hbad.out (.inr b2)).symm, hBx⟩
            · go_wp2_with fail
              exact ⟨⟨j + 1, hlj, rfl, hgood.out (by omega), hTx.out, hBx⟩, by simp only [intOf]; omega⟩
        · go_wp2_with fail
          exact ⟨⟨k + 1, hlt, rfl, ⟨fun m hm => hin.out m (by omega)⟩, hTx, hBx⟩, by simp only [intOf]; omega⟩
    · go_wp2_with fail
      go_ret
      exact ⟨parret_b ((rightT_iff T).2 fun m hm => hall.out m (by omega)).symm, hB⟩
theorem rtab_box (w : World) (T : Nat → Int) (t : TypeId) : ∃ W g, W = w.alloc (.cells (tabV T) t) ∧ g = w.heap.size ∧ TabAt W g T ∧ Below w.heap.size w W :=
  ⟨_, _, rfl, rfl, fun k hk => cellIs_row w (tabV T) _ k _ (tab_cells T k hk), sst1 _ _⟩
theorem rtab_hra (w : World) (T : Nat → Int) (t : TypeId) : (w.alloc (.cells (tabV T) t)).rangeAt w.heap.size 0 (tabV T).toList := TabAt.range (fun k hk => cellIs_row w (tabV T) t k _ (tab_cells T k hk))
theorem rtab_hra2 (w : World) (T : Nat → Int) (t : TypeId) (o : Obj) : ((w.alloc (.cells (tabV T) t)).alloc o).rangeAt w.heap.size 0 (tabV T).toList := TabAt.range (TabAt.later (fun k hk => cellIs_row w (tabV T) t k _ (tab_cells T k hk)) (sst1 _ _))
set_option maxHeartbeats 2000000 in
theorem rBest_ok (T : Nat → Int) (d s : Nat) (w : World) (hT : rightT T = true) (hd : d ≤ 4) (hs : s ≤ 1) : Calls Try.prog 26 #[.agg (tabV T), .int .i64 d, .int .i64 s] w fun e w' =>
    e = .returned (.tuple #[.int .i64 (bestN T d s), .int .i64 (bestS T d s), .int .i64 0]) ∧ Below w.heap.size w w' := by
  have HR := Sec.mk fun w' => rRight_ok T w'
  have hsz : (Try.prog.info? 63).map (·.size) = some (tabV T).toList.length := by kernel_rfl
  rw [hT] at HR
  have d0 : (0 : Int) ≤ (d : Int) := by omega
  have d4 : (d : Int) < 5 := by omega
  have d1 : decide (4 < (d : Int)) = false := by simp; omega
  have s0 : (0 : Int) ≤ (s : Int) := by omega
  have s4 : (s : Int) < 4 := by omega
  have s5 : (s : Int) + 2 < 4 := by omega
  have s6 : (0 : Int) ≤ (s : Int) + 2 := by omega
  have s1 : decide (1 < (s : Int)) = false := by simp; omega
  unfold bestN bestS
  by_cases hlt : T (d * 4 + s) < T (d * 4 + (s + 2))
  all_goals
    first | simp only [if_pos hlt] | simp only [if_neg hlt]
    go_enter Try.func26, Try.ntmps26
    have hra := rtab_hra w T 63
    go_wp2_with (refine wpList_load_mid (by rfl) 63 (.tmp 3) (by rfl) w.heap.size 0 (by rfl) (tabV T).toList _ hra Try.underlying63 rfl hsz ?_; simp only [Array.toArray_toList])
    obtain ⟨W, g, eW, eg, hTW, hB⟩ := rtab_box w T 63
    rw [← eW, ← eg]
    clear eW eg hra
    refine (HR.out _).mono ?_
    rintro e w1 ⟨rfl, hb1⟩
    have hT1 := hTW.later hb1
    have hB1 := sbtr hB hb1
    have c0 := (hT1 (d * 4 + s) (by omega)).1
    have c1 := (hT1 (d * 4 + (s + 2)) (by omega)).1
    clear hTW hb1 hB HR hT1
    go_wp2_with fail
    go_quiet (fail)
    go_wp2_with fail
    go_ret3
    exact ⟨rfl, sc_drewN hB1 _⟩
set_option maxHeartbeats 2000000 in
theorem rBest_wrong (T : Nat → Int) (d s : Int) (w : World) (h : rightT T = false ∨ 4 < d ∨ 1 < s) : Calls Try.prog 26 #[.agg (tabV T), .int .i64 d, .int .i64 s] w fun e w' =>
    e = .returned (.tuple #[.int .i64 0, .int .i64 0, .int .i64 2]) ∧ Below w.heap.size w w' := by
  have HR := Sec.mk fun w' => rRight_ok T w'
  have hsz : (Try.prog.info? 63).map (·.size) = some (tabV T).toList.length := by kernel_rfl
  generalize rightT T = r at *
  go_enter Try.func26, Try.ntmps26
  have hra := rtab_hra w T 63
  go_wp2_with (refine wpList_load_mid (by rfl) 63 (.tmp 3) (by rfl) w.heap.size 0 (by rfl) (tabV T).toList _ hra Try.underlying63 rfl hsz ?_; simp only [Array.toArray_toList])
  obtain ⟨W, g, eW, eg, hTW, hB⟩ := rtab_box w T 63
  rw [← eW, ← eg]
  clear eW eg hra
  refine (HR.out _).mono ?_
  rintro e w1 ⟨rfl, hb1⟩
  have hB1 := sbtr hB hb1
  clear hTW hb1 hB HR
  cases r
  · clear h
    go_wp2_with fail
    go_ret3
    exact ⟨rfl, hB1⟩
  · by_cases h1 : 4 < d
    · clear h
      go_wp2_with fail
      go_ret3
      exact ⟨rfl, hB1⟩
    · have h2 : 1 < s := by simpa [h1] using h
      clear h
      go_wp2_with fail
      go_ret3
      exact ⟨rfl, hB1⟩
end Go.Proofs.Ytfacmkelbjfffaa
