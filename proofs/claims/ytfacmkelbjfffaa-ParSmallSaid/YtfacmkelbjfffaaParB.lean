/- par: final. -/
import Derived.Test.YtfacmkelbjfffaaParA
import Derived.Deep.MidRow
namespace Go.Proofs.Ytfacmkelbjfffaa
open Go.RowKit
set_option linter.unusedVariables false
set_option linter.unusedSimpArgs false

theorem rangeAt_tab (W : World) (T : Nat → Int) (g : Nat) (hc : ∀ k, k < 20 → W.cell? ⟨g, k, none⟩ = some (.int .i64 (T k))) : W.rangeAt g 0 (tabV T).toList := fun j v hv => by
  have hj : j < 20 := (List.getElem?_eq_some_iff.1 hv).1
  have e := tab_cells T j hj
  rw [Array.getElem?_toList] at hv
  rw [e] at hv
  cases hv
  rw [Nat.zero_add]; exact hc j hj
/-- What comes of a bid b of a side: level, denomination, risk, points. -/
def lev (b : Nat) : Nat := 1 + (b - 3) / 5
def den (b : Nat) : Nat := (b - 3) % 5
def riskZ (T : Nat → Int) (b s : Nat) : Int := if bestN T (den b) s < 6 + (lev b : Int) then 1 else 0
def finalZ (T : Nat → Int) (u : Int) (b s : Nat) : Int := scoreZ (lev b) (den b) (riskZ T b s) (bestS T (den b) s) (bestN T (den b) s) u
theorem bestN_bd {T : Nat → Int} (hT : ∀ k, k < 20 → 0 ≤ T k ∧ T k ≤ 13) {d s : Nat} (hd : d ≤ 4) (hs : s ≤ 1) : 0 ≤ bestN T d s ∧ bestN T d s ≤ 13 := by
  have h1 := hT (d * 4 + s) (by omega)
  have h2 := hT (d * 4 + (s + 2)) (by omega)
  unfold bestN; split <;> omega
theorem bestS_bd {T : Nat → Int} {d s : Nat} (hs : s ≤ 1) : 0 ≤ bestS T d s ∧ bestS T d s ≤ 3 := by unfold bestS; split <;> omega
set_option maxRecDepth 100000 in
set_option maxHeartbeats 2000000 in
theorem final_ok (T : Nat → Int) (u : Int) (b s : Nat) (w : World) (hT : ∀ k, k < 20 → 0 ≤ T k ∧ T k ≤ 13) (hu : 0 ≤ u ∧ u ≤ 3) (hb : 3 ≤ b ∧ b ≤ 37) (hs : s ≤ 1) : Calls Try.prog 24 #[.agg (tabV T), .int .u8 u, .int .u8 b, .int .u8 s] w fun e w' =>
    e = .returned (.tuple #[.agg #[.int .u8 (lev b), .int .u8 (den b), .int .u8 (riskZ T b s), .int .u8 (bestS T (den b) s), .int .i64 (bestN T (den b) s), .int .i64 0], .int .i64 (finalZ T u b s)]) ∧ Below w.heap.size w w' := by
  have HB := Sec.mk fun w' => best_ok T (den b) s w' (by unfold den; omega) hs
  have hl : 1 ≤ lev b ∧ lev b ≤ 7 := by unfold lev; omega
  have hd : den b ≤ 4 := by unfold den; omega
  have hnb := bestN_bd hT hd hs
  have hsb := bestS_bd (T := T) (d := den b) hs
  have hok : okC (lev b) (den b) (riskZ T b s) (bestS T (den b) s) := ⟨by omega, by omega, by unfold riskZ; split <;> omega, hsb⟩
  have HS := Sec.mk fun w' => score_ok (lev b) (den b) (riskZ T b s) (bestS T (den b) s) (bestN T (den b) s) u w' hok hnb hu
  have e1 : (1 : Int) + ((b : Int) - 3) / 5 = (lev b : Int) := by unfold lev; omega
  have e2 : ((b : Int) - 3) % 5 = (den b : Int) := by unfold den; omega
  unfold finalZ
  generalize scoreZ (lev b) (den b) (riskZ T b s) (bestS T (den b) s) (bestN T (den b) s) u = Z at *
  unfold riskZ at HS ⊢
  clear hok
  generalize bestN T (den b) s = n at *
  generalize bestS T (den b) s = q at *
  have hra := fun X => rangeAt_tab ((w.alloc (.cells (tabV T) 25)).alloc X) T w.heap.size (fun k hk => sc_later (sst1 _ _) ((cell_of_row _ _ _ _ _ _ (heap_alloc_new w _)).trans (tab_cells T k hk)))
  have hsz : (Try.prog.info? 25).map (·.size) = some (tabV T).toList.length := by kernel_rfl
  obtain ⟨ρ, hρ, hcase⟩ : ∃ ρ : Int, (if n < 6 + (lev b : Int) then (1 : Int) else 0) = ρ ∧ ((n < 6 + (lev b : Int) ∧ ρ = 1) ∨ (¬ n < 6 + (lev b : Int) ∧ ρ = 0)) := by
    by_cases h : n < 6 + (lev b : Int)
    · exact ⟨1, if_pos h, .inl ⟨h, rfl⟩⟩
    · exact ⟨0, if_neg h, .inr ⟨h, rfl⟩⟩
  rw [hρ] at HS ⊢
  clear hρ
  go_enter Try.func24, Try.ntmps24
  go_wp2_with (refine wpList_load_mid (by rfl) 25 (.tmp 4) (by rfl) w.heap.size 0 (by rfl) (tabV T).toList _ (hra _) Try.underlying25 rfl hsz ?_; simp only [Array.toArray_toList])
  obtain ⟨W, g, eW, eg, hO, hBW⟩ : ∃ W g, W = (w.alloc (.cells (tabV T) 25)).alloc (.cells #[.int .u8 0, .int .u8 0, .int .u8 0, .int .u8 0, .int .i64 0, .int .i64 0] 30) ∧ g = w.heap.size + 1 ∧ (∀ k, k < 6 → (∃ v, W.cell? ⟨g, k, none⟩ = some v) ∧ W.frozen? ⟨g, k, none⟩ = false) ∧ Below w.heap.size w W := by
    refine ⟨_, _, rfl, rfl, ?_, sbtr (sst1 _ _) (sst1 _ _)⟩
    intro k hk
    match k, hk with
    | 0, _ => exact ⟨⟨.int .u8 0, by go_simp⟩, by go_simp⟩
    | 1, _ => exact ⟨⟨.int .u8 0, by go_simp⟩, by go_simp⟩
    | 2, _ => exact ⟨⟨.int .u8 0, by go_simp⟩, by go_simp⟩
    | 3, _ => exact ⟨⟨.int .u8 0, by go_simp⟩, by go_simp⟩
    | 4, _ => exact ⟨⟨.int .i64 0, by go_simp⟩, by go_simp⟩
    | 5, _ => exact ⟨⟨.int .i64 0, by go_simp⟩, by go_simp⟩
  have hgw : w.heap.size ≤ g := by omega
  rw [← eW, ← eg]
  clear eW eg hra
  refine (HB.out _).mono ?_
  rintro e w1 ⟨rfl, hb1⟩
  have hO1 := fun k hk => (show (∃ v, w1.cell? ⟨g, k, none⟩ = some v) ∧ w1.frozen? ⟨g, k, none⟩ = false from by
    obtain ⟨⟨v, hv⟩, hf⟩ := hO k hk
    exact ⟨⟨v, sc_later hb1 hv⟩, (World.frozen?_of_block (hb1.block _ (World.block_lt_of_cell? _ _ hv))).trans hf⟩)
  have hB1 := sbtr hBW hb1
  clear hO hb1 hBW HB
  rcases hcase with ⟨hlt, rfl⟩ | ⟨hlt, rfl⟩
  · go_wp2_with fail
    obtain ⟨W2, g2, e3, e4, P, hB2⟩ := box4 w1 (lev b) (den b) 1 q
    rw [← e3, ← e4]
    clear e3 e4
    refine (HS.out _).mono ?_
    rintro e w2 ⟨rfl, hb2⟩
    obtain ⟨c0, c1, c2, c3⟩ := P.later hb2
    have hb12 := sbtr hB2 hb2
    have hB3 := sbtr hB1 hb12
    have hO2 := fun k hk => (show (∃ v, w2.cell? ⟨g, k, none⟩ = some v) ∧ w2.frozen? ⟨g, k, none⟩ = false from by
      obtain ⟨⟨v, hv⟩, hf⟩ := hO1 k hk
      exact ⟨⟨v, sc_later hb12 hv⟩, (World.frozen?_of_block (hb12.block _ (World.block_lt_of_cell? _ _ hv))).trans hf⟩)
    obtain ⟨⟨x0, o0⟩, f0⟩ := hO2 0 (by omega)
    obtain ⟨⟨x1, o1⟩, f1⟩ := hO2 1 (by omega)
    obtain ⟨⟨x2, o2⟩, f2⟩ := hO2 2 (by omega)
    obtain ⟨⟨x3, o3⟩, f3⟩ := hO2 3 (by omega)
    obtain ⟨⟨x4, o4⟩, f4⟩ := hO2 4 (by omega)
    obtain ⟨⟨x5, o5⟩, f5⟩ := hO2 5 (by omega)
    clear hO1 hO2 hb2 hB2 hb12 P HS
    go_wp2_with fail
    exact bodyPost_ret (v := .tuple #[.agg #[.int .u8 (lev b), .int .u8 (den b), .int .u8 1, .int .u8 q, .int .i64 n, .int .i64 0], .int .i64 Z]) (by simp [results, Try.results24, go_sem, o0, o1, o2, o3, o4, o5]) rfl ⟨rfl, (((((hB3.setCell (p := ⟨g, 0, none⟩) hgw _).setCell (p := ⟨g, 1, none⟩) hgw _).setCell (p := ⟨g, 2, none⟩) hgw _).setCell (p := ⟨g, 3, none⟩) hgw _).setCell (p := ⟨g, 4, none⟩) hgw _).setCell (p := ⟨g, 5, none⟩) hgw _⟩
  · go_wp2_with fail
    obtain ⟨W2, g2, e3, e4, P, hB2⟩ := box4 w1 (lev b) (den b) 0 q
    rw [← e3, ← e4]
    clear e3 e4
    refine (HS.out _).mono ?_
    rintro e w2 ⟨rfl, hb2⟩
    obtain ⟨c0, c1, c2, c3⟩ := P.later hb2
    have hb12 := sbtr hB2 hb2
    have hB3 := sbtr hB1 hb12
    have hO2 := fun k hk => (show (∃ v, w2.cell? ⟨g, k, none⟩ = some v) ∧ w2.frozen? ⟨g, k, none⟩ = false from by
      obtain ⟨⟨v, hv⟩, hf⟩ := hO1 k hk
      exact ⟨⟨v, sc_later hb12 hv⟩, (World.frozen?_of_block (hb12.block _ (World.block_lt_of_cell? _ _ hv))).trans hf⟩)
    obtain ⟨⟨x0, o0⟩, f0⟩ := hO2 0 (by omega)
    obtain ⟨⟨x1, o1⟩, f1⟩ := hO2 1 (by omega)
    obtain ⟨⟨x2, o2⟩, f2⟩ := hO2 2 (by omega)
    obtain ⟨⟨x3, o3⟩, f3⟩ := hO2 3 (by omega)
    obtain ⟨⟨x4, o4⟩, f4⟩ := hO2 4 (by omega)
    obtain ⟨⟨x5, o5⟩, f5⟩ := hO2 5 (by omega)
    clear hO1 hO2 hb2 hB2 hb12 P HS
    go_wp2_with fail
    exact bodyPost_ret (v := .tuple #[.agg #[.int .u8 (lev b), .int .u8 (den b), .int .u8 0, .int .u8 q, .int .i64 n, .int .i64 0], .int .i64 Z]) (by simp [results, Try.results24, go_sem, o0, o1, o2, o3, o4, o5]) rfl ⟨rfl, (((((hB3.setCell (p := ⟨g, 0, none⟩) hgw _).setCell (p := ⟨g, 1, none⟩) hgw _).setCell (p := ⟨g, 2, none⟩) hgw _).setCell (p := ⟨g, 3, none⟩) hgw _).setCell (p := ⟨g, 4, none⟩) hgw _).setCell (p := ⟨g, 5, none⟩) hgw _⟩
end Go.Proofs.Ytfacmkelbjfffaa
