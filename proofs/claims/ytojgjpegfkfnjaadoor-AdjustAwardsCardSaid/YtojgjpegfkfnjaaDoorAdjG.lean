/- adjust: Sides. -/
import Derived.Test.YtojgjpegfkfnjaaDoorAdjF
namespace Go.Proofs.YtojgjpegfkfnjaaDoor
open Go.RowKit
set_option linter.unusedVariables false
set_option linter.unusedSimpArgs false
set_option maxRecDepth 100000

/-- What both sides get: North and South, and what is turned for East and West. -/
def sideN (e : En) (u : Int) : List (Int × Int) := if e.k = 2 then partsO (e.outs.take (wtN e.outs)) u else [(oneZ e.o0 u, 100)]
def sideO (e : En) (u : Int) : List (Int × Int) := if e.k = 3 then [(oneZ e.o1 u, 100)] else sideN e u
/-- The result of Sides: both results lie apart. -/
def SidesPost (w : World) (e : En) (u : Int) (x : Ending) (w' : World) : Prop :=
  Below w.heap.size w w' ∧ ∃ A c v base, x = .returned (.tuple #[.slice A (sideN e u).length c, v, .int .i64 0]) ∧ Parts w' A (sideN e u) ∧ (∀ a, A = some a → w.heap.size ≤ a.block ∧ a.block < base) ∧ w.heap.size ≤ base ∧ w'.ownsRow base 47 2 v ((sideO e u).map turnP).length (partCells ((sideO e u).map turnP))
theorem own_block_lt {w : World} {base : Nat} {e : TypeId} {size n c : Nat} {A : Option Addr} {xs : List Value} (h : w.ownsRow base e size (.slice A n c) n xs) : ∀ a, A = some a → a.block < w.heap.size := by
  intro a ha
  rcases h.2 with ⟨e1, -⟩ | ⟨g, cap, cur, e1, _, hg, _⟩
  · simp only [Value.slice.injEq] at e1; rw [e1.1] at ha; cases ha
  · simp only [Value.slice.injEq] at e1
    rw [e1.1] at ha
    cases ha
    exact (Array.getElem?_eq_some_iff.1 hg).1
theorem oc0_cells {W : World} {g : Nat} {e : En} (h : RowAt W g (enV e)) : W.cell? ⟨g, 7, none⟩ = some (.int .u8 e.o0.l) ∧ W.cell? ⟨g, 8, none⟩ = some (.int .u8 e.o0.d) ∧ W.cell? ⟨g, 9, none⟩ = some (.int .u8 e.o0.r) ∧ W.cell? ⟨g, 10, none⟩ = some (.int .u8 e.o0.s) ∧ W.cell? ⟨g, 11, none⟩ = some (.int .i64 e.o0.n) ∧ W.cell? ⟨g, 12, none⟩ = some (.int .i64 e.o0.wt) :=
  ⟨en_cell h 7 _ rfl, en_cell h 8 _ rfl, en_cell h 9 _ rfl, en_cell h 10 _ rfl, en_cell h 11 _ rfl, en_cell h 12 _ rfl⟩
theorem oc1_cells {W : World} {g : Nat} {e : En} (h : RowAt W g (enV e)) : W.cell? ⟨g, 13, none⟩ = some (.int .u8 e.o1.l) ∧ W.cell? ⟨g, 14, none⟩ = some (.int .u8 e.o1.d) ∧ W.cell? ⟨g, 15, none⟩ = some (.int .u8 e.o1.r) ∧ W.cell? ⟨g, 16, none⟩ = some (.int .u8 e.o1.s) ∧ W.cell? ⟨g, 17, none⟩ = some (.int .i64 e.o1.n) ∧ W.cell? ⟨g, 18, none⟩ = some (.int .i64 e.o1.wt) :=
  ⟨en_cell h 13 _ rfl, en_cell h 14 _ rfl, en_cell h 15 _ rfl, en_cell h 16 _ rfl, en_cell h 17 _ rfl, en_cell h 18 _ rfl⟩
set_option maxHeartbeats 2000000 in
theorem Sides_wrong (e : En) (u : Int) (w : World) (he : e.ok) (hSh : Shares w) (h : rightE e = false ∨ 3 < u) : Calls Tryd.prog 10 #[.agg (enV e), .int .u8 u] w fun x w' => x = .returned (.tuple #[.slice none 0 0, .slice none 0 0, .int .i64 2]) ∧ Below w.heap.size w w' := by
  have HR := Sec.mk fun w' h => Right_en e w' he h
  have hra := en_hra w e
  have hsz := en_sz e
  clear he
  generalize rightE e = R at *
  go_enter Tryd.func10, Tryd.ntmps10
  go_wp2_with (refine wpList_load_mid (by rfl) 29 (.tmp 2) (by rfl) w.heap.size 0 (by rfl) (enV e).toList _ hra Tryd.underlying29 rfl hsz ?_; simp only [Array.toArray_toList])
  obtain ⟨W, g, e1, e2, P, hB0⟩ := en_box w e
  rw [← e1, ← e2]
  clear e1 e2 hra
  refine (HR.out _ (hSh.later hB0)).mono ?_
  rintro x w1 ⟨rfl, hb1⟩
  have hB1 := sbtr hB0 hb1
  clear P hB0 hb1 HR hSh
  cases R
  · clear h
    go_wp2_with fail
    go_ret3
    exact ⟨rfl, hB1⟩
  · have h3 : 3 < u := by simpa using h
    clear h
    go_wp2_with fail
    go_ret3
    exact ⟨rfl, hB1⟩
set_option maxHeartbeats 2000000 in
theorem Sides_none (e : En) (u : Int) (w : World) (he : e.ok) (hSh : Shares w) (h : rightE e = true) (hu : 0 ≤ u ∧ u ≤ 3) (hk : e.k = 0 ∨ e.k = 4) : Calls Tryd.prog 10 #[.agg (enV e), .int .u8 u] w fun x w' => x = .returned (.tuple #[.slice none 0 0, .slice none 0 0, .int .i64 6]) ∧ Below w.heap.size w w' := by
  have HR := Sec.mk fun w' h => Right_en e w' he h
  have hra := en_hra w e
  have hsz := en_sz e
  rw [h] at HR
  clear he h
  obtain ⟨u0, u3⟩ := hu
  have hc4 : (enC e)[4]? = some (.int .u8 e.k) := rfl
  generalize e.k = x at *
  rcases hk with rfl | rfl
  all_goals
    go_enter Tryd.func10, Tryd.ntmps10
    go_wp2_with (refine wpList_load_mid (by rfl) 29 (.tmp 2) (by rfl) w.heap.size 0 (by rfl) (enV e).toList _ hra Tryd.underlying29 rfl hsz ?_; simp only [Array.toArray_toList])
    obtain ⟨W, g, e1, e2, P, hB0⟩ := en_box w e
    rw [← e1, ← e2]
    clear e1 e2 hra
    refine (HR.out _ (hSh.later hB0)).mono ?_
    rintro x w1 ⟨rfl, hb1⟩
    have hB1 := sbtr hB0 hb1
    have c4 := en_cell (P.later hb1) _ _ hc4
    clear P hB0 hb1 HR hSh hc4
    go_wp2_with fail
    go_ret3
    exact ⟨rfl, hB1⟩
set_option maxHeartbeats 2000000 in
theorem Sides_right (e : En) (u : Int) (w : World) (he : e.ok) (hSh : Shares w) (h : rightE e = true) (hu : 0 ≤ u ∧ u ≤ 3) (hk : e.k = 1 ∨ e.k = 2 ∨ e.k = 3) : Calls Tryd.prog 10 #[.agg (enV e), .int .u8 u] w (SidesPost w e u) := by
  have HR := Sec.mk fun w' h => Right_en e w' he h
  have hra := en_hra w e
  have hsz := en_sz e
  have hkB : kindB e = true := by unfold rightE at h; simp only [Bool.and_eq_true] at h; exact h.1.2
  rw [h] at HR
  have H0 := Sec.mk fun w' => adjOne_any e.o0 u w' he.2.2.2.2.2.2.1 (by omega)
  have H1 := Sec.mk fun w' => adjOne_any e.o1 u w' he.2.2.2.2.2.2.2.1 (by omega)
  have hz0 := Sec.mk (one_right (oneZ_small u he.2.2.2.2.2.2.1))
  have hz1 := Sec.mk (one_right (oneZ_small u he.2.2.2.2.2.2.2.1))
  have hu' := Sec.mk hu
  obtain ⟨u0, u3⟩ := hu
  have hc4 : (enC e)[4]? = some (.int .u8 e.k) := rfl
  unfold SidesPost sideO sideN
  obtain ⟨x, hx⟩ : ∃ x, e.k = x := ⟨_, rfl⟩
  rw [hx] at hc4 hk ⊢
  rcases hk with rfl | rfl | rfl
  · simp only [Int.reduceEq, if_false]
    clear hkB he hx h H1 hz1 hu'
    generalize oneZ e.o0 u = z at *
    go_enter Tryd.func10, Tryd.ntmps10
    go_wp2_with (refine wpList_load_mid (by rfl) 29 (.tmp 2) (by rfl) w.heap.size 0 (by rfl) (enV e).toList _ hra Tryd.underlying29 rfl hsz ?_; simp only [Array.toArray_toList])
    obtain ⟨W, g, e1, e2, P, hB0⟩ := en_box w e
    rw [← e1, ← e2]
    clear e1 e2 hra
    refine (HR.out _ (hSh.later hB0)).mono ?_
    rintro x w1 ⟨rfl, hb1⟩
    have hB1 := sbtr hB0 hb1
    have c4 := en_cell (P.later hb1) _ _ hc4
    obtain ⟨c0, c1, c2, c3, d4, c5⟩ := oc0_cells (P.later hb1)
    clear P hB0 hb1 HR hSh hc4
    go_wp2_with fail
    refine (H0.out _).mono ?_
    rintro x w2 ⟨⟨G, rfl, hg1, hg2, hp⟩, hb2⟩
    have HT := Sec.mk (Turn_right (some ⟨G, 0, none⟩) 1 [(z, 100)] w2 hp hz0.out)
    have hB2 := sbtr hB1 hb2
    have hp' := Sec.mk hp
    have hg1' := Nat.le_trans hB1.size hg1
    clear hp hb2 H0 c4 c0 c1 c2 c3 d4 c5
    go_wp2_with fail
    refine HT.out.mono ?_
    rintro x w3 ⟨v, rfl, hown, hb3⟩
    have hO := Sec.mk hown
    clear hown HT
    go_wp2_with fail
    go_ret3
    exact ⟨sbtr hB2 hb3, _, 1, v, w2.heap.size, rfl, hp'.out.later hb3, fun a ha => by cases ha; exact ⟨hg1', hg2⟩, hB2.size, hO.out⟩
  · simp only [Int.reduceEq, if_false, if_true]
    have hwt : wtdB e = true := by unfold kindB at hkB; rw [hx] at hkB; simpa using hkB
    have hW := Sec.mk (wtd_right he hu'.out hwt)
    have hN4 := wtN_le e
    have HWt := Sec.mk fun w' => weighted_any e w'
    have hoks := outs_ok_take he (wtN e.outs)
    clear hkB hx h H0 H1 hz0 hz1 hwt he
    generalize wtN e.outs = N at *
    have hlen : (e.outs.take N).length = N := by rw [List.length_take, outs_len]; omega
    have HWe0 := fun W g (P : RowAt W g (enV e)) => Weighted_any (some ⟨g, 7, none⟩) 4 (e.outs.take N) u W (by simpa using (ocs_en P 0).take N) (by omega) hoks (by omega)
    rw [hlen] at HWe0
    have HWe := Sec.mk HWe0
    have hRr : Sec (rightR (partsO (e.outs.take N) u) = true) := ⟨by have := hW.out; unfold okW at this; simp only [Bool.and_eq_true] at this; exact this.2⟩
    have n0 : (0 : Int) ≤ (N : Int) := by omega
    have n4 : (N : Int) ≤ 4 := by omega
    clear HWe0 hlen hoks
    generalize e.outs.take N = l at *
    go_enter Tryd.func10, Tryd.ntmps10
    go_wp2_with (refine wpList_load_mid (by rfl) 29 (.tmp 2) (by rfl) w.heap.size 0 (by rfl) (enV e).toList _ hra Tryd.underlying29 rfl hsz ?_; simp only [Array.toArray_toList])
    obtain ⟨W, g, e1, e2, P, hB0⟩ := en_box w e
    rw [← e1, ← e2]
    clear e1 e2 hra
    refine (HR.out _ (hSh.later hB0)).mono ?_
    rintro x w1 ⟨rfl, hb1⟩
    have hB1 := sbtr hB0 hb1
    have P1 := P.later hb1
    have c4 := en_cell P1 _ _ hc4
    clear P hB0 hb1 HR hSh hc4
    have P1' := Sec.mk P1
    have hra := P1.range
    clear P1
    go_wp2_with (refine wpList_load_mid (by rfl) 29 (.tmp 2) (by rfl) g 0 (by rfl) (enV e).toList _ hra Tryd.underlying29 rfl hsz ?_; simp only [Array.toArray_toList])
    clear hra
    refine (HWt.out _).mono ?_
    rintro x w2 ⟨rfl, hb2⟩
    have P2 := Sec.mk (P1'.out.later hb2)
    have hB2 := sbtr hB1 hb2
    clear HWt P1' hb2
    go_wp2_with fail
    refine (HWe.out _ _ P2.out).mono ?_
    rintro x w3 ⟨hb3, hpost⟩
    obtain ⟨v, rfl, hown⟩ : ∃ v, x = .returned (.tuple #[v, .int .i64 0]) ∧ w3.ownsRow w2.heap.size 47 2 v (partsO l u).length (partCells (partsO l u)) := by
      rcases hpost with ⟨-, h⟩ | ⟨h, -⟩
      · exact h
      · rw [hW.out] at h; cases h
    obtain ⟨A, c, rfl, hPa, hbase⟩ := parts_of_own hown
    have hlt : ∀ a, A = some a → a.block < w3.heap.size := own_block_lt hown
    have HT := Sec.mk (Turn_right A c (partsO l u) w3 hPa hRr.out)
    have hB3 := sbtr hB2 hb3
    have hle := hB2.size
    have hPa' := Sec.mk hPa
    have hbl := Sec.mk (show ∀ a, A = some a → w.heap.size ≤ a.block ∧ a.block < w3.heap.size from fun a ha => ⟨Nat.le_trans hle (hbase a ha), hlt a ha⟩)
    clear hown hPa hbase hlt HWe P2 hb3 hW c4
    go_wp2_with fail
    refine HT.out.mono ?_
    rintro x w4 ⟨v, rfl, hown, hb4⟩
    have hO := Sec.mk hown
    clear hown HT
    go_wp2_with fail
    go_ret3
    exact ⟨sbtr hB3 hb4, A, c, v, w3.heap.size, rfl, hPa'.out.later hb4, hbl.out, hB3.size, hO.out⟩
  · simp only [Int.reduceEq, if_false, if_true]
    clear hkB he hx h hu'
    generalize oneZ e.o0 u = z at *
    generalize oneZ e.o1 u = z1 at *
    go_enter Tryd.func10, Tryd.ntmps10
    go_wp2_with (refine wpList_load_mid (by rfl) 29 (.tmp 2) (by rfl) w.heap.size 0 (by rfl) (enV e).toList _ hra Tryd.underlying29 rfl hsz ?_; simp only [Array.toArray_toList])
    obtain ⟨W, g, e1, e2, P, hB0⟩ := en_box w e
    rw [← e1, ← e2]
    clear e1 e2 hra
    refine (HR.out _ (hSh.later hB0)).mono ?_
    rintro x w1 ⟨rfl, hb1⟩
    have hB1 := sbtr hB0 hb1
    have P1 := P.later hb1
    have c4 := en_cell P1 _ _ hc4
    clear P hB0 hb1 HR hSh hc4
    have hcs := Sec.mk (show (∀ W', RowAt W' g (enV e) → W'.cell? ⟨g, 7, none⟩ = some (.int .u8 e.o0.l) ∧ W'.cell? ⟨g, 8, none⟩ = some (.int .u8 e.o0.d) ∧ W'.cell? ⟨g, 9, none⟩ = some (.int .u8 e.o0.r) ∧ W'.cell? ⟨g, 10, none⟩ = some (.int .u8 e.o0.s) ∧ W'.cell? ⟨g, 11, none⟩ = some (.int .i64 e.o0.n) ∧ W'.cell? ⟨g, 12, none⟩ = some (.int .i64 e.o0.wt) ∧ W'.cell? ⟨g, 13, none⟩ = some (.int .u8 e.o1.l) ∧ W'.cell? ⟨g, 14, none⟩ = some (.int .u8 e.o1.d) ∧ W'.cell? ⟨g, 15, none⟩ = some (.int .u8 e.o1.r) ∧ W'.cell? ⟨g, 16, none⟩ = some (.int .u8 e.o1.s) ∧ W'.cell? ⟨g, 17, none⟩ = some (.int .i64 e.o1.n) ∧ W'.cell? ⟨g, 18, none⟩ = some (.int .i64 e.o1.wt)) from fun W' h => by
      obtain ⟨a0, a1, a2, a3, a4, a5⟩ := oc0_cells h
      obtain ⟨b0, b1, b2, b3, b4, b5⟩ := oc1_cells h
      exact ⟨a0, a1, a2, a3, a4, a5, b0, b1, b2, b3, b4, b5⟩)
    have P1' := Sec.mk P1
    clear P1
    generalize e.o0 = oa at *
    generalize e.o1 = ob at *
    obtain ⟨x0, x1, x2, x3, x4, x5⟩ := oa
    obtain ⟨y0, y1, y2, y3, y4, y5⟩ := ob
    dsimp only at hcs H0 H1
    go_upto_region 13 with fail
    refine wp_region_held_drew (S := fun w' => w'.cell? ⟨g, 7, none⟩ = some (.int .u8 x0) ∧ w'.cell? ⟨g, 8, none⟩ = some (.int .u8 x1) ∧ w'.cell? ⟨g, 9, none⟩ = some (.int .u8 x2) ∧ w'.cell? ⟨g, 10, none⟩ = some (.int .u8 x3) ∧ w'.cell? ⟨g, 11, none⟩ = some (.int .i64 x4) ∧ w'.cell? ⟨g, 12, none⟩ = some (.int .i64 x5) ∧ w'.cell? ⟨g, 13, none⟩ = some (.int .u8 y0) ∧ w'.cell? ⟨g, 14, none⟩ = some (.int .u8 y1) ∧ w'.cell? ⟨g, 15, none⟩ = some (.int .u8 y2) ∧ w'.cell? ⟨g, 16, none⟩ = some (.int .u8 y3) ∧ w'.cell? ⟨g, 17, none⟩ = some (.int .i64 y4) ∧ w'.cell? ⟨g, 18, none⟩ = some (.int .i64 y5)) (by kernel_rfl) (hcs.out _ P1'.out) (fun hHeld => ?_)
    refine wpAnyH_take (i := 0) (oi := ⟨some 42, _, _, _, _, _⟩) (v := ?_) rfl (by kernel_rfl) (by kernel_rfl) (by kernel_rfl) (fun _ _ _ h => h) (Or.inl ⟨rfl, ?_⟩) hHeld ?_
    case refine_2 => (intro w hS; (iterate 14 (try obtain ⟨_, hS⟩ := hS)); go_simp; try with_reducible rfl)
    try simp only [Act.put, List.setIfInBounds_toArray, List.set_cons_zero, List.set_cons_succ]
    refine wpAnyH_take (i := 1) (oi := ⟨some 43, _, _, _, _, _⟩) (v := ?_) rfl (by kernel_rfl) (by kernel_rfl) (by kernel_rfl) (fun _ _ _ h => h) (Or.inl ⟨rfl, ?_⟩) hHeld ?_
    case refine_2 => (intro w hS; (iterate 14 (try obtain ⟨_, hS⟩ := hS)); go_simp; try with_reducible rfl)
    try simp only [Act.put, List.setIfInBounds_toArray, List.set_cons_zero, List.set_cons_succ]
    refine wpAnyH_take (i := 2) (oi := ⟨some 44, _, _, _, _, _⟩) (v := ?_) rfl (by kernel_rfl) (by kernel_rfl) (by kernel_rfl) (fun _ _ _ h => h) (Or.inl ⟨rfl, ?_⟩) hHeld ?_
    case refine_2 => (intro w hS; (iterate 14 (try obtain ⟨_, hS⟩ := hS)); go_simp; try with_reducible rfl)
    try simp only [Act.put, List.setIfInBounds_toArray, List.set_cons_zero, List.set_cons_succ]
    refine wpAnyH_take (i := 3) (oi := ⟨some 45, _, _, _, _, _⟩) (v := ?_) rfl (by kernel_rfl) (by kernel_rfl) (by kernel_rfl) (fun _ _ _ h => h) (Or.inl ⟨rfl, ?_⟩) hHeld ?_
    case refine_2 => (intro w hS; (iterate 14 (try obtain ⟨_, hS⟩ := hS)); go_simp; try with_reducible rfl)
    try simp only [Act.put, List.setIfInBounds_toArray, List.set_cons_zero, List.set_cons_succ]
    refine wpAnyH_take (i := 5) (oi := ⟨some 47, _, _, _, _, _⟩) (v := ?_) rfl (by kernel_rfl) (by kernel_rfl) (by kernel_rfl) (fun _ _ _ h => h) (Or.inl ⟨rfl, ?_⟩) hHeld ?_
    case refine_2 => (intro w hS; (iterate 14 (try obtain ⟨_, hS⟩ := hS)); go_simp; try with_reducible rfl)
    try simp only [Act.put, List.setIfInBounds_toArray, List.set_cons_zero, List.set_cons_succ]
    refine wpAnyH_take (i := 6) (oi := ⟨some 48, _, _, _, _, _⟩) (v := ?_) rfl (by kernel_rfl) (by kernel_rfl) (by kernel_rfl) (fun _ _ _ h => h) (Or.inl ⟨rfl, ?_⟩) hHeld ?_
    case refine_2 => (intro w hS; (iterate 14 (try obtain ⟨_, hS⟩ := hS)); go_simp; try with_reducible rfl)
    try simp only [Act.put, List.setIfInBounds_toArray, List.set_cons_zero, List.set_cons_succ]
    refine wpAnyH_take (i := 7) (oi := ⟨some 49, _, _, _, _, _⟩) (v := ?_) rfl (by kernel_rfl) (by kernel_rfl) (by kernel_rfl) (fun _ _ _ h => h) (Or.inl ⟨rfl, ?_⟩) hHeld ?_
    case refine_2 => (intro w hS; (iterate 14 (try obtain ⟨_, hS⟩ := hS)); go_simp; try with_reducible rfl)
    try simp only [Act.put, List.setIfInBounds_toArray, List.set_cons_zero, List.set_cons_succ]
    refine wpAnyH_take (i := 8) (oi := ⟨some 50, _, _, _, _, _⟩) (v := ?_) rfl (by kernel_rfl) (by kernel_rfl) (by kernel_rfl) (fun _ _ _ h => h) (Or.inl ⟨rfl, ?_⟩) hHeld ?_
    case refine_2 => (intro w hS; (iterate 14 (try obtain ⟨_, hS⟩ := hS)); go_simp; try with_reducible rfl)
    try simp only [Act.put, List.setIfInBounds_toArray, List.set_cons_zero, List.set_cons_succ]
    refine wpAnyH_ready (rs := [4]) (by kernel_rfl) (by simp) ?_
    refine AllReadyH.cons (o := _) rfl (fun K hK => ?_) AllReadyH.nil
    go_simp
    with_reducible refine (H0.out _).mono ?_
    rintro x w2 ⟨⟨G, rfl, hg1, hg2, hp⟩, hb2⟩
    have hbx : Below w1.heap.size w1 w2 := sbtr (Below.refl _ _).drew hb2
    have hg1 : w1.heap.size ≤ G := hg1
    refine hK.out _ _ (hcs.out _ (P1'.out.later hbx)) (fun hHeld2 => ?_)
    clear hK K hHeld H0
    refine wpAnyH_ready (rs := [9]) (by kernel_rfl) (by simp) ?_
    refine AllReadyH.cons (o := _) rfl (fun K hK => ?_) AllReadyH.nil
    go_simp
    with_reducible refine (H1.out _).mono ?_
    rintro x w3 ⟨⟨G2, rfl, hg3, hg4, hp2⟩, hb3⟩
    have hbx3 : Below w1.heap.size w1 w3 := sbtr hbx hb3
    refine hK.out _ _ (hcs.out _ (P1'.out.later hbx3)) (fun hHeld3 => ?_)
    clear hK K hHeld2 H1
    refine wpAnyH_take (i := 10) (oi := ⟨some 7, _, _, _, _, _⟩) (v := ?_) rfl (by kernel_rfl) (by kernel_rfl) (by kernel_rfl) (fun _ _ _ h => h) (Or.inl ⟨rfl, ?_⟩) hHeld3 ?_
    case refine_2 => (intro w hS; (iterate 14 (try obtain ⟨_, hS⟩ := hS)); go_simp; try with_reducible rfl)
    try simp only [Act.put, List.setIfInBounds_toArray, List.set_cons_zero, List.set_cons_succ]
    refine wpAnyH_take (i := 11) (oi := ⟨some 8, _, _, _, _, _⟩) (v := ?_) rfl (by kernel_rfl) (by kernel_rfl) (by kernel_rfl) (fun _ _ _ h => h) (Or.inl ⟨rfl, ?_⟩) hHeld3 ?_
    case refine_2 => (intro w hS; (iterate 14 (try obtain ⟨_, hS⟩ := hS)); go_simp; try with_reducible rfl)
    try simp only [Act.put, List.setIfInBounds_toArray, List.set_cons_zero, List.set_cons_succ]
    refine wpAnyH_done (by kernel_rfl) ?_ _
    have HT := Sec.mk (Turn_right (some ⟨G2, 0, none⟩) 1 [(z1, 100)] w3 hp2 hz1.out)
    have hB3 := sbtr hB1 hbx3
    have hp' := Sec.mk (hp.later hb3)
    have hg1' := Nat.le_trans hB1.size hg1
    have hg2' : G < w3.heap.size := Nat.lt_of_lt_of_le hg2 hb3.size
    clear hp hp2 hb2 hb3 hbx hbx3 hHeld3 c4 hcs P1' hg1 hg2 hg3 hg4
    go_wp2_with fail
    refine HT.out.mono ?_
    rintro x w4 ⟨v, rfl, hown, hb4⟩
    have hO := Sec.mk hown
    clear hown HT
    go_wp2_with fail
    go_ret3
    exact ⟨sbtr hB3 hb4, _, 1, v, w3.heap.size, rfl, hp'.out.later hb4, fun a ha => by cases ha; exact ⟨hg1', hg2'⟩, hB3.size, hO.out⟩
end Go.Proofs.YtojgjpegfkfnjaaDoor
