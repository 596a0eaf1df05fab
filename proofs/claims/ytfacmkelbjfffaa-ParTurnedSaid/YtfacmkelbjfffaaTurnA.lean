/- ParTurned: the walk. -/
import Derived.Test.YtfacmkelbjfffaaMoreA
import Derived.Laws.BytesArg
namespace Go.Proofs.Ytfacmkelbjfffaa
open Go.RowKit
set_option linter.unusedVariables false
set_option linter.unusedSimpArgs false
set_option maxRecDepth 100000

/-- A slice of bytes as a string. -/
theorem conv_own {W : World} {base : Nat} {v : Value} {L : List Nat} (h : W.ownsRow base 5 1 v L.length (byteV L)) :
    ∃ A c, v = .slice A L.length c ∧ (convert 34 9 (.slice A L.length c)).run Try.prog W = .ok (.string (strOfNums (L.map fun (x : Nat) => (x : Int)))) W := by
  obtain ⟨A, c, rfl, hc⟩ := bytes_of_own h
  refine ⟨A, c, rfl, ?_⟩
  by_cases h0 : L = []
  · subst h0
    rcases h.2 with ⟨e, -⟩ | ⟨g, cap, cur, e, -⟩
    · simp only [Value.slice.injEq] at e
      obtain ⟨rfl, -, rfl⟩ := e
      exact run_convert_bytes_nil W 34 5 Try.underlying34 Try.underlying5 _ _ 9 Try.underlying9
    · simp only [Value.slice.injEq] at e
      obtain ⟨rfl, -, rfl⟩ := e
      exact run_convert_bytes_arg W 34 5 Try.underlying34 Try.underlying5 g 0 0 _ [] rfl (fun i hi => by omega) 9 Try.underlying9
  · obtain ⟨x, hx⟩ : ∃ x, L[0]? = some x := by
      cases L with
      | nil => exact absurd rfl h0
      | cons x L => exact ⟨x, rfl⟩
    obtain ⟨b, rfl, -⟩ := hc 0 x hx
    refine run_convert_bytes_arg W 34 5 Try.underlying34 Try.underlying5 b 0 L.length c (L.map fun (x : Nat) => (x : Int)) (by simp) (fun i hi => ?_) 9 Try.underlying9
    obtain ⟨b', e, hb⟩ := hc i L[i] (List.getElem?_eq_getElem hi)
    cases e
    rw [Nat.zero_add, hb, List.getD_eq_getElem?_getD, List.getElem?_map, List.getElem?_eq_getElem hi]
    rfl
theorem Bids_str (T : Nat → Int) (u : Int) (d : Nat) (w : World) (hT : rightT T = true) (hu : 0 ≤ u ∧ u ≤ 3) (hd : d ≤ 3) : Calls Try.prog 13 #[.agg (tabV T), .int .u8 u, .int .u8 d] w fun e w' =>
    ∃ v, e = .returned (.tuple #[v, .int .i64 0]) ∧ w'.ownsRow w.heap.size 5 1 v (bidsF (finalZ T u) (d % 2)).length (byteV (bidsF (finalZ T u) (d % 2))) ∧ Below w.heap.size w w' := Bids_ok T u d w hT hu hd
theorem four_far {W : World} {g1 g2 j k0 k1 k2 k3 : Nat} {v x0 x1 x2 x3 : Value} (hne : g2 ≠ g1) (h : W.cell? ⟨g1, j, none⟩ = some v) :
    ((((W.setCell ⟨g2, k0, none⟩ x0).setCell ⟨g2, k1, none⟩ x1).setCell ⟨g2, k2, none⟩ x2).setCell ⟨g2, k3, none⟩ x3).drew.cell? ⟨g1, j, none⟩ = some v := by
  rw [cell_drew_own, World.cell?_setCell_other _ _ _ _ (by simp only [ne_eq, Addr.mk.injEq]; omega), World.cell?_setCell_other _ _ _ _ (by simp only [ne_eq, Addr.mk.injEq]; omega), World.cell?_setCell_other _ _ _ _ (by simp only [ne_eq, Addr.mk.injEq]; omega), World.cell?_setCell_other _ _ _ _ (by simp only [ne_eq, Addr.mk.injEq]; omega)]
  exact h
def TuRel (w : World) (T : Nat → Int) (g1 g2 : Nat) (i : Value) (wr : World) : Prop :=
  ∃ k : Nat, k ≤ 5 ∧ i = .int .i64 k ∧ TabAt wr g1 T ∧ (∃ U, TabAt wr g2 U ∧ ∀ j, j < 4 * k → U j = turnT T j) ∧ Below w.heap.size w wr

set_option maxHeartbeats 2000000 in
theorem ParTurned_any (B : Nat → Int) (u d : Int) (w : World) (hB : BytesIn B) (hu : 0 ≤ u ∧ u ≤ 255) (hd : 0 ≤ d ∧ d ≤ 255) :
    Calls Try.prog 3 #[.agg (bytV B), .int .u8 u, .int .u8 d] w fun e w' => e = .returned (.bool true) ∧ Below w.heap.size w w' := by
  have HM := Sec.mk fun w' => Made_ok B w' hB
  have HA := Sec.mk awake_true
  have hTr := madeT_right hB
  generalize madeT B = T at *
  obtain ⟨v, hv, hv3⟩ : ∃ v, u % 4 = v ∧ 0 ≤ v ∧ v ≤ 3 := ⟨_, rfl, by omega⟩
  obtain ⟨D, hD, hD3⟩ : ∃ D : Nat, d % 4 = (D : Int) ∧ D ≤ 3 := ⟨(d % 4).toNat, by omega, by omega⟩
  obtain ⟨E, hE, hE3, hE2⟩ : ∃ E : Nat, ((D : Int) + 1) % 4 = (E : Int) ∧ E ≤ 3 ∧ E % 2 = 1 - D % 2 := ⟨(D + 1) % 4, by omega, by omega, by omega⟩
  have hra := (byt_new w B).range
  have hszb : (Try.prog.info? 22).map (·.size) = some (bytV B).toList.length := info_byt
  have hszt : (Try.prog.info? 25).map (·.size) = some (tabV T).toList.length := info_tab
  have h1c := tab_one T
  go_enter Try.func3, Try.ntmps3
  go_wp2_with (refine wpList_load_mid (by rfl) 22 (.tmp 3) (by rfl) w.heap.size 0 (by rfl) (bytV B).toList _ hra Try.underlying22 rfl hszb ?_; simp only [Array.toArray_toList])
  refine (HM.out _).mono ?_
  rintro e w1 ⟨rfl, hb1⟩
  have hBl := sbtr (sst1 w (.cells (bytV B) 22)) hb1
  clear hra hb1 HM
  have hth := tab_there w1 T
  go_upto_region 2 with (refine wpList_store_mid (by rfl) 25 (.tmp 7) (.tmp 24) ?_ w1.heap.size 0 (tabV T) ?_ ?_ ?_ info_tab h1c ?_; rfl; rfl; rfl; exact hth; simp only [Act.put])
  rw [← zeros20]
  obtain ⟨W2, g1, e2, eg, t1, hb2⟩ := tab_put w1 T
  rw [← e2, ← eg]
  have hBl := sbtr hBl hb2
  clear e2 eg hb2 hth
  go_upto_region 3 with fail
  rw [← zeros20]
  obtain ⟨W3, g2, e3, eg, t1, t2, hBl, hne, hg2⟩ : ∃ W3 g2, W3 = W2.alloc (.cells (tabV fun _ => 0) 25) ∧ g2 = W2.heap.size ∧ TabAt W3 g1 T ∧ TabAt W3 g2 (fun _ => 0) ∧ Below w.heap.size w W3 ∧ g2 ≠ g1 ∧ w.heap.size ≤ g2 :=
    ⟨_, _, rfl, rfl, t1.later (sst1 _ _), tab_new W2 _, sbtr hBl (sst1 _ _), Nat.ne_of_gt t1.lt, hBl.size⟩
  rw [← e3, ← eg]
  clear e3 eg
  go_wp2_with fail
  try simp only [hv, hD]
  go_loopw [29] (fun i wr => TuRel w T g1 g2 i wr) (fun i _ => 5 - (intOf i).toNat)
  case atStart => exact ⟨0, by omega, rfl, t1, ⟨_, t2, fun j hj => by omega⟩, hBl⟩
  case round =>
    clear t1 t2 hBl
    obtain ⟨k, hk, rfl, t1, ⟨U, t2, hU⟩, hBl⟩ := hrel
    by_cases hlt : k < 5
    · have k0 : (0 : Int) ≤ (k : Int) := by omega
      have k5 : (k : Int) < 5 := by omega
      obtain ⟨c0, -⟩ := t1 (k * 4) (by omega)
      obtain ⟨c1, -⟩ := t1 (k * 4 + 1) (by omega)
      obtain ⟨c2, -⟩ := t1 (k * 4 + 2) (by omega)
      obtain ⟨c3, -⟩ := t1 (k * 4 + 3) (by omega)
      obtain ⟨d0, f0⟩ := id (t2 (k * 4) (by omega))
      obtain ⟨d1, f1⟩ := id (t2 (k * 4 + 1) (by omega))
      obtain ⟨d2, f2⟩ := id (t2 (k * 4 + 2) (by omega))
      obtain ⟨d3, f3⟩ := id (t2 (k * 4 + 3) (by omega))
      have hend : TuRel w T g1 g2 (.int .i64 ((k + 1 : Nat) : Int)) (((((wr.setCell ⟨g2, k * 4, none⟩ (.int .i64 (T (k * 4 + 3)))).setCell ⟨g2, k * 4 + 1, none⟩ (.int .i64 (T (k * 4)))).setCell ⟨g2, k * 4 + 2, none⟩ (.int .i64 (T (k * 4 + 1)))).setCell ⟨g2, k * 4 + 3, none⟩ (.int .i64 (T (k * 4 + 2)))).drew) := by
        refine ⟨k + 1, hlt, rfl, (((t1.put_far _ _ hne).put_far _ _ hne).put_far _ _ hne).put_far _ _ hne, ⟨_, ((((t2.put (k * 4) (by omega) _).put (k * 4 + 1) (by omega) _).put (k * 4 + 2) (by omega) _).put (k * 4 + 3) (by omega) _), fun j hj => ?_⟩, ((((hBl.setCell (p := ⟨g2, k * 4, none⟩) hg2 _).setCell (p := ⟨g2, k * 4 + 1, none⟩) hg2 _).setCell (p := ⟨g2, k * 4 + 2, none⟩) hg2 _).setCell (p := ⟨g2, k * 4 + 3, none⟩) hg2 _).drew⟩
        unfold putT turnT
        by_cases e3 : j = k * 4 + 3
        · rw [if_pos e3, e3, show 4 * ((k * 4 + 3) / 4) + ((k * 4 + 3) % 4 + 3) % 4 = k * 4 + 2 by omega]
        · rw [if_neg e3]
          by_cases e2 : j = k * 4 + 2
          · rw [if_pos e2, e2, show 4 * ((k * 4 + 2) / 4) + ((k * 4 + 2) % 4 + 3) % 4 = k * 4 + 1 by omega]
          · rw [if_neg e2]
            by_cases e1 : j = k * 4 + 1
            · rw [if_pos e1, e1, show 4 * ((k * 4 + 1) / 4) + ((k * 4 + 1) % 4 + 3) % 4 = k * 4 by omega]
            · rw [if_neg e1]
              by_cases e0 : j = k * 4
              · rw [if_pos e0, e0, show 4 * (k * 4 / 4) + (k * 4 % 4 + 3) % 4 = k * 4 + 3 by omega]
              · rw [if_neg e0]; exact hU j (by omega)
      have HE := Sec.mk hend
      clear hend t1 t2 hU hBl
      generalize T (k * 4) = z0 at *
      generalize T (k * 4 + 1) = z1 at *
      generalize T (k * 4 + 2) = z2 at *
      generalize T (k * 4 + 3) = z3 at *
      go_upto_region 6 with fail
      refine wp_region_held_drew (S := fun w' => w'.cell? ⟨g1, k * 4, none⟩ = some (.int .i64 z0) ∧ w'.cell? ⟨g1, k * 4 + 1, none⟩ = some (.int .i64 z1) ∧ w'.cell? ⟨g1, k * 4 + 2, none⟩ = some (.int .i64 z2) ∧ w'.cell? ⟨g1, k * 4 + 3, none⟩ = some (.int .i64 z3)) (by kernel_rfl) ⟨c0, c1, c2, c3⟩ (fun hHeld => ?_)
      refine wpAnyH_take (i := 0) (oi := ⟨some 32, _, _, _, _, _⟩) (v := ?_) rfl (by kernel_rfl) (by kernel_rfl) (by kernel_rfl) (fun _ _ _ h => h) (Or.inl ⟨rfl, ?_⟩) hHeld ?_
      case refine_2 => (intro w hS; (try obtain ⟨_, hS⟩ := hS); (try obtain ⟨_, hS⟩ := hS); (try obtain ⟨_, hS⟩ := hS); go_simp; try with_reducible rfl)
      try simp only [Act.put, List.setIfInBounds_toArray, List.set_cons_zero, List.set_cons_succ]
      refine wpAnyH_take (i := 1) (oi := ⟨some 33, _, _, _, _, _⟩) (v := ?_) rfl (by kernel_rfl) (by kernel_rfl) (by kernel_rfl) (fun _ _ _ h => h) (Or.inl ⟨rfl, ?_⟩) hHeld ?_
      case refine_2 => (intro w hS; (try obtain ⟨_, hS⟩ := hS); (try obtain ⟨_, hS⟩ := hS); (try obtain ⟨_, hS⟩ := hS); go_simp; try with_reducible rfl)
      try simp only [Act.put, List.setIfInBounds_toArray, List.set_cons_zero, List.set_cons_succ]
      refine wpAnyH_take (i := 2) (oi := ⟨some 34, _, _, _, _, _⟩) (v := ?_) rfl (by kernel_rfl) (by kernel_rfl) (by kernel_rfl) (fun _ _ _ h => h) (Or.inl ⟨rfl, ?_⟩) hHeld ?_
      case refine_2 => (intro w hS; (try obtain ⟨_, hS⟩ := hS); (try obtain ⟨_, hS⟩ := hS); (try obtain ⟨_, hS⟩ := hS); go_simp; try with_reducible rfl)
      try simp only [Act.put, List.setIfInBounds_toArray, List.set_cons_zero, List.set_cons_succ]
      refine wpAnyH_take (i := 3) (oi := ⟨some 35, _, _, _, _, _⟩) (v := ?_) rfl (by kernel_rfl) (by kernel_rfl) (by kernel_rfl) (fun _ _ _ h => h) (Or.inl ⟨rfl, ?_⟩) hHeld ?_
      case refine_2 => (intro w hS; (try obtain ⟨_, hS⟩ := hS); (try obtain ⟨_, hS⟩ := hS); (try obtain ⟨_, hS⟩ := hS); go_simp; try with_reducible rfl)
      try simp only [Act.put, List.setIfInBounds_toArray, List.set_cons_zero, List.set_cons_succ]
      refine wpAnyH_take (i := 4) (oi := ⟨some 36, _, _, _, _, _⟩) (v := ?_) rfl (by kernel_rfl) (by kernel_rfl) (by kernel_rfl) (fun _ _ _ h => h) (Or.inl ⟨rfl, ?_⟩) hHeld ?_
      case refine_2 => (intro w hS; (try obtain ⟨_, hS⟩ := hS); (try obtain ⟨_, hS⟩ := hS); (try obtain ⟨_, hS⟩ := hS); go_simp; try with_reducible rfl)
      try simp only [Act.put, List.setIfInBounds_toArray, List.set_cons_zero, List.set_cons_succ]
      refine wpAnyH_take (i := 5) (oi := ⟨some 37, _, _, _, _, _⟩) (v := ?_) rfl (by kernel_rfl) (by kernel_rfl) (by kernel_rfl) (fun _ _ _ h => h) (Or.inl ⟨rfl, ?_⟩) hHeld ?_
      case refine_2 => (intro w hS; (try obtain ⟨_, hS⟩ := hS); (try obtain ⟨_, hS⟩ := hS); (try obtain ⟨_, hS⟩ := hS); go_simp; try with_reducible rfl)
      try simp only [Act.put, List.setIfInBounds_toArray, List.set_cons_zero, List.set_cons_succ]
      refine wpAnyH_take (i := 6) (oi := ⟨some 38, _, _, _, _, _⟩) (v := ?_) rfl (by kernel_rfl) (by kernel_rfl) (by kernel_rfl) (fun _ _ _ h => h) (Or.inl ⟨rfl, ?_⟩) hHeld ?_
      case refine_2 => (intro w hS; (try obtain ⟨_, hS⟩ := hS); (try obtain ⟨_, hS⟩ := hS); (try obtain ⟨_, hS⟩ := hS); go_simp; try with_reducible rfl)
      try simp only [Act.put, List.setIfInBounds_toArray, List.set_cons_zero, List.set_cons_succ]
      refine wpAnyH_take (i := 7) (oi := ⟨some 39, _, _, _, _, _⟩) (v := ?_) rfl (by kernel_rfl) (by kernel_rfl) (by kernel_rfl) (fun _ _ _ h => h) (Or.inl ⟨rfl, ?_⟩) hHeld ?_
      case refine_2 => (intro w hS; (try obtain ⟨_, hS⟩ := hS); (try obtain ⟨_, hS⟩ := hS); (try obtain ⟨_, hS⟩ := hS); go_simp; try with_reducible rfl)
      try simp only [Act.put, List.setIfInBounds_toArray, List.set_cons_zero, List.set_cons_succ]
      refine wpAnyH_take (i := 8) (oi := ⟨some 40, _, _, _, _, _⟩) (v := ?_) rfl (by kernel_rfl) (by kernel_rfl) (by kernel_rfl) (fun _ _ _ h => h) (Or.inl ⟨rfl, ?_⟩) hHeld ?_
      case refine_2 => (intro w hS; (try obtain ⟨_, hS⟩ := hS); (try obtain ⟨_, hS⟩ := hS); (try obtain ⟨_, hS⟩ := hS); go_simp; try with_reducible rfl)
      try simp only [Act.put, List.setIfInBounds_toArray, List.set_cons_zero, List.set_cons_succ]
      refine wpAnyH_take (i := 9) (oi := ⟨some 41, _, _, _, _, _⟩) (v := ?_) rfl (by kernel_rfl) (by kernel_rfl) (by kernel_rfl) (fun _ _ _ h => h) (Or.inl ⟨rfl, ?_⟩) hHeld ?_
      case refine_2 => (intro w hS; (try obtain ⟨_, hS⟩ := hS); (try obtain ⟨_, hS⟩ := hS); (try obtain ⟨_, hS⟩ := hS); go_simp; try with_reducible rfl)
      try simp only [Act.put, List.setIfInBounds_toArray, List.set_cons_zero, List.set_cons_succ]
      refine wpAnyH_take (i := 10) (oi := ⟨some 42, _, _, _, _, _⟩) (v := ?_) rfl (by kernel_rfl) (by kernel_rfl) (by kernel_rfl) (fun _ _ _ h => h) (Or.inl ⟨rfl, ?_⟩) hHeld ?_
      case refine_2 => (intro w hS; (try obtain ⟨_, hS⟩ := hS); (try obtain ⟨_, hS⟩ := hS); (try obtain ⟨_, hS⟩ := hS); go_simp; try with_reducible rfl)
      try simp only [Act.put, List.setIfInBounds_toArray, List.set_cons_zero, List.set_cons_succ]
      refine wpAnyH_take (i := 11) (oi := ⟨some 43, _, _, _, _, _⟩) (v := ?_) rfl (by kernel_rfl) (by kernel_rfl) (by kernel_rfl) (fun _ _ _ h => h) (Or.inl ⟨rfl, ?_⟩) hHeld ?_
      case refine_2 => (intro w hS; (try obtain ⟨_, hS⟩ := hS); (try obtain ⟨_, hS⟩ := hS); (try obtain ⟨_, hS⟩ := hS); go_simp; try with_reducible rfl)
      try simp only [Act.put, List.setIfInBounds_toArray, List.set_cons_zero, List.set_cons_succ]
      refine wpAnyH_take (i := 12) (oi := ⟨some 44, _, _, _, _, _⟩) (v := ?_) rfl (by kernel_rfl) (by kernel_rfl) (by kernel_rfl) (fun _ _ _ h => h) (Or.inl ⟨rfl, ?_⟩) hHeld ?_
      case refine_2 => (intro w hS; (try obtain ⟨_, hS⟩ := hS); (try obtain ⟨_, hS⟩ := hS); (try obtain ⟨_, hS⟩ := hS); go_simp; try with_reducible rfl)
      try simp only [Act.put, List.setIfInBounds_toArray, List.set_cons_zero, List.set_cons_succ]
      refine wpAnyH_take (i := 13) (oi := ⟨some 45, _, _, _, _, _⟩) (v := ?_) rfl (by kernel_rfl) (by kernel_rfl) (by kernel_rfl) (fun _ _ _ h => h) (Or.inl ⟨rfl, ?_⟩) hHeld ?_
      case refine_2 => (intro w hS; (try obtain ⟨_, hS⟩ := hS); (try obtain ⟨_, hS⟩ := hS); (try obtain ⟨_, hS⟩ := hS); go_simp; try with_reducible rfl)
      try simp only [Act.put, List.setIfInBounds_toArray, List.set_cons_zero, List.set_cons_succ]
      refine wpAnyH_take (i := 14) (oi := ⟨some 46, _, _, _, _, _⟩) (v := ?_) rfl (by kernel_rfl) (by kernel_rfl) (by kernel_rfl) (fun _ _ _ h => h) (Or.inl ⟨rfl, ?_⟩) hHeld ?_
      case refine_2 => (intro w hS; (try obtain ⟨_, hS⟩ := hS); (try obtain ⟨_, hS⟩ := hS); (try obtain ⟨_, hS⟩ := hS); go_simp; try with_reducible rfl)
      try simp only [Act.put, List.setIfInBounds_toArray, List.set_cons_zero, List.set_cons_succ]
      refine wpAnyH_take (i := 15) (oi := ⟨some 47, _, _, _, _, _⟩) (v := ?_) rfl (by kernel_rfl) (by kernel_rfl) (by kernel_rfl) (fun _ _ _ h => h) (Or.inl ⟨rfl, ?_⟩) hHeld ?_
      case refine_2 => (intro w hS; (try obtain ⟨_, hS⟩ := hS); (try obtain ⟨_, hS⟩ := hS); (try obtain ⟨_, hS⟩ := hS); go_simp; try with_reducible rfl)
      try simp only [Act.put, List.setIfInBounds_toArray, List.set_cons_zero, List.set_cons_succ]
      refine wpAnyH_take (i := 16) (oi := ⟨some 48, _, _, _, _, _⟩) (v := ?_) rfl (by kernel_rfl) (by kernel_rfl) (by kernel_rfl) (fun _ _ _ h => h) (Or.inl ⟨rfl, ?_⟩) hHeld ?_
      case refine_2 => (intro w hS; (try obtain ⟨_, hS⟩ := hS); (try obtain ⟨_, hS⟩ := hS); (try obtain ⟨_, hS⟩ := hS); go_simp; try with_reducible rfl)
      try simp only [Act.put, List.setIfInBounds_toArray, List.set_cons_zero, List.set_cons_succ]
      refine wpAnyH_take (i := 17) (oi := ⟨some 49, _, _, _, _, _⟩) (v := ?_) rfl (by kernel_rfl) (by kernel_rfl) (by kernel_rfl) (fun _ _ _ h => h) (Or.inl ⟨rfl, ?_⟩) hHeld ?_
      case refine_2 => (intro w hS; (try obtain ⟨_, hS⟩ := hS); (try obtain ⟨_, hS⟩ := hS); (try obtain ⟨_, hS⟩ := hS); go_simp; try with_reducible rfl)
      try simp only [Act.put, List.setIfInBounds_toArray, List.set_cons_zero, List.set_cons_succ]
      refine wpAnyH_take (i := 18) (oi := ⟨some 50, _, _, _, _, _⟩) (v := ?_) rfl (by kernel_rfl) (by kernel_rfl) (by kernel_rfl) (fun _ _ _ h => h) (Or.inl ⟨rfl, ?_⟩) hHeld ?_
      case refine_2 => (intro w hS; (try obtain ⟨_, hS⟩ := hS); (try obtain ⟨_, hS⟩ := hS); (try obtain ⟨_, hS⟩ := hS); go_simp; try with_reducible rfl)
      try simp only [Act.put, List.setIfInBounds_toArray, List.set_cons_zero, List.set_cons_succ]
      refine wpAnyH_ready (rs := [19]) (by kernel_rfl) (by simp) ?_
      refine AllReadyH.cons (o := _) rfl (fun K hK => ?_) AllReadyH.nil
      go_simp
      refine hK.out _ _ ⟨four_far hne c0, four_far hne c1, four_far hne c2, four_far hne c3⟩ (fun _ => ?_)
      clear hK K
      refine wpAnyH_done (by kernel_rfl) ?_ _
      clear c0 c1 c2 c3 d0 d1 d2 d3 f0 f1 f2 f3 hHeld
      go_wp2_with fail
      exact ⟨HE.out, by simp only [intOf]; omega⟩
    · have hk5 : k = 5 := by omega
      have t2 := t2.same (U := turnT T) fun j hj => hU j (by omega)
      clear hU
      have hpt := par_turn T v (D % 2) (by omega) hv3
      rw [← hE2] at hpt
      have htr := turn_right T hTr
      obtain ⟨x1, x2, x3, x4, x5, x6, -, HP1⟩ := Par_six T v D hTr hv3 hD3
      have hvt : 0 ≤ turnV v ∧ turnV v ≤ 3 := by unfold turnV; split <;> omega
      obtain ⟨y1, y2, y3, y4, y5, y6, -, HP2⟩ := Par_six (turnT T) (turnV v) E htr hvt hE3
      have HB1 := Sec.mk fun w' => Bids_ok T v D w' hTr hv3 hD3
      have HB2 := Sec.mk fun w' => Bids_ok (turnT T) (turnV v) E w' htr hvt hE3
      have hn1 := parZ_bd T v (D % 2) (by omega) hTr
      rw [hpt.1] at HP2
      rw [hpt.2] at HB2
      generalize parZ T v (D % 2) = n at *
      generalize bidsF (finalZ T v) (D % 2) = L at *
      generalize hUe : turnT T = U at *
      have hszu : (Try.prog.info? 25).map (·.size) = some (tabV U).toList.length := info_tab
      have hVc : (v = 0 ∧ turnV v = 0) ∨ (v = 1 ∧ turnV v = 2) ∨ (v = 2 ∧ turnV v = 1) ∨ (v = 3 ∧ turnV v = 3) := by
        rcases (by omega : v = 0 ∨ v = 1 ∨ v = 2 ∨ v = 3) with e | e | e | e <;> subst e <;> simp [turnV]
      generalize turnV v = V at *
      clear hpt htr hvt hUe hTr
      rcases hVc with ⟨rfl, rfl⟩ | ⟨rfl, rfl⟩ | ⟨rfl, rfl⟩ | ⟨rfl, rfl⟩
      all_goals
        have hra := t1.range
        go_wp2_with (refine wpList_load_mid (by rfl) 25 (.tmp 7) (by rfl) g1 0 (by rfl) (tabV T).toList _ hra Try.underlying25 rfl hszt ?_; simp only [Array.toArray_toList])
        refine (HP1.out _).mono ?_
        rintro e w5 ⟨rfl, hb5⟩
        have t1 := t1.later (sbtr hb5 (sst1 w5 (.cells #[.int .u8 x1, .int .u8 x2, .int .u8 x3, .int .u8 x4, .int .i64 x5, .int .i64 x6] 30)))
        have t2 := t2.later (sbtr hb5 (sst1 w5 (.cells #[.int .u8 x1, .int .u8 x2, .int .u8 x3, .int .u8 x4, .int .i64 x5, .int .i64 x6] 30)))
        have hBl := sbtr hBl (sbtr hb5 (sst1 w5 (.cells #[.int .u8 x1, .int .u8 x2, .int .u8 x3, .int .u8 x4, .int .i64 x5, .int .i64 x6] 30)))
        clear hra hb5 HP1
        have hra := t2.range
        go_wp2_with (refine wpList_load_mid (by rfl) 25 (.tmp 10) (by rfl) g2 0 (by rfl) (tabV U).toList _ hra Try.underlying25 rfl hszu ?_; simp only [Array.toArray_toList])
        refine (HP2.out _).mono ?_
        rintro e w6 ⟨rfl, hb6⟩
        have t1 := t1.later (sbtr hb6 (sst1 w6 (.cells #[.int .u8 y1, .int .u8 y2, .int .u8 y3, .int .u8 y4, .int .i64 y5, .int .i64 y6] 30)))
        have t2 := t2.later (sbtr hb6 (sst1 w6 (.cells #[.int .u8 y1, .int .u8 y2, .int .u8 y3, .int .u8 y4, .int .i64 y5, .int .i64 y6] 30)))
        have hBl := sbtr hBl (sbtr hb6 (sst1 w6 (.cells #[.int .u8 y1, .int .u8 y2, .int .u8 y3, .int .u8 y4, .int .i64 y5, .int .i64 y6] 30)))
        clear hra hb6 HP2
        have hra := t1.range
        go_wp2_with (refine wpList_load_mid (by rfl) 25 (.tmp 7) (by rfl) g1 0 (by rfl) (tabV T).toList _ hra Try.underlying25 rfl hszt ?_; simp only [Array.toArray_toList])
        refine (HB1.out _).mono ?_
        rintro e w7 ⟨va, rfl, hown1, hb7⟩
        have t2 := t2.later hb7
        have hBl := sbtr hBl hb7
        clear hra HB1 t1
        have hra := t2.range
        go_wp2_with (refine wpList_load_mid (by rfl) 25 (.tmp 10) (by rfl) g2 0 (by rfl) (tabV U).toList _ hra Try.underlying25 rfl hszu ?_; simp only [Array.toArray_toList])
        refine (HB2.out _).mono ?_
        rintro e w8 ⟨vb, rfl, hown2, hb8⟩
        have hBl := sbtr hBl hb8
        obtain ⟨A1, c1, rfl, hcv1⟩ := conv_own (p_own_below hown1 hb8)
        obtain ⟨A2, c2, rfl, hcv2⟩ := conv_own hown2
        have hwn : IntKind.i64.wrap n = n := IntWalk.i64_in _ ⟨by omega, by omega⟩
        clear hra HB2 t2 hown1 hown2 hb7 hb8
        go_wp2_with (go_at_call 14; refine (HA.out _).mono ?_; rintro e w9 ⟨rfl, hb9⟩)
        go_ret
        exact ⟨rfl, sbtr hBl hb9⟩
end Go.Proofs.Ytfacmkelbjfffaa
