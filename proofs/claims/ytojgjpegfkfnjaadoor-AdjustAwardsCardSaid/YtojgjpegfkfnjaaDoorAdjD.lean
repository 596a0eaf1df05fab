/- adjust: Right. -/
import Derived.Test.YtojgjpegfkfnjaaDoorAdjC
namespace Go.Proofs.YtojgjpegfkfnjaaDoor
open Go.RowKit
set_option linter.unusedVariables false
set_option linter.unusedSimpArgs false
set_option maxRecDepth 100000

theorem eq_i64 (d : Nat) (a b : Int) (w : World) : (Op.equalIn (d + 1) 3 (.int .i64 a) (.int .i64 b)).run Tryd.prog w = .ok (a == b) w := by
  simp [Op.equalIn, Sem.run_bind, run_underlying Tryd.underlying3]
theorem eq_two (a b c d : Int) (w : World) : (Op.equalIn 10000 27 (.agg #[.int .i64 a, .int .i64 b]) (.agg #[.int .i64 c, .int .i64 d])).run Tryd.prog w = .ok (a == c && b == d) w := by
  have hs : (sizeOf 3).run Tryd.prog w = .ok 1 w := by kernel_rfl
  have h0 : ∀ x y : Value, (part 3 #[x, y] 0).run Tryd.prog w = .ok x w := fun _ _ => by kernel_rfl
  have h1 : ∀ x y : Value, (part 3 #[x, y] 1).run Tryd.prog w = .ok y w := fun _ _ => by kernel_rfl
  unfold Op.equalIn
  simp only [Sem.run_bind, run_underlying Tryd.underlying27, Result.andThen_ok, hs]
  simp [Std.Legacy.Range.forIn_eq_forIn_range', List.range', h0, h1, eq_i64]
  by_cases h : a = c <;> by_cases h' : b = d <;> simp [h, h']
set_option maxHeartbeats 2000000 in
theorem Right_en (e : En) (w : World) (he : e.ok) (hSh : Shares w) : Calls Tryd.prog 17 #[.agg (enV e)] w fun e' w' => e' = .returned (.bool (rightE e)) ∧ Below w.heap.size w w' := by
  have HRi := Sec.mk rights_any
  have hsz := en_sz e
  have hk0 := he.2.2.2.2.1
  have hf0 := he.2.2.2.2.2.1
  have hS : Sec (rightE e = (decide (e.k ≤ 4) && decide (e.f ≤ 3) && kindB e && (if e.k = 4 then shareB e.a && shareB e.b else (e.a == 0) && (e.b == 0)))) := ⟨rfl⟩
  have HK := Sec.mk fun K h1 h2 w' => kind_any e K h1 h2 he w'
  clear he
  generalize rightE e = R at *
  generalize kindB e = KB at *
  obtain ⟨x, hx⟩ : ∃ x, e.k = x := ⟨_, rfl⟩
  obtain ⟨y, hy⟩ : ∃ y, e.f = y := ⟨_, rfl⟩
  have hkw : IntKind.i64.wrap x = x := IntWalk.i64_in _ ⟨by omega, by omega⟩
  have hc4 : (enC e)[4]? = some (.int .u8 x) := by rw [← hx]; rfl
  have hc5 : (enC e)[5]? = some (.int .u8 y) := by rw [← hy]; rfl
  have ha : (enC e)[31]? = some (.int .i64 e.a) := rfl
  have hb : (enC e)[32]? = some (.int .i64 e.b) := rfl
  generalize e.a = za at *
  generalize e.b = zb at *
  rw [hx, hy] at hS
  rw [hx] at HK hk0
  rw [hy] at hf0
  clear hx hy
  go_enter Tryd.func17, Tryd.ntmps17
  go_upto_region 1 with fail
  obtain ⟨W, g, e1, e2, P, hB0⟩ := en_box w e
  rw [← e1, ← e2]
  clear e1 e2
  have hSh0 := hSh.later hB0
  clear hSh
  have hCe := Sec.mk (show (∀ W, RowAt W g (enV e) → W.rangeAt g 0 (enV e).toList ∧ W.cell? ⟨g, 4, none⟩ = some (.int .u8 x) ∧ W.cell? ⟨g, 5, none⟩ = some (.int .u8 y)) from fun W h => ⟨h.range, en_cell h _ _ hc4, en_cell h _ _ hc5⟩)
  go_cut [22] (fun b wx => b = .bool (!(decide (x ≤ 4) && decide (y ≤ 3) && KB)) ∧ RowAt wx g (enV e) ∧ Shares wx ∧ Below w.heap.size w wx)
  case first =>
    have hP := Sec.mk P
    have hSS := Sec.mk hSh0
    clear P hSh0 hc4 hc5 ha hb hS
    by_cases h5 : 5 ≤ x
    · have g1 : decide (5 ≤ x) = true := by simpa using h5
      have g2 : decide (x ≤ 4) = false := by simp; omega
      have g2s := Sec.mk g2
      clear g2
      refine wp_region_held_drew (S := fun w' => w'.rangeAt g 0 (enV e).toList ∧ w'.cell? ⟨g, 4, none⟩ = some (.int .u8 x) ∧ w'.cell? ⟨g, 5, none⟩ = some (.int .u8 y)) (by kernel_rfl) (hCe.out _ hP.out) (fun hHeld => ?_)
      refine wpAnyH_take (i := 0) (oi := ⟨some 3, _, _, _, _, _⟩) (v := ?_) rfl (by kernel_rfl) (by kernel_rfl) (by kernel_rfl) (fun _ _ _ h => h) (Or.inl ⟨rfl, ?_⟩) hHeld ?_
      case refine_2 => (intro w hS; (try obtain ⟨_, hS⟩ := hS); (try obtain ⟨_, hS⟩ := hS); (try obtain ⟨_, hS⟩ := hS); go_simp; try with_reducible rfl)
      try simp only [Act.put, List.setIfInBounds_toArray, List.set_cons_zero, List.set_cons_succ]
      refine wpAnyH_take (i := 1) (oi := ⟨some 4, _, _, _, _, _⟩) (v := ?_) rfl (by kernel_rfl) (by kernel_rfl) (by kernel_rfl) (fun _ _ _ h => h) (Or.inl ⟨rfl, ?_⟩) hHeld ?_
      case refine_2 => (intro w hS; (try obtain ⟨_, hS⟩ := hS); (try obtain ⟨_, hS⟩ := hS); (try obtain ⟨_, hS⟩ := hS); go_simp; try with_reducible rfl)
      try simp only [Act.put, List.setIfInBounds_toArray, List.set_cons_zero, List.set_cons_succ]
      refine wpAnyH_take (i := 2) (oi := ⟨some 5, _, _, _, _, _⟩) (v := ?_) rfl (by kernel_rfl) (by kernel_rfl) (by kernel_rfl) (fun _ _ _ h => h) (Or.inl ⟨rfl, ?_⟩) hHeld ?_
      case refine_2 => (intro w hS; (try obtain ⟨_, hS⟩ := hS); (try obtain ⟨_, hS⟩ := hS); (try obtain ⟨_, hS⟩ := hS); go_simp; try with_reducible rfl)
      try simp only [Act.put, List.setIfInBounds_toArray, List.set_cons_zero, List.set_cons_succ]
      refine wpAnyH_ready (rs := [3]) (by kernel_rfl) (by simp) ?_
      refine AllReadyH.cons (o := _) rfl (fun K hK => ?_) AllReadyH.nil
      go_simp
      with_reducible refine (HRi.out _).mono ?_
      rintro e' w1 ⟨rfl, hb1⟩
      have hbx : Below W.heap.size W w1 := sbtr (Below.refl _ _).drew hb1
      refine hK.out _ _ (hCe.out _ (hP.out.later hbx)) (fun hHeld2 => ?_)
      clear hK K hHeld
      refine wpAnyH_take (i := 4) (oi := ⟨some 7, _, _, _, _, _⟩) (v := ?_) rfl (by kernel_rfl) (by kernel_rfl) (by kernel_rfl) (fun _ _ _ h => h) (Or.inl ⟨rfl, ?_⟩) hHeld2 ?_
      case refine_2 => (intro w hS; (try obtain ⟨_, hS⟩ := hS); (try obtain ⟨_, hS⟩ := hS); (try obtain ⟨_, hS⟩ := hS); go_simp; try with_reducible rfl)
      try simp only [Act.put, List.setIfInBounds_toArray, List.set_cons_zero, List.set_cons_succ]
      refine wpAnyH_take (i := 5) (oi := ⟨some 8, _, _, _, _, _⟩) (v := ?_) rfl (by kernel_rfl) (by kernel_rfl) (by kernel_rfl) (fun _ _ _ h => h) (Or.inl ⟨rfl, ?_⟩) hHeld2 ?_
      case refine_2 => (intro w hS; (try obtain ⟨_, hS⟩ := hS); (try obtain ⟨_, hS⟩ := hS); (try obtain ⟨_, hS⟩ := hS); go_simp; try with_reducible rfl)
      try simp only [Act.put, List.setIfInBounds_toArray, List.set_cons_zero, List.set_cons_succ]
      refine wpAnyH_take (i := 6) (oi := ⟨some 9, _, _, _, _, _⟩) (v := ?_) rfl (by kernel_rfl) (by kernel_rfl) (by kernel_rfl) (fun _ _ _ h => h) (Or.inl ⟨rfl, ?_⟩) hHeld2 ?_
      case refine_2 => (intro w hS; (try obtain ⟨_, hS⟩ := hS); (try obtain ⟨_, hS⟩ := hS); (try obtain ⟨_, hS⟩ := hS); go_simp; try with_reducible rfl)
      try simp only [Act.put, List.setIfInBounds_toArray, List.set_cons_zero, List.set_cons_succ]
      refine wpAnyH_take (i := 7) (oi := ⟨some 10, _, _, _, _, _⟩) (v := undef) rfl (by kernel_rfl) (by kernel_rfl) (by kernel_rfl) (fun _ _ _ h => h) (Or.inr ⟨rfl, rfl⟩) hHeld2 ?_
      try simp only [Act.put, List.setIfInBounds_toArray, List.set_cons_zero, List.set_cons_succ]
      refine wpAnyH_take (i := 8) (oi := ⟨some 11, _, _, _, _, _⟩) (v := undef) rfl (by kernel_rfl) (by kernel_rfl) (by kernel_rfl) (fun _ _ _ h => h) (Or.inr ⟨rfl, rfl⟩) hHeld2 ?_
      try simp only [Act.put, List.setIfInBounds_toArray, List.set_cons_zero, List.set_cons_succ]
      refine wpAnyH_take (i := 9) (oi := ⟨some 12, _, _, _, _, _⟩) (v := undef) rfl (by kernel_rfl) (by kernel_rfl) (by kernel_rfl) (fun _ _ _ h => h) (Or.inr ⟨rfl, rfl⟩) hHeld2 ?_
      try simp only [Act.put, List.setIfInBounds_toArray, List.set_cons_zero, List.set_cons_succ]
      refine wpAnyH_take (i := 10) (oi := ⟨some 13, _, _, _, _, _⟩) (v := ?_) rfl (by kernel_rfl) (by kernel_rfl) (by kernel_rfl) (fun _ _ _ h => h) (Or.inl ⟨rfl, ?_⟩) hHeld2 ?_
      case refine_2 => (intro w hS; (try obtain ⟨_, hS⟩ := hS); (try obtain ⟨_, hS⟩ := hS); (try obtain ⟨_, hS⟩ := hS); go_simp; try with_reducible rfl)
      try simp only [Act.put, List.setIfInBounds_toArray, List.set_cons_zero, List.set_cons_succ]
      refine wpAnyH_take (i := 11) (oi := ⟨some 14, _, _, _, _, _⟩) (v := ?_) rfl (by kernel_rfl) (by kernel_rfl) (by kernel_rfl) (fun _ _ _ h => h) (Or.inl ⟨rfl, ?_⟩) hHeld2 ?_
      case refine_2 => (intro w hS; (try obtain ⟨_, hS⟩ := hS); (try obtain ⟨_, hS⟩ := hS); (try obtain ⟨_, hS⟩ := hS); go_simp; try with_reducible rfl)
      try simp only [Act.put, List.setIfInBounds_toArray, List.set_cons_zero, List.set_cons_succ]
      refine wpAnyH_take (i := 12) (oi := ⟨some 15, _, _, _, _, _⟩) (v := undef) rfl (by kernel_rfl) (by kernel_rfl) (by kernel_rfl) (fun _ _ _ h => h) (Or.inr ⟨rfl, rfl⟩) hHeld2 ?_
      try simp only [Act.put, List.setIfInBounds_toArray, List.set_cons_zero, List.set_cons_succ]
      refine wpAnyH_take (i := 13) (oi := ⟨some 16, _, _, _, _, _⟩) (v := undef) rfl (by kernel_rfl) (by kernel_rfl) (by kernel_rfl) (fun _ _ _ h => h) (Or.inr ⟨rfl, rfl⟩) hHeld2 ?_
      try simp only [Act.put, List.setIfInBounds_toArray, List.set_cons_zero, List.set_cons_succ]
      refine wpAnyH_take (i := 14) (oi := ⟨some 17, _, _, _, _, _⟩) (v := undef) rfl (by kernel_rfl) (by kernel_rfl) (by kernel_rfl) (fun _ _ _ h => h) (Or.inr ⟨rfl, rfl⟩) hHeld2 ?_
      try simp only [Act.put, List.setIfInBounds_toArray, List.set_cons_zero, List.set_cons_succ]
      refine wpAnyH_take (i := 15) (oi := ⟨some 18, _, _, _, _, _⟩) (v := undef) rfl (by kernel_rfl) (by kernel_rfl) (by kernel_rfl) (fun _ _ _ h => h) (Or.inr ⟨rfl, rfl⟩) hHeld2 ?_
      try simp only [Act.put, List.setIfInBounds_toArray, List.set_cons_zero, List.set_cons_succ]
      refine wpAnyH_take (i := 16) (oi := ⟨some 19, _, _, _, _, _⟩) (v := undef) rfl (by kernel_rfl) (by kernel_rfl) (by kernel_rfl) (fun _ _ _ h => h) (Or.inr ⟨rfl, rfl⟩) hHeld2 ?_
      try simp only [Act.put, List.setIfInBounds_toArray, List.set_cons_zero, List.set_cons_succ]
      refine wpAnyH_take (i := 17) (oi := ⟨some 20, _, _, _, _, _⟩) (v := undef) rfl (by kernel_rfl) (by kernel_rfl) (by kernel_rfl) (fun _ _ _ h => h) (Or.inr ⟨rfl, rfl⟩) hHeld2 ?_
      try simp only [Act.put, List.setIfInBounds_toArray, List.set_cons_zero, List.set_cons_succ]
      refine wpAnyH_take (i := 18) (oi := ⟨some 21, _, _, _, _, _⟩) (v := undef) rfl (by kernel_rfl) (by kernel_rfl) (by kernel_rfl) (fun _ _ _ h => h) (Or.inr ⟨rfl, rfl⟩) hHeld2 ?_
      try simp only [Act.put, List.setIfInBounds_toArray, List.set_cons_zero, List.set_cons_succ]
      refine wpAnyH_take (i := 19) (oi := ⟨some 22, _, _, _, _, _⟩) (v := ?_) rfl (by kernel_rfl) (by kernel_rfl) (by kernel_rfl) (fun _ _ _ h => h) (Or.inl ⟨rfl, ?_⟩) hHeld2 ?_
      case refine_2 => (intro w hS; (try obtain ⟨_, hS⟩ := hS); (try obtain ⟨_, hS⟩ := hS); (try obtain ⟨_, hS⟩ := hS); go_simp; try with_reducible rfl)
      try simp only [Act.put, List.setIfInBounds_toArray, List.set_cons_zero, List.set_cons_succ]
      refine wpAnyH_done (by kernel_rfl) ?_ _
      go_wp2_with fail
      go_meet
      exact ⟨by rw [g2s.out]; rfl, hP.out.later hbx, hSS.out.later hbx, sbtr hB0 hbx⟩
    · have g1 : decide (5 ≤ x) = false := by simpa using h5
      obtain ⟨K, hK, hK4⟩ : ∃ K : Nat, x = (K : Int) ∧ K ≤ 4 := ⟨x.toNat, by omega, by omega⟩
      have g2s : Sec (decide (x ≤ 4) = true) := ⟨by simp; omega⟩
      have HKK := Sec.mk (HK.out K hK hK4)
      have hcf := cfKind K hK4
      have hix := fun w => index_kind K hK4 w
      rw [← hK] at hix
      clear HK hK hk0
      by_cases h3 : 3 < y
      · have g3 : decide (3 < y) = true := by simpa using h3
        have g4s : Sec (decide (y ≤ 3) = false) := ⟨by simp; omega⟩
        refine wp_region_held_drew (S := fun w' => w'.rangeAt g 0 (enV e).toList ∧ w'.cell? ⟨g, 4, none⟩ = some (.int .u8 x) ∧ w'.cell? ⟨g, 5, none⟩ = some (.int .u8 y)) (by kernel_rfl) (hCe.out _ hP.out) (fun hHeld => ?_)
        refine wpAnyH_take (i := 0) (oi := ⟨some 3, _, _, _, _, _⟩) (v := ?_) rfl (by kernel_rfl) (by kernel_rfl) (by kernel_rfl) (fun _ _ _ h => h) (Or.inl ⟨rfl, ?_⟩) hHeld ?_
        case refine_2 => (intro w hS; (try obtain ⟨_, hS⟩ := hS); (try obtain ⟨_, hS⟩ := hS); (try obtain ⟨_, hS⟩ := hS); go_simp; try with_reducible rfl)
        try simp only [Act.put, List.setIfInBounds_toArray, List.set_cons_zero, List.set_cons_succ]
        refine wpAnyH_take (i := 1) (oi := ⟨some 4, _, _, _, _, _⟩) (v := ?_) rfl (by kernel_rfl) (by kernel_rfl) (by kernel_rfl) (fun _ _ _ h => h) (Or.inl ⟨rfl, ?_⟩) hHeld ?_
        case refine_2 => (intro w hS; (try obtain ⟨_, hS⟩ := hS); (try obtain ⟨_, hS⟩ := hS); (try obtain ⟨_, hS⟩ := hS); go_simp; try with_reducible rfl)
        try simp only [Act.put, List.setIfInBounds_toArray, List.set_cons_zero, List.set_cons_succ]
        refine wpAnyH_take (i := 2) (oi := ⟨some 5, _, _, _, _, _⟩) (v := ?_) rfl (by kernel_rfl) (by kernel_rfl) (by kernel_rfl) (fun _ _ _ h => h) (Or.inl ⟨rfl, ?_⟩) hHeld ?_
        case refine_2 => (intro w hS; (try obtain ⟨_, hS⟩ := hS); (try obtain ⟨_, hS⟩ := hS); (try obtain ⟨_, hS⟩ := hS); go_simp; try with_reducible rfl)
        try simp only [Act.put, List.setIfInBounds_toArray, List.set_cons_zero, List.set_cons_succ]
        refine wpAnyH_ready (rs := [3]) (by kernel_rfl) (by simp) ?_
        refine AllReadyH.cons (o := _) rfl (fun K hK => ?_) AllReadyH.nil
        go_simp
        with_reducible refine (HRi.out _).mono ?_
        rintro e' w1 ⟨rfl, hb1⟩
        have hbx : Below W.heap.size W w1 := sbtr (Below.refl _ _).drew hb1
        refine hK.out _ _ (hCe.out _ (hP.out.later hbx)) (fun hHeld2 => ?_)
        clear hK K hHeld
        refine wpAnyH_take (i := 4) (oi := ⟨some 7, _, _, _, _, _⟩) (v := ?_) rfl (by kernel_rfl) (by kernel_rfl) (by kernel_rfl) (fun _ _ _ h => h) (Or.inl ⟨rfl, ?_⟩) hHeld2 ?_
        case refine_2 => (intro w hS; (try obtain ⟨_, hS⟩ := hS); (try obtain ⟨_, hS⟩ := hS); (try obtain ⟨_, hS⟩ := hS); go_simp; try with_reducible rfl)
        try simp only [Act.put, List.setIfInBounds_toArray, List.set_cons_zero, List.set_cons_succ]
        refine wpAnyH_take (i := 5) (oi := ⟨some 8, _, _, _, _, _⟩) (v := ?_) rfl (by kernel_rfl) (by kernel_rfl) (by kernel_rfl) (fun _ _ _ h => h) (Or.inl ⟨rfl, ?_⟩) hHeld2 ?_
        case refine_2 => (intro w hS; (try obtain ⟨_, hS⟩ := hS); (try obtain ⟨_, hS⟩ := hS); (try obtain ⟨_, hS⟩ := hS); go_simp; try with_reducible rfl)
        try simp only [Act.put, List.setIfInBounds_toArray, List.set_cons_zero, List.set_cons_succ]
        refine wpAnyH_take (i := 6) (oi := ⟨some 9, _, _, _, _, _⟩) (v := ?_) rfl (by kernel_rfl) (by kernel_rfl) (by kernel_rfl) (fun _ _ _ h => h) (Or.inl ⟨rfl, ?_⟩) hHeld2 ?_
        case refine_2 => (intro w hS; (try obtain ⟨_, hS⟩ := hS); (try obtain ⟨_, hS⟩ := hS); (try obtain ⟨_, hS⟩ := hS); go_simp; try with_reducible rfl)
        try simp only [Act.put, List.setIfInBounds_toArray, List.set_cons_zero, List.set_cons_succ]
        refine wpAnyH_take (i := 7) (oi := ⟨some 10, _, _, _, _, _⟩) (v := ?_) rfl (by kernel_rfl) (by kernel_rfl) (by kernel_rfl) (fun _ _ _ h => h) (Or.inl ⟨rfl, ?_⟩) hHeld2 ?_
        case refine_2 => (intro w hS; (try obtain ⟨_, hS⟩ := hS); (try obtain ⟨_, hS⟩ := hS); (try obtain ⟨_, hS⟩ := hS); go_simp; try with_reducible rfl)
        try simp only [Act.put, List.setIfInBounds_toArray, List.set_cons_zero, List.set_cons_succ]
        refine wpAnyH_take (i := 8) (oi := ⟨some 11, _, _, _, _, _⟩) (v := ?_) rfl (by kernel_rfl) (by kernel_rfl) (by kernel_rfl) (fun _ _ _ h => h) (Or.inl ⟨rfl, ?_⟩) hHeld2 ?_
        case refine_2 => (intro w hS; (try obtain ⟨_, hS⟩ := hS); (try obtain ⟨_, hS⟩ := hS); (try obtain ⟨_, hS⟩ := hS); go_simp; try with_reducible rfl)
        try simp only [Act.put, List.setIfInBounds_toArray, List.set_cons_zero, List.set_cons_succ]
        refine wpAnyH_take (i := 9) (oi := ⟨some 12, _, _, _, _, _⟩) (v := ?_) rfl (by kernel_rfl) (by kernel_rfl) (by kernel_rfl) (fun _ _ _ h => h) (Or.inl ⟨rfl, ?_⟩) hHeld2 ?_
        case refine_2 => (intro w hS; (try obtain ⟨_, hS⟩ := hS); (try obtain ⟨_, hS⟩ := hS); (try obtain ⟨_, hS⟩ := hS); go_simp; try with_reducible rfl)
        try simp only [Act.put, List.setIfInBounds_toArray, List.set_cons_zero, List.set_cons_succ]
        refine wpAnyH_take (i := 10) (oi := ⟨some 13, _, _, _, _, _⟩) (v := ?_) rfl (by kernel_rfl) (by kernel_rfl) (by kernel_rfl) (fun _ _ _ h => h) (Or.inl ⟨rfl, ?_⟩) hHeld2 ?_
        case refine_2 => (intro w hS; (try obtain ⟨_, hS⟩ := hS); (try obtain ⟨_, hS⟩ := hS); (try obtain ⟨_, hS⟩ := hS); go_simp; try with_reducible rfl)
        try simp only [Act.put, List.setIfInBounds_toArray, List.set_cons_zero, List.set_cons_succ]
        refine wpAnyH_take (i := 11) (oi := ⟨some 14, _, _, _, _, _⟩) (v := ?_) rfl (by kernel_rfl) (by kernel_rfl) (by kernel_rfl) (fun _ _ _ h => h) (Or.inl ⟨rfl, ?_⟩) hHeld2 ?_
        case refine_2 => (intro w hS; (try obtain ⟨_, hS⟩ := hS); (try obtain ⟨_, hS⟩ := hS); (try obtain ⟨_, hS⟩ := hS); go_simp; try with_reducible rfl)
        try simp only [Act.put, List.setIfInBounds_toArray, List.set_cons_zero, List.set_cons_succ]
        refine wpAnyH_take (i := 12) (oi := ⟨some 15, _, _, _, _, _⟩) (v := undef) rfl (by kernel_rfl) (by kernel_rfl) (by kernel_rfl) (fun _ _ _ h => h) (Or.inr ⟨rfl, rfl⟩) hHeld2 ?_
        try simp only [Act.put, List.setIfInBounds_toArray, List.set_cons_zero, List.set_cons_succ]
        refine wpAnyH_take (i := 13) (oi := ⟨some 16, _, _, _, _, _⟩) (v := undef) rfl (by kernel_rfl) (by kernel_rfl) (by kernel_rfl) (fun _ _ _ h => h) (Or.inr ⟨rfl, rfl⟩) hHeld2 ?_
        try simp only [Act.put, List.setIfInBounds_toArray, List.set_cons_zero, List.set_cons_succ]
        refine wpAnyH_take (i := 14) (oi := ⟨some 17, _, _, _, _, _⟩) (v := undef) rfl (by kernel_rfl) (by kernel_rfl) (by kernel_rfl) (fun _ _ _ h => h) (Or.inr ⟨rfl, rfl⟩) hHeld2 ?_
        try simp only [Act.put, List.setIfInBounds_toArray, List.set_cons_zero, List.set_cons_succ]
        refine wpAnyH_take (i := 15) (oi := ⟨some 18, _, _, _, _, _⟩) (v := undef) rfl (by kernel_rfl) (by kernel_rfl) (by kernel_rfl) (fun _ _ _ h => h) (Or.inr ⟨rfl, rfl⟩) hHeld2 ?_
        try simp only [Act.put, List.setIfInBounds_toArray, List.set_cons_zero, List.set_cons_succ]
        refine wpAnyH_take (i := 16) (oi := ⟨some 19, _, _, _, _, _⟩) (v := undef) rfl (by kernel_rfl) (by kernel_rfl) (by kernel_rfl) (fun _ _ _ h => h) (Or.inr ⟨rfl, rfl⟩) hHeld2 ?_
        try simp only [Act.put, List.setIfInBounds_toArray, List.set_cons_zero, List.set_cons_succ]
        refine wpAnyH_take (i := 17) (oi := ⟨some 20, _, _, _, _, _⟩) (v := undef) rfl (by kernel_rfl) (by kernel_rfl) (by kernel_rfl) (fun _ _ _ h => h) (Or.inr ⟨rfl, rfl⟩) hHeld2 ?_
        try simp only [Act.put, List.setIfInBounds_toArray, List.set_cons_zero, List.set_cons_succ]
        refine wpAnyH_take (i := 18) (oi := ⟨some 21, _, _, _, _, _⟩) (v := undef) rfl (by kernel_rfl) (by kernel_rfl) (by kernel_rfl) (fun _ _ _ h => h) (Or.inr ⟨rfl, rfl⟩) hHeld2 ?_
        try simp only [Act.put, List.setIfInBounds_toArray, List.set_cons_zero, List.set_cons_succ]
        refine wpAnyH_take (i := 19) (oi := ⟨some 22, _, _, _, _, _⟩) (v := ?_) rfl (by kernel_rfl) (by kernel_rfl) (by kernel_rfl) (fun _ _ _ h => h) (Or.inl ⟨rfl, ?_⟩) hHeld2 ?_
        case refine_2 => (intro w hS; (try obtain ⟨_, hS⟩ := hS); (try obtain ⟨_, hS⟩ := hS); (try obtain ⟨_, hS⟩ := hS); go_simp; try with_reducible rfl)
        try simp only [Act.put, List.setIfInBounds_toArray, List.set_cons_zero, List.set_cons_succ]
        refine wpAnyH_done (by kernel_rfl) ?_ _
        go_wp2_with fail
        go_meet
        exact ⟨by rw [g2s.out, g4s.out]; rfl, hP.out.later hbx, hSS.out.later hbx, sbtr hB0 hbx⟩
      · have g3 : decide (3 < y) = false := by simpa using h3
        have g4s : Sec (decide (y ≤ 3) = true) := ⟨by simp; omega⟩
        refine wp_region_held_drew (S := fun w' => w'.rangeAt g 0 (enV e).toList ∧ w'.cell? ⟨g, 4, none⟩ = some (.int .u8 x) ∧ w'.cell? ⟨g, 5, none⟩ = some (.int .u8 y)) (by kernel_rfl) (hCe.out _ hP.out) (fun hHeld => ?_)
        refine wpAnyH_take (i := 0) (oi := ⟨some 3, _, _, _, _, _⟩) (v := ?_) rfl (by kernel_rfl) (by kernel_rfl) (by kernel_rfl) (fun _ _ _ h => h) (Or.inl ⟨rfl, ?_⟩) hHeld ?_
        case refine_2 => (intro w hS; (try obtain ⟨_, hS⟩ := hS); (try obtain ⟨_, hS⟩ := hS); (try obtain ⟨_, hS⟩ := hS); go_simp; try with_reducible rfl)
        try simp only [Act.put, List.setIfInBounds_toArray, List.set_cons_zero, List.set_cons_succ]
        refine wpAnyH_take (i := 1) (oi := ⟨some 4, _, _, _, _, _⟩) (v := ?_) rfl (by kernel_rfl) (by kernel_rfl) (by kernel_rfl) (fun _ _ _ h => h) (Or.inl ⟨rfl, ?_⟩) hHeld ?_
        case refine_2 => (intro w hS; (try obtain ⟨_, hS⟩ := hS); (try obtain ⟨_, hS⟩ := hS); (try obtain ⟨_, hS⟩ := hS); go_simp; try with_reducible rfl)
        try simp only [Act.put, List.setIfInBounds_toArray, List.set_cons_zero, List.set_cons_succ]
        refine wpAnyH_take (i := 2) (oi := ⟨some 5, _, _, _, _, _⟩) (v := ?_) rfl (by kernel_rfl) (by kernel_rfl) (by kernel_rfl) (fun _ _ _ h => h) (Or.inl ⟨rfl, ?_⟩) hHeld ?_
        case refine_2 => (intro w hS; (try obtain ⟨_, hS⟩ := hS); (try obtain ⟨_, hS⟩ := hS); (try obtain ⟨_, hS⟩ := hS); go_simp; try with_reducible rfl)
        try simp only [Act.put, List.setIfInBounds_toArray, List.set_cons_zero, List.set_cons_succ]
        refine wpAnyH_ready (rs := [3]) (by kernel_rfl) (by simp) ?_
        refine AllReadyH.cons (o := _) rfl (fun K hK => ?_) AllReadyH.nil
        go_simp
        with_reducible refine (HRi.out _).mono ?_
        rintro e' w1 ⟨rfl, hb1⟩
        have hbx : Below W.heap.size W w1 := sbtr (Below.refl _ _).drew hb1
        refine hK.out _ _ (hCe.out _ (hP.out.later hbx)) (fun hHeld2 => ?_)
        clear hK K hHeld
        refine wpAnyH_take (i := 4) (oi := ⟨some 7, _, _, _, _, _⟩) (v := ?_) rfl (by kernel_rfl) (by kernel_rfl) (by kernel_rfl) (fun _ _ _ h => h) (Or.inl ⟨rfl, ?_⟩) hHeld2 ?_
        case refine_2 => (intro w hS; (try obtain ⟨_, hS⟩ := hS); (try obtain ⟨_, hS⟩ := hS); (try obtain ⟨_, hS⟩ := hS); go_simp; try with_reducible rfl)
        try simp only [Act.put, List.setIfInBounds_toArray, List.set_cons_zero, List.set_cons_succ]
        refine wpAnyH_take (i := 5) (oi := ⟨some 8, _, _, _, _, _⟩) (v := ?_) rfl (by kernel_rfl) (by kernel_rfl) (by kernel_rfl) (fun _ _ _ h => h) (Or.inl ⟨rfl, ?_⟩) hHeld2 ?_
        case refine_2 => (intro w hS; (try obtain ⟨_, hS⟩ := hS); (try obtain ⟨_, hS⟩ := hS); (try obtain ⟨_, hS⟩ := hS); go_simp; try with_reducible rfl)
        try simp only [Act.put, List.setIfInBounds_toArray, List.set_cons_zero, List.set_cons_succ]
        refine wpAnyH_take (i := 6) (oi := ⟨some 9, _, _, _, _, _⟩) (v := ?_) rfl (by kernel_rfl) (by kernel_rfl) (by kernel_rfl) (fun _ _ _ h => h) (Or.inl ⟨rfl, ?_⟩) hHeld2 ?_
        case refine_2 => (intro w hS; (try obtain ⟨_, hS⟩ := hS); (try obtain ⟨_, hS⟩ := hS); (try obtain ⟨_, hS⟩ := hS); go_simp; try with_reducible rfl)
        try simp only [Act.put, List.setIfInBounds_toArray, List.set_cons_zero, List.set_cons_succ]
        refine wpAnyH_take (i := 7) (oi := ⟨some 10, _, _, _, _, _⟩) (v := ?_) rfl (by kernel_rfl) (by kernel_rfl) (by kernel_rfl) (fun _ _ _ h => h) (Or.inl ⟨rfl, ?_⟩) hHeld2 ?_
        case refine_2 => (intro w hS; (try obtain ⟨_, hS⟩ := hS); (try obtain ⟨_, hS⟩ := hS); (try obtain ⟨_, hS⟩ := hS); go_simp; try with_reducible rfl)
        try simp only [Act.put, List.setIfInBounds_toArray, List.set_cons_zero, List.set_cons_succ]
        refine wpAnyH_take (i := 8) (oi := ⟨some 11, _, _, _, _, _⟩) (v := ?_) rfl (by kernel_rfl) (by kernel_rfl) (by kernel_rfl) (fun _ _ _ h => h) (Or.inl ⟨rfl, ?_⟩) hHeld2 ?_
        case refine_2 => (intro w hS; (try obtain ⟨_, hS⟩ := hS); (try obtain ⟨_, hS⟩ := hS); (try obtain ⟨_, hS⟩ := hS); go_simp; try with_reducible rfl)
        try simp only [Act.put, List.setIfInBounds_toArray, List.set_cons_zero, List.set_cons_succ]
        refine wpAnyH_take (i := 9) (oi := ⟨some 12, _, _, _, _, _⟩) (v := ?_) rfl (by kernel_rfl) (by kernel_rfl) (by kernel_rfl) (fun _ _ _ h => h) (Or.inl ⟨rfl, ?_⟩) hHeld2 ?_
        case refine_2 => (intro w hS; (try obtain ⟨_, hS⟩ := hS); (try obtain ⟨_, hS⟩ := hS); (try obtain ⟨_, hS⟩ := hS); go_simp; try with_reducible rfl)
        try simp only [Act.put, List.setIfInBounds_toArray, List.set_cons_zero, List.set_cons_succ]
        refine wpAnyH_take (i := 10) (oi := ⟨some 13, _, _, _, _, _⟩) (v := ?_) rfl (by kernel_rfl) (by kernel_rfl) (by kernel_rfl) (fun _ _ _ h => h) (Or.inl ⟨rfl, ?_⟩) hHeld2 ?_
        case refine_2 => (intro w hS; (try obtain ⟨_, hS⟩ := hS); (try obtain ⟨_, hS⟩ := hS); (try obtain ⟨_, hS⟩ := hS); go_simp; try with_reducible rfl)
        try simp only [Act.put, List.setIfInBounds_toArray, List.set_cons_zero, List.set_cons_succ]
        refine wpAnyH_take (i := 11) (oi := ⟨some 14, _, _, _, _, _⟩) (v := ?_) rfl (by kernel_rfl) (by kernel_rfl) (by kernel_rfl) (fun _ _ _ h => h) (Or.inl ⟨rfl, ?_⟩) hHeld2 ?_
        case refine_2 => (intro w hS; (try obtain ⟨_, hS⟩ := hS); (try obtain ⟨_, hS⟩ := hS); (try obtain ⟨_, hS⟩ := hS); go_simp; try with_reducible rfl)
        try simp only [Act.put, List.setIfInBounds_toArray, List.set_cons_zero, List.set_cons_succ]
        refine wpAnyH_take (i := 13) (oi := ⟨some 16, _, _, _, _, _⟩) (v := ?_) rfl (by kernel_rfl) (by kernel_rfl) (by kernel_rfl) (fun _ _ _ h => h) (Or.inl ⟨rfl, ?_⟩) hHeld2 ?_
        case refine_2 => (intro w hS; (try obtain ⟨_, hS⟩ := hS); (try obtain ⟨_, hS⟩ := hS); (try obtain ⟨_, hS⟩ := hS); go_simp; try with_reducible rfl)
        try simp only [Act.put, List.setIfInBounds_toArray, List.set_cons_zero, List.set_cons_succ]
        refine wpAnyH_take (i := 14) (oi := ⟨some 17, _, _, _, _, _⟩) (v := ?_) rfl (by kernel_rfl) (by kernel_rfl) (by kernel_rfl) (fun _ _ _ h => h) (Or.inl ⟨rfl, ?_⟩) hHeld2 ?_
        case refine_2 => (intro w hS; (try obtain ⟨_, hS⟩ := hS); (try obtain ⟨_, hS⟩ := hS); (try obtain ⟨_, hS⟩ := hS); go_simp; try with_reducible rfl)
        try simp only [Act.put, List.setIfInBounds_toArray, List.set_cons_zero, List.set_cons_succ]
        refine wpAnyH_take (i := 16) (oi := ⟨some 19, _, _, _, _, _⟩) (v := _) rfl (by kernel_rfl) (by kernel_rfl) (by kernel_rfl) (fun _ _ _ h => h) (yieldsIf_load_mid (by rfl) 29 _ rfl g 0 rfl (enV e).toList _ ?hS Tryd.underlying29 rfl hsz) hHeld2 ?rst
        case hS => exact fun w h => h.1
        simp only [Act.put, List.setIfInBounds_toArray, List.set_cons_zero, List.set_cons_succ, Array.toArray_toList]
        refine wpAnyH_ready (rs := [12]) (by kernel_rfl) (by simp) ?_
        refine AllReadyH.cons (o := _) rfl (fun K2 hK2 => ?_) AllReadyH.nil
        go_simp
        with_reducible refine (HRi.out _).mono ?_
        rintro e' w2 ⟨rfl, hb2⟩
        have hbx2 : Below W.heap.size W w2 := sbtr hbx hb2
        refine hK2.out _ _ (hCe.out _ (hP.out.later hbx2)) (fun hHeld3 => ?_)
        clear hK2 K2 hHeld2
        refine wpAnyH_take (i := 15) (oi := ⟨some 18, _, _, _, _, _⟩) (v := ?_) rfl (by kernel_rfl) (by kernel_rfl) (by kernel_rfl) (fun _ _ _ h => h) (Or.inl ⟨rfl, ?_⟩) hHeld3 ?_
        case refine_2 => (intro w hS; (try obtain ⟨_, hS⟩ := hS); (try obtain ⟨_, hS⟩ := hS); (try obtain ⟨_, hS⟩ := hS); go_simp; try with_reducible rfl)
        try simp only [Act.put, List.setIfInBounds_toArray, List.set_cons_zero, List.set_cons_succ]
        refine wpAnyH_ready (rs := [17]) (by kernel_rfl) (by simp) ?_
        refine AllReadyH.cons (o := _) rfl (fun K2 hK2 => ?_) AllReadyH.nil
        go_simp
        with_reducible refine (HKK.out _).mono ?_
        rintro e' w3 ⟨rfl, hb3⟩
        have hbx3 : Below W.heap.size W w3 := sbtr hbx2 hb3
        refine hK2.out _ _ (hCe.out _ (hP.out.later hbx3)) (fun hHeld4 => ?_)
        clear hK2 K2 hHeld3
        refine wpAnyH_take (i := 18) (oi := ⟨some 21, _, _, _, _, _⟩) (v := ?_) rfl (by kernel_rfl) (by kernel_rfl) (by kernel_rfl) (fun _ _ _ h => h) (Or.inl ⟨rfl, ?_⟩) hHeld4 ?_
        case refine_2 => (intro w hS; (try obtain ⟨_, hS⟩ := hS); (try obtain ⟨_, hS⟩ := hS); (try obtain ⟨_, hS⟩ := hS); go_simp; try with_reducible rfl)
        try simp only [Act.put, List.setIfInBounds_toArray, List.set_cons_zero, List.set_cons_succ]
        refine wpAnyH_take (i := 19) (oi := ⟨some 22, _, _, _, _, _⟩) (v := ?_) rfl (by kernel_rfl) (by kernel_rfl) (by kernel_rfl) (fun _ _ _ h => h) (Or.inl ⟨rfl, ?_⟩) hHeld4 ?_
        case refine_2 => (intro w hS; (try obtain ⟨_, hS⟩ := hS); (try obtain ⟨_, hS⟩ := hS); (try obtain ⟨_, hS⟩ := hS); go_simp; try with_reducible rfl)
        try simp only [Act.put, List.setIfInBounds_toArray, List.set_cons_zero, List.set_cons_succ]
        refine wpAnyH_done (by kernel_rfl) ?_ _
        go_wp2_with fail
        go_meet
        exact ⟨by rw [g2s.out, g4s.out]; rfl, hP.out.later hbx3, hSS.out.later hbx3, sbtr hB0 hbx3⟩
  case rest =>
    obtain ⟨rfl, P1, hS1, hB1⟩ := hcut
    clear P hSh0 hB0 HK HRi
    cases hG : (decide (x ≤ 4) && decide (y ≤ 3) && KB)
    · have hend : Sec (R = false) := ⟨by rw [hS.out, hG]; rfl⟩
      clear hG hS
      go_wp2_with fail
      go_ret
      exact ⟨scret_b (by rw [hend.out]), hB1⟩
    · rw [hG] at hS
      clear hG
      obtain ⟨-, c4, -⟩ := hCe.out _ P1
      have ca := en_cell P1 _ _ ha
      have cb := en_cell P1 _ _ hb
      clear hc4 hc5 ha hb hCe P1
      by_cases hx4 : x = 4
      · have hend : Sec (R = (shareB za && shareB zb)) := ⟨by rw [hS.out, if_pos hx4]; rfl⟩
        clear hS
        subst hx4
        obtain ⟨bb, oo, cc, hg, hcs⟩ := hS1
        have HC1 := Sec.mk fun w' (h : Below wc.heap.size wc w') z => contains_sh bb oo cc z w' (fun i y hy => sc_later h (hcs i y hy))
        clear hcs
        go_wp2_with fail
        refine (HC1.out _ (Below.refl _ _) _).mono ?_
        rintro e' w2 ⟨rfl, rfl⟩
        cases hsa : shareB za
        · have hend2 : Sec (R = false) := ⟨by rw [hend.out, hsa]; rfl⟩
          clear hsa hend HC1
          go_wp2_with fail
          go_ret
          exact ⟨scret_b (by rw [hend2.out]), hB1⟩
        · have hend2 : Sec (R = shareB zb) := ⟨by rw [hend.out, hsa]; rfl⟩
          clear hsa hend
          go_wp2_with fail
          refine (HC1.out _ (Below.refl _ _) _).mono ?_
          rintro e' w2 ⟨rfl, rfl⟩
          go_wp2_with fail
          go_ret
          exact ⟨scret_b (by rw [hend2.out]), hB1⟩
      · have hend : Sec (R = ((za == 0) && (zb == 0))) := ⟨by rw [hS.out, if_neg hx4]; rfl⟩
        have hx4' : (x == 4) = false := by simpa using hx4
        have hx4'' : (x != 4) = true := by simpa using hx4
        clear hS hS1 hx4
        have hEW := eq_two
        go_wp2_with fail
        all_goals
          go_ret
          exact ⟨scret_b (by rw [hend.out]), hB1⟩
end Go.Proofs.YtojgjpegfkfnjaaDoor
