/- chapter 22: awake. -/
import Derived.Test.YtojgjpegfkfnjaaDoorAwkA
namespace Go.Proofs.YtojgjpegfkfnjaaDoor
open Go.RowKit
set_option linter.unusedVariables false
set_option linter.unusedSimpArgs false
set_option maxRecDepth 100000

/-- What lies there in awake. -/
structure AwI (w : World) (W : World) : Prop where
  sh : Shares W
  below : Below w.heap.size w W
theorem AwI.later {w W W' : World} (h : AwI w W) (hb : Below W.heap.size W W') : AwI w W' := ⟨h.sh.later hb, sbtr h.below hb⟩
theorem two_pairs (w : World) (a b c d : Value) (T : TypeId) : ∃ W g h, W = (w.alloc (.cells #[a, b] T)).alloc (.cells #[c, d] T) ∧ g = w.heap.size ∧ h = w.heap.size + 1 ∧ Pair W g a b ∧ Pair W h c d ∧ Below w.heap.size w W := by
  refine ⟨_, _, _, rfl, rfl, rfl, (Pair.new w a b T).later (sst1 _ _), ?_, sbtr (sst1 _ _) (sst1 _ _)⟩
  have h := Pair.new (w.alloc (.cells #[a, b] T)) c d T
  rwa [World.size_alloc] at h
set_option maxHeartbeats 4000000 in
theorem awake_true22 (w : World) (hSh : Shares w) : Calls Tryd.prog 19 #[] w fun e w' => e = .returned (.bool true) ∧ Below w.heap.size w w' := by
  have HSp := Sec.mk spades_any
  have HQ := Sec.mk q22_any
  have C1 := Sec.mk call1
  have C2 := Sec.mk call2
  have C3 := Sec.mk call3
  have C4 := Sec.mk call4
  have C5 := Sec.mk call5
  have C6 := Sec.mk call6
  have HI := Sec.mk fun A c r p w' (h : Parts w' A [(p, 100)]) (hr : r = 1) => (show Calls Tryd.prog 43 #[.slice A r c, .int .i64 p] w' fun e w'' => e = .returned (.bool true) ∧ Below w'.heap.size w' w'' from by subst hr; exact is22_any A c [(p, 100)] p w' h rfl)
  have I := Sec.mk (AwI.mk hSh (Below.refl w.heap.size w))
  have hz := zero_en
  have hs1 := en_sz ex1
  have hs2 := en_sz ex2
  have hs3 := en_sz ex3
  clear hSh
  go_enter Tryd.func19, Tryd.ntmps19
  go_wp2_with fail
  refine (HSp.out _ _ _ _).mono ?_
  rintro e v10 ⟨rfl, hb⟩
  replace I := Sec.mk (I.out.later hb)
  clear hb
  have hth := en_there v10 ex1 zE
  have hsi := en_si ex1
  have h1c := enV_one ex1
  go_upto_region 2 with (first
    | (refine wpList_build (by rfl) 26 _ (by rfl) #[(0, ocV (sp 2 8 0))] (by rfl) (outsV (sp 2 8 0) zO) (by kernel_rfl) ?_; simp only [Act.put])
    | (refine wpList_build (by rfl) 29 _ (by rfl) #[(4, .int .u8 1), (7, .agg (outsV (sp 2 8 0) zO))] (by rfl) (enV ex1) (by kernel_rfl) ?_; simp only [Act.put])
    | (refine wpList_store_mid (by rfl) 29 (.tmp 1) (.tmp 21) ?_ v10.heap.size 0 (enV ex1) ?_ ?_ ?_ hsi h1c ?_; rfl; rfl; rfl; exact hth; simp only [Act.put]))
  obtain ⟨W1, g1, eW, eg, P1, hb⟩ := en_put v10 ex1 zE
  rw [← eW, ← eg]
  replace I := Sec.mk (I.out.later hb)
  replace P1 := Sec.mk P1
  clear eW eg hb hth hsi h1c
  go_wp2_with fail
  refine (HSp.out _ _ _ _).mono ?_
  rintro e v20 ⟨rfl, hb⟩
  replace I := Sec.mk (I.out.later hb)
  replace P1 := Sec.mk (P1.out.later hb)
  clear hb
  go_wp2_with fail
  refine (HSp.out _ _ _ _).mono ?_
  rintro e v21 ⟨rfl, hb⟩
  replace I := Sec.mk (I.out.later hb)
  replace P1 := Sec.mk (P1.out.later hb)
  clear hb
  have hth := en_there v21 ex2 zE
  have hsi := en_si ex2
  have h1c := enV_one ex2
  go_upto_region 3 with (first
    | (refine wpList_build (by rfl) 26 _ (by rfl) #[(0, ocV (sp 4 10 60)), (1, ocV (sp 4 9 40))] (by rfl) (outsV (sp 4 10 60) (sp 4 9 40)) (by kernel_rfl) ?_; simp only [Act.put])
    | (refine wpList_build (by rfl) 29 _ (by rfl) #[(4, .int .u8 2), (7, .agg (outsV (sp 4 10 60) (sp 4 9 40)))] (by rfl) (enV ex2) (by kernel_rfl) ?_; simp only [Act.put])
    | (refine wpList_store_mid (by rfl) 29 (.tmp 2) (.tmp 25) ?_ v21.heap.size 0 (enV ex2) ?_ ?_ ?_ hsi h1c ?_; rfl; rfl; rfl; exact hth; simp only [Act.put]))
  obtain ⟨W2, g2, eW, eg, P2, hb⟩ := en_put v21 ex2 zE
  rw [← eW, ← eg]
  replace I := Sec.mk (I.out.later hb)
  replace P1 := Sec.mk (P1.out.later hb)
  replace P2 := Sec.mk P2
  clear eW eg hb hth hsi h1c
  go_wp2_with fail
  refine (HSp.out _ _ _ _).mono ?_
  rintro e v30 ⟨rfl, hb⟩
  replace I := Sec.mk (I.out.later hb)
  replace P1 := Sec.mk (P1.out.later hb)
  replace P2 := Sec.mk (P2.out.later hb)
  clear hb
  go_wp2_with fail
  refine (HSp.out _ _ _ _).mono ?_
  rintro e v31 ⟨rfl, hb⟩
  replace I := Sec.mk (I.out.later hb)
  replace P1 := Sec.mk (P1.out.later hb)
  replace P2 := Sec.mk (P2.out.later hb)
  clear hb
  have hth := en_there v31 ex3 zE
  have hsi := en_si ex3
  have h1c := enV_one ex3
  go_upto_region 4 with (first
    | (refine wpList_build (by rfl) 26 _ (by rfl) #[(0, ocV (sp 4 10 0)), (1, ocV (sp 4 9 0))] (by rfl) (outsV (sp 4 10 0) (sp 4 9 0)) (by kernel_rfl) ?_; simp only [Act.put])
    | (refine wpList_build (by rfl) 29 _ (by rfl) #[(4, .int .u8 3), (7, .agg (outsV (sp 4 10 0) (sp 4 9 0)))] (by rfl) (enV ex3) (by kernel_rfl) ?_; simp only [Act.put])
    | (refine wpList_store_mid (by rfl) 29 (.tmp 3) (.tmp 29) ?_ v31.heap.size 0 (enV ex3) ?_ ?_ ?_ hsi h1c ?_; rfl; rfl; rfl; exact hth; simp only [Act.put]))
  obtain ⟨W3, g3, eW, eg, P3, hb⟩ := en_put v31 ex3 zE
  rw [← eW, ← eg]
  replace I := Sec.mk (I.out.later hb)
  replace P1 := Sec.mk (P1.out.later hb)
  replace P2 := Sec.mk (P2.out.later hb)
  replace P3 := Sec.mk P3
  clear eW eg hb hth hsi h1c
  clear HSp hz
  have hra := P1.out.range
  go_wp2_with (refine wpList_load_mid (by rfl) 29 (.tmp 1) (by rfl) g1 0 (by rfl) (enV ex1).toList _ hra Tryd.underlying29 rfl hs1 ?_; simp only [Array.toArray_toList])
  clear hra
  refine (C1.out _ I.out.sh).mono ?_
  rintro x x1 ⟨hb, A4, c4, A5, c5, rfl, p4, p5⟩
  replace I := Sec.mk (I.out.later hb)
  replace P2 := Sec.mk (P2.out.later hb)
  replace P3 := Sec.mk (P3.out.later hb)
  replace p4 := Sec.mk p4
  replace p5 := Sec.mk p5
  clear hb C1 P1 hs1
  have hra := P2.out.range
  go_wp2_with (refine wpList_load_mid (by rfl) 29 (.tmp 2) (by rfl) g2 0 (by rfl) (enV ex2).toList _ hra Tryd.underlying29 rfl hs2 ?_; simp only [Array.toArray_toList])
  clear hra
  refine (C2.out _ I.out.sh).mono ?_
  rintro x x2 ⟨rfl, hb⟩
  go_upto_region 6 with fail
  obtain ⟨Y2, g7, g8, eW, eg, eh, Q7, Q8, hb2⟩ := two_pairs x2 (.int .i64 232) (.int .i64 1) (.int .i64 (-232)) (.int .i64 1) 40
  rw [← eW, ← eh, ← eg]
  replace hb := sbtr hb hb2
  replace I := Sec.mk (I.out.later hb)
  replace P2 := Sec.mk (P2.out.later hb)
  replace P3 := Sec.mk (P3.out.later hb)
  replace p4 := Sec.mk (p4.out.later hb)
  replace p5 := Sec.mk (p5.out.later hb)
  replace Q7 := Sec.mk Q7
  replace Q8 := Sec.mk Q8
  clear hb hb2 C2 eW eg eh
  have hra := P3.out.range
  go_wp2_with (refine wpList_load_mid (by rfl) 29 (.tmp 3) (by rfl) g3 0 (by rfl) (enV ex3).toList _ hra Tryd.underlying29 rfl hs3 ?_; simp only [Array.toArray_toList])
  clear hra
  refine (C3.out _ I.out.sh).mono ?_
  rintro x x3 ⟨hb, A10, c10, A11, c11, rfl, p10, p11⟩
  replace I := Sec.mk (I.out.later hb)
  replace P2 := Sec.mk (P2.out.later hb)
  replace p4 := Sec.mk (p4.out.later hb)
  replace p5 := Sec.mk (p5.out.later hb)
  replace Q7 := Sec.mk (Q7.out.later hb)
  replace Q8 := Sec.mk (Q8.out.later hb)
  replace p10 := Sec.mk p10
  replace p11 := Sec.mk p11
  clear hb C3 P3 hs3
  have hz := zero_en
  go_wp2_with fail
  refine ((show ∀ y, y = enV ex4 → Calls Tryd.prog 14 #[.agg y, .int .i64 5] x3 fun x w' => x = .returned (.tuple #[.agg #[.int .i64 24, .int .i64 5], .agg #[.int .i64 16, .int .i64 5], .int .i64 0]) ∧ Below x3.heap.size x3 w' from fun y hy => by subst hy; exact C4.out _ I.out.sh) _ (by kernel_rfl)).mono ?_
  rintro x x4 ⟨rfl, hb⟩
  go_upto_region 8 with fail
  obtain ⟨Y4, g13, g14, eW, eg, eh, Q13, Q14, hb2⟩ := two_pairs x4 (.int .i64 24) (.int .i64 5) (.int .i64 16) (.int .i64 5) 40
  rw [← eW, ← eh, ← eg]
  replace hb := sbtr hb hb2
  replace I := Sec.mk (I.out.later hb)
  replace P2 := Sec.mk (P2.out.later hb)
  replace p4 := Sec.mk (p4.out.later hb)
  replace p5 := Sec.mk (p5.out.later hb)
  replace Q7 := Sec.mk (Q7.out.later hb)
  replace Q8 := Sec.mk (Q8.out.later hb)
  replace p10 := Sec.mk (p10.out.later hb)
  replace p11 := Sec.mk (p11.out.later hb)
  replace Q13 := Sec.mk Q13
  replace Q14 := Sec.mk Q14
  clear hb hb2 C4 eW eg eh
  go_wp2_with fail
  refine ((show ∀ y, y = enV zE → Calls Tryd.prog 10 #[.agg y, .int .u8 0] Y4 fun x w' => x = .returned (.tuple #[.slice none 0 0, .slice none 0 0, .int .i64 6]) ∧ Below Y4.heap.size Y4 w' from fun y hy => by subst hy; exact C5.out _ I.out.sh) _ (by kernel_rfl)).mono ?_
  rintro x x5 ⟨rfl, hb⟩
  replace I := Sec.mk (I.out.later hb)
  replace P2 := Sec.mk (P2.out.later hb)
  replace p4 := Sec.mk (p4.out.later hb)
  replace p5 := Sec.mk (p5.out.later hb)
  replace Q7 := Sec.mk (Q7.out.later hb)
  replace Q8 := Sec.mk (Q8.out.later hb)
  replace p10 := Sec.mk (p10.out.later hb)
  replace p11 := Sec.mk (p11.out.later hb)
  replace Q13 := Sec.mk (Q13.out.later hb)
  replace Q14 := Sec.mk (Q14.out.later hb)
  clear hb C5 hz
  go_upto_region 9 with fail
  have HS := Sec.mk (show (∀ w', Below x5.heap.size x5 w' → w'.rangeAt g2 0 (enV ex2).toList ∧ w'.cell? ⟨g7, 0, none⟩ = some (.int .i64 232) ∧ w'.cell? ⟨g7, 1, none⟩ = some (.int .i64 1) ∧ w'.cell? ⟨g8, 0, none⟩ = some (.int .i64 (-232)) ∧ w'.cell? ⟨g8, 1, none⟩ = some (.int .i64 1) ∧ w'.cell? ⟨g13, 0, none⟩ = some (.int .i64 24) ∧ w'.cell? ⟨g13, 1, none⟩ = some (.int .i64 5) ∧ w'.cell? ⟨g14, 0, none⟩ = some (.int .i64 16) ∧ w'.cell? ⟨g14, 1, none⟩ = some (.int .i64 5)) from fun w' h =>
    ⟨(P2.out.later h).range, (Q7.out.later h).c0, (Q7.out.later h).c1, (Q8.out.later h).c0, (Q8.out.later h).c1, (Q13.out.later h).c0, (Q13.out.later h).c1, (Q14.out.later h).c0, (Q14.out.later h).c1⟩)
  have hw0 : IntKind.i64.wrap 0 = 0 := by decide
  have hbx : Below x5.heap.size x5 x5.drew := (Below.refl _ _).drew
  clear P2 Q7 Q8 Q13 Q14
  refine wp_region_held_drew (S := fun w' => w'.rangeAt g2 0 (enV ex2).toList ∧ w'.cell? ⟨g7, 0, none⟩ = some (.int .i64 232) ∧ w'.cell? ⟨g7, 1, none⟩ = some (.int .i64 1) ∧ w'.cell? ⟨g8, 0, none⟩ = some (.int .i64 (-232)) ∧ w'.cell? ⟨g8, 1, none⟩ = some (.int .i64 1) ∧ w'.cell? ⟨g13, 0, none⟩ = some (.int .i64 24) ∧ w'.cell? ⟨g13, 1, none⟩ = some (.int .i64 5) ∧ w'.cell? ⟨g14, 0, none⟩ = some (.int .i64 16) ∧ w'.cell? ⟨g14, 1, none⟩ = some (.int .i64 5)) (by kernel_rfl) (HS.out _ hbx) (fun hHeld0 => ?_)
  refine wpAnyH_take (i := 0) (oi := ⟨some 61, _, _, _, _, _⟩) (v := ?_) rfl (by kernel_rfl) (by kernel_rfl) (by kernel_rfl) (fun _ _ _ h => h) (Or.inl ⟨rfl, ?_⟩) hHeld0 ?_
  case refine_2 => (intro w hS; (iterate 14 (try obtain ⟨_, hS⟩ := hS)); go_simp; try with_reducible rfl)
  try simp only [Act.put, List.setIfInBounds_toArray, List.set_cons_zero, List.set_cons_succ]
  refine wpAnyH_take (i := 1) (oi := ⟨some 62, _, _, _, _, _⟩) (v := ?_) rfl (by kernel_rfl) (by kernel_rfl) (by kernel_rfl) (fun _ _ _ h => h) (Or.inl ⟨rfl, ?_⟩) hHeld0 ?_
  case refine_2 => (intro w hS; (iterate 14 (try obtain ⟨_, hS⟩ := hS)); go_simp; try with_reducible rfl)
  try simp only [Act.put, List.setIfInBounds_toArray, List.set_cons_zero, List.set_cons_succ]
  refine wpAnyH_take (i := 2) (oi := ⟨some 63, _, _, _, _, _⟩) (v := ?_) rfl (by kernel_rfl) (by kernel_rfl) (by kernel_rfl) (fun _ _ _ h => h) (Or.inl ⟨rfl, ?_⟩) hHeld0 ?_
  case refine_2 => (intro w hS; (iterate 14 (try obtain ⟨_, hS⟩ := hS)); go_simp; try with_reducible rfl)
  try simp only [Act.put, List.setIfInBounds_toArray, List.set_cons_zero, List.set_cons_succ]
  refine wpAnyH_take (i := 3) (oi := ⟨some 64, _, _, _, _, _⟩) (v := ?_) rfl (by kernel_rfl) (by kernel_rfl) (by kernel_rfl) (fun _ _ _ h => h) (Or.inl ⟨rfl, ?_⟩) hHeld0 ?_
  case refine_2 => (intro w hS; (iterate 14 (try obtain ⟨_, hS⟩ := hS)); go_simp; try with_reducible rfl)
  try simp only [Act.put, List.setIfInBounds_toArray, List.set_cons_zero, List.set_cons_succ]
  refine wpAnyH_take (i := 4) (oi := ⟨some 65, _, _, _, _, _⟩) (v := ?_) rfl (by kernel_rfl) (by kernel_rfl) (by kernel_rfl) (fun _ _ _ h => h) (Or.inl ⟨rfl, ?_⟩) hHeld0 ?_
  case refine_2 => (intro w hS; (iterate 14 (try obtain ⟨_, hS⟩ := hS)); go_simp; try with_reducible rfl)
  try simp only [Act.put, List.setIfInBounds_toArray, List.set_cons_zero, List.set_cons_succ]
  refine wpAnyH_take (i := 5) (oi := ⟨some 66, _, _, _, _, _⟩) (v := ?_) rfl (by kernel_rfl) (by kernel_rfl) (by kernel_rfl) (fun _ _ _ h => h) (Or.inl ⟨rfl, ?_⟩) hHeld0 ?_
  case refine_2 => (intro w hS; (iterate 14 (try obtain ⟨_, hS⟩ := hS)); go_simp; try with_reducible rfl)
  try simp only [Act.put, List.setIfInBounds_toArray, List.set_cons_zero, List.set_cons_succ]
  refine wpAnyH_take (i := 6) (oi := ⟨some 67, _, _, _, _, _⟩) (v := ?_) rfl (by kernel_rfl) (by kernel_rfl) (by kernel_rfl) (fun _ _ _ h => h) (Or.inl ⟨rfl, ?_⟩) hHeld0 ?_
  case refine_2 => (intro w hS; (iterate 14 (try obtain ⟨_, hS⟩ := hS)); go_simp; try with_reducible rfl)
  try simp only [Act.put, List.setIfInBounds_toArray, List.set_cons_zero, List.set_cons_succ]
  refine wpAnyH_take (i := 7) (oi := ⟨some 68, _, _, _, _, _⟩) (v := ?_) rfl (by kernel_rfl) (by kernel_rfl) (by kernel_rfl) (fun _ _ _ h => h) (Or.inl ⟨rfl, ?_⟩) hHeld0 ?_
  case refine_2 => (intro w hS; (iterate 14 (try obtain ⟨_, hS⟩ := hS)); go_simp; try with_reducible rfl)
  try simp only [Act.put, List.setIfInBounds_toArray, List.set_cons_zero, List.set_cons_succ]
  refine wpAnyH_take (i := 8) (oi := ⟨some 69, _, _, _, _, _⟩) (v := ?_) rfl (by kernel_rfl) (by kernel_rfl) (by kernel_rfl) (fun _ _ _ h => h) (Or.inl ⟨rfl, ?_⟩) hHeld0 ?_
  case refine_2 => (intro w hS; (iterate 14 (try obtain ⟨_, hS⟩ := hS)); go_simp; try with_reducible rfl)
  try simp only [Act.put, List.setIfInBounds_toArray, List.set_cons_zero, List.set_cons_succ]
  refine wpAnyH_take (i := 9) (oi := ⟨some 70, _, _, _, _, _⟩) (v := ?_) rfl (by kernel_rfl) (by kernel_rfl) (by kernel_rfl) (fun _ _ _ h => h) (Or.inl ⟨rfl, ?_⟩) hHeld0 ?_
  case refine_2 => (intro w hS; (iterate 14 (try obtain ⟨_, hS⟩ := hS)); go_simp; try with_reducible rfl)
  try simp only [Act.put, List.setIfInBounds_toArray, List.set_cons_zero, List.set_cons_succ]
  refine wpAnyH_take (i := 10) (oi := ⟨some 71, _, _, _, _, _⟩) (v := ?_) rfl (by kernel_rfl) (by kernel_rfl) (by kernel_rfl) (fun _ _ _ h => h) (Or.inl ⟨rfl, ?_⟩) hHeld0 ?_
  case refine_2 => (intro w hS; (iterate 14 (try obtain ⟨_, hS⟩ := hS)); go_simp; try with_reducible rfl)
  try simp only [Act.put, List.setIfInBounds_toArray, List.set_cons_zero, List.set_cons_succ]
  refine wpAnyH_take (i := 11) (oi := ⟨some 72, _, _, _, _, _⟩) (v := ?_) rfl (by kernel_rfl) (by kernel_rfl) (by kernel_rfl) (fun _ _ _ h => h) (Or.inl ⟨rfl, ?_⟩) hHeld0 ?_
  case refine_2 => (intro w hS; (iterate 14 (try obtain ⟨_, hS⟩ := hS)); go_simp; try with_reducible rfl)
  try simp only [Act.put, List.setIfInBounds_toArray, List.set_cons_zero, List.set_cons_succ]
  refine wpAnyH_take (i := 12) (oi := ⟨some 73, _, _, _, _, _⟩) (v := ?_) rfl (by kernel_rfl) (by kernel_rfl) (by kernel_rfl) (fun _ _ _ h => h) (Or.inl ⟨rfl, ?_⟩) hHeld0 ?_
  case refine_2 => (intro w hS; (iterate 14 (try obtain ⟨_, hS⟩ := hS)); go_simp; try with_reducible rfl)
  try simp only [Act.put, List.setIfInBounds_toArray, List.set_cons_zero, List.set_cons_succ]
  refine wpAnyH_take (i := 13) (oi := ⟨some 74, _, _, _, _, _⟩) (v := ?_) rfl (by kernel_rfl) (by kernel_rfl) (by kernel_rfl) (fun _ _ _ h => h) (Or.inl ⟨rfl, ?_⟩) hHeld0 ?_
  case refine_2 => (intro w hS; (iterate 14 (try obtain ⟨_, hS⟩ := hS)); go_simp; try with_reducible rfl)
  try simp only [Act.put, List.setIfInBounds_toArray, List.set_cons_zero, List.set_cons_succ]
  refine wpAnyH_ready (rs := [14]) (by kernel_rfl) (by simp) ?_
  refine AllReadyH.cons (o := _) rfl (fun K hK => ?_) AllReadyH.nil
  go_simp
  with_reducible refine (HI.out _ _ _ _ _ (p4.out.later hbx) rfl).mono ?_
  rintro e y0 ⟨rfl, hb⟩
  have hbx0 := sbtr hbx hb
  refine hK.out _ _ (HS.out _ hbx0) (fun hHeld1 => ?_)
  clear hK K hHeld0 hb
  refine wpAnyH_take (i := 15) (oi := ⟨some 76, _, _, _, _, _⟩) (v := ?_) rfl (by kernel_rfl) (by kernel_rfl) (by kernel_rfl) (fun _ _ _ h => h) (Or.inl ⟨rfl, ?_⟩) hHeld1 ?_
  case refine_2 => (intro w hS; (iterate 14 (try obtain ⟨_, hS⟩ := hS)); go_simp; try with_reducible rfl)
  try simp only [Act.put, List.setIfInBounds_toArray, List.set_cons_zero, List.set_cons_succ]
  refine wpAnyH_take (i := 16) (oi := ⟨some 77, _, _, _, _, _⟩) (v := ?_) rfl (by kernel_rfl) (by kernel_rfl) (by kernel_rfl) (fun _ _ _ h => h) (Or.inl ⟨rfl, ?_⟩) hHeld1 ?_
  case refine_2 => (intro w hS; (iterate 14 (try obtain ⟨_, hS⟩ := hS)); go_simp; try with_reducible rfl)
  try simp only [Act.put, List.setIfInBounds_toArray, List.set_cons_zero, List.set_cons_succ]
  refine wpAnyH_take (i := 17) (oi := ⟨some 78, _, _, _, _, _⟩) (v := ?_) rfl (by kernel_rfl) (by kernel_rfl) (by kernel_rfl) (fun _ _ _ h => h) (Or.inl ⟨rfl, ?_⟩) hHeld1 ?_
  case refine_2 => (intro w hS; (iterate 14 (try obtain ⟨_, hS⟩ := hS)); go_simp; try with_reducible rfl)
  try simp only [Act.put, List.setIfInBounds_toArray, List.set_cons_zero, List.set_cons_succ]
  refine wpAnyH_ready (rs := [18]) (by kernel_rfl) (by simp) ?_
  refine AllReadyH.cons (o := _) rfl (fun K hK => ?_) AllReadyH.nil
  go_simp
  with_reducible refine (HI.out _ _ _ _ _ (p5.out.later hbx0) rfl).mono ?_
  rintro e y1 ⟨rfl, hb⟩
  have hbx1 := sbtr hbx0 hb
  refine hK.out _ _ (HS.out _ hbx1) (fun hHeld2 => ?_)
  clear hK K hHeld1 hb
  refine wpAnyH_take (i := 19) (oi := ⟨some 80, _, _, _, _, _⟩) (v := ?_) rfl (by kernel_rfl) (by kernel_rfl) (by kernel_rfl) (fun _ _ _ h => h) (Or.inl ⟨rfl, ?_⟩) hHeld2 ?_
  case refine_2 => (intro w hS; (iterate 14 (try obtain ⟨_, hS⟩ := hS)); go_simp; try with_reducible rfl)
  try simp only [Act.put, List.setIfInBounds_toArray, List.set_cons_zero, List.set_cons_succ]
  refine wpAnyH_take (i := 20) (oi := ⟨some 81, _, _, _, _, _⟩) (v := ?_) rfl (by kernel_rfl) (by kernel_rfl) (by kernel_rfl) (fun _ _ _ h => h) (Or.inl ⟨rfl, ?_⟩) hHeld2 ?_
  case refine_2 => (intro w hS; (iterate 14 (try obtain ⟨_, hS⟩ := hS)); go_simp; try with_reducible rfl)
  try simp only [Act.put, List.setIfInBounds_toArray, List.set_cons_zero, List.set_cons_succ]
  refine wpAnyH_take (i := 21) (oi := ⟨some 82, _, _, _, _, _⟩) (v := ?_) rfl (by kernel_rfl) (by kernel_rfl) (by kernel_rfl) (fun _ _ _ h => h) (Or.inl ⟨rfl, ?_⟩) hHeld2 ?_
  case refine_2 => (intro w hS; (iterate 14 (try obtain ⟨_, hS⟩ := hS)); go_simp; try with_reducible rfl)
  try simp only [Act.put, List.setIfInBounds_toArray, List.set_cons_zero, List.set_cons_succ]
  refine wpAnyH_ready (rs := [22]) (by kernel_rfl) (by simp) ?_
  refine AllReadyH.cons (o := _) rfl (fun K hK => ?_) AllReadyH.nil
  go_simp
  with_reducible refine (HQ.out _ _ _).mono ?_
  rintro e y2 ⟨rfl, hb⟩
  have hbx2 := sbtr hbx1 hb
  refine hK.out _ _ (HS.out _ hbx2) (fun hHeld3 => ?_)
  clear hK K hHeld2 hb
  refine wpAnyH_take (i := 23) (oi := ⟨some 84, _, _, _, _, _⟩) (v := ?_) rfl (by kernel_rfl) (by kernel_rfl) (by kernel_rfl) (fun _ _ _ h => h) (Or.inl ⟨rfl, ?_⟩) hHeld3 ?_
  case refine_2 => (intro w hS; (iterate 14 (try obtain ⟨_, hS⟩ := hS)); go_simp; try with_reducible rfl)
  try simp only [Act.put, List.setIfInBounds_toArray, List.set_cons_zero, List.set_cons_succ]
  refine wpAnyH_take (i := 24) (oi := ⟨some 85, _, _, _, _, _⟩) (v := ?_) rfl (by kernel_rfl) (by kernel_rfl) (by kernel_rfl) (fun _ _ _ h => h) (Or.inl ⟨rfl, ?_⟩) hHeld3 ?_
  case refine_2 => (intro w hS; (iterate 14 (try obtain ⟨_, hS⟩ := hS)); go_simp; try with_reducible rfl)
  try simp only [Act.put, List.setIfInBounds_toArray, List.set_cons_zero, List.set_cons_succ]
  refine wpAnyH_take (i := 25) (oi := ⟨some 86, _, _, _, _, _⟩) (v := ?_) rfl (by kernel_rfl) (by kernel_rfl) (by kernel_rfl) (fun _ _ _ h => h) (Or.inl ⟨rfl, ?_⟩) hHeld3 ?_
  case refine_2 => (intro w hS; (iterate 14 (try obtain ⟨_, hS⟩ := hS)); go_simp; try with_reducible rfl)
  try simp only [Act.put, List.setIfInBounds_toArray, List.set_cons_zero, List.set_cons_succ]
  refine wpAnyH_take (i := 26) (oi := ⟨some 87, _, _, _, _, _⟩) (v := ?_) rfl (by kernel_rfl) (by kernel_rfl) (by kernel_rfl) (fun _ _ _ h => h) (Or.inl ⟨rfl, ?_⟩) hHeld3 ?_
  case refine_2 => (intro w hS; (iterate 14 (try obtain ⟨_, hS⟩ := hS)); go_simp; try with_reducible rfl)
  try simp only [Act.put, List.setIfInBounds_toArray, List.set_cons_zero, List.set_cons_succ]
  refine wpAnyH_ready (rs := [27]) (by kernel_rfl) (by simp) ?_
  refine AllReadyH.cons (o := _) rfl (fun K hK => ?_) AllReadyH.nil
  go_simp
  with_reducible refine (HQ.out _ _ _).mono ?_
  rintro e y3 ⟨rfl, hb⟩
  have hbx3 := sbtr hbx2 hb
  refine hK.out _ _ (HS.out _ hbx3) (fun hHeld4 => ?_)
  clear hK K hHeld3 hb
  refine wpAnyH_take (i := 28) (oi := ⟨some 89, _, _, _, _, _⟩) (v := ?_) rfl (by kernel_rfl) (by kernel_rfl) (by kernel_rfl) (fun _ _ _ h => h) (Or.inl ⟨rfl, ?_⟩) hHeld4 ?_
  case refine_2 => (intro w hS; (iterate 14 (try obtain ⟨_, hS⟩ := hS)); go_simp; try with_reducible rfl)
  try simp only [Act.put, List.setIfInBounds_toArray, List.set_cons_zero, List.set_cons_succ]
  refine wpAnyH_take (i := 29) (oi := ⟨some 90, _, _, _, _, _⟩) (v := ?_) rfl (by kernel_rfl) (by kernel_rfl) (by kernel_rfl) (fun _ _ _ h => h) (Or.inl ⟨rfl, ?_⟩) hHeld4 ?_
  case refine_2 => (intro w hS; (iterate 14 (try obtain ⟨_, hS⟩ := hS)); go_simp; try with_reducible rfl)
  try simp only [Act.put, List.setIfInBounds_toArray, List.set_cons_zero, List.set_cons_succ]
  refine wpAnyH_take (i := 30) (oi := ⟨some 91, _, _, _, _, _⟩) (v := ?_) rfl (by kernel_rfl) (by kernel_rfl) (by kernel_rfl) (fun _ _ _ h => h) (Or.inl ⟨rfl, ?_⟩) hHeld4 ?_
  case refine_2 => (intro w hS; (iterate 14 (try obtain ⟨_, hS⟩ := hS)); go_simp; try with_reducible rfl)
  try simp only [Act.put, List.setIfInBounds_toArray, List.set_cons_zero, List.set_cons_succ]
  refine wpAnyH_take (i := 31) (oi := ⟨some 92, _, _, _, _, _⟩) (v := ?_) rfl (by kernel_rfl) (by kernel_rfl) (by kernel_rfl) (fun _ _ _ h => h) (Or.inl ⟨rfl, ?_⟩) hHeld4 ?_
  case refine_2 => (intro w hS; (iterate 14 (try obtain ⟨_, hS⟩ := hS)); go_simp; try with_reducible rfl)
  try simp only [Act.put, List.setIfInBounds_toArray, List.set_cons_zero, List.set_cons_succ]
  refine wpAnyH_ready (rs := [32]) (by kernel_rfl) (by simp) ?_
  refine AllReadyH.cons (o := _) rfl (fun K hK => ?_) AllReadyH.nil
  go_simp
  with_reducible refine (HI.out _ _ _ _ _ (p10.out.later hbx3) rfl).mono ?_
  rintro e y4 ⟨rfl, hb⟩
  have hbx4 := sbtr hbx3 hb
  refine hK.out _ _ (HS.out _ hbx4) (fun hHeld5 => ?_)
  clear hK K hHeld4 hb
  refine wpAnyH_take (i := 33) (oi := ⟨some 94, _, _, _, _, _⟩) (v := ?_) rfl (by kernel_rfl) (by kernel_rfl) (by kernel_rfl) (fun _ _ _ h => h) (Or.inl ⟨rfl, ?_⟩) hHeld5 ?_
  case refine_2 => (intro w hS; (iterate 14 (try obtain ⟨_, hS⟩ := hS)); go_simp; try with_reducible rfl)
  try simp only [Act.put, List.setIfInBounds_toArray, List.set_cons_zero, List.set_cons_succ]
  refine wpAnyH_take (i := 34) (oi := ⟨some 95, _, _, _, _, _⟩) (v := ?_) rfl (by kernel_rfl) (by kernel_rfl) (by kernel_rfl) (fun _ _ _ h => h) (Or.inl ⟨rfl, ?_⟩) hHeld5 ?_
  case refine_2 => (intro w hS; (iterate 14 (try obtain ⟨_, hS⟩ := hS)); go_simp; try with_reducible rfl)
  try simp only [Act.put, List.setIfInBounds_toArray, List.set_cons_zero, List.set_cons_succ]
  refine wpAnyH_take (i := 35) (oi := ⟨some 96, _, _, _, _, _⟩) (v := ?_) rfl (by kernel_rfl) (by kernel_rfl) (by kernel_rfl) (fun _ _ _ h => h) (Or.inl ⟨rfl, ?_⟩) hHeld5 ?_
  case refine_2 => (intro w hS; (iterate 14 (try obtain ⟨_, hS⟩ := hS)); go_simp; try with_reducible rfl)
  try simp only [Act.put, List.setIfInBounds_toArray, List.set_cons_zero, List.set_cons_succ]
  refine wpAnyH_ready (rs := [36]) (by kernel_rfl) (by simp) ?_
  refine AllReadyH.cons (o := _) rfl (fun K hK => ?_) AllReadyH.nil
  go_simp
  with_reducible refine (HI.out _ _ _ _ _ (p11.out.later hbx4) rfl).mono ?_
  rintro e y5 ⟨rfl, hb⟩
  have hbx5 := sbtr hbx4 hb
  refine hK.out _ _ (HS.out _ hbx5) (fun hHeld6 => ?_)
  clear hK K hHeld5 hb
  refine wpAnyH_take (i := 37) (oi := ⟨some 98, _, _, _, _, _⟩) (v := ?_) rfl (by kernel_rfl) (by kernel_rfl) (by kernel_rfl) (fun _ _ _ h => h) (Or.inl ⟨rfl, ?_⟩) hHeld6 ?_
  case refine_2 => (intro w hS; (iterate 14 (try obtain ⟨_, hS⟩ := hS)); go_simp; try with_reducible rfl)
  try simp only [Act.put, List.setIfInBounds_toArray, List.set_cons_zero, List.set_cons_succ]
  refine wpAnyH_take (i := 38) (oi := ⟨some 99, _, _, _, _, _⟩) (v := ?_) rfl (by kernel_rfl) (by kernel_rfl) (by kernel_rfl) (fun _ _ _ h => h) (Or.inl ⟨rfl, ?_⟩) hHeld6 ?_
  case refine_2 => (intro w hS; (iterate 14 (try obtain ⟨_, hS⟩ := hS)); go_simp; try with_reducible rfl)
  try simp only [Act.put, List.setIfInBounds_toArray, List.set_cons_zero, List.set_cons_succ]
  refine wpAnyH_take (i := 39) (oi := ⟨some 100, _, _, _, _, _⟩) (v := ?_) rfl (by kernel_rfl) (by kernel_rfl) (by kernel_rfl) (fun _ _ _ h => h) (Or.inl ⟨rfl, ?_⟩) hHeld6 ?_
  case refine_2 => (intro w hS; (iterate 14 (try obtain ⟨_, hS⟩ := hS)); go_simp; try with_reducible rfl)
  try simp only [Act.put, List.setIfInBounds_toArray, List.set_cons_zero, List.set_cons_succ]
  refine wpAnyH_ready (rs := [40]) (by kernel_rfl) (by simp) ?_
  refine AllReadyH.cons (o := _) rfl (fun K hK => ?_) AllReadyH.nil
  go_simp
  with_reducible refine (HQ.out _ _ _).mono ?_
  rintro e y6 ⟨rfl, hb⟩
  have hbx6 := sbtr hbx5 hb
  refine hK.out _ _ (HS.out _ hbx6) (fun hHeld7 => ?_)
  clear hK K hHeld6 hb
  refine wpAnyH_take (i := 41) (oi := ⟨some 102, _, _, _, _, _⟩) (v := ?_) rfl (by kernel_rfl) (by kernel_rfl) (by kernel_rfl) (fun _ _ _ h => h) (Or.inl ⟨rfl, ?_⟩) hHeld7 ?_
  case refine_2 => (intro w hS; (iterate 14 (try obtain ⟨_, hS⟩ := hS)); go_simp; try with_reducible rfl)
  try simp only [Act.put, List.setIfInBounds_toArray, List.set_cons_zero, List.set_cons_succ]
  refine wpAnyH_take (i := 42) (oi := ⟨some 103, _, _, _, _, _⟩) (v := ?_) rfl (by kernel_rfl) (by kernel_rfl) (by kernel_rfl) (fun _ _ _ h => h) (Or.inl ⟨rfl, ?_⟩) hHeld7 ?_
  case refine_2 => (intro w hS; (iterate 14 (try obtain ⟨_, hS⟩ := hS)); go_simp; try with_reducible rfl)
  try simp only [Act.put, List.setIfInBounds_toArray, List.set_cons_zero, List.set_cons_succ]
  refine wpAnyH_take (i := 43) (oi := ⟨some 104, _, _, _, _, _⟩) (v := ?_) rfl (by kernel_rfl) (by kernel_rfl) (by kernel_rfl) (fun _ _ _ h => h) (Or.inl ⟨rfl, ?_⟩) hHeld7 ?_
  case refine_2 => (intro w hS; (iterate 14 (try obtain ⟨_, hS⟩ := hS)); go_simp; try with_reducible rfl)
  try simp only [Act.put, List.setIfInBounds_toArray, List.set_cons_zero, List.set_cons_succ]
  refine wpAnyH_take (i := 44) (oi := ⟨some 105, _, _, _, _, _⟩) (v := ?_) rfl (by kernel_rfl) (by kernel_rfl) (by kernel_rfl) (fun _ _ _ h => h) (Or.inl ⟨rfl, ?_⟩) hHeld7 ?_
  case refine_2 => (intro w hS; (iterate 14 (try obtain ⟨_, hS⟩ := hS)); go_simp; try with_reducible rfl)
  try simp only [Act.put, List.setIfInBounds_toArray, List.set_cons_zero, List.set_cons_succ]
  refine wpAnyH_ready (rs := [45]) (by kernel_rfl) (by simp) ?_
  refine AllReadyH.cons (o := _) rfl (fun K hK => ?_) AllReadyH.nil
  go_simp
  with_reducible refine (HQ.out _ _ _).mono ?_
  rintro e y7 ⟨rfl, hb⟩
  have hbx7 := sbtr hbx6 hb
  refine hK.out _ _ (HS.out _ hbx7) (fun hHeld8 => ?_)
  clear hK K hHeld7 hb
  refine wpAnyH_take (i := 46) (oi := ⟨some 107, _, _, _, _, _⟩) (v := ?_) rfl (by kernel_rfl) (by kernel_rfl) (by kernel_rfl) (fun _ _ _ h => h) (Or.inl ⟨rfl, ?_⟩) hHeld8 ?_
  case refine_2 => (intro w hS; (iterate 14 (try obtain ⟨_, hS⟩ := hS)); go_simp; try with_reducible rfl)
  try simp only [Act.put, List.setIfInBounds_toArray, List.set_cons_zero, List.set_cons_succ]
  refine wpAnyH_take (i := 47) (oi := ⟨some 108, _, _, _, _, _⟩) (v := ?_) rfl (by kernel_rfl) (by kernel_rfl) (by kernel_rfl) (fun _ _ _ h => h) (Or.inl ⟨rfl, ?_⟩) hHeld8 ?_
  case refine_2 => (intro w hS; (iterate 14 (try obtain ⟨_, hS⟩ := hS)); go_simp; try with_reducible rfl)
  try simp only [Act.put, List.setIfInBounds_toArray, List.set_cons_zero, List.set_cons_succ]
  refine wpAnyH_take (i := 48) (oi := ⟨some 109, _, _, _, _, _⟩) (v := ?_) rfl (by kernel_rfl) (by kernel_rfl) (by kernel_rfl) (fun _ _ _ h => h) (Or.inl ⟨rfl, ?_⟩) hHeld8 ?_
  case refine_2 => (intro w hS; (iterate 14 (try obtain ⟨_, hS⟩ := hS)); go_simp; try with_reducible rfl)
  try simp only [Act.put, List.setIfInBounds_toArray, List.set_cons_zero, List.set_cons_succ]
  refine wpAnyH_take (i := 49) (oi := ⟨some 110, _, _, _, _, _⟩) (v := _) rfl (by kernel_rfl) (by kernel_rfl) (by kernel_rfl) (fun _ _ _ h => h) (yieldsIf_load_mid (by rfl) 29 _ rfl g2 0 rfl (enV ex2).toList _ ?hS Tryd.underlying29 rfl hs2) hHeld8 ?rst
  case hS => exact fun w h => h.1
  simp only [Act.put, List.setIfInBounds_toArray, List.set_cons_zero, List.set_cons_succ, Array.toArray_toList]
  refine wpAnyH_ready (rs := [50]) (by kernel_rfl) (by simp) ?_
  refine AllReadyH.cons (o := _) rfl (fun K hK => ?_) AllReadyH.nil
  go_simp
  with_reducible refine (C6.out _ (I.out.sh.later hbx7)).mono ?_
  rintro e y8 ⟨rfl, hb⟩
  have hbx8 := sbtr hbx7 hb
  refine hK.out _ _ (HS.out _ hbx8) (fun hHeld9 => ?_)
  clear hK K hHeld8 hb
  refine wpAnyH_take (i := 51) (oi := ⟨some 112, _, _, _, _, _⟩) (v := ?_) rfl (by kernel_rfl) (by kernel_rfl) (by kernel_rfl) (fun _ _ _ h => h) (Or.inl ⟨rfl, ?_⟩) hHeld9 ?_
  case refine_2 => (intro w hS; (iterate 14 (try obtain ⟨_, hS⟩ := hS)); go_simp; try with_reducible rfl)
  try simp only [Act.put, List.setIfInBounds_toArray, List.set_cons_zero, List.set_cons_succ]
  refine wpAnyH_take (i := 52) (oi := ⟨some 0, _, _, _, _, _⟩) (v := ?_) rfl (by kernel_rfl) (by kernel_rfl) (by kernel_rfl) (fun _ _ _ h => h) (Or.inl ⟨rfl, ?_⟩) hHeld9 ?_
  case refine_2 => (intro w hS; (iterate 14 (try obtain ⟨_, hS⟩ := hS)); go_simp; try with_reducible rfl)
  try simp only [Act.put, List.setIfInBounds_toArray, List.set_cons_zero, List.set_cons_succ]
  refine wpAnyH_done (by kernel_rfl) ?_ _
  have hend := Sec.mk (sbtr I.out.below hbx8)
  clear hHeld9 HS I
  go_wp2_with fail
  go_ret
  exact ⟨rfl, hend.out⟩
end Go.Proofs.YtojgjpegfkfnjaaDoor
