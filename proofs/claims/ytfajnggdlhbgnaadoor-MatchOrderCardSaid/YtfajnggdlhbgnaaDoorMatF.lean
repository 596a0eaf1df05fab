/- The chapter's examples. -/
import Derived.Test.YtfajnggdlhbgnaaDoorMatE
namespace Go.Proofs.YtfajnggdlhbgnaaDoor
open Go.RowKit
set_option linter.unusedVariables false
set_option linter.unusedSimpArgs false

theorem ex_points : ((onesOf [420, 450, 420, -50]).map fun a => qp (matchQ (onesOf [420, 450, 420, -50]) a)) = [(3, 1), (6, 1), (3, 1), (0, 1)] := by decide +kernel
theorem ex_right : (onesOf [420, 450, 420, -50]).any (fun r => !rightR r) = false := by decide +kernel
theorem ex_a : qp (gainQ [(420, 50), (-50, 50)] [(400, 100)]) = (1, 1) := by decide +kernel
theorem ex_b : qp (gainQ [(420, 50), (-50, 50)] [(420, 100)]) = (1, 2) := by decide +kernel
theorem ex_c : qp (gainQ [(600, 33), (100, 67)] [(600, 40), (50, 60)]) = (333, 250) := by decide +kernel

theorem parts_block2 (w : World) (a b c d : Int) : PartsB (w.alloc (.cells #[.int .i64 a, .int .i64 b, .int .i64 c, .int .i64 d] 44)) (some ⟨w.heap.size, 0, none⟩) [(a, b), (c, d)] := by
  refine ⟨fun i p hp => ?_, fun a' ha => ?_⟩
  · match i, hp with
    | 0, hp => simp at hp; subst hp; exact ⟨w.heap.size, 0, rfl, by go_simp, by go_simp⟩
    | 1, hp => simp at hp; subst hp; exact ⟨w.heap.size, 0, rfl, by go_simp, by go_simp⟩
  · cases ha
    exact ⟨_, (0, 0), heap_alloc_new w _⟩

theorem cmp_ex1 (w : World) (H : Option Addr) (h : Parts w H [(420, 50), (-50, 50)]) (hG : Gets w) :
    Calls Tryd.prog 17 #[.slice H 2 2, .slice (some ⟨w.heap.size, 0, none⟩) 1 1] (w.alloc (.cells #[.int .i64 400, .int .i64 100] 44)) fun e w' => e = .returned (.tuple #[.agg #[.int .i64 1, .int .i64 1], .int .i64 0]) ∧ Below w.heap.size w w' := by
  have h0 : Below w.heap.size w (w.alloc (.cells #[.int .i64 400, .int .i64 100] 44)) := (Below.refl _ _).alloc (Nat.le_refl _) _
  have C1 := Compare_right H (some ⟨w.heap.size, 0, none⟩) 2 1 [(420, 50), (-50, 50)] [(400, 100)] _ (h.later h0) (parts_block1 w 400 100).1 (hG.later h0) (by decide +kernel) (by decide +kernel)
  rw [show (gainQ [(420, 50), (-50, 50)] [(400, 100)]).num = 1 by decide +kernel, show ((gainQ [(420, 50), (-50, 50)] [(400, 100)]).den : Int) = 1 by decide +kernel] at C1
  exact C1.mono fun e w' ⟨e1, e2⟩ => ⟨e1, h0.trans (e2.mono h0.size)⟩
theorem cmp_ex2 (w : World) (H : Option Addr) (h : Parts w H [(420, 50), (-50, 50)]) (hG : Gets w) :
    Calls Tryd.prog 17 #[.slice H 2 2, .slice (some ⟨w.heap.size, 0, none⟩) 1 1] (w.alloc (.cells #[.int .i64 420, .int .i64 100] 44)) fun e w' => e = .returned (.tuple #[.agg #[.int .i64 1, .int .i64 2], .int .i64 0]) ∧ Below w.heap.size w w' := by
  have h0 : Below w.heap.size w (w.alloc (.cells #[.int .i64 420, .int .i64 100] 44)) := (Below.refl _ _).alloc (Nat.le_refl _) _
  have C1 := Compare_right H (some ⟨w.heap.size, 0, none⟩) 2 1 [(420, 50), (-50, 50)] [(420, 100)] _ (h.later h0) (parts_block1 w 420 100).1 (hG.later h0) (by decide +kernel) (by decide +kernel)
  rw [show (gainQ [(420, 50), (-50, 50)] [(420, 100)]).num = 1 by decide +kernel, show ((gainQ [(420, 50), (-50, 50)] [(420, 100)]).den : Int) = 2 by decide +kernel] at C1
  exact C1.mono fun e w' ⟨e1, e2⟩ => ⟨e1, h0.trans (e2.mono h0.size)⟩
theorem cmp_ex3 (w : World) (hG : Gets w) :
    Calls Tryd.prog 17 #[.slice (some ⟨w.heap.size, 0, none⟩) 2 2, .slice (some ⟨w.heap.size + 1, 0, none⟩) 2 2] ((w.alloc (.cells #[.int .i64 600, .int .i64 33, .int .i64 100, .int .i64 67] 44)).alloc (.cells #[.int .i64 600, .int .i64 40, .int .i64 50, .int .i64 60] 44)) fun e w' => e = .returned (.tuple #[.agg #[.int .i64 333, .int .i64 250], .int .i64 0]) ∧ Below w.heap.size w w' := by
  have h0 : Below w.heap.size w (w.alloc (.cells #[.int .i64 600, .int .i64 33, .int .i64 100, .int .i64 67] 44)) := (Below.refl _ _).alloc (Nat.le_refl _) _
  have h1 : Below w.heap.size w ((w.alloc (.cells #[.int .i64 600, .int .i64 33, .int .i64 100, .int .i64 67] 44)).alloc (.cells #[.int .i64 600, .int .i64 40, .int .i64 50, .int .i64 60] 44)) := h0.alloc (by simp) _
  have hp2 := (parts_block2 (w.alloc (.cells #[.int .i64 600, .int .i64 33, .int .i64 100, .int .i64 67] 44)) 600 40 50 60).1
  rw [World.size_alloc] at hp2
  have C1 := Compare_right (some ⟨w.heap.size, 0, none⟩) (some ⟨w.heap.size + 1, 0, none⟩) 2 2 [(600, 33), (100, 67)] [(600, 40), (50, 60)] _ ((parts_block2 w 600 33 100 67).1.later ((Below.refl _ _).alloc (Nat.le_refl _) _)) hp2 (hG.later h1) (by decide +kernel) (by decide +kernel)
  rw [show (gainQ [(600, 33), (100, 67)] [(600, 40), (50, 60)]).num = 333 by decide +kernel, show ((gainQ [(600, 33), (100, 67)] [(600, 40), (50, 60)]).den : Int) = 250 by decide +kernel] at C1
  exact C1.mono fun e w' ⟨e1, e2⟩ => ⟨e1, h1.trans (e2.mono h1.size)⟩

theorem parts_four {w : World} {A : Option Addr} {p0 p1 p2 p3 q0 q1 q2 q3 : Int} (h : Parts w A [(p0, q0), (p1, q1), (p2, q2), (p3, q3)]) :
    ∃ b o : Nat, A = some ⟨b, o, none⟩ ∧ w.cell? ⟨b, o, none⟩ = some (.int .i64 p0) ∧ w.cell? ⟨b, o + 1, none⟩ = some (.int .i64 q0) ∧ w.cell? ⟨b, o + 2, none⟩ = some (.int .i64 p1) ∧ w.cell? ⟨b, o + 2 + 1, none⟩ = some (.int .i64 q1) ∧
      w.cell? ⟨b, o + 4, none⟩ = some (.int .i64 p2) ∧ w.cell? ⟨b, o + 4 + 1, none⟩ = some (.int .i64 q2) ∧ w.cell? ⟨b, o + 6, none⟩ = some (.int .i64 p3) ∧ w.cell? ⟨b, o + 6 + 1, none⟩ = some (.int .i64 q3) := by
  obtain ⟨b, o, rfl, a1, a2⟩ := h 0 _ rfl
  obtain ⟨b', o', e, a3, a4⟩ := h 1 _ rfl
  obtain ⟨b2, o2, e2, a5, a6⟩ := h 2 _ rfl
  obtain ⟨b3, o3, e3, a7, a8⟩ := h 3 _ rfl
  cases e; cases e2; cases e3
  exact ⟨b, o, rfl, by simpa using a1, by simpa using a2, by simpa using a3, by simpa using a4, by simpa using a5, by simpa using a6, by simpa using a7, by simpa using a8⟩

def Bund (w : World) (l : List (Addr × Value)) : Prop := ∀ x ∈ l, w.cell? x.1 = some x.2
theorem Bund.later {w w' : World} {l : List (Addr × Value)} (h : Bund w l) (hb : Below w.heap.size w w') : Bund w' l := fun x hx => cell_later hb (h x hx)
theorem fourteen {w : World} {x1 x2 x3 x4 x5 x6 x7 x8 x9 x10 x11 x12 x13 x14 : Addr × Value} (h : Bund w [x1, x2, x3, x4, x5, x6, x7, x8, x9, x10, x11, x12, x13, x14]) :
    w.cell? x1.1 = some x1.2 ∧ w.cell? x2.1 = some x2.2 ∧ w.cell? x3.1 = some x3.2 ∧ w.cell? x4.1 = some x4.2 ∧ w.cell? x5.1 = some x5.2 ∧ w.cell? x6.1 = some x6.2 ∧ w.cell? x7.1 = some x7.2 ∧ w.cell? x8.1 = some x8.2 ∧ w.cell? x9.1 = some x9.2 ∧ w.cell? x10.1 = some x10.2 ∧ w.cell? x11.1 = some x11.2 ∧ w.cell? x12.1 = some x12.2 ∧ w.cell? x13.1 = some x13.2 ∧ w.cell? x14.1 = some x14.2 := by
  refine ⟨?_, ?_, ?_, ?_, ?_, ?_, ?_, ?_, ?_, ?_, ?_, ?_, ?_, ?_⟩ <;> exact h _ (by simp)
set_option maxRecDepth 100000 in
set_option maxHeartbeats 4000000 in
theorem awake_true (w : World) (hG : Gets w) : Calls Tryd.prog 10 #[] w fun e w' => e = .returned (.bool true) ∧ Below w.heap.size w w' := by
  have HG := Sec.mk hG
  clear hG
  go_enter Tryd.func10, Tryd.ntmps10
  go_wp2_with fail
  refine (ones_any (some ⟨w.heap.size, 0, none⟩) 4 [420, 450, 420, -50] _ ?_ (by decide)).mono ?_
  · intro i x hx
    match i, hx with
    | 0, hx => simp at hx; subst hx; exact ⟨w.heap.size, 0, rfl, by go_simp⟩
    | 1, hx => simp at hx; subst hx; exact ⟨w.heap.size, 0, rfl, by go_simp⟩
    | 2, hx => simp at hx; subst hx; exact ⟨w.heap.size, 0, rfl, by go_simp⟩
    | 3, hx => simp at hx; subst hx; exact ⟨w.heap.size, 0, rfl, by go_simp⟩
  rintro e w1 ⟨v, rfl, hO, hb1⟩
  have hB1 : Below w.heap.size w w1 := ((Below.refl _ _).alloc (Nat.le_refl _) _).trans (hb1.mono (by simp))
  obtain ⟨A1, c1, hv1, hR1⟩ := hO.ress
  have HP := Sec.mk (Points_right A1 c1 _ w1 hR1 (HG.out.later hB1) ex_right (by decide))
  rw [ex_points] at HP
  rw [hv1]
  clear hv1 hO hb1 hR1
  go_wp2_with fail
  refine HP.out.mono ?_; clear HP
  rintro e w2 ⟨v2, rfl, hO2, hb2⟩
  have hB2 : Below w.heap.size w w2 := hB1.trans (hb2.mono hB1.size)
  obtain ⟨A2, c2, rfl, hQ2, -⟩ := parts_of_own hO2
  have HQ := Sec.mk hQ2
  clear hO2 hb2 hQ2 hB1
  have HH := Sec.mk (parts_block2 w2 420 50 (-50) 50).1
  have HQ2 : Sec (∀ w', Below w2.heap.size w2 w' → Parts w' A2 [(3, 1), (6, 1), (3, 1), (0, 1)]) := ⟨fun w' h => HQ.out.later h⟩
  have HB3 : Below w.heap.size w (w2.alloc (.cells #[.int .i64 420, .int .i64 50, .int .i64 (-50), .int .i64 50] 44)) := hB2.alloc hB2.size _
  have HB23 : Below w2.heap.size w2 (w2.alloc (.cells #[.int .i64 420, .int .i64 50, .int .i64 (-50), .int .i64 50] 44)) := (Below.refl _ _).alloc (Nat.le_refl _) _
  have C1 := Sec.mk (cmp_ex1 _ _ HH.out (HG.out.later HB3))
  go_wp2_with (go_at_call 22; refine (one_any _ _).mono ?_; rintro e w3 ⟨rfl, rfl⟩)
  rw [World.size_alloc] at C1
  refine C1.out.mono ?_; clear C1
  rintro e w4 ⟨rfl, hb4'⟩
  have hb4 : Below (w2.alloc (.cells #[.int .i64 420, .int .i64 50, .int .i64 (-50), .int .i64 50] 44)).heap.size (w2.alloc (.cells #[.int .i64 420, .int .i64 50, .int .i64 (-50), .int .i64 50] 44)) w4 := by rw [World.size_alloc]; exact hb4'
  have hB4 : Below w.heap.size w w4 := HB3.trans (hb4.mono HB3.size)
  have hB24 : Below w2.heap.size w2 w4 := HB23.trans (hb4.mono HB23.size)
  have C2 := Sec.mk (fun w' (h : Below w4.heap.size w4 w') => cmp_ex2 w' _ ((HH.out.later hb4).later h) ((HG.out.later hB4).later h))
  clear hb4 hb4' HB3 HB23 HQ HH
  have hx : Below w4.heap.size w4 (w4.alloc (.cells #[.int .i64 1, .int .i64 1] 46)) := (Below.refl _ _).alloc (Nat.le_refl _) _
  have hx0 : (w4.alloc (.cells #[.int .i64 1, .int .i64 1] 46)).heap.size = w4.heap.size + 1 := by simp
  go_wp2_with (go_at_call 22; refine (one_any _ _).mono ?_; rintro e w3 ⟨rfl, rfl⟩)
  rw [← hx0]
  refine (C2.out _ hx).mono ?_; clear C2
  rintro e w5 ⟨rfl, hb5⟩
  obtain ⟨a1, a2, -, -, -⟩ := kept2a hb5
  have hB45 : Below w4.heap.size w4 w5 := hx.trans (hb5.mono hx.size)
  have hB5 : Below w.heap.size w w5 := hB4.trans (hB45.mono hB4.size)
  have hB25 : Below w2.heap.size w2 w5 := hB24.trans (hB45.mono hB24.size)
  have hs45 := hB45.size
  have hlt5 : w4.heap.size < w5.heap.size := World.block_lt_of_cell? _ _ a1
  clear hx hx0 hb5 hB24
  have hx : Below w5.heap.size w5 (w5.alloc (.cells #[.int .i64 1, .int .i64 2] 46)) := (Below.refl _ _).alloc (Nat.le_refl _) _
  have hx0 : (w5.alloc (.cells #[.int .i64 1, .int .i64 2] 46)).heap.size = w5.heap.size + 1 := by simp
  have C3 := Sec.mk (cmp_ex3 _ (HG.out.later (hB5.trans (hx.mono hB5.size))))
  rw [hx0] at C3
  go_wp2_with fail
  refine C3.out.mono ?_; clear C3
  rintro e w6 ⟨rfl, hb6'⟩
  have hb6 : Below (w5.alloc (.cells #[.int .i64 1, .int .i64 2] 46)).heap.size (w5.alloc (.cells #[.int .i64 1, .int .i64 2] 46)) w6 := by rw [World.size_alloc]; exact hb6'
  obtain ⟨b1, b2, -, -, -⟩ := kept2a hb6
  have hB56 : Below w5.heap.size w5 w6 := hx.trans (hb6.mono hx.size)
  have hB6 : Below w.heap.size w w6 := hB5.trans (hB56.mono hB5.size)
  have hB26 : Below w2.heap.size w2 w6 := hB25.trans (hB56.mono hB25.size)
  have a1' := cell_later hB56 a1
  have a2' := cell_later hB56 a2
  have hlt6 : w5.heap.size < w6.heap.size := World.block_lt_of_cell? _ _ b1
  have hlt56 := hB56.size
  have hlt46 : w4.heap.size < w6.heap.size := by omega
  clear hx hx0 hb6 hb6' hB25 hB45 hB56 a1 a2 hs45
  go_upto_region 6 with fail
  obtain ⟨b, o, rfl, q1, q2, q3, q4, q5, q6, q7, q8⟩ := parts_four (HQ2.out _ hB26)
  have c1' : (w6.alloc (.cells #[.int .i64 333, .int .i64 250] 46)).cell? ⟨w6.heap.size, 0, none⟩ = some (.int .i64 333) := by go_simp
  have c2' : (w6.alloc (.cells #[.int .i64 333, .int .i64 250] 46)).cell? ⟨w6.heap.size, 1, none⟩ = some (.int .i64 250) := by go_simp
  have hx : Below w6.heap.size w6 (w6.alloc (.cells #[.int .i64 333, .int .i64 250] 46)) := (Below.refl _ _).alloc (Nat.le_refl _) _
  have BU : Bund (w6.alloc (.cells #[.int .i64 333, .int .i64 250] 46)) [(⟨w4.heap.size, 0, none⟩, .int .i64 1), (⟨w4.heap.size, 1, none⟩, .int .i64 1), (⟨w5.heap.size, 0, none⟩, .int .i64 1), (⟨w5.heap.size, 1, none⟩, .int .i64 2), (⟨w6.heap.size, 0, none⟩, .int .i64 333), (⟨w6.heap.size, 1, none⟩, .int .i64 250),
    (⟨b, o, none⟩, .int .i64 3), (⟨b, o + 1, none⟩, .int .i64 1), (⟨b, o + 2, none⟩, .int .i64 6), (⟨b, o + 2 + 1, none⟩, .int .i64 1), (⟨b, o + 4, none⟩, .int .i64 3), (⟨b, o + 4 + 1, none⟩, .int .i64 1), (⟨b, o + 6, none⟩, .int .i64 0), (⟨b, o + 6 + 1, none⟩, .int .i64 1)] := by
    intro x hxm
    simp only [List.mem_cons, List.not_mem_nil, or_false] at hxm
    rcases hxm with rfl | rfl | rfl | rfl | rfl | rfl | rfl | rfl | rfl | rfl | rfl | rfl | rfl | rfl
    · exact cell_later hx a1'
    · exact cell_later hx a2'
    · exact cell_later hx b1
    · exact cell_later hx b2
    · exact c1'
    · exact c2'
    · exact cell_later hx q1
    · exact cell_later hx q2
    · exact cell_later hx q3
    · exact cell_later hx q4
    · exact cell_later hx q5
    · exact cell_later hx q6
    · exact cell_later hx q7
    · exact cell_later hx q8
  have hBx : Below w.heap.size w (w6.alloc (.cells #[.int .i64 333, .int .i64 250] 46)) := hB6.trans (hx.mono hB6.size)
  clear HQ2 hB26 hx
  have IS := Sec.mk (fun (n d a b : Int) (w : World) => (is_any n d a b w).mono (R' := fun e w' => e = .returned (.bool (n == a && d == b)) ∧ Below w.heap.size w w') (fun e w' ⟨h1, h2⟩ => ⟨h1, h2 ▸ (Below.refl _ _).alloc (Nat.le_refl _) _⟩))
  have tr : ∀ {w w1 w2 : World}, Below w.heap.size w w1 → Below w1.heap.size w1 w2 → Below w.heap.size w w2 := fun h1 h2 => h1.trans (h2.mono h1.size)
  obtain ⟨d1, d2, d3, d4, d5, d6, d7, d8, d9, d10, d11, d12, d13, d14⟩ := fourteen BU
  clear a1' a2' b1 b2 c1' c2' q1 q2 q3 q4 q5 q6 q7 q8
  generalize (w6.alloc (.cells #[.int .i64 333, .int .i64 250] 46)) = wx at *
  go_wp2_with (first
    | (go_at_call 35; refine (IS.out _ _ _ _ _).mono ?_; rintro e w3 ⟨rfl, hb3⟩; have hBx := tr hBx hb3; have BU := BU.later hb3; obtain ⟨d1, d2, d3, d4, d5, d6, d7, d8, d9, d10, d11, d12, d13, d14⟩ := fourteen BU)
    | (go_at_call 25; refine (sum_small 4 _ (by decide)).mono ?_; rintro e w3 ⟨rfl, rfl⟩)
    | (go_at_call 27; refine (top_small 4 _ (by decide)).mono ?_; rintro e w3 ⟨rfl, rfl⟩))
  go_ret
  exact ⟨rfl, hBx⟩
end Go.Proofs.YtfajnggdlhbgnaaDoor
