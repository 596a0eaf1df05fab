/- The examples of chapter 21. -/
import Derived.Test.YtkocgknidpmcmaaDoorNeuE
namespace Go.Proofs.YtkocgknidpmcmaaDoor
open Go.RowKit
set_option linter.unusedVariables false
set_option linter.unusedSimpArgs false

theorem q_any (n d : Int) (w : World) : Calls Tryd.prog 24 #[.int .i64 n, .int .i64 d] w fun e w' => e = .returned (.agg #[.int .i64 n, .int .i64 d]) ∧ Below w.heap.size w w' := by
  go_enter Tryd.func24, Tryd.ntmps24
  go_wp2_with fail
  exact bodyPost_ret (v := .agg #[.int .i64 n, .int .i64 d]) (by simp [results, Tryd.results24, go_sem]) rfl ⟨rfl, by first | exact st1 _ _ | exact set2 (st1 _ _) (Nat.le_refl _)⟩

theorem ex_adj (m N D : Int) (w : World) (h1 : withinB m 1 4 = true) (h0 : -100 ≤ m ∧ m ≤ 100) (hf1 : fits ((m : Rat) * (((5 : Int) : Rat) / ((3 : Int) : Rat)))) (hf2 : fits (adjQ (m : Rat) 3 5)) (hN : (adjQ (m : Rat) 3 5).num = N) (hD : ((adjQ (m : Rat) 3 5).den : Int) = D) :
    Calls Tryd.prog 11 #[.agg #[.int .i64 m, .int .i64 1], .int .i64 3, .int .i64 5] w fun e w' => e = .returned (.tuple #[.agg #[.int .i64 N, .int .i64 D], .int .i64 0]) ∧ Below w.heap.size w w' := by
  have h := Adjust_right (m : Rat) 3 5 w (fits_int m (by omega)) (by rw [Rat.num_intCast, Rat.den_intCast]; exact h1) (by omega) (by omega) (by omega) hf1 hf2
  rw [Rat.num_intCast, Rat.den_intCast, hN, hD] at h
  exact h
theorem ex_adj2 (w : World) : Calls Tryd.prog 11 #[.agg #[.int .i64 2, .int .i64 1], .int .i64 3, .int .i64 5] w fun e w' => e = .returned (.tuple #[.agg #[.int .i64 4, .int .i64 1], .int .i64 0]) ∧ Below w.heap.size w w' :=
  ex_adj 2 4 1 w (by decide +kernel) (by omega) (by unfold fits; decide +kernel) (by unfold fits; decide +kernel) (by decide +kernel) (by decide +kernel)
theorem ex_adj4 (w : World) : Calls Tryd.prog 11 #[.agg #[.int .i64 4, .int .i64 1], .int .i64 3, .int .i64 5] w fun e w' => e = .returned (.tuple #[.agg #[.int .i64 22, .int .i64 3], .int .i64 0]) ∧ Below w.heap.size w w' :=
  ex_adj 4 22 3 w (by decide +kernel) (by omega) (by unfold fits; decide +kernel) (by unfold fits; decide +kernel) (by decide +kernel) (by decide +kernel)
theorem ex_adj0 (w : World) : Calls Tryd.prog 11 #[.agg #[.int .i64 0, .int .i64 1], .int .i64 3, .int .i64 5] w fun e w' => e = .returned (.tuple #[.agg #[.int .i64 2, .int .i64 3], .int .i64 0]) ∧ Below w.heap.size w w' :=
  ex_adj 0 2 3 w (by decide +kernel) (by omega) (by unfold fits; decide +kernel) (by unfold fits; decide +kernel) (by decide +kernel) (by decide +kernel)
theorem ex_field (A : Option Addr) (c : Nat) (w : World) (hA : Ress w A [[(50, 100)]]) (hG : Gets w) :
    Calls Tryd.prog 21 #[.slice A 1 c, .int .i64 5] w fun e w' => ∃ b o d, e = .returned (.tuple #[.slice (some ⟨b, o, none⟩) 1 d, .int .i64 0]) ∧ w'.cell? ⟨b, o, none⟩ = some (.int .i64 4) ∧ w'.cell? ⟨b, o + 1, none⟩ = some (.int .i64 1) ∧ Below w.heap.size w w' := by
  refine (Field_right A c [[(50, 100)]] 5 w hA hG (by decide +kernel) (by decide) (by decide) (by decide)).mono ?_
  rintro e w' ⟨v, rfl, hO, hb⟩
  rw [show ([[(50, 100)]] : List (List (Int × Int))).map (fun a => qp (fieldQ [[(50, 100)]] 5 a)) = [(4, 1)] by decide +kernel] at hO
  obtain ⟨A1, c1, rfl, hP, -⟩ := parts_of_own hO
  obtain ⟨b, o, rfl, h1, h2⟩ := hP 0 (4, 1) rfl
  simp only [Nat.zero_mul, Nat.add_zero] at h1 h2
  exact ⟨b, o, c1, rfl, h1, h2, hb⟩
theorem ex_percent (w : World) : Calls Tryd.prog 15 #[.agg #[.int .i64 22, .int .i64 3], .int .i64 5] w fun e w' => e = .returned (.tuple #[.agg #[.int .i64 275, .int .i64 3], .int .i64 0]) ∧ Below w.heap.size w w' := by
  have h := Percent_right (((22 : Int) : Rat) / ((3 : Int) : Rat)) _ 5 w (by unfold fits; decide +kernel) (by decide) (by unfold fits; decide +kernel) rfl
  rw [show ((((22 : Int) : Rat) / ((3 : Int) : Rat)) * (((100 : Int) : Rat) / ((2 * (((5 : Nat) : Int) - 1) : Int) : Rat))).num = 275 by decide +kernel, show (((((22 : Int) : Rat) / ((3 : Int) : Rat)) * (((100 : Int) : Rat) / ((2 * (((5 : Nat) : Int) - 1) : Int) : Rat))).den : Int) = 3 by decide +kernel,
    show (((22 : Int) : Rat) / ((3 : Int) : Rat)).num = 22 by decide +kernel, show ((((22 : Int) : Rat) / ((3 : Int) : Rat)).den : Int) = 3 by decide +kernel] at h
  exact h
theorem ex_share (w : World) : Calls Tryd.prog 17 #[.int .i64 60, .int .i64 5] w fun e w' => e = .returned (.tuple #[.agg #[.int .i64 24, .int .i64 5], .int .i64 0]) ∧ Below w.heap.size w w' := by
  have h := Share_right 60 5 w (by decide) (by decide)
  rw [show (shareQ 60 5).num = 24 by decide +kernel, show ((shareQ 60 5).den : Int) = 5 by decide +kernel] at h
  exact h
theorem ex_none (w : World) : Calls Tryd.prog 15 #[.agg #[.int .i64 0, .int .i64 1], .int .i64 1] w fun e w' => e = .returned (.tuple #[.agg #[.int .i64 0, .int .i64 0], .int .i64 6]) ∧ Below w.heap.size w w' := by
  have h := Percent_none ((0 : Int) : Rat) w (fits_int 0 (by omega))
  rw [Rat.num_intCast, Rat.den_intCast] at h
  exact h

theorem ress_one (w : World) (A : Option Addr) (r : List (Int × Int)) (c : Nat) (h : Parts w A r) : Ress (w.alloc (.cells #[.slice A r.length c] 35)) (some ⟨w.heap.size, 0, none⟩) [r] := by
  intro i x hx
  match i, hx with
  | 0, hx => simp at hx; subst hx; exact ⟨w.heap.size, 0, rfl, A, c, by go_simp, h.later (st1 _ _)⟩

theorem twelve {w : World} {x1 x2 x3 x4 x5 x6 x7 x8 x9 x10 x11 x12 : Addr × Value} (h : Bund w [x1, x2, x3, x4, x5, x6, x7, x8, x9, x10, x11, x12]) :
    w.cell? x1.1 = some x1.2 ∧ w.cell? x2.1 = some x2.2 ∧ w.cell? x3.1 = some x3.2 ∧ w.cell? x4.1 = some x4.2 ∧ w.cell? x5.1 = some x5.2 ∧ w.cell? x6.1 = some x6.2 ∧ w.cell? x7.1 = some x7.2 ∧ w.cell? x8.1 = some x8.2 ∧ w.cell? x9.1 = some x9.2 ∧ w.cell? x10.1 = some x10.2 ∧ w.cell? x11.1 = some x11.2 ∧ w.cell? x12.1 = some x12.2 := by
  refine ⟨?_, ?_, ?_, ?_, ?_, ?_, ?_, ?_, ?_, ?_, ?_, ?_⟩ <;> exact h _ (by simp)

set_option maxRecDepth 100000 in
set_option maxHeartbeats 4000000 in
theorem awake21 (w : World) (hG : Gets w) : Calls Tryd.prog 19 #[] w fun e w' => e = .returned (.bool true) ∧ Below w.heap.size w w' := by
  have HG := Sec.mk hG
  clear hG
  go_enter Tryd.func19, Tryd.ntmps19
  go_wp2_with fail
  refine (q_any _ _ _).mono ?_; rintro e w1 ⟨rfl, hb1⟩
  go_wp2_with fail
  refine (ex_adj2 _).mono ?_; rintro e w2' ⟨rfl, hb2⟩
  go_wp2_with fail
  obtain ⟨w2, g2, e1, e2, P2, hB2, -⟩ := pack2 (w0 := w) (.int .i64 4) (.int .i64 1) 23 (btr hb1 hb2)
  rw [← e1, ← e2]
  clear e1 e2 hb1 hb2
  refine (q_any _ _ _).mono ?_; rintro e w3' ⟨rfl, hb1⟩
  go_wp2_with fail
  refine (ex_adj4 _).mono ?_; rintro e w3'' ⟨rfl, hb2⟩
  go_wp2_with fail
  obtain ⟨w3, g3, e1, e2, P3, hB3, -⟩ := pack2 (w0 := w2) (.int .i64 22) (.int .i64 3) 23 (btr hb1 hb2)
  rw [← e1, ← e2]
  replace P2 := P2.later hB3
  replace hB3 := btr hB2 hB3
  clear e1 e2 hb1 hb2 hB2
  refine (q_any _ _ _).mono ?_; rintro e w3' ⟨rfl, hb1⟩
  go_wp2_with fail
  refine (ex_adj0 _).mono ?_; rintro e w3'' ⟨rfl, hb2⟩
  go_wp2_with fail
  obtain ⟨w4, g4, e1, e2, P4, hB4, -⟩ := pack2 (w0 := w3) (.int .i64 2) (.int .i64 3) 23 (btr hb1 hb2)
  rw [← e1, ← e2]
  replace P2 := P2.later hB4
  replace P3 := P3.later hB4
  replace hB4 := btr hB3 hB4
  clear e1 e2 hb1 hb2 hB3
  refine (one_any 50 w4).mono ?_; rintro e w5' ⟨rfl, e5⟩
  have hp5 := (parts_block1 w4 50 100).1
  rw [e5] at hp5
  have hb5 : Below w4.heap.size w4 w5' := e5 ▸ st1 _ _
  have hr5 := ress_one w5' _ _ 1 hp5
  have hB5 := btr hb5 (st1 w5' (.cells #[.slice (some ⟨w4.heap.size, 0, none⟩) 1 1] 35))
  have HF := Sec.mk (ex_field _ 1 _ hr5 (HG.out.later (btr hB4 hB5)))
  clear hp5 e5 hr5 hb5
  go_wp2_with fail
  refine HF.out.mono ?_; rintro e w5 ⟨b5, o5, d5, rfl, f1, f2, hb5⟩
  have hB45 := btr hB5 hb5
  replace P2 := P2.later hB45
  replace P3 := P3.later hB45
  replace P4 := P4.later hB45
  have hBw5 := btr hB4 hB45
  clear HF hB5 hb5 hB4 hB45
  go_wp2_with fail
  refine (q_any _ _ _).mono ?_; rintro e w3' ⟨rfl, hb1⟩
  go_wp2_with fail
  refine (ex_percent _).mono ?_; rintro e w3'' ⟨rfl, hb2⟩
  go_wp2_with fail
  obtain ⟨w6, g6, e1, e2, P6, hB6, -⟩ := pack2 (w0 := w5) (.int .i64 275) (.int .i64 3) 23 (btr hb1 hb2)
  rw [← e1, ← e2]
  replace P2 := P2.later hB6
  replace P3 := P3.later hB6
  replace P4 := P4.later hB6
  replace f1 := cell_later hB6 f1
  replace f2 := cell_later hB6 f2
  replace hB6 := btr hBw5 hB6
  clear e1 e2 hb1 hb2 hBw5
  refine (ex_share _).mono ?_; rintro e w3' ⟨rfl, hb1⟩
  go_wp2_with fail
  obtain ⟨w7, g7, e1, e2, P7, hB7, -⟩ := pack2 (w0 := w6) (.int .i64 24) (.int .i64 5) 23 hb1
  rw [← e1, ← e2]
  clear e1 e2 hb1
  refine (q_any _ _ _).mono ?_; rintro e w8' ⟨rfl, hb8⟩
  go_wp2_with fail
  refine (ex_none _).mono ?_; rintro e w8'' ⟨rfl, hb9⟩
  have hB79 := btr hb8 hb9
  have hB9 := btr hB79 (st1 w8'' (.cells #[.int .i64 0, .int .i64 0] 23))
  go_wp2_with (go_at_call 13; refine (NSum_right 3 5 _ (by decide) (by decide)).mono ?_; rintro e w9 ⟨rfl, rfl⟩)
  clear hb8 hb9
  have hB6x : Below w6.heap.size w6 (w8''.alloc (.cells #[.int .i64 0, .int .i64 0] 23)) := btr hB7 hB9
  have BU : Bund (w8''.alloc (.cells #[.int .i64 0, .int .i64 0] 23)) [(⟨g2, 0, none⟩, .int .i64 4), (⟨g2, 1, none⟩, .int .i64 1), (⟨g3, 0, none⟩, .int .i64 22), (⟨g3, 1, none⟩, .int .i64 3), (⟨g4, 0, none⟩, .int .i64 2), (⟨g4, 1, none⟩, .int .i64 3), (⟨b5, o5, none⟩, .int .i64 4), (⟨b5, o5 + 1, none⟩, .int .i64 1), (⟨g6, 0, none⟩, .int .i64 275), (⟨g6, 1, none⟩, .int .i64 3), (⟨g7, 0, none⟩, .int .i64 24), (⟨g7, 1, none⟩, .int .i64 5)] := by
    intro x hxm
    simp only [List.mem_cons, List.not_mem_nil, or_false] at hxm
    rcases hxm with rfl | rfl | rfl | rfl | rfl | rfl | rfl | rfl | rfl | rfl | rfl | rfl
    · exact cell_later hB6x P2.c0
    · exact cell_later hB6x P2.c1
    · exact cell_later hB6x P3.c0
    · exact cell_later hB6x P3.c1
    · exact cell_later hB6x P4.c0
    · exact cell_later hB6x P4.c1
    · exact cell_later hB6x f1
    · exact cell_later hB6x f2
    · exact cell_later hB6x P6.c0
    · exact cell_later hB6x P6.c1
    · exact cell_later hB9 P7.c0
    · exact cell_later hB9 P7.c1
  have hBw := btr hB6 hB6x
  clear P2 P3 P4 P6 P7 f1 f2 hB7 hB79 hB9 hB6x hB6
  generalize (w8''.alloc (.cells #[.int .i64 0, .int .i64 0] 23)) = wx at *
  have hBx := Below.refl wx.heap.size wx
  have HBU := Sec.mk BU
  clear BU
  go_region_held3 (fun w' => w'.cell? ⟨g2, 0, none⟩ = some (.int .i64 4) ∧ w'.cell? ⟨g2, 1, none⟩ = some (.int .i64 1) ∧ w'.cell? ⟨g3, 0, none⟩ = some (.int .i64 22) ∧ w'.cell? ⟨g3, 1, none⟩ = some (.int .i64 3) ∧ w'.cell? ⟨g4, 0, none⟩ = some (.int .i64 2) ∧ w'.cell? ⟨g4, 1, none⟩ = some (.int .i64 3) ∧ w'.cell? ⟨b5, o5, none⟩ = some (.int .i64 4) ∧ w'.cell? ⟨b5, o5 + 1, none⟩ = some (.int .i64 1) ∧ w'.cell? ⟨g6, 0, none⟩ = some (.int .i64 275) ∧ w'.cell? ⟨g6, 1, none⟩ = some (.int .i64 3) ∧ w'.cell? ⟨g7, 0, none⟩ = some (.int .i64 24) ∧ w'.cell? ⟨g7, 1, none⟩ = some (.int .i64 5))
    (first | assumption | exact twelve (HBU.out.later hBx))
    ((go_at_call 24; refine (q_any _ _ _).mono ?_; rintro e w9 ⟨rfl, hb9⟩; have hBx : Below wx.heap.size wx w9 := btr (by repeat (first | exact hBx | refine Below.drew ?_ | refine below_drewN ?_ _)) hb9))
  all_goals go_wp2_with fail
  all_goals go_ret
  all_goals exact ⟨rfl, btr hBw hBx⟩
end Go.Proofs.YtkocgknidpmcmaaDoor
