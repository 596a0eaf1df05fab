/- Package neuberg: Sum, Percent, Field. -/
import Derived.Test.YtkocgknidpmcmaaDoorNeuC
namespace Go.Proofs.YtkocgknidpmcmaaDoor
open Go.RowKit
set_option linter.unusedVariables false
set_option linter.unusedSimpArgs false

theorem NSum_right (n N : Nat) (w : World) (hn : n ≤ N) (hN : 1 ≤ N ∧ N ≤ 24) : Calls Tryd.prog 13 #[.int .i64 n, .int .i64 N] w fun e w' => e = .returned (.tuple #[.int .i64 ((n : Int) * ((N : Int) - 1)), .int .i64 0]) ∧ w = w' := by
  have hBo := fun w' => board_any n N w'
  rw [show (decide (1 ≤ (N : Int)) && decide ((N : Int) ≤ 24) && decide (0 ≤ (n : Int)) && decide ((n : Int) ≤ (N : Int))) = true by simp; omega] at hBo
  have HBo := Sec.mk hBo
  have hb := mul_bd2 (n : Int) ((N : Int) - 1) 24 23 (by omega) (by omega) (by omega) (by omega)
  have hw : IntKind.i64.wrap ((n : Int) * ((N : Int) - 1)) = (n : Int) * ((N : Int) - 1) := IntWalk.i64_in _ ⟨by omega, by omega⟩
  clear hBo
  go_enter Tryd.func13, Tryd.ntmps13
  go_wp2_with (go_at_call 33; refine (HBo.out _).mono ?_; rintro e w8 ⟨rfl, rfl⟩)
  go_ret2
  exact ⟨rfl, rfl⟩
theorem NSum_wrong (n all : Int) (w : World) (h : ¬ (1 ≤ all ∧ all ≤ 24 ∧ 0 ≤ n ∧ n ≤ all)) : Calls Tryd.prog 13 #[.int .i64 n, .int .i64 all] w fun e w' => e = .returned (.tuple #[.int .i64 0, .int .i64 2]) ∧ w = w' := by
  have hBo := fun w' => board_any n all w'
  rw [show (decide (1 ≤ all) && decide (all ≤ 24) && decide (0 ≤ n) && decide (n ≤ all)) = false by
    rw [Bool.eq_false_iff]; simp; omega] at hBo
  have HBo := Sec.mk hBo
  clear hBo h
  go_enter Tryd.func13, Tryd.ntmps13
  go_wp2_with (go_at_call 33; refine (HBo.out _).mono ?_; rintro e w8 ⟨rfl, rfl⟩)
  go_ret2
  exact ⟨rfl, rfl⟩

set_option maxRecDepth 100000 in
set_option maxHeartbeats 2000000 in
theorem Percent_right (q r : Rat) (n : Nat) (w : World) (hf : fits q) (hn : 2 ≤ n ∧ n ≤ 24) (hr : fits r) (hqr : q * (((100 : Int) : Rat) / ((2 * ((n : Int) - 1) : Int) : Rat)) = r) :
    Calls Tryd.prog 15 #[.agg #[.int .i64 q.num, .int .i64 q.den], .int .i64 n] w fun e w' => e = .returned (.tuple #[.agg #[.int .i64 r.num, .int .i64 r.den], .int .i64 0]) ∧ Below w.heap.size w w' := by
  have hBo := fun w' => board_any 0 n w'
  rw [show (decide (1 ≤ (n : Int)) && decide ((n : Int) ≤ 24) && decide ((0 : Int) ≤ 0) && decide ((0 : Int) ≤ (n : Int))) = true by simp; omega] at hBo
  have HBo := Sec.mk hBo
  have q0 := q.den_pos
  have hR := fun w' => right_exact q.num q.den w' ⟨hf.1, hf.2.1⟩ ⟨by omega, hf.2.2⟩
  rw [right_q] at hR
  have HR := Sec.mk hR
  have HT := Sec.mk fun w' => top_any n w' ⟨by omega, by omega⟩
  have HS1 : Sec (∀ (w' : World) (v : Value), (∀ q' r : Rat, (-1000000000000 ≤ (100 : Int) ∧ (100 : Int) ≤ 1000000000000) → (0 < 2 * ((n : Int) - 1) ∧ 2 * ((n : Int) - 1) ≤ 1000000000) → fits q' → fits r → q' * (((100 : Int) : Rat) / ((2 * ((n : Int) - 1) : Int) : Rat)) = r → Step w' v q' r) → Step w' v q r) :=
    ⟨fun w' v h => h _ _ (by omega) (by omega) hf hr hqr⟩
  obtain ⟨n1, hn1⟩ : ∃ x, q.num = x := ⟨_, rfl⟩
  obtain ⟨d1, hd1⟩ : ∃ x, (q.den : Int) = x := ⟨_, rfl⟩
  have HDo' : Sec (∀ (w' : World) (A : Option Addr) (c : Nat), Steps w' A 1 (qs2 q r) → Calls Tryd.prog 36 #[.agg #[.int .i64 n1, .int .i64 d1], .slice A 1 c] w' fun e w'' => e = .returned (.tuple #[.agg #[.int .i64 r.num, .int .i64 r.den], .int .i64 0]) ∧ Below w'.heap.size w' w'') := ⟨fun w' A c h => by
    have := do_any A 1 c _ w' h (by omega)
    rw [show (qs2 q r 0) = q from rfl, show (qs2 q r 1) = r from rfl, hn1, hd1] at this
    exact this⟩
  rw [hn1, hd1] at HR
  rw [hn1, hd1]
  have hne : ((n : Int) == 1) = false := beq_eq_false_iff_ne.2 (by omega)
  clear hBo hR hf hr hqr q0 hn1 hd1
  generalize hTn : 2 * ((n : Int) - 1) = TN at *
  clear hTn
  go_enter Tryd.func15, Tryd.ntmps15
  go_wp2_with (go_at_call 33; refine (HBo.out _).mono ?_; rintro e w8 ⟨rfl, rfl⟩)
  refine (HR.out _).mono ?_; rintro e w1 ⟨rfl, k, rfl⟩
  go_wp2_with fail
  obtain ⟨V, hV⟩ : ∃ V, V = ((((w.alloc (.cells #[.int .i64 n1, .int .i64 d1] 23)).alloc (.cells #[.int .i64 0, .int .i64 0] 23)).alloc (.cells #[.int .i64 n1, .int .i64 d1] 23)).drewN k) := ⟨_, rfl⟩
  rw [← hV]
  have c1 : V.cell? ⟨w.heap.size, 0, none⟩ = some (.int .i64 n1) := by rw [hV]; go_simp
  have c2 : V.cell? ⟨w.heap.size, 1, none⟩ = some (.int .i64 d1) := by rw [hV]; go_simp
  have P5 : Pair V (w.heap.size + 1) (.int .i64 0) (.int .i64 0) := by
    rw [hV]; refine ⟨?_, ?_, ?_, ?_⟩ <;> go_simp
  have hBV : Below w.heap.size w V := by rw [hV]; exact below_drewN (btr (st1 _ _) (btr (st1 _ _) (st1 _ _))) _
  have HP5 := Sec.mk P5
  have hBy := Below.refl V.heap.size V
  have hyz := hBy.size
  clear hV P5 HR
  go_region_held3 (fun w' => w'.cell? ⟨w.heap.size, 0, none⟩ = some (.int .i64 n1) ∧ w'.cell? ⟨w.heap.size, 1, none⟩ = some (.int .i64 d1) ∧ w'.cell? ⟨w.heap.size, 0, none⟩ = some (.int .i64 n1) ∧ w'.cell? ⟨w.heap.size, 1, none⟩ = some (.int .i64 d1))
    (first | assumption | exact ⟨c1, c2, c1, c2⟩ | exact four_later c1 c2 c1 c2 hBy | exact four_later c1 c2 c1 c2 (hBy.alloc hyz _) | exact four_set (four_later c1 c2 c1 c2 hBy) (by simp) (by simp) (by simp) (by simp))
    ((first
      | (go_at_call 35; refine (HT.out _).mono ?_; rintro e w8 ⟨rfl, rfl⟩)
      | (go_at_call 37; refine (ratio_any _ _ _).mono ?_; rintro e w10 ⟨cp, rfl, hb10, hst⟩; have hBy : Below V.heap.size V w10 := btr (by repeat (first | exact hBy | refine Below.drew ?_ | refine below_drewN ?_ _)) hb10; have hyz := hBy.size; have hS1 := HS1.out w10 _ hst)
      | (go_at_call 36; refine (HDo'.out _ _ _ ?_).mono ?_; (exact steps1 hS1); rintro e w11 ⟨rfl, hb11⟩; have hBy : Below V.heap.size V w11 := btr (hBy.alloc hyz _) hb11; have hyz := hBy.size; obtain ⟨y1, y2, y3, y4⟩ := HP5.out.later hBy; have yl := HP5.out.lt' hBy)))
  all_goals go_wp2_with fail
  all_goals exact bodyPost_ret (v := .tuple #[.agg #[.int .i64 r.num, .int .i64 (r.den : Int)], .int .i64 0]) (by simp [results, Tryd.results15, go_sem, y1, y2]) rfl ⟨rfl, set2 (btr hBV hBy) (by omega)⟩

set_option maxHeartbeats 1000000 in
theorem Percent_none (q : Rat) (w : World) (hf : fits q) :
    Calls Tryd.prog 15 #[.agg #[.int .i64 q.num, .int .i64 q.den], .int .i64 1] w fun e w' => e = .returned (.tuple #[.agg #[.int .i64 0, .int .i64 0], .int .i64 6]) ∧ Below w.heap.size w w' := by
  have hBo := fun w' => board_any 0 1 w'
  rw [show (decide ((1 : Int) ≤ 1) && decide ((1 : Int) ≤ 24) && decide ((0 : Int) ≤ 0) && decide ((0 : Int) ≤ 1)) = true from by decide] at hBo
  have HBo := Sec.mk hBo
  have q0 := q.den_pos
  have hR := fun w' => right_exact q.num q.den w' ⟨hf.1, hf.2.1⟩ ⟨by omega, hf.2.2⟩
  rw [right_q] at hR
  have HR := Sec.mk hR
  clear hBo hR hf q0
  generalize q.num = n1 at *
  generalize (q.den : Int) = d1 at *
  go_enter Tryd.func15, Tryd.ntmps15
  go_wp2_with (go_at_call 33; refine (HBo.out _).mono ?_; rintro e w8 ⟨rfl, rfl⟩)
  refine (HR.out _).mono ?_; rintro e w1 ⟨rfl, k, rfl⟩
  go_wp2_with fail
  exact bodyPost_ret (v := .tuple #[.agg #[.int .i64 0, .int .i64 0], .int .i64 6]) (by simp [results, Tryd.results15, go_sem]) rfl ⟨rfl, by first | exact below_drewN (btr (st1 _ _) (btr (st1 _ _) (st1 _ _))) _ | exact set2 (below_drewN (btr (st1 _ _) (btr (st1 _ _) (st1 _ _))) _) (by omega)⟩

set_option maxHeartbeats 1000000 in
theorem Percent_wrong (mn md all : Int) (w : World) (hmn : -9223372036854775808 ≤ mn ∧ mn ≤ 9223372036854775807) (hmd : -9223372036854775808 ≤ md ∧ md ≤ 9223372036854775807) (h : (1 ≤ all ∧ all ≤ 24) → rightB mn md = false) :
    Calls Tryd.prog 15 #[.agg #[.int .i64 mn, .int .i64 md], .int .i64 all] w fun e w' => e = .returned (.tuple #[.agg #[.int .i64 0, .int .i64 0], .int .i64 2]) ∧ Below w.heap.size w w' := by
  have hBo := fun w' => board_any 0 all w'
  cases hb : (decide (1 ≤ all) && decide (all ≤ 24) && decide ((0 : Int) ≤ 0) && decide (0 ≤ all)) with
  | false =>
    rw [hb] at hBo
    have HBo := Sec.mk hBo
    clear hBo hb h
    go_enter Tryd.func15, Tryd.ntmps15
    go_wp2_with (go_at_call 33; refine (HBo.out _).mono ?_; rintro e w8 ⟨rfl, rfl⟩)
    exact bodyPost_ret (v := .tuple #[.agg #[.int .i64 0, .int .i64 0], .int .i64 2]) (by simp [results, Tryd.results15, go_sem]) rfl ⟨rfl, by first | exact btr (st1 _ _) (st1 _ _) | exact set2 (btr (st1 _ _) (st1 _ _)) (by omega)⟩
  | true =>
    have hbb := hb
    simp only [Bool.and_eq_true, decide_eq_true_eq] at hbb
    rw [hb] at hBo
    have HBo := Sec.mk hBo
    have hR := fun w' => right_exact mn md w' hmn hmd
    rw [h ⟨hbb.1.1.1, hbb.1.1.2⟩] at hR
    have HR := Sec.mk hR
    clear hBo hb h hbb hR hmn hmd
    go_enter Tryd.func15, Tryd.ntmps15
    go_wp2_with (go_at_call 33; refine (HBo.out _).mono ?_; rintro e w8 ⟨rfl, rfl⟩)
    refine (HR.out _).mono ?_; rintro e w1 ⟨rfl, k, rfl⟩
    go_wp2_with fail
    exact bodyPost_ret (v := .tuple #[.agg #[.int .i64 0, .int .i64 0], .int .i64 2]) (by simp [results, Tryd.results15, go_sem]) rfl ⟨rfl, by first | exact below_drewN (btr (st1 _ _) (btr (st1 _ _) (st1 _ _))) _ | exact set2 (below_drewN (btr (st1 _ _) (btr (st1 _ _) (st1 _ _))) _) (by omega)⟩
end Go.Proofs.YtkocgknidpmcmaaDoor
