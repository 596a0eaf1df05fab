/- score: the points of a contract. -/
import Derived.Test.YtojgjpegfkfnjaaDoorScoA
import Derived.Deep.RegionHeld3
namespace Go.Proofs.YtojgjpegfkfnjaaDoor
open Go.RowKit
set_option linter.unusedVariables false
set_option linter.unusedSimpArgs false

def valZ (d : Int) : Int := if d < 2 then 20 else 30
def slamZ (a b l : Int) : Int := if l = 6 then a else if l = 7 then b else 0
def overZ (a b c r : Int) : Int := if r = 0 then a else if r = 1 then b else c
theorem index_val (d : Int) (w : World) (h : 0 ≤ d ∧ d ≤ 4) : (Instr.index 140 (.agg #[.int .i64 20, .int .i64 20, .int .i64 30, .int .i64 30, .int .i64 30]) (.int .u8 d)).run Tryd.prog w = .ok (.int .i64 (valZ d)) w := by
  have h5 : d = 0 ∨ d = 1 ∨ d = 2 ∨ d = 3 ∨ d = 4 := by omega
  rcases h5 with rfl | rfl | rfl | rfl | rfl <;> simp [Instr.index, asIntOf, run_underlying Tryd.underlying140, go_sem, valZ]
theorem index_slam (a b l : Int) (w : World) (h : 1 ≤ l ∧ l ≤ 7) : (Instr.index 142 (.agg #[.int .i64 0, .int .i64 0, .int .i64 0, .int .i64 0, .int .i64 0, .int .i64 0, .int .i64 a, .int .i64 b]) (.int .u8 l)).run Tryd.prog w = .ok (.int .i64 (slamZ a b l)) w := by
  have h5 : l = 1 ∨ l = 2 ∨ l = 3 ∨ l = 4 ∨ l = 5 ∨ l = 6 ∨ l = 7 := by omega
  rcases h5 with rfl | rfl | rfl | rfl | rfl | rfl | rfl <;> simp [Instr.index, asIntOf, run_underlying Tryd.underlying142, go_sem, slamZ]
theorem index_three (a b c r : Int) (w : World) (h : 0 ≤ r ∧ r ≤ 2) : (Instr.index 129 (.agg #[.int .i64 a, .int .i64 b, .int .i64 c]) (.int .u8 r)).run Tryd.prog w = .ok (.int .i64 (overZ a b c r)) w := by
  have h5 : r = 0 ∨ r = 1 ∨ r = 2 := by omega
  rcases h5 with rfl | rfl | rfl <;> simp [Instr.index, asIntOf, run_underlying Tryd.underlying129, go_sem, overZ]
/-- The points of the tricks that were bid. -/
def bidZ (l d r : Int) : Int := (l * valZ d + if d = 4 then 10 else 0) * (r + 1)
theorem byZ_bd (v : Bool) (a b : Int) : byZ v a b = a ∨ byZ v a b = b := by cases v <;> simp [byZ]
def madeZ (l d r more : Int) (v : Bool) : Int :=
  bidZ l d r + (if 100 ≤ bidZ l d r then byZ v 300 500 else 50) + byZ v (slamZ 500 1000 l) (slamZ 750 1500 l) + 50 * r + more * overZ (valZ d) (byZ v 100 200) (byZ v 200 400) r
theorem sc_drewN {B : Nat} {a w : World} (h : Below B a w) (n : Nat) : Below B a (w.drewN n) := ⟨h.os, h.tape, h.output, h.size, h.block⟩
theorem slam_bd (a b l : Int) (h : 0 ≤ a ∧ a ≤ 1500 ∧ 0 ≤ b ∧ b ≤ 1500) : 0 ≤ slamZ a b l ∧ slamZ a b l ≤ 1500 := by unfold slamZ; split <;> (try split) <;> omega
set_option maxRecDepth 100000 in
set_option maxHeartbeats 8000000 in
theorem made_ok (l d r s more : Int) (v : Bool) (w : World) (h : okC l d r s) (hm : 0 ≤ more ∧ more ≤ 13) : Calls Tryd.prog 101 #[.agg #[.int .u8 l, .int .u8 d, .int .u8 r, .int .u8 s], .int .i64 more, .bool v] w fun e w' => e = .returned (.int .i64 (madeZ l d r more v)) ∧ Below w.heap.size w w' := by
  obtain ⟨hl, hd, hr, hs⟩ := h
  have hi1 := fun w => index_val d w hd
  have hi2a := fun w => index_slam 500 1000 l w hl
  have hi2b := fun w => index_slam 750 1500 l w hl
  have hi3 := fun a b c w => index_three a b c r w (by omega)
  obtain ⟨V, T, hV, hT, g4, hg4, hVT⟩ : ∃ V T : Int, valZ d = V ∧ (if d = 4 then (10 : Int) else 0) = T ∧ ∃ g4, (d == 4) = g4 ∧ ((V = 20 ∧ T = 0 ∧ g4 = false) ∨ (V = 30 ∧ T = 0 ∧ g4 = false) ∨ (V = 30 ∧ T = 10 ∧ g4 = true)) := by
    refine ⟨_, _, rfl, rfl, _, rfl, ?_⟩
    have h5 : d = 0 ∨ d = 1 ∨ d = 2 ∨ d = 3 ∨ d = 4 := by omega
    rcases h5 with rfl | rfl | rfl | rfl | rfl <;> simp [valZ]
  have hb1 := slam_bd 500 1000 l (by omega)
  have hb2 := slam_bd 750 1500 l (by omega)
  unfold madeZ bidZ
  rw [hV, hT]
  rw [hV] at hi1
  clear hV hT hd
  generalize slamZ 500 1000 l = S1 at *
  generalize slamZ 750 1500 l = S2 at *
  have hr2 : r = 0 ∨ r = 1 := by omega
  clear hr
  have hBy := fun x y w => by_any v x y w
  rcases hr2 with rfl | rfl
  · rcases hVT with ⟨rfl, rfl, rfl⟩ | ⟨rfl, rfl, rfl⟩ | ⟨rfl, rfl, rfl⟩ <;> cases v
    all_goals
      simp only [byZ, if_true, if_false, Bool.false_eq_true] at hBy ⊢
      simp only [overZ, if_true, if_false, Int.reduceEq] at hi3 ⊢
      have HBy := Sec.mk hBy
      clear hBy
      go_enter Tryd.func101, Tryd.ntmps101
      go_wp2_with (go_at_call 109; refine (HBy.out _ _ _).mono ?_; rintro e w1 ⟨rfl, rfl⟩)
    all_goals
      obtain ⟨W, g, e1, e2, P, hB⟩ := box4 w l d 0 s
      rw [← e1, ← e2]
      clear e1 e2
      have P2 := fun n => P.later (sc_drewN (Below.refl W.heap.size W) n)
      obtain ⟨c0, c1, c2, c3⟩ := P
      go_quiet (first | (go_at_call 109; exact Calls.quiet_of_same ((HBy.out _ _ _).mono fun e w' h => ⟨h.1, h.2.symm⟩)))
      have P3 := P2 nq
      have hB2 := sc_drewN hB nq
      clear c0 c1 c2 c3 P2 hB hi1 hi2a hi2b
      obtain ⟨W2, eW⟩ : ∃ V, V = W.drewN nq := ⟨_, rfl⟩
      rw [← eW] at P3 hB2 ⊢
      clear eW
      obtain ⟨c0, c1, c2, c3⟩ := P3
      go_wp2_with fail
      go_quiet (first | (go_at_call 109; exact Calls.quiet_of_same ((HBy.out _ _ _).mono fun e w' h => ⟨h.1, h.2.symm⟩)))
      go_wp2_with fail
      go_ret
      refine ⟨?_, sc_drewN hB2 _⟩
      simp [*]
      try omega
  · rcases hVT with ⟨rfl, rfl, rfl⟩ | ⟨rfl, rfl, rfl⟩ | ⟨rfl, rfl, rfl⟩ <;> cases v
    all_goals
      simp only [byZ, if_true, if_false, Bool.false_eq_true] at hBy ⊢
      simp only [overZ, if_true, if_false, Int.reduceEq] at hi3 ⊢
      have HBy := Sec.mk hBy
      clear hBy
      go_enter Tryd.func101, Tryd.ntmps101
      go_wp2_with (go_at_call 109; refine (HBy.out _ _ _).mono ?_; rintro e w1 ⟨rfl, rfl⟩)
    all_goals
      obtain ⟨W, g, e1, e2, P, hB⟩ := box4 w l d 1 s
      rw [← e1, ← e2]
      clear e1 e2
      have P2 := fun n => P.later (sc_drewN (Below.refl W.heap.size W) n)
      obtain ⟨c0, c1, c2, c3⟩ := P
      go_quiet (first | (go_at_call 109; exact Calls.quiet_of_same ((HBy.out _ _ _).mono fun e w' h => ⟨h.1, h.2.symm⟩)))
      have P3 := P2 nq
      have hB2 := sc_drewN hB nq
      clear c0 c1 c2 c3 P2 hB hi1 hi2a hi2b
      obtain ⟨W2, eW⟩ : ∃ V, V = W.drewN nq := ⟨_, rfl⟩
      rw [← eW] at P3 hB2 ⊢
      clear eW
      obtain ⟨c0, c1, c2, c3⟩ := P3
      go_wp2_with fail
      go_quiet (first | (go_at_call 109; exact Calls.quiet_of_same ((HBy.out _ _ _).mono fun e w' h => ⟨h.1, h.2.symm⟩)))
      go_wp2_with fail
      go_ret
      refine ⟨?_, sc_drewN hB2 _⟩
      simp [*]
      try omega
end Go.Proofs.YtojgjpegfkfnjaaDoor
