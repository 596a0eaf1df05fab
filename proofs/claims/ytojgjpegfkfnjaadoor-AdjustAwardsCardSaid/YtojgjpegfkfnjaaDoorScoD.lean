/- score: Score, at results that are right. -/
import Derived.Test.YtojgjpegfkfnjaaDoorScoC
namespace Go.Proofs.YtojgjpegfkfnjaaDoor
open Go.RowKit
set_option linter.unusedVariables false
set_option linter.unusedSimpArgs false

def scoreZ (l d r s n u : Int) : Int := if s % 2 = 1 then -(pointsZ l d r n (vulB u s)) else pointsZ l d r n (vulB u s)
theorem madeZ_bd {l d r m : Int} {v : Bool} (hl : 1 ≤ l ∧ l ≤ 7) (hr : 0 ≤ r ∧ r ≤ 1) (hm : 0 ≤ m ∧ m ≤ 13) : 0 ≤ madeZ l d r m v ∧ madeZ l d r m v ≤ 100000 := by
  have h1 := slam_bd 500 1000 l (by omega)
  have h2 := slam_bd 750 1500 l (by omega)
  have h3 : r = 0 ∨ r = 1 := by omega
  have hV : valZ d = 20 ∨ valZ d = 30 := by unfold valZ; split <;> simp
  have hT : (if d = 4 then (10 : Int) else 0) = 10 ∨ (if d = 4 then (10 : Int) else 0) = 0 := by split <;> simp
  unfold madeZ bidZ overZ byZ
  rcases h3 with rfl | rfl <;> rcases hV with hV | hV <;> rcases hT with hT | hT <;> rw [hV, hT] <;> cases v <;> simp <;> (try split) <;> omega
theorem downZ_bd {r m : Int} {v : Bool} (hr : 0 ≤ r ∧ r ≤ 1) (hm : 1 ≤ m ∧ m ≤ 13) : 0 ≤ downZ r m v ∧ downZ r m v ≤ 100000 := by
  have h3 : r = 0 ∨ r = 1 := by omega
  unfold downZ overZ dblZ byZ
  rcases h3 with rfl | rfl <;> cases v <;> simp <;> (try split) <;> omega
theorem pointsZ_bd {l d r n : Int} {v : Bool} (hl : 1 ≤ l ∧ l ≤ 7) (hr : 0 ≤ r ∧ r ≤ 1) (hn : 0 ≤ n ∧ n ≤ 13) : -100000 ≤ pointsZ l d r n v ∧ pointsZ l d r n v ≤ 100000 := by
  unfold pointsZ
  split
  · have := madeZ_bd (d := d) (v := v) hl hr (m := n - (6 + l)) (by omega)
    omega
  · have := downZ_bd (v := v) hr (m := 6 + l - n) (by omega)
    omega
set_option maxRecDepth 100000 in
set_option maxHeartbeats 2000000 in
theorem score_ok (l d r s n u : Int) (w : World) (h : okC l d r s) (hn : 0 ≤ n ∧ n ≤ 13) (hu : 0 ≤ u ∧ u ≤ 3) : Calls Tryd.prog 44 #[.agg #[.int .u8 l, .int .u8 d, .int .u8 r, .int .u8 s], .int .i64 n, .int .u8 u] w fun e w' => e = .returned (.tuple #[.int .i64 (scoreZ l d r s n u), .int .i64 0]) ∧ Below w.heap.size w w' := by
  have HV := Sec.mk fun w' => vul_ok u s w' hu h.2.2.2
  have HP := Sec.mk fun w' => points_ok l d r s n (vulB u s) w' h hn
  have hb := pointsZ_bd (d := d) (v := vulB u s) h.1 h.2.2.1 hn
  have hs := h.2.2.2
  clear h
  unfold scoreZ
  generalize pointsZ l d r n (vulB u s) = Z at *
  generalize vulB u s = V at *
  have h3 : decide (3 < u) = false := by simp; omega
  have hs2 : s % 2 = 1 ∨ s % 2 = 0 := by omega
  rcases hs2 with hs2 | hs2
  all_goals
    simp only [hs2, if_true, if_false, Int.reduceEq]
    go_enter Tryd.func44, Tryd.ntmps44
    go_wp2_with fail
    obtain ⟨W, g, e1, e2, P, hB⟩ := box4 w l d r s
    have PB := Sec.mk P
    rw [← e1, ← e2]
    clear e1 e2 P
    have hBx := Below.refl W.heap.size W
    obtain ⟨c0, c1, c2, c3⟩ := PB.out
    go_region_held3 (fun w' => w'.cell? ⟨g, 0, none⟩ = some (.int .u8 l) ∧ w'.cell? ⟨g, 1, none⟩ = some (.int .u8 d) ∧ w'.cell? ⟨g, 2, none⟩ = some (.int .u8 r) ∧ w'.cell? ⟨g, 3, none⟩ = some (.int .u8 s))
      (first | assumption | exact ⟨c0, c1, c2, c3⟩ | exact ⟨sc_later hBx c0, sc_later hBx c1, sc_later hBx c2, sc_later hBx c3⟩)
      ((first
        | (go_at_call 78; refine (HV.out _).mono ?_; rintro e w5 ⟨rfl, hb5⟩; have hBx : Below W.heap.size W w5 := sbtr (by repeat (first | exact hBx | refine Below.drew ?_ | refine sc_drewN ?_ _)) hb5)
        | (go_at_call 77; refine (HP.out _).mono ?_; rintro e w6 ⟨rfl, hb6⟩; have hBx : Below W.heap.size W w6 := sbtr (by repeat (first | exact hBx | refine Below.drew ?_ | refine sc_drewN ?_ _)) hb6)))
    obtain ⟨d0, d1, d2, d3⟩ := (PB.out.later hBx)
    clear c0 c1 c2 c3
    go_wp2_with fail
    go_ret2
    exact ⟨by simp, sbtr hB hBx⟩
end Go.Proofs.YtojgjpegfkfnjaaDoor
