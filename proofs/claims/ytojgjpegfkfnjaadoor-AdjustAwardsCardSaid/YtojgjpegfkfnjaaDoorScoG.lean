/- score: Score, for whatever contract, tricks and vulnerability. -/
import Derived.Test.YtojgjpegfkfnjaaDoorScoF
namespace Go.Proofs.YtojgjpegfkfnjaaDoor
open Go.RowKit
set_option linter.unusedVariables false
set_option linter.unusedSimpArgs false
set_option maxRecDepth 100000

theorem gScore_walk (l d r s n u Z er : Int) (w : World) (hbz : -100000 ≤ Z ∧ Z ≤ 100000) (her : er = 0 ∨ er = 2) (hu : 0 ≤ u ∧ u ≤ 255) (hs : 0 ≤ s ∧ s ≤ 255)
    (HP : ∀ w', Calls Tryd.prog 77 #[.agg #[.int .u8 l, .int .u8 d, .int .u8 r, .int .u8 s], .int .i64 n, .bool (vulG u s)] w' fun e w'' => e = .returned (.tuple #[.int .i64 Z, .int .i64 er]) ∧ Below w'.heap.size w' w'') :
    Calls Tryd.prog 44 #[.agg #[.int .u8 l, .int .u8 d, .int .u8 r, .int .u8 s], .int .i64 n, .int .u8 u] w fun e w' => e = .returned (.tuple #[.int .i64 (if er = 0 ∧ u ≤ 3 then (if s % 2 = 1 then -Z else Z) else 0), .int .i64 (if er = 0 ∧ u ≤ 3 then 0 else 2)]) ∧ Below w.heap.size w w' := by
  have HV := Sec.mk fun w' => gvul_any u s w' hu hs
  replace HP := Sec.mk HP
  generalize vulG u s = V at *
  have hcase : (er = 2) ∨ (er = 0 ∧ decide (3 < u) = true ∧ ¬ u ≤ 3) ∨ (er = 0 ∧ decide (3 < u) = false ∧ u ≤ 3 ∧ s % 2 = 1) ∨ (er = 0 ∧ decide (3 < u) = false ∧ u ≤ 3 ∧ s % 2 = 0) := by
    rcases her with h | h
    · by_cases h3 : u ≤ 3
      · rcases (by omega : s % 2 = 1 ∨ s % 2 = 0) with h2 | h2
        · exact .inr (.inr (.inl ⟨h, by simp; omega, h3, h2⟩))
        · exact .inr (.inr (.inr ⟨h, by simp; omega, h3, h2⟩))
      · exact .inr (.inl ⟨h, by simp; omega, h3⟩)
    · exact .inl h
  clear her
  rcases hcase with rfl | ⟨rfl, h3, hu3⟩ | ⟨rfl, h3, hu3, h2⟩ | ⟨rfl, h3, hu3, h2⟩
  all_goals
    simp only [*, if_true, if_false, Int.reduceEq, and_true, true_and, and_false, false_and]
    go_enter Tryd.func44, Tryd.ntmps44
    go_wp2_with fail
    obtain ⟨W, g, e1, e2, P, hB⟩ := box4 w l d r s
    have PB := Sec.mk P
    rw [← e1, ← e2]
    clear e1 e2 P
    have hBx := Below.refl W.heap.size W
    obtain ⟨c0, c1, c2, c3⟩ := PB.out
    go_region_held3 (fun w' => w'.cell? ⟨g, 0, none⟩ = some (.int .u8 l) ∧ w'.cell? ⟨g, 1, none⟩ = some (.int .u8 d) ∧ w'.cell? ⟨g, 2, none⟩ = some (.int .u8 r) ∧ w'.cell? ⟨g, 3, none⟩ = some (.int .u8 s))
      (first | assumption | exact ⟨c0, c1, c2, c3⟩ | exact ⟨sc_later hBx c0, sc_later hBx c1, sc_later hBx c2, sc_later hBx c3⟩)
      ((first
        | (go_at_call 78; refine (HV.out _).mono ?_; rintro e w5 ⟨rfl, hb5⟩; have hBx : Below W.heap.size W w5 := sbtr (by repeat (first | exact hBx | refine Below.drew ?_ | refine sc_drewN ?_ _)) hb5)
        | (go_at_call 77; refine (HP.out _).mono ?_; rintro e w6 ⟨rfl, hb6⟩; have hBx : Below W.heap.size W w6 := sbtr (by repeat (first | exact hBx | refine Below.drew ?_ | refine sc_drewN ?_ _)) hb6)))
    obtain ⟨d0, d1, d2, d3⟩ := (PB.out.later hBx)
    clear c0 c1 c2 c3
    go_wp2_with fail
    go_ret2
    exact ⟨by simp, sbtr hB hBx⟩
theorem okRB_Q {l d r s n : Int} (hb : Byt4 l d r s) (h : okRB l d r s n = true) (h0 : ¬ l = 0) : okQ l d r s ∧ 0 ≤ n ∧ n ≤ 13 := by
  have h' := h
  unfold okRB at h'
  simp only [Bool.and_eq_true, decide_eq_true_eq] at h'
  exact ⟨okCB_true hb h'.1.1.1 h0, h'.1.1.2, h'.1.2⟩
theorem gScore_any (l d r s n u : Int) (w : World) (hb : Byt4 l d r s) (hn : -9223372036854775808 ≤ n ∧ n ≤ 9223372036854775807) (hu : 0 ≤ u ∧ u ≤ 255) :
    Calls Tryd.prog 44 #[.agg #[.int .u8 l, .int .u8 d, .int .u8 r, .int .u8 s], .int .i64 n, .int .u8 u] w fun e w' => e = .returned (.tuple #[.int .i64 (if okSB l d r s n u then scoreG l d r s n u else 0), .int .i64 (if okSB l d r s n u then 0 else 2)]) ∧ Below w.heap.size w w' := by
  cases h : okRB l d r s n
  · have hw := gScore_walk l d r s n u 0 2 w (by omega) (.inr rfl) hu hb.2.2.2 (fun w' => gPoints_wrong l d r s n _ w' hb hn h)
    unfold okSB
    rw [h]
    simpa using hw
  · by_cases h0 : l = 0
    · obtain ⟨rfl, rfl, rfl, rfl⟩ := okRB_zero h h0
      subst h0
      have hw := gScore_walk 0 0 0 0 0 u 0 0 w (by omega) (.inl rfl) hu (by omega) (fun w' => gPoints_pass _ w')
      unfold okSB scoreG
      rw [h]
      simpa using hw
    · obtain ⟨hq, hn2⟩ := okRB_Q hb h h0
      have hw := gScore_walk l d r s n u (pointsQ l d r n (vulG u s)) 0 w (pointsQ_bd hq hn2) (.inl rfl) hu hb.2.2.2 (fun w' => gPoints_ok l d r s n _ w' hq hn2)
      have e1 : (if (0 : Int) = 0 ∧ u ≤ 3 then (if s % 2 = 1 then -(pointsQ l d r n (vulG u s)) else pointsQ l d r n (vulG u s)) else 0) = if okSB l d r s n u then scoreG l d r s n u else 0 := by
        unfold okSB scoreG scoreQ
        rw [h, if_neg h0]
        by_cases h3 : u ≤ 3
        · have ev : vulG u s = vulB u s := by have := hq.2.2.2.2; unfold vulG; simp [h3, this]
          rw [ev]
          simp only [h3, and_self, if_true, decide_true, Bool.and_self]
          have := hq.2.2.2
          by_cases h2 : s % 2 = 1
          · rw [if_pos h2, if_pos (by omega)]
          · rw [if_neg h2, if_neg (by omega)]
        · simp [h3]
      have e2 : (if (0 : Int) = 0 ∧ u ≤ 3 then (0 : Int) else 2) = if okSB l d r s n u then 0 else 2 := by
        unfold okSB
        rw [h]
        by_cases h3 : u ≤ 3 <;> simp [h3]
      rw [e1, e2] at hw
      exact hw
end Go.Proofs.YtojgjpegfkfnjaaDoor
