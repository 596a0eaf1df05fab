/- score: made and down at risk 2; Points and Score, for whatever contract and tricks. -/
import Derived.Test.YtojgjpegfkfnjaaDoorScoE
namespace Go.Proofs.YtojgjpegfkfnjaaDoor
open Go.RowKit
set_option linter.unusedVariables false
set_option linter.unusedSimpArgs false
set_option maxRecDepth 100000

def madeG (l d r more : Int) (v : Bool) : Int :=
  bidQ l d r + (if 100 ≤ bidQ l d r then byZ v 300 500 else 50) + byZ v (slamZ 500 1000 l) (slamZ 750 1500 l) + 50 * r + more * overZ (valZ d) (byZ v 100 200) (byZ v 200 400) r
theorem madeG_eq (l d r more : Int) (v : Bool) : madeG l d r more v = madeQ l d r more v := by
  unfold madeG madeQ
  congr 4
  by_cases hb : bidQ l d r < 100
  · rw [if_pos hb, if_neg (by omega)]
  · rw [if_neg hb, if_pos (by omega)]
set_option maxHeartbeats 8000000 in
theorem made2_ok (l d s more : Int) (v : Bool) (w : World) (h : okQ l d 2 s) (hm : 0 ≤ more ∧ more ≤ 13) : Calls Tryd.prog 101 #[.agg #[.int .u8 l, .int .u8 d, .int .u8 2, .int .u8 s], .int .i64 more, .bool v] w fun e w' => e = .returned (.int .i64 (madeG l d 2 more v)) ∧ Below w.heap.size w w' := by
  obtain ⟨hl, hd, hr, hs⟩ := h
  have hi1 := fun w => index_val d w hd
  have hi2a := fun w => index_slam 500 1000 l w hl
  have hi2b := fun w => index_slam 750 1500 l w hl
  have hi3 := fun a b c w => index_three a b c 2 w (by omega)
  obtain ⟨V, T, hV, hT, g4, hg4, hVT⟩ : ∃ V T : Int, valZ d = V ∧ (if d = 4 then (10 : Int) else 0) = T ∧ ∃ g4, (d == 4) = g4 ∧ ((V = 20 ∧ T = 0 ∧ g4 = false) ∨ (V = 30 ∧ T = 0 ∧ g4 = false) ∨ (V = 30 ∧ T = 10 ∧ g4 = true)) := by
    refine ⟨_, _, rfl, rfl, _, rfl, ?_⟩
    have h5 : d = 0 ∨ d = 1 ∨ d = 2 ∨ d = 3 ∨ d = 4 := by omega
    rcases h5 with rfl | rfl | rfl | rfl | rfl <;> simp [valZ]
  have hb1 := slam_bd 500 1000 l (by omega)
  have hb2 := slam_bd 750 1500 l (by omega)
  unfold madeG bidQ
  rw [show powQ 2 = 4 from rfl, hV, hT]
  rw [hV] at hi1
  clear hV hT hd
  generalize slamZ 500 1000 l = S1 at *
  generalize slamZ 750 1500 l = S2 at *
  clear hr
  have hBy := fun x y w => by_any v x y w
  rcases hVT with ⟨rfl, rfl, rfl⟩ | ⟨rfl, rfl, rfl⟩ | ⟨rfl, rfl, rfl⟩ <;> cases v
  all_goals
    simp only [byZ, if_true, if_false, Bool.false_eq_true] at hBy ⊢
    simp only [overZ, if_true, if_false, Int.reduceEq] at hi3 ⊢
    have HBy := Sec.mk hBy
    clear hBy
    go_enter Tryd.func101, Tryd.ntmps101
    go_wp2_with (go_at_call 109; refine (HBy.out _ _ _).mono ?_; rintro e w1 ⟨rfl, rfl⟩)
  all_goals
    obtain ⟨W, g, e1, e2, P, hB⟩ := box4 w l d 2 s
    rw [← e1, ← e2]
    clear e1 e2
    have P2 := fun n => P.later (sc_drewN (Below.refl W.heap.size W) n)
    obtain ⟨c0, c1, c2, c3⟩ := P
    go_quiet (first | (go_at_call 109; exact Calls.quiet_of_same ((HBy.out _ _ _).mono fun e w' h => ⟨h.1, h.2.symm⟩)))
    have P3 := P2 nq
    have hB2 := sc_drewN hB nq
    clear c0 c1 c2 c3 P2 hB hi1 hi2a hi2b
    obtain ⟨W2, eW⟩ : ∃ V, V = W.drewN nq := ⟨_, rfl⟩
    rw [← eW] at P3 hB2 ⊢
    clear eW
    obtain ⟨c0, c1, c2, c3⟩ := P3
    go_wp2_with fail
    go_quiet (first | (go_at_call 109; exact Calls.quiet_of_same ((HBy.out _ _ _).mono fun e w' h => ⟨h.1, h.2.symm⟩)))
    go_wp2_with fail
    go_ret
    refine ⟨?_, sc_drewN hB2 _⟩
    simp [*]
    try omega
theorem gmade_ok (l d r s more : Int) (v : Bool) (w : World) (h : okQ l d r s) (hm : 0 ≤ more ∧ more ≤ 13) : Calls Tryd.prog 101 #[.agg #[.int .u8 l, .int .u8 d, .int .u8 r, .int .u8 s], .int .i64 more, .bool v] w fun e w' => e = .returned (.int .i64 (madeQ l d r more v)) ∧ Below w.heap.size w w' := by
  by_cases h2 : r = 2
  · subst h2
    rw [← madeG_eq]
    exact made2_ok l d s more v w h hm
  · have hr := h.2.2.1
    have hq := pointsQ_eq (d := d) (v := v) (n := 6 + l + more) h.1 (show 0 ≤ r ∧ r ≤ 1 by omega)
    unfold pointsQ pointsZ at hq
    rw [if_pos (by omega), if_pos (by omega), show 6 + l + more - (l + 6) = more by omega, show 6 + l + more - (6 + l) = more by omega] at hq
    rw [hq]
    exact made_ok l d r s more v w ⟨h.1, h.2.1, by omega, h.2.2.2⟩ hm
set_option maxHeartbeats 1000000 in
theorem down2_ok (m : Int) (v : Bool) (w : World) (hm : 0 ≤ m ∧ m ≤ 13) : Calls Tryd.prog 102 #[.int .u8 2, .int .i64 m, .bool v] w fun e w' => e = .returned (.int .i64 (downZ 2 m v)) ∧ Below w.heap.size w w' := by
  have hi3 := fun a b c w => index_three a b c 2 w (by omega)
  have hBy := fun w => by_any v 50 100 w
  have HD := Sec.mk fun g w hc => down1_ok m v g w hc hm
  have hdb : -100 ≤ dblZ v m ∧ dblZ v m ≤ 10000 := by unfold dblZ; split <;> (try split) <;> omega
  unfold downZ
  generalize dblZ v m = D at *
  have hb := byZ_bd v 50 100
  obtain ⟨B, hB⟩ : ∃ B, byZ v 50 100 = B := ⟨_, rfl⟩
  rw [hB] at hBy
  have HBy := Sec.mk hBy
  obtain ⟨M, hM⟩ : ∃ M, B * m = M := ⟨_, rfl⟩
  have hMb : 0 ≤ M ∧ M ≤ 1300 := by rw [← hM, ← hB]; rcases hb with h | h <;> rw [h] <;> omega
  have hw : IntKind.i64.wrap M = M := IntWalk.i64_in _ ⟨by omega, by omega⟩
  rw [hB, hM]
  clear hBy hb
  go_enter Tryd.func102, Tryd.ntmps102
  go_wp2_with fail
  refine (HBy.out _).mono ?_; rintro e w1 ⟨rfl, rfl⟩
  obtain ⟨W, g, e1, e2, c0, hBW⟩ : ∃ W g, W = w.alloc (.cells #[.bool v] 4) ∧ g = w.heap.size ∧ W.cell? ⟨g, 0, none⟩ = some (.bool v) ∧ Below w.heap.size w W := ⟨_, _, rfl, rfl, by go_simp, sst1 _ _⟩
  rw [← e1, ← e2]
  clear e1 e2
  go_wp2_with fail
  refine (HD.out _ _ c0).mono ?_; rintro e w1 ⟨rfl, rfl⟩
  go_wp2_with fail
  refine (HD.out _ _ c0).mono ?_; rintro e w1 ⟨rfl, rfl⟩
  go_wp2_with fail
  go_ret
  exact ⟨rfl, hBW⟩
theorem gdown_ok (r m : Int) (v : Bool) (w : World) (hr : 0 ≤ r ∧ r ≤ 2) (hm : 1 ≤ m ∧ m ≤ 13) : Calls Tryd.prog 102 #[.int .u8 r, .int .i64 m, .bool v] w fun e w' => e = .returned (.int .i64 (lostS r m v)) ∧ Below w.heap.size w w' := by
  unfold lostS
  rw [if_neg (by omega)]
  by_cases h2 : r = 2
  · subst h2; exact down2_ok m v w ⟨by omega, hm.2⟩
  · exact down_ok r m v w ⟨hr.1, by omega⟩ ⟨by omega, hm.2⟩
theorem okRB_of {l d r s n : Int} (h : okQ l d r s) (hn : 0 ≤ n ∧ n ≤ 13) : okRB l d r s n = true := by
  obtain ⟨hl, hd, hr, hs⟩ := h
  have h1 : okCB l d r s = true := by unfold okCB; rw [if_neg (by omega)]; simp; omega
  unfold okRB; rw [h1]; simp; omega
set_option maxHeartbeats 2000000 in
theorem gPoints_ok (l d r s n : Int) (v : Bool) (w : World) (h : okQ l d r s) (hn : 0 ≤ n ∧ n ≤ 13) : Calls Tryd.prog 77 #[.agg #[.int .u8 l, .int .u8 d, .int .u8 r, .int .u8 s], .int .i64 n, .bool v] w fun e w' => e = .returned (.tuple #[.int .i64 (pointsQ l d r n v), .int .i64 0]) ∧ Below w.heap.size w w' := by
  have HN := Sec.mk fun w' => gNeed_ok l d r s w' h
  have HR0 := fun w' => gresult_any l d r s n w'
  rw [okRB_of h hn] at HR0
  have HR := Sec.mk HR0
  clear HR0
  have HM := Sec.mk fun (hx : 0 ≤ n - (6 + l)) w' => gmade_ok l d r s (n - (6 + l)) v w' h ⟨hx, by have := h.1; omega⟩
  have HD := Sec.mk fun (hx : n - (6 + l) < 0) w' => gdown_ok r (6 + l - n) v w' h.2.2.1 ⟨by omega, by have := h.1; omega⟩
  have hdb : n - (6 + l) < 0 → lostS r (6 + l - n) v ≤ 100000 ∧ -100000 ≤ lostS r (6 + l - n) v := fun hx => by
    have := lostS_bd (v := v) h.2.2.1 (m := 6 + l - n) (by have := h.1; omega)
    omega
  obtain ⟨hl, hd, hr, hs⟩ := h
  have h0 : (l == 0) = false := beq_eq_false_iff_ne.2 (by omega)
  unfold pointsQ
  by_cases hx : 0 ≤ n - (6 + l)
  · have HM' := Sec.mk (HM.out hx)
    rw [if_pos (by omega), show n - (l + 6) = n - (6 + l) by omega]
    clear HM HD hdb
    generalize madeQ l d r (n - (6 + l)) v = Z at *
    go_enter Tryd.func77, Tryd.ntmps77
    go_wp2_with fail
    obtain ⟨W, g, e1, e2, P, hB⟩ := box4 w l d r s
    rw [← e1, ← e2]
    clear e1 e2
    refine (HN.out _).mono ?_
    rintro e w1 ⟨rfl, hb1⟩
    have P1 := P.later hb1
    have hB1 := sbtr hB hb1
    obtain ⟨c0, c1, c2, c3⟩ := P.later hb1
    clear P hB hb1
    go_wp2_with fail
    refine (HR.out _).mono ?_
    rintro e w2 ⟨rfl, hb2⟩
    have hB2 := sbtr hB1 hb2
    obtain ⟨c0, c1, c2, c3⟩ := P1.later hb2
    clear hb2 hB1
    go_wp2_with fail
    refine (HM'.out _).mono ?_
    rintro e w3 ⟨rfl, hb3⟩
    go_wp2_with fail
    go_ret2
    exact ⟨rfl, sbtr hB2 hb3⟩
  · have HD' := Sec.mk (HD.out (by omega))
    replace hdb := hdb (by omega)
    rw [if_neg (by omega), show l + 6 - n = 6 + l - n by omega]
    have hneg : -(n - (6 + l)) = 6 + l - n := by omega
    clear HM HD
    generalize lostS r (6 + l - n) v = Z at *
    go_enter Tryd.func77, Tryd.ntmps77
    go_wp2_with fail
    obtain ⟨W, g, e1, e2, P, hB⟩ := box4 w l d r s
    rw [← e1, ← e2]
    clear e1 e2
    refine (HN.out _).mono ?_
    rintro e w1 ⟨rfl, hb1⟩
    have P1 := P.later hb1
    have hB1 := sbtr hB hb1
    obtain ⟨c0, c1, c2, c3⟩ := P.later hb1
    clear P hB hb1
    go_wp2_with fail
    refine (HR.out _).mono ?_
    rintro e w2 ⟨rfl, hb2⟩
    have hB2 := sbtr hB1 hb2
    obtain ⟨c0, c1, c2, c3⟩ := P1.later hb2
    clear hb2 hB1
    go_wp2_with fail
    refine (HD'.out _).mono ?_
    rintro e w3 ⟨rfl, hb3⟩
    go_wp2_with fail
    go_ret2
    exact ⟨by simp, sbtr hB2 hb3⟩
theorem okRB_zero {l d r s n : Int} (h : okRB l d r s n = true) (h0 : l = 0) : d = 0 ∧ r = 0 ∧ s = 0 ∧ n = 0 := by
  unfold okRB okCB at h
  subst h0
  simp at h
  omega
set_option maxHeartbeats 2000000 in
theorem gPoints_pass (v : Bool) (w : World) : Calls Tryd.prog 77 #[.agg #[.int .u8 0, .int .u8 0, .int .u8 0, .int .u8 0], .int .i64 0, .bool v] w fun e w' => e = .returned (.tuple #[.int .i64 0, .int .i64 0]) ∧ Below w.heap.size w w' := by
  have HN := Sec.mk fun w' => gNeed_bad 0 0 0 0 w' (.inr rfl)
  have HR0 := fun w' => gresult_any 0 0 0 0 0 w'
  rw [show okRB 0 0 0 0 0 = true from rfl] at HR0
  have HR := Sec.mk HR0
  clear HR0
  go_enter Tryd.func77, Tryd.ntmps77
  go_wp2_with fail
  obtain ⟨W, g, e1, e2, P, hB⟩ := box4 w 0 0 0 0
  rw [← e1, ← e2]
  clear e1 e2
  refine (HN.out _).mono ?_
  rintro e w1 ⟨rfl, hb1⟩
  have P1 := P.later hb1
  have hB1 := sbtr hB hb1
  obtain ⟨c0, c1, c2, c3⟩ := P.later hb1
  clear P hB hb1
  go_wp2_with fail
  refine (HR.out _).mono ?_
  rintro e w2 ⟨rfl, hb2⟩
  have hB2 := sbtr hB1 hb2
  obtain ⟨c0, c1, c2, c3⟩ := P1.later hb2
  clear hb2 hB1
  go_wp2_with fail
  go_ret2
  exact ⟨rfl, hB2⟩
set_option maxHeartbeats 2000000 in
theorem gPoints_wrong (l d r s n : Int) (v : Bool) (w : World) (hb : Byt4 l d r s) (hn : -9223372036854775808 ≤ n ∧ n ≤ 9223372036854775807) (h : okRB l d r s n = false) : Calls Tryd.prog 77 #[.agg #[.int .u8 l, .int .u8 d, .int .u8 r, .int .u8 s], .int .i64 n, .bool v] w fun e w' => e = .returned (.tuple #[.int .i64 0, .int .i64 2]) ∧ Below w.heap.size w w' := by
  obtain ⟨x, hx⟩ : ∃ x, Sec (∀ w', Calls Tryd.prog 99 #[.agg #[.int .u8 l, .int .u8 d, .int .u8 r, .int .u8 s]] w' fun e w'' => e = .returned (.int .i64 x) ∧ Below w'.heap.size w' w'') := by
    by_cases h0 : l = 0
    · exact ⟨0, ⟨fun w' => gNeed_bad l d r s w' (.inr h0)⟩⟩
    · cases hc : okCB l d r s
      · exact ⟨0, ⟨fun w' => gNeed_bad l d r s w' (.inl hc)⟩⟩
      · exact ⟨6 + l, ⟨fun w' => gNeed_ok l d r s w' (okCB_true hb hc h0)⟩⟩
  have HR0 := fun w' => gresult_any l d r s n w'
  rw [h] at HR0
  have HR := Sec.mk HR0
  clear HR0 h hb hn
  go_enter Tryd.func77, Tryd.ntmps77
  go_wp2_with fail
  obtain ⟨W, g, e1, e2, P, hB⟩ := box4 w l d r s
  rw [← e1, ← e2]
  clear e1 e2
  refine (hx.out _).mono ?_
  rintro e w1 ⟨rfl, hb1⟩
  have P1 := P.later hb1
  have hB1 := sbtr hB hb1
  obtain ⟨c0, c1, c2, c3⟩ := P.later hb1
  clear P hB hb1
  go_wp2_with fail
  refine (HR.out _).mono ?_
  rintro e w2 ⟨rfl, hb2⟩
  have hB2 := sbtr hB1 hb2
  clear hb2 hB1
  go_wp2_with fail
  go_ret2
  exact ⟨rfl, hB2⟩
/-- The points of a result for North and South. -/
def scoreG (l d r s n u : Int) : Int := if l = 0 then 0 else scoreQ l d r s n u
/-- Score answers. -/
def okSB (l d r s n u : Int) : Bool := okRB l d r s n && decide (u ≤ 3)
end Go.Proofs.YtojgjpegfkfnjaaDoor
