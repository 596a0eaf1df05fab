/- finesseref17: lost, Points and Score, at results that are right. -/
import Derived.Test.YtojgjpegfkfnjaaDoorRScoB
namespace Go.Proofs.YtojgjpegfkfnjaaDoor
open Go.RowKit
set_option linter.unusedVariables false
set_option linter.unusedSimpArgs false
set_option maxRecDepth 100000

/-- The points of the first m missing tricks. -/
def lostS (r m : Int) (v : Bool) : Int := if m = 0 then 0 else downZ r m v
theorem lostS_bd {r m : Int} {v : Bool} (hr : 0 ≤ r ∧ r ≤ 2) (hm : 0 ≤ m ∧ m ≤ 13) : 0 ≤ lostS r m v ∧ lostS r m v ≤ 100000 := by
  have h3 : r = 0 ∨ r = 1 ∨ r = 2 := by omega
  unfold lostS downZ overZ dblZ byZ
  rcases h3 with rfl | rfl | rfl <;> cases v <;> simp <;> (repeat' split) <;> omega
def lostQ (r k : Int) (v : Bool) : Int := lostS r k v - lostS r (k - 1) v
theorem rsLost_ok (r k : Int) (v : Bool) (w : World) (hr : 0 ≤ r ∧ r ≤ 2) (hk : 1 ≤ k ∧ k ≤ 13) : Calls Tryd.prog 91 #[.int .u8 r, .int .i64 k, .bool v] w fun e w' => e = .returned (.int .i64 (lostQ r k v)) ∧ w' = w := by
  have h3 : r = 0 ∨ r = 1 ∨ r = 2 := by omega
  have hk4 : (k = 1 ∨ k = 2 ∨ k = 3) ∨ 4 ≤ k := by omega
  rcases hk4 with hk3 | h4
  · rcases h3 with rfl | rfl | rfl <;> cases v <;> rcases hk3 with rfl | rfl | rfl
    all_goals
      go_enter Tryd.func91, Tryd.ntmps91
      go_wp2_with fail
      go_ret
      exact ⟨by simp [lostQ, lostS, downZ, overZ, dblZ, byZ], rfl⟩
  · have k1 : (k == 1) = false := beq_eq_false_iff_ne.2 (by omega)
    have k2 : (k == 2) = false := beq_eq_false_iff_ne.2 (by omega)
    have k3 : (k == 3) = false := beq_eq_false_iff_ne.2 (by omega)
    have hq : Sec (lostQ r k v = overZ (byZ v 50 100) 300 600 r) := ⟨by
      unfold lostQ lostS downZ overZ dblZ byZ
      have hk0 : ¬ k = 0 := by omega
      have hk1 : ¬ k - 1 = 0 := by omega
      rw [if_neg hk0, if_neg hk1]
      rcases h3 with rfl | rfl | rfl <;> cases v <;> simp <;> (repeat' split) <;> omega⟩
    rw [hq.out]
    clear hq hk hr h4
    rcases h3 with rfl | rfl | rfl <;> cases v
    all_goals
      go_enter Tryd.func91, Tryd.ntmps91
      go_wp2_with fail
      go_ret
      exact ⟨by simp [overZ, byZ], rfl⟩
def pointsQ (l d r n : Int) (v : Bool) : Int := if l + 6 ≤ n then madeQ l d r (n - (l + 6)) v else -(lostS r (l + 6 - n) v)
theorem madeQ_bd {l d r s m : Int} {v : Bool} (h : okQ l d r s) (hm : 0 ≤ m ∧ m ≤ 13) : 0 ≤ madeQ l d r m v ∧ madeQ l d r m v ≤ 100000 := by
  have hb := bidQ_bd h
  obtain ⟨hl, hd, hr, hs⟩ := h
  have h1 := slam_bd 500 1000 l (by omega)
  have h2 := slam_bd 750 1500 l (by omega)
  have h3 : r = 0 ∨ r = 1 ∨ r = 2 := by omega
  have hV : valZ d = 20 ∨ valZ d = 30 := by unfold valZ; split <;> simp
  unfold madeQ
  generalize bidQ l d r = B at *
  unfold overZ byZ
  rcases h3 with rfl | rfl | rfl <;> rcases hV with hV | hV <;> rw [hV] <;> cases v <;> simp <;> (try split) <;> omega
theorem pointsQ_bd {l d r s n : Int} {v : Bool} (h : okQ l d r s) (hn : 0 ≤ n ∧ n ≤ 13) : -100000 ≤ pointsQ l d r n v ∧ pointsQ l d r n v ≤ 100000 := by
  unfold pointsQ
  split
  · have := madeQ_bd (v := v) h (m := n - (l + 6)) (by have := h.1; omega)
    omega
  · have := lostS_bd (v := v) h.2.2.1 (m := l + 6 - n) (by have := h.1; omega)
    omega
theorem pointsQ_eq {l d r n : Int} {v : Bool} (hl : 1 ≤ l ∧ l ≤ 7) (hr : 0 ≤ r ∧ r ≤ 1) : pointsQ l d r n v = pointsZ l d r n v := by
  have hr2 : r = 0 ∨ r = 1 := by omega
  have hbid : bidQ l d r = bidZ l d r := by unfold bidQ bidZ powQ; rcases hr2 with rfl | rfl <;> simp
  unfold pointsQ pointsZ
  by_cases h : l + 6 ≤ n
  · rw [if_pos h, if_pos (by omega)]
    unfold madeQ madeZ
    rw [hbid, show n - (l + 6) = n - (6 + l) by omega]
    congr 4
    by_cases hb : bidZ l d r < 100
    · rw [if_pos hb, if_neg (by omega)]
    · rw [if_neg hb, if_pos (by omega)]
  · rw [if_neg h, if_neg (by omega)]
    unfold lostS
    rw [if_neg (by omega), show l + 6 - n = 6 + l - n by omega]
def LostRel (W : World) (r : Int) (v : Bool) (m : Int) (n k : Value) (wr : World) : Prop := ∃ j : Nat, (j : Int) ≤ m ∧ n = .int .i64 (-(lostS r j v)) ∧ k = .int .i64 (1 + j) ∧ Below W.heap.size W wr
set_option maxHeartbeats 2000000 in
theorem rsPoints_ok (l d r s n : Int) (v : Bool) (w : World) (h : okQ l d r s) (hn : 0 ≤ n ∧ n ≤ 13) : Calls Tryd.prog 59 #[.agg #[.int .u8 l, .int .u8 d, .int .u8 r, .int .u8 s], .int .i64 n, .bool v] w fun e w' => e = .returned (.tuple #[.int .i64 (pointsQ l d r n v), .int .i64 0]) ∧ Below w.heap.size w w' := by
  have HN := Sec.mk fun w' => rsNeed_ok l d r s w' h
  have HR := Sec.mk fun w' => rsResult_ok l d r s n w' h hn
  have HM := Sec.mk fun (hx : l + 6 ≤ n) w' => rsMade_ok l d r s n v w' h ⟨hx, hn.2⟩
  have HL := Sec.mk fun k (hk : 1 ≤ k ∧ k ≤ 13) w' => rsLost_ok r k v w' h.2.2.1 hk
  have HLb := Sec.mk fun k (hk : 0 ≤ k ∧ k ≤ 13) => lostS_bd (v := v) h.2.2.1 hk
  obtain ⟨hl, hd, hr, hs⟩ := h
  have h0 : (l == 0) = false := beq_eq_false_iff_ne.2 (by omega)
  unfold pointsQ
  clear hd hs hr
  by_cases hx : l + 6 ≤ n
  · have HM' := Sec.mk (HM.out hx)
    rw [if_pos hx]
    clear HM HL HLb
    generalize madeQ l d r (n - (l + 6)) v = Z at *
    go_enter Tryd.func59, Tryd.ntmps59
    go_wp2_with fail
    obtain ⟨W, g, e1, e2, P, hB⟩ := box4 w l d r s
    rw [← e1, ← e2]
    clear e1 e2
    refine (HR.out _).mono ?_
    rintro e w1 ⟨rfl, hb1⟩
    have P1 := P.later hb1
    have hB1 := sbtr hB hb1
    obtain ⟨c0, c1, c2, c3⟩ := id P1
    clear hb1 hB
    go_wp2_with fail
    refine (HN.out _).mono ?_
    rintro e w2 ⟨rfl, hb2⟩
    have hB2 := sbtr hB1 hb2
    obtain ⟨c0, c1, c2, c3⟩ := P1.later hb2
    clear hb2 hB1
    go_wp2_with fail
    refine (HM'.out _).mono ?_
    rintro e w3 ⟨rfl, hb3⟩
    go_wp2_with fail
    go_ret2
    exact ⟨rfl, sbtr hB2 hb3⟩
  · rw [if_neg hx]
    clear HM
    obtain ⟨m, hm, hm1⟩ : ∃ m, l + 6 - n = m ∧ 1 ≤ m ∧ m ≤ 13 := ⟨_, rfl, by omega, by omega⟩
    rw [hm]
    go_enter Tryd.func59, Tryd.ntmps59
    go_wp2_with fail
    obtain ⟨W, g, e1, e2, P, hB⟩ := box4 w l d r s
    rw [← e1, ← e2]
    clear e1 e2
    refine (HR.out _).mono ?_
    rintro e w1 ⟨rfl, hb1⟩
    have P1 := P.later hb1
    have hB1 := sbtr hB hb1
    obtain ⟨c0, c1, c2, c3⟩ := id P1
    clear hb1 hB
    go_wp2_with fail
    refine (HN.out _).mono ?_
    rintro e w2 ⟨rfl, hb2⟩
    have hB2 := sbtr hB1 hb2
    have P2 := P1.later hb2
    clear hb2 hB1 P1 P HR
    obtain ⟨c0, c1, c2, c3⟩ := P2
    replace hm := Sec.mk hm
    have hlw : wrap64 (l + 6 - n) = l + 6 - n := by unfold wrap64; omega
    go_wp2_with fail
    go_loopw [8, 9] (fun n k wr => LostRel w2 r v m n k wr) (fun _ k _ => (m + 1 - intOf k).toNat)
    case atStart => exact ⟨0, by omega, by simp [lostS], by simp, Below.refl _ _⟩
    case round =>
      obtain ⟨j, hj, rfl, rfl, hbr⟩ := hrel
      have hBr := sbtr hB2 hbr
      obtain ⟨d0, d1, d2, d3⟩ := (Quad.mk c0 c1 c2 c3).later hbr
      by_cases hlt : (j : Int) < m
      · have hle : 1 + (j : Int) ≤ l + 6 - n := by have := hm.out; omega
        obtain ⟨A, hA, hA0⟩ : ∃ A, lostS r j v = A ∧ 0 ≤ A ∧ A ≤ 100000 := ⟨_, rfl, HLb.out j ⟨by omega, by omega⟩⟩
        obtain ⟨B, hBe, hB0⟩ : ∃ B, lostS r ((j + 1 : Nat) : Int) v = B ∧ 0 ≤ B ∧ B ≤ 100000 := ⟨_, rfl, HLb.out _ ⟨by omega, by omega⟩⟩
        have hq : lostQ r (1 + j) v = B - A := by
          unfold lostQ
          rw [← hA, ← hBe, show 1 + (j : Int) = ((j + 1 : Nat) : Int) by omega, show ((j + 1 : Nat) : Int) - 1 = j by omega]
        have HLj : Sec (∀ w', Calls Tryd.prog 91 #[.int .u8 r, .int .i64 (1 + (j : Int)), .bool v] w' fun e w'' => e = .returned (.int .i64 (B - A)) ∧ w'' = w') := ⟨fun w' => by rw [← hq]; exact HL.out (1 + j) ⟨by omega, by omega⟩ w'⟩
        have hend : Sec (Value.int .i64 (-A - (B - A)) = .int .i64 (-(lostS r ((j + 1 : Nat) : Int) v))) := ⟨by rw [hBe]; congr 1; omega⟩
        rw [hA]
        clear hA hBe hq HL HLb
        have hrr := Sec.mk hbr
        clear hbr
        go_wp2_with fail
        refine (HN.out _).mono ?_
        rintro e w3 ⟨rfl, hb3⟩
        have hB3 := Sec.mk (sbtr hrr.out hb3)
        obtain ⟨e0, e1, e2, e3⟩ := (Quad.mk d0 d1 d2 d3).later hb3
        clear hb3 hrr
        go_wp2_with fail
        refine (HLj.out _).mono ?_
        rintro e w4 ⟨rfl, rfl⟩
        clear HLj HN
        go_wp2_with fail
        exact ⟨⟨j + 1, by omega, by first | exact hend.out | (rw [← hend.out]; go_num), by go_num, hB3.out⟩, by simp only [intOf]; omega⟩
      · have hle : ¬ (1 + (j : Int) ≤ l + 6 - n) := by have := hm.out; omega
        have hjm : (j : Int) = m := by omega
        rw [hjm]
        have hbz := HLb.out m ⟨by omega, by omega⟩
        obtain ⟨Z, hZ⟩ : ∃ Z, lostS r m v = Z := ⟨_, rfl⟩
        rw [hZ] at hbz ⊢
        replace hZ := Sec.mk hZ
        clear HLb HL
        rw [hjm] at hle
        clear hlt hjm hj
        have hrr := Sec.mk hBr
        clear hBr hbr
        go_wp2_with fail
        refine (HN.out _).mono ?_
        rintro e w3 ⟨rfl, hb3⟩
        have hB3 := Sec.mk (sbtr hrr.out hb3)
        clear hb3
        go_wp2_with fail
        go_ret2
        exact ⟨by rw [hZ.out]; rfl, hB3.out⟩
def scoreQ (l d r s n u : Int) : Int := if s = 1 ∨ s = 3 then -(pointsQ l d r n (vulB u s)) else pointsQ l d r n (vulB u s)
theorem scoreQ_eq {l d r s n u : Int} (h : okC l d r s) : scoreQ l d r s n u = scoreZ l d r s n u := by
  obtain ⟨hl, hd, hr, hs⟩ := h
  unfold scoreQ scoreZ
  rw [pointsQ_eq hl hr]
  by_cases e : s % 2 = 1
  · rw [if_pos (by omega), if_pos e]
  · rw [if_neg (by omega), if_neg e]
set_option maxHeartbeats 2000000 in
theorem rsScore_ok (l d r s n u : Int) (w : World) (h : okQ l d r s) (hn : 0 ≤ n ∧ n ≤ 13) (hu : 0 ≤ u ∧ u ≤ 3) : Calls Tryd.prog 34 #[.agg #[.int .u8 l, .int .u8 d, .int .u8 r, .int .u8 s], .int .i64 n, .int .u8 u] w fun e w' => e = .returned (.tuple #[.int .i64 (scoreQ l d r s n u), .int .i64 0]) ∧ Below w.heap.size w w' := by
  have HR := Sec.mk fun w' => rsResult_ok l d r s n w' h hn
  have HV := Sec.mk fun w' => rsVul_ok u s w' hu h.2.2.2
  have HP := Sec.mk fun w' => rsPoints_ok l d r s n (vulB u s) w' h hn
  have hb := pointsQ_bd (v := vulB u s) h hn
  have hs := h.2.2.2
  clear h
  unfold scoreQ
  generalize pointsQ l d r n (vulB u s) = Z at *
  generalize vulB u s = V at *
  have h3 : decide (3 < u) = false := by simp; omega
  have hcase : ((s == 1) = true ∧ (if s = 1 ∨ s = 3 then -Z else Z) = -Z) ∨ ((s == 1) = false ∧ (s == 3) = true ∧ (if s = 1 ∨ s = 3 then -Z else Z) = -Z) ∨ ((s == 1) = false ∧ (s == 3) = false ∧ (if s = 1 ∨ s = 3 then -Z else Z) = Z) := by
    by_cases h1 : s = 1
    · exact .inl ⟨by rw [h1]; rfl, if_pos (.inl h1)⟩
    · by_cases h3 : s = 3
      · exact .inr (.inl ⟨beq_eq_false_iff_ne.2 h1, by rw [h3]; rfl, if_pos (.inr h3)⟩)
      · exact .inr (.inr ⟨beq_eq_false_iff_ne.2 h1, beq_eq_false_iff_ne.2 h3, if_neg (by omega)⟩)
  clear hs
  rcases hcase with ⟨e1, hR⟩ | ⟨e1, e3, hR⟩ | ⟨e1, e3, hR⟩
  all_goals
    rw [hR]
    clear hR
    go_enter Tryd.func34, Tryd.ntmps34
    go_wp2_with fail
    obtain ⟨W, g, e1, e2, P, hB⟩ := box4 w l d r s
    rw [← e1, ← e2]
    clear e1 e2
    refine (HR.out _).mono ?_
    rintro e w1 ⟨rfl, hb1⟩
    have P1 := P.later hb1
    have PB := Sec.mk P1
    have hB1 := sbtr hB hb1
    clear hb1 hB P
    have hBx := Below.refl w1.heap.size w1
    obtain ⟨c0, c1, c2, c3⟩ := P1
    go_wp2_with fail
    go_region_held3 (fun w' => w'.cell? ⟨g, 0, none⟩ = some (.int .u8 l) ∧ w'.cell? ⟨g, 1, none⟩ = some (.int .u8 d) ∧ w'.cell? ⟨g, 2, none⟩ = some (.int .u8 r) ∧ w'.cell? ⟨g, 3, none⟩ = some (.int .u8 s))
      (first | assumption | exact ⟨c0, c1, c2, c3⟩ | exact ⟨sc_later hBx c0, sc_later hBx c1, sc_later hBx c2, sc_later hBx c3⟩)
      ((first
        | (go_at_call 60; refine (HV.out _).mono ?_; rintro e w5 ⟨rfl, rfl⟩)
        | (go_at_call 59; refine (HP.out _).mono ?_; rintro e w6 ⟨rfl, hb6⟩; have hBx : Below w1.heap.size w1 w6 := sbtr (by repeat (first | exact hBx | refine Below.drew ?_ | refine sc_drewN ?_ _)) hb6)))
    obtain ⟨d0, d1, d2, d3⟩ := (PB.out.later hBx)
    clear c0 c1 c2 c3
    go_wp2_with fail
    go_ret2
    exact ⟨by simp, sbtr hB1 hBx⟩
end Go.Proofs.YtojgjpegfkfnjaaDoor
