/- score: Points and Score, at results that are right. -/
import Derived.Test.YtojgjpegfkfnjaaDoorScoB
namespace Go.Proofs.YtojgjpegfkfnjaaDoor
open Go.RowKit
set_option linter.unusedVariables false
set_option linter.unusedSimpArgs false

def dblZ (v : Bool) (n : Int) : Int := if v then 300 * n - 100 else 200 * n - 100 + 100 * (if n - 3 < 0 then 0 else n - 3)
set_option maxHeartbeats 1000000 in
theorem down1_ok (n : Int) (v : Bool) (g : Nat) (w : World) (hc : w.cell? ⟨g, 0, none⟩ = some (.bool v)) (hn : 0 ≤ n ∧ n ≤ 13) : Calls Tryd.prog 110 #[.int .i64 n, .pointer (some ⟨g, 0, none⟩)] w fun e w' => e = .returned (.int .i64 (dblZ v n)) ∧ w = w' := by
  cases v
  · obtain ⟨m, hm⟩ : ∃ m, (if n - 3 < 0 then 0 else n - 3) = m := ⟨_, rfl⟩
    have hmb : 0 ≤ m ∧ m ≤ 13 := by rw [← hm]; split <;> omega
    simp only [dblZ, hm, Bool.false_eq_true, if_false]
    go_enter Tryd.func110, Tryd.ntmps110
    go_wp2_with fail
    go_ret
    exact ⟨by simp, rfl⟩
  · simp only [dblZ, if_true]
    go_enter Tryd.func110, Tryd.ntmps110
    go_wp2_with fail
    go_ret
    exact ⟨by simp, rfl⟩
def downZ (r m : Int) (v : Bool) : Int := overZ (byZ v 50 100 * m) (dblZ v m) (2 * dblZ v m) r
set_option maxRecDepth 100000 in
set_option maxHeartbeats 1000000 in
theorem down_ok (r m : Int) (v : Bool) (w : World) (hr : 0 ≤ r ∧ r ≤ 1) (hm : 0 ≤ m ∧ m ≤ 13) : Calls Tryd.prog 102 #[.int .u8 r, .int .i64 m, .bool v] w fun e w' => e = .returned (.int .i64 (downZ r m v)) ∧ Below w.heap.size w w' := by
  have hi3 := fun a b c w => index_three a b c r w (by omega)
  have hBy := fun w => by_any v 50 100 w
  have HD := Sec.mk fun g w hc => down1_ok m v g w hc hm
  have hdb : -100 ≤ dblZ v m ∧ dblZ v m ≤ 10000 := by unfold dblZ; split <;> (try split) <;> omega
  unfold downZ
  generalize dblZ v m = D at *
  have hb := byZ_bd v 50 100
  obtain ⟨B, hB⟩ : ∃ B, byZ v 50 100 = B := ⟨_, rfl⟩
  rw [hB] at hBy
  have HBy := Sec.mk hBy
  obtain ⟨M, hM⟩ : ∃ M, B * m = M := ⟨_, rfl⟩
  have hMb : 0 ≤ M ∧ M ≤ 1300 := by rw [← hM, ← hB]; rcases hb with h | h <;> rw [h] <;> omega
  have hw : IntKind.i64.wrap M = M := IntWalk.i64_in _ ⟨by omega, by omega⟩
  rw [hB, hM]
  clear hBy hb
  go_enter Tryd.func102, Tryd.ntmps102
  go_wp2_with fail
  refine (HBy.out _).mono ?_; rintro e w1 ⟨rfl, rfl⟩
  obtain ⟨W, g, e1, e2, c0, hBW⟩ : ∃ W g, W = w.alloc (.cells #[.bool v] 4) ∧ g = w.heap.size ∧ W.cell? ⟨g, 0, none⟩ = some (.bool v) ∧ Below w.heap.size w W := ⟨_, _, rfl, rfl, by go_simp, sst1 _ _⟩
  rw [← e1, ← e2]
  clear e1 e2
  go_wp2_with fail
  refine (HD.out _ _ c0).mono ?_; rintro e w1 ⟨rfl, rfl⟩
  go_wp2_with fail
  refine (HD.out _ _ c0).mono ?_; rintro e w1 ⟨rfl, rfl⟩
  go_wp2_with fail
  go_ret
  exact ⟨rfl, hBW⟩
def pointsZ (l d r n : Int) (v : Bool) : Int := if 6 + l ≤ n then madeZ l d r (n - (6 + l)) v else -(downZ r (6 + l - n) v)
set_option maxRecDepth 100000 in
set_option maxHeartbeats 2000000 in
theorem points_ok (l d r s n : Int) (v : Bool) (w : World) (h : okC l d r s) (hn : 0 ≤ n ∧ n ≤ 13) : Calls Tryd.prog 77 #[.agg #[.int .u8 l, .int .u8 d, .int .u8 r, .int .u8 s], .int .i64 n, .bool v] w fun e w' => e = .returned (.tuple #[.int .i64 (pointsZ l d r n v), .int .i64 0]) ∧ Below w.heap.size w w' := by
  have HN := Sec.mk fun w' => need_ok l d r s w' h
  have HR := Sec.mk fun w' => result_ok l d r s n w' h hn
  have HM := Sec.mk fun (hx : 0 ≤ n - (6 + l)) w' => made_ok l d r s (n - (6 + l)) v w' h ⟨hx, by have := h.1; omega⟩
  have HD := Sec.mk fun (hx : n - (6 + l) < 0) w' => down_ok r (6 + l - n) v w' h.2.2.1 ⟨by omega, by have := h.1; omega⟩
  have hdb : downZ r (6 + l - n) v ≤ 100000 ∧ -100000 ≤ downZ r (6 + l - n) v := by
    have := h.1
    have h3 : r = 0 ∨ r = 1 := by have := h.2.2.1; omega
    unfold downZ overZ dblZ byZ
    rcases h3 with rfl | rfl <;> cases v <;> simp <;> (try split) <;> omega
  obtain ⟨hl, hd, hr, hs⟩ := h
  have h0 : (l == 0) = false := beq_eq_false_iff_ne.2 (by omega)
  unfold pointsZ
  by_cases hx : 0 ≤ n - (6 + l)
  · have HM' := Sec.mk (HM.out hx)
    rw [if_pos (by omega)]
    clear HM HD hdb
    generalize madeZ l d r (n - (6 + l)) v = Z at *
    go_enter Tryd.func77, Tryd.ntmps77
    go_wp2_with fail
    obtain ⟨W, g, e1, e2, P, hB⟩ := box4 w l d r s
    rw [← e1, ← e2]
    clear e1 e2
    refine (HN.out _).mono ?_
    rintro e w1 ⟨rfl, hb1⟩
    have P1 := P.later hb1
    have hB1 := sbtr hB hb1
    obtain ⟨c0, c1, c2, c3⟩ := P.later hb1
    clear P hB hb1
    go_wp2_with fail
    refine (HR.out _).mono ?_
    rintro e w2 ⟨rfl, hb2⟩
    have hB2 := sbtr hB1 hb2
    obtain ⟨c0, c1, c2, c3⟩ := P1.later hb2
    clear hb2 hB1
    go_wp2_with fail
    refine (HM'.out _).mono ?_
    rintro e w3 ⟨rfl, hb3⟩
    go_wp2_with fail
    go_ret2
    exact ⟨rfl, sbtr hB2 hb3⟩
  · have HD' := Sec.mk (HD.out (by omega))
    rw [if_neg (by omega)]
    have hneg : -(n - (6 + l)) = 6 + l - n := by omega
    clear HM HD
    generalize downZ r (6 + l - n) v = Z at *
    go_enter Tryd.func77, Tryd.ntmps77
    go_wp2_with fail
    obtain ⟨W, g, e1, e2, P, hB⟩ := box4 w l d r s
    rw [← e1, ← e2]
    clear e1 e2
    refine (HN.out _).mono ?_
    rintro e w1 ⟨rfl, hb1⟩
    have P1 := P.later hb1
    have hB1 := sbtr hB hb1
    obtain ⟨c0, c1, c2, c3⟩ := P.later hb1
    clear P hB hb1
    go_wp2_with fail
    refine (HR.out _).mono ?_
    rintro e w2 ⟨rfl, hb2⟩
    have hB2 := sbtr hB1 hb2
    obtain ⟨c0, c1, c2, c3⟩ := P1.later hb2
    clear hb2 hB1
    go_wp2_with fail
    refine (HD'.out _).mono ?_
    rintro e w3 ⟨rfl, hb3⟩
    go_wp2_with fail
    go_ret2
    exact ⟨by simp, sbtr hB2 hb3⟩
end Go.Proofs.YtojgjpegfkfnjaaDoor
