/- chapter 18: awake. -/
import Derived.Test.YtfacmkelbjfffaaParK
namespace Go.Proofs.Ytfacmkelbjfffaa
open Go.RowKit
set_option linter.unusedVariables false
set_option linter.unusedSimpArgs false
set_option maxRecDepth 100000

theorem exPar0 (w : World) : Calls Try.prog 12 #[.agg (tabV exT), .int .u8 0, .int .u8 0] w fun e w' => e = .returned (.tuple #[.agg #[.int .u8 5, .int .u8 2, .int .u8 1, .int .u8 1, .int .i64 9, .int .i64 0], .int .i64 300, .int .i64 0]) ∧ Below w.heap.size w w' := by
  have h := Par_ok exT 0 0 w exRight (by decide) (by decide)
  rw [show (0 % 2 : Nat) = 0 from rfl, exV0, exZ0] at h
  exact h
theorem exPar2 (w : World) : Calls Try.prog 12 #[.agg (tabV exT), .int .u8 2, .int .u8 0] w fun e w' => e = .returned (.tuple #[.agg #[.int .u8 4, .int .u8 3, .int .u8 0, .int .u8 0, .int .i64 10, .int .i64 0], .int .i64 420, .int .i64 0]) ∧ Below w.heap.size w w' := by
  have h := Par_ok exT 2 0 w exRight (by decide) (by decide)
  rw [show (0 % 2 : Nat) = 0 from rfl, exV2, exZ2] at h
  exact h
theorem exBids (w : World) : Calls Try.prog 13 #[.agg (tabV exT), .int .u8 0, .int .u8 0] w fun e w' => ∃ b c, e = .returned (.tuple #[.slice (some ⟨b, 0, none⟩) 2 c, .int .i64 0]) ∧ w'.cell? ⟨b, 0, none⟩ = some (.int .u8 21) ∧ w'.cell? ⟨b, 1, none⟩ = some (.int .u8 25) ∧ Below w.heap.size w w' := by
  have h := Bids_ok exT 0 0 w exRight (by decide) (by decide)
  rw [show (0 % 2 : Nat) = 0 from rfl, exB0] at h
  refine h.mono ?_
  rintro e w' ⟨v, rfl, ho, hb⟩
  obtain ⟨A, c, rfl, hc⟩ := bytes_of_own ho
  obtain ⟨b, rfl, h0⟩ := hc 0 21 rfl
  obtain ⟨b', e1, h1⟩ := hc 1 25 rfl
  cases e1
  exact ⟨b, c, rfl, h0, h1, hb⟩
theorem exBest (w : World) : Calls Try.prog 20 #[.agg (tabV exT), .int .u8 2, .int .u8 1] w fun e w' => e = .returned (.tuple #[.int .i64 9, .int .u8 1, .int .i64 0]) ∧ Below w.heap.size w w' := by
  have h := Best_ok exT 2 1 w exRight (by decide) (by decide)
  rw [exN, exS] at h
  exact h
theorem out_new (W : World) (a b c d e f : Value) (t : TypeId) : ∃ W' g, W' = W.alloc (.cells #[a, b, c, d, e, f] t) ∧ g = W.heap.size ∧ (W'.cell? ⟨g, 0, none⟩ = some a ∧ W'.cell? ⟨g, 1, none⟩ = some b ∧ W'.cell? ⟨g, 2, none⟩ = some c ∧ W'.cell? ⟨g, 3, none⟩ = some d ∧ W'.cell? ⟨g, 4, none⟩ = some e ∧ W'.cell? ⟨g, 5, none⟩ = some f) ∧ Below W.heap.size W W' :=
  ⟨_, _, rfl, rfl, ⟨(cellIs_row W _ t 0 _ rfl).1, (cellIs_row W _ t 1 _ rfl).1, (cellIs_row W _ t 2 _ rfl).1, (cellIs_row W _ t 3 _ rfl).1, (cellIs_row W _ t 4 _ rfl).1, (cellIs_row W _ t 5 _ rfl).1⟩, sst1 _ _⟩
theorem six_later {W W' : World} {g : Nat} {a b c d e f : Value} (h : W.cell? ⟨g, 0, none⟩ = some a ∧ W.cell? ⟨g, 1, none⟩ = some b ∧ W.cell? ⟨g, 2, none⟩ = some c ∧ W.cell? ⟨g, 3, none⟩ = some d ∧ W.cell? ⟨g, 4, none⟩ = some e ∧ W.cell? ⟨g, 5, none⟩ = some f) (hb : Below W.heap.size W W') :
    W'.cell? ⟨g, 0, none⟩ = some a ∧ W'.cell? ⟨g, 1, none⟩ = some b ∧ W'.cell? ⟨g, 2, none⟩ = some c ∧ W'.cell? ⟨g, 3, none⟩ = some d ∧ W'.cell? ⟨g, 4, none⟩ = some e ∧ W'.cell? ⟨g, 5, none⟩ = some f :=
  ⟨sc_later hb h.1, sc_later hb h.2.1, sc_later hb h.2.2.1, sc_later hb h.2.2.2.1, sc_later hb h.2.2.2.2.1, sc_later hb h.2.2.2.2.2⟩

set_option maxHeartbeats 4000000 in
theorem awake_true (w : World) : Calls Try.prog 14 #[] w fun e w' => e = .returned (.bool true) ∧ Below w.heap.size w w' := by
  have HE := Sec.mk fun w' => Example_ok w'
  have HP0 := Sec.mk exPar0
  have HP2 := Sec.mk exPar2
  have HB := Sec.mk exBids
  have HBe := Sec.mk exBest
  obtain ⟨X, hX⟩ : ∃ X, tabV exT = X := ⟨_, rfl⟩
  rw [hX] at HE HP0 HP2 HB HBe
  clear hX
  go_enter Try.func14, Try.ntmps14
  go_wp2_with fail
  refine (HE.out _).mono ?_
  rintro e w1 ⟨rfl, hb1⟩
  go_wp2_with fail
  refine (HP0.out _).mono ?_
  rintro e w2 ⟨rfl, hb2⟩
  go_wp2_with fail
  obtain ⟨W3, g1, e3, eg, hc1, hb3⟩ := out_new w2 (.int .u8 5) (.int .u8 2) (.int .u8 1) (.int .u8 1) (.int .i64 9) (.int .i64 0) 30
  rw [← e3, ← eg]
  have hB := sbtr (sbtr hb1 hb2) hb3
  clear e3 eg hb1 hb2 hb3
  refine (HE.out _).mono ?_
  rintro e w4 ⟨rfl, hb4⟩
  go_wp2_with fail
  refine (HP2.out _).mono ?_
  rintro e w5 ⟨rfl, hb5⟩
  go_wp2_with fail
  obtain ⟨W6, g2, e6, eg, hc2, hb6⟩ := out_new w5 (.int .u8 4) (.int .u8 3) (.int .u8 0) (.int .u8 0) (.int .i64 10) (.int .i64 0) 30
  rw [← e6, ← eg]
  have hbb := sbtr (sbtr hb4 hb5) hb6
  have hB := sbtr hB hbb
  have hc1 := six_later hc1 hbb
  clear e6 eg hb4 hb5 hb6 hbb
  refine (HE.out _).mono ?_
  rintro e w7 ⟨rfl, hb7⟩
  go_wp2_with fail
  refine (HB.out _).mono ?_
  rintro e w8 ⟨b, c, rfl, k0, k1, hb8⟩
  go_wp2_with fail
  refine (HE.out _).mono ?_
  rintro e w9 ⟨rfl, hb9⟩
  go_wp2_with fail
  refine (HBe.out _).mono ?_
  rintro e w10 ⟨rfl, hb10⟩
  have hbb := sbtr hb9 hb10
  have hbc := sbtr (sbtr hb7 hb8) hbb
  have hB := sbtr hB hbc
  have hc1 := six_later hc1 hbc
  have hc2 := six_later hc2 hbc
  have k0 := sc_later hbb k0
  have k1 := sc_later hbb k1
  clear hb7 hb8 hb9 hb10 hbb hbc HE HP0 HP2 HB HBe
  go_upto_region 6 with fail
  obtain ⟨W11, g3, e11, eg, P3, hb11⟩ := box4 w10 5 2 1 1
  rw [← e11, ← eg]
  clear e11 eg
  go_upto_region 7 with fail
  obtain ⟨W12, g4, e12, eg, P4, hb12⟩ := box4 W11 4 3 0 0
  rw [← e12, ← eg]
  clear e12 eg
  have hbb := sbtr hb11 hb12
  obtain ⟨a0, a1, a2, a3, a4, a5⟩ := six_later hc1 hbb
  obtain ⟨d0, d1, d2, d3, d4, d5⟩ := six_later hc2 hbb
  have k0 := sc_later hbb k0
  have k1 := sc_later hbb k1
  obtain ⟨p0, p1, p2, p3⟩ := P3.later hb12
  obtain ⟨r0, r1, r2, r3⟩ := P4
  have hB := sbtr hB hbb
  clear hc1 hc2 hb11 hb12 hbb P3
  go_wp2_with fail
  go_ret
  exact ⟨rfl, hB⟩
end Go.Proofs.Ytfacmkelbjfffaa
