/- The contract of the long division. -/
import Derived.Test.YtojgjpegfkfnjaaDoorFracA
namespace Go.Proofs.YtojgjpegfkfnjaaDoor
open Go.RowKit
set_option linter.unusedVariables false
set_option linter.unusedSimpArgs false

/-- Behind the rounds from 127 down to k: what is left, and what has been found. -/
def OverRel (w : World) (a b A D : Nat) (rest i : Value) (wr : World) : Prop :=
  ∃ (k n q0 q1 r : Nat), k ≤ 128 ∧ Sec ((q0 : Int) ≤ 18446744073709551615) ∧ Sec ((q1 : Int) ≤ 18446744073709551615) ∧ Sec (quo A D k = q0 + q1 * 18446744073709551616) ∧ Sec (lft A D k = r) ∧ i = .int .i64 ((k : Int) - 1) ∧ rest = .int .u64 r ∧
    wr = (((w.alloc (.cells #[.int .u64 a, .int .u64 b] 96)).alloc (.cells #[.int .u64 0, .int .u64 0] 96)).alloc (.cells #[.int .u64 q0, .int .u64 q1] 96)).drewN n

set_option maxHeartbeats 400000 in
theorem over_nat (a b A D : Nat) (w : World) (Ha : Sec ((a : Int) ≤ 18446744073709551615)) (Hb : Sec ((b : Int) ≤ 18446744073709551615)) (HA : Sec (A = a + b * 18446744073709551616)) (Hd : Sec (1 ≤ D)) (Hd' : Sec ((D : Int) ≤ 9223372036854775808)) :
    Calls Tryd.prog 82 #[.agg #[.int .u64 a, .int .u64 b], .int .u64 D] w fun e w' =>
      ∃ q0 q1 r : Nat, e = .returned (.tuple #[.agg #[.int .u64 q0, .int .u64 q1], .int .u64 r]) ∧ (A / D = q0 + q1 * 18446744073709551616 ∧ q0 < 18446744073709551616 ∧ q1 < 18446744073709551616 ∧ A % D = r) ∧ Below w.heap.size w w' := by
  go_enter Tryd.func82, Tryd.ntmps82
  go_wp2
  go_loopw [7, 8] (fun rest i wr => OverRel w a b A D rest i wr) (fun _ i _ => (intOf i + 1).toNat)
  case atStart =>
    have h := quo_top A D (by have := HA.out; have := Ha.out; have := Hb.out; omega)
    exact ⟨128, 0, 0, 0, 0, by omega, Sec.mk (by omega), Sec.mk (by omega), ⟨h.1⟩, ⟨h.2⟩, rfl, rfl, rfl⟩
  case round =>
    obtain ⟨k, n, q0, q1, r, hk, h0, h1, HQ, HL, rfl, rfl, rfl⟩ := hrel
    rcases k with _ | j
    · have e1 : (((0 : Nat) : Int) - 1) = -1 := rfl
      rw [e1]
      clear e1
      go_wp2
      have hz := quo_zero A D
      have hq := HQ.out
      have hl := HL.out
      rw [hz.1] at hq
      rw [hz.2] at hl
      refine bodyPost_ret (v := .tuple #[.agg #[.int .u64 q0, .int .u64 q1], .int .u64 r]) (by simp [results, Tryd.results82, go_sem]) rfl ⟨q0, q1, r, rfl, ⟨hq, by have := h0.out; omega, by have := h1.out; omega, hl⟩, ?_⟩
      exact ((below_drewN ((((Below.refl _ _).alloc (Nat.le_refl _) _).alloc (by simp) _).alloc (by simp; omega) _) n).setCell (by simp) _).setCell (by simp) _
    · have e1 : (((j + 1 : Nat) : Int) - 1) = (j : Int) := by omega
      rw [e1]
      clear e1
      by_cases h64 : 64 ≤ j
      · obtain ⟨m, rfl⟩ : ∃ m, j = m + 64 := ⟨j - 64, by omega⟩
        have hm : (m : Int) < 64 := by omega
        have e0 : ((m + 64 : Nat) : Int) = (m : Int) + 64 := by omega
        rw [e0]
        clear e0
        have e2 : ((m : Int) + 64) / 64 = 1 := by omega
        have e3 : ((m : Int) + 64) % 64 = m := by omega
        obtain ⟨hlt, e4, e6, h6, hs1, hs2⟩ := over_hi A D a b m q0 q1 r Hd.out (by omega) (by have := Ha.out; omega) (by have := Hb.out; omega) HA.out (by have := h0.out; omega) (by have := h1.out; omega) HQ.out HL.out
        have ht : b / 2 ^ m % 2 ≤ 1 := by omega
        generalize b / 2 ^ m % 2 = t at *
        have e5 := or_two r t ht (by have := Hd'.out; omega)
        have f1 : (b : Int) ≤ 18446744073709551615 := by have := Hb.out; omega
        have f2 : (r : Int) * 2 ≤ 18446744073709551614 := by have := Hd'.out; omega
        have f3 : (t : Int) ≤ 1 := by omega
        have H6 : Sec (((q1 + 2 ^ m : Nat) : Int) ≤ 18446744073709551615) := by generalize q1 + 2 ^ m = x at *; exact ⟨by omega⟩
        clear h6 ht
        clear hlt
        by_cases hc : (r : Int) * 2 + t < D
        · obtain ⟨g1, g2⟩ := hs1 (by omega)
          have G1 := Sec.mk g1
          have G2 := Sec.mk g2
          clear hs1 hs2 g1 g2 e6
          go_wp2
          refine ⟨⟨m + 64, n, q0, q1, 2 * r + t, by omega, h0, h1, G1, G2, ?_, ?_, rfl⟩, ?_⟩
          · exact val_i (by omega)
          · exact val_i (by omega)
          · simp only [intOf]; omega
        · obtain ⟨g1, g2⟩ := hs2 (by omega)
          have G1 := Sec.mk g1
          have G2 := Sec.mk g2
          have hu : IntKind.u64.wrap ((2 : Int) ^ m) = 2 ^ m := wrap_pow m (by omega)
          clear hs1 hs2 g1 g2
          go_wp2
          go_region
          go_wp2
          rw [show ((q1 : Int) + 2 ^ m) = ((q1 + 2 ^ m : Nat) : Int) by simp]
          refine ⟨⟨m + 64, n + 1, q0, q1 + 2 ^ m, 2 * r + t - D, by omega, h0, H6, G1, G2, val_i (by omega), val_i (by omega), ?_⟩, ?_⟩
          · exact congrArg (World.drewN · (n + 1)) (World.setCell_alloc_at _ _ _ _ _ (by simp))
          · simp only [intOf]; omega
      · have hm : (j : Int) < 64 := by omega
        have e2 : (j : Int) / 64 = 0 := by omega
        have e3 : (j : Int) % 64 = j := by omega
        obtain ⟨hlt, e4, e6, h6, hs1, hs2⟩ := over_lo A D a b j q0 q1 r Hd.out (by omega) (by have := Ha.out; omega) (by have := Hb.out; omega) HA.out (by have := h0.out; omega) (by have := h1.out; omega) HQ.out HL.out
        have ht : a / 2 ^ j % 2 ≤ 1 := by omega
        generalize a / 2 ^ j % 2 = t at *
        have e5 := or_two r t ht (by have := Hd'.out; omega)
        have f1 : (a : Int) ≤ 18446744073709551615 := by have := Ha.out; omega
        have f2 : (r : Int) * 2 ≤ 18446744073709551614 := by have := Hd'.out; omega
        have f3 : (t : Int) ≤ 1 := by omega
        have H6 : Sec (((q0 + 2 ^ j : Nat) : Int) ≤ 18446744073709551615) := by generalize q0 + 2 ^ j = x at *; exact ⟨by omega⟩
        clear h6 ht
        clear hlt
        by_cases hc : (r : Int) * 2 + t < D
        · obtain ⟨g1, g2⟩ := hs1 (by omega)
          have G1 := Sec.mk g1
          have G2 := Sec.mk g2
          clear hs1 hs2 g1 g2 e6
          go_wp2
          refine ⟨⟨j, n, q0, q1, 2 * r + t, by omega, h0, h1, G1, G2, ?_, ?_, rfl⟩, ?_⟩
          · exact val_i (by omega)
          · exact val_i (by omega)
          · simp only [intOf]; omega
        · obtain ⟨g1, g2⟩ := hs2 (by omega)
          have G1 := Sec.mk g1
          have G2 := Sec.mk g2
          have hu : IntKind.u64.wrap ((2 : Int) ^ j) = 2 ^ j := wrap_pow j (by omega)
          clear hs1 hs2 g1 g2
          go_wp2
          go_region
          go_wp2
          rw [show ((q0 : Int) + 2 ^ j) = ((q0 + 2 ^ j : Nat) : Int) by simp]
          refine ⟨⟨j, n + 1, q0 + 2 ^ j, q1, 2 * r + t - D, by omega, H6, h1, G1, G2, val_i (by omega), val_i (by omega), ?_⟩, ?_⟩
          · exact congrArg (World.drewN · (n + 1)) (World.setCell_alloc_at _ _ _ _ _ (by simp))
          · simp only [intOf]; omega

/-- The same of integers. -/
theorem over_any (a b d : Int) (w : World) (ha : 0 ≤ a ∧ a ≤ 18446744073709551615) (hb : 0 ≤ b ∧ b ≤ 18446744073709551615) (hd : 1 ≤ d ∧ d ≤ 9223372036854775808) :
    Calls Tryd.prog 82 #[.agg #[.int .u64 a, .int .u64 b], .int .u64 d] w fun e w' =>
      e = .returned (.tuple #[.agg #[.int .u64 ((a + b * 18446744073709551616) / d % 18446744073709551616), .int .u64 ((a + b * 18446744073709551616) / d / 18446744073709551616)], .int .u64 ((a + b * 18446744073709551616) % d)]) ∧ Below w.heap.size w w' := by
  obtain ⟨a, rfl⟩ := Int.eq_ofNat_of_zero_le ha.1
  obtain ⟨b, rfl⟩ := Int.eq_ofNat_of_zero_le hb.1
  obtain ⟨D, rfl⟩ := Int.eq_ofNat_of_zero_le (show 0 ≤ d by omega)
  refine (over_nat a b (a + b * 18446744073709551616) D w ⟨ha.2⟩ ⟨hb.2⟩ ⟨rfl⟩ ⟨by omega⟩ ⟨hd.2⟩).mono ?_
  rintro e w' ⟨q0, q1, r, rfl, ⟨h1, h2, h3, h4⟩, hB⟩
  refine ⟨?_, hB⟩
  have c1 : ((a : Int) + b * 18446744073709551616) / D = ((q0 + q1 * 18446744073709551616 : Nat) : Int) := by rw [← h1]; simp
  have c2 : ((a : Int) + b * 18446744073709551616) % D = r := by rw [← h4]; simp
  rw [c1, c2]
  have d1 : ((q0 + q1 * 18446744073709551616 : Nat) : Int) % 18446744073709551616 = q0 := by omega
  have d2 : ((q0 + q1 * 18446744073709551616 : Nat) : Int) / 18446744073709551616 = q1 := by omega
  rw [d1, d2]

/-- The same, the quotient and the rest under names. -/
theorem over_name (a b d : Int) (w : World) (ha : 0 ≤ a ∧ a ≤ 18446744073709551615) (hb : 0 ≤ b ∧ b ≤ 18446744073709551615) (hd : 1 ≤ d ∧ d ≤ 9223372036854775808) :
    Calls Tryd.prog 82 #[.agg #[.int .u64 a, .int .u64 b], .int .u64 d] w fun e w' =>
      ∃ Q R : Int, e = .returned (.tuple #[.agg #[.int .u64 (Q % 18446744073709551616), .int .u64 (Q / 18446744073709551616)], .int .u64 R]) ∧ Sec (Q = (a + b * 18446744073709551616) / d ∧ R = (a + b * 18446744073709551616) % d) ∧
        (0 ≤ Q ∧ Q ≤ 340282366920938463463374607431768211455) ∧ (0 ≤ R ∧ R < d) ∧ Below w.heap.size w w' := by
  refine (over_any a b d w ha hb hd).mono ?_
  rintro e w' ⟨he, hw⟩
  refine ⟨_, _, he, ⟨rfl, rfl⟩, ⟨Int.ediv_nonneg (by omega) (by omega), Int.le_trans (Int.ediv_le_self _ (by omega)) (by omega)⟩, ⟨Int.emod_nonneg _ (by omega), Int.emod_lt_of_pos _ (by omega)⟩, hw⟩
end Go.Proofs.YtojgjpegfkfnjaaDoor
