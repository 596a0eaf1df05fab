/- The contracts of fit, Right and Make. -/
import Derived.Test.YtojgjpegfkfnjaaDoorFracB
namespace Go.Proofs.YtojgjpegfkfnjaaDoor
open Go.RowKit
set_option linter.unusedVariables false
set_option linter.unusedSimpArgs false

set_option maxHeartbeats 1000000 in
theorem fit_no (neg : Bool) (a b c d : Int) (w : World) (ha : 0 ≤ a ∧ a ≤ 18446744073709551615) (hb : 0 ≤ b ∧ b ≤ 18446744073709551615) (hc : 0 ≤ c ∧ c ≤ 18446744073709551615) (hd : 0 ≤ d ∧ d ≤ 18446744073709551615)
    (h : ¬ (b = 0 ∧ d = 0 ∧ c ≤ 9223372036854775807 ∧ (a ≤ 9223372036854775807 ∨ (a = 9223372036854775808 ∧ neg = true)))) :
    Calls Tryd.prog 83 #[.bool neg, .agg #[.int .u64 a, .int .u64 b], .agg #[.int .u64 c, .int .u64 d]] w fun e w' =>
      e = .returned (.tuple #[.agg #[.int .i64 0, .int .i64 0], .int .i64 3]) ∧ Below w.heap.size w w' := by
  have H := Sec.mk h
  clear h
  by_cases hb0 : 0 < b
  · go_enter Tryd.func83, Tryd.ntmps83
    go_wp2
    refine bodyPost_ret (v := .tuple #[.agg #[.int .i64 0, .int .i64 0], .int .i64 3]) (by simp [results, Tryd.results83, go_sem]) rfl ⟨rfl, ?_⟩
    exact ((((Below.refl _ _).alloc (Nat.le_refl _) _).alloc (by simp) _).alloc (by simp; omega) _)
  by_cases hd0 : 0 < d
  · go_enter Tryd.func83, Tryd.ntmps83
    go_wp2
    refine bodyPost_ret (v := .tuple #[.agg #[.int .i64 0, .int .i64 0], .int .i64 3]) (by simp [results, Tryd.results83, go_sem]) rfl ⟨rfl, ?_⟩
    exact ((((Below.refl _ _).alloc (Nat.le_refl _) _).alloc (by simp) _).alloc (by simp; omega) _)
  by_cases hc0 : 9223372036854775807 < c
  · go_enter Tryd.func83, Tryd.ntmps83
    go_wp2
    refine bodyPost_ret (v := .tuple #[.agg #[.int .i64 0, .int .i64 0], .int .i64 3]) (by simp [results, Tryd.results83, go_sem]) rfl ⟨rfl, ?_⟩
    exact ((((Below.refl _ _).alloc (Nat.le_refl _) _).alloc (by simp) _).alloc (by simp; omega) _)
  by_cases ha0 : 9223372036854775808 < a
  · go_enter Tryd.func83, Tryd.ntmps83
    go_wp2
    refine bodyPost_ret (v := .tuple #[.agg #[.int .i64 0, .int .i64 0], .int .i64 3]) (by simp [results, Tryd.results83, go_sem]) rfl ⟨rfl, ?_⟩
    exact ((((Below.refl _ _).alloc (Nat.le_refl _) _).alloc (by simp) _).alloc (by simp; omega) _)
  obtain rfl : a = 9223372036854775808 := by have := H.out; omega
  obtain rfl : neg = false := by
    cases neg
    · rfl
    · exact absurd ⟨by omega, by omega, by omega, .inr ⟨rfl, rfl⟩⟩ H.out
  go_enter Tryd.func83, Tryd.ntmps83
  go_wp2
  refine bodyPost_ret (v := .tuple #[.agg #[.int .i64 0, .int .i64 0], .int .i64 3]) (by simp [results, Tryd.results83, go_sem]) rfl ⟨rfl, ?_⟩
  exact ((((Below.refl _ _).alloc (Nat.le_refl _) _).alloc (by simp) _).alloc (by simp; omega) _)

theorem i64_neg (a : Int) (h : 0 ≤ a) (h' : a ≤ 9223372036854775808) : IntKind.i64.wrap (IntKind.u64.wrap (-a)) = -a := by
  rw [wrap_u64', IntKind.wrap_i64]; omega
set_option maxHeartbeats 1000000 in
theorem fit_pos (a c : Int) (w : World) (ha : 0 ≤ a ∧ a ≤ 9223372036854775807) (hc : 0 ≤ c ∧ c ≤ 9223372036854775807) :
    Calls Tryd.prog 83 #[.bool false, .agg #[.int .u64 a, .int .u64 0], .agg #[.int .u64 c, .int .u64 0]] w fun e w' =>
      e = .returned (.tuple #[.agg #[.int .i64 a, .int .i64 c], .int .i64 0]) ∧ Below w.heap.size w w' := by
  have hne : (a == 9223372036854775808) = false := by simp; omega
  go_enter Tryd.func83, Tryd.ntmps83
  go_wp2
  refine bodyPost_ret (v := .tuple #[.agg #[.int .i64 a, .int .i64 c], .int .i64 0]) (by simp [results, Tryd.results83, go_sem]) rfl ⟨rfl, ?_⟩
  exact ((((Below.refl _ _).alloc (Nat.le_refl _) _).alloc (by simp) _).alloc (by simp; omega) _)
set_option maxHeartbeats 1000000 in
theorem fit_neg (a c : Int) (w : World) (ha : 0 ≤ a ∧ a ≤ 9223372036854775808) (hc : 0 ≤ c ∧ c ≤ 9223372036854775807) :
    Calls Tryd.prog 83 #[.bool true, .agg #[.int .u64 a, .int .u64 0], .agg #[.int .u64 c, .int .u64 0]] w fun e w' =>
      e = .returned (.tuple #[.agg #[.int .i64 (-a), .int .i64 c], .int .i64 0]) ∧ Below w.heap.size w w' := by
  have hn := i64_neg a ha.1 ha.2
  by_cases hne : (a == 9223372036854775808) = true
  · go_enter Tryd.func83, Tryd.ntmps83
    go_wp2
    refine bodyPost_ret (v := .tuple #[.agg #[.int .i64 (-a), .int .i64 c], .int .i64 0]) (by simp [results, Tryd.results83, go_sem]) rfl ⟨rfl, ?_⟩
    exact ((((Below.refl _ _).alloc (Nat.le_refl _) _).alloc (by simp) _).alloc (by simp; omega) _)
  · have hne : (a == 9223372036854775808) = false := by simpa using hne
    go_enter Tryd.func83, Tryd.ntmps83
    go_wp2
    refine bodyPost_ret (v := .tuple #[.agg #[.int .i64 (-a), .int .i64 c], .int .i64 0]) (by simp [results, Tryd.results83, go_sem]) rfl ⟨rfl, ?_⟩
    exact ((((Below.refl _ _).alloc (Nat.le_refl _) _).alloc (by simp) _).alloc (by simp; omega) _)

/-- Does the fraction fit? And what comes of it. -/
def fitOk (neg : Bool) (N D : Int) : Bool := decide (D ≤ 9223372036854775807 ∧ (N ≤ 9223372036854775807 ∨ (N = 9223372036854775808 ∧ neg = true)))
def fitN (neg : Bool) (N D : Int) : Int := if fitOk neg N D then (if neg then -N else N) else 0
def fitD (neg : Bool) (N D : Int) : Int := if fitOk neg N D then D else 0
def fitE (neg : Bool) (N D : Int) : Int := if fitOk neg N D then 0 else 3
theorem fit_any (neg : Bool) (a b c d : Int) (w : World) (ha : 0 ≤ a ∧ a ≤ 18446744073709551615) (hb : 0 ≤ b ∧ b ≤ 18446744073709551615) (hc : 0 ≤ c ∧ c ≤ 18446744073709551615) (hd : 0 ≤ d ∧ d ≤ 18446744073709551615) :
    Calls Tryd.prog 83 #[.bool neg, .agg #[.int .u64 a, .int .u64 b], .agg #[.int .u64 c, .int .u64 d]] w fun e w' =>
      e = .returned (.tuple #[.agg #[.int .i64 (fitN neg (a + b * 18446744073709551616) (c + d * 18446744073709551616)), .int .i64 (fitD neg (a + b * 18446744073709551616) (c + d * 18446744073709551616))], .int .i64 (fitE neg (a + b * 18446744073709551616) (c + d * 18446744073709551616))]) ∧ Below w.heap.size w w' := by
  by_cases h : b = 0 ∧ d = 0 ∧ c ≤ 9223372036854775807 ∧ (a ≤ 9223372036854775807 ∨ (a = 9223372036854775808 ∧ neg = true))
  · obtain ⟨rfl, rfl, h1, h2⟩ := h
    have hok : fitOk neg (a + 0 * 18446744073709551616) (c + 0 * 18446744073709551616) = true := by simp [fitOk, h1, h2]
    cases neg
    · refine (fit_pos a c w ⟨ha.1, by simpa using h2⟩ ⟨hc.1, h1⟩).mono fun e w' ⟨he, hw⟩ => ⟨?_, hw⟩
      rw [he]; simp only [fitN, fitD, fitE, hok]; simp
    · refine (fit_neg a c w ⟨ha.1, by omega⟩ ⟨hc.1, h1⟩).mono fun e w' ⟨he, hw⟩ => ⟨?_, hw⟩
      rw [he]; simp only [fitN, fitD, fitE, hok]; simp
  · have hok : fitOk neg (a + b * 18446744073709551616) (c + d * 18446744073709551616) = false := by
      simp only [fitOk, decide_eq_false_iff_not]
      intro hh
      exact h ⟨by omega, by omega, by omega, by rcases hh.2 with h3 | ⟨h3, h4⟩; exact .inl (by omega); exact .inr ⟨by omega, h4⟩⟩
    refine (fit_no neg a b c d w ha hb hc hd h).mono fun e w' ⟨he, hw⟩ => ⟨?_, hw⟩
    rw [he]; simp only [fitN, fitD, fitE, hok]; simp
theorem gcd_int (a b : Int) (w : World) (ha : 0 ≤ a ∧ a ≤ 18446744073709551615) (hb : 0 ≤ b ∧ b ≤ 18446744073709551615) :
    Calls Tryd.prog 79 #[.int .u64 a, .int .u64 b] w fun e w' => e = .returned (.int .u64 (Nat.gcd a.natAbs b.natAbs : Nat)) ∧ ∃ n, w' = w.drewN n := by
  obtain ⟨a, rfl⟩ := Int.eq_ofNat_of_zero_le ha.1
  obtain ⟨b, rfl⟩ := Int.eq_ofNat_of_zero_le hb.1
  exact gcd_any a b w (by omega) (by omega)
/-- The greatest common divisor under a name. -/
theorem gcd_name (a b : Int) (w : World) (ha : 0 ≤ a ∧ a ≤ 18446744073709551615) (hb : 0 ≤ b ∧ b ≤ 18446744073709551615) :
    Calls Tryd.prog 79 #[.int .u64 a, .int .u64 b] w fun e w' => ∃ (g n : Nat), e = .returned (.int .u64 g) ∧ Sec (g = Nat.gcd a.natAbs b.natAbs) ∧ w' = w.drewN n :=
  (gcd_int a b w ha hb).mono fun _ _ ⟨he, n, hn⟩ => ⟨_, n, he, ⟨rfl⟩, hn⟩
theorem quiet_left {P : Program} {f : FuncId} {args : Array Value} {w : World} {n : Nat} {v : Value}
    (h : Calls P f args (w.drewN n) fun e w' => e = .returned v ∧ w.drewN n = w') : Calls P f args (w.drewN n) fun e w'' => e = .returned v ∧ ∃ m, w'' = w.drewN m :=
  h.mono fun _ _ ⟨he, hm⟩ => ⟨he, n, hm.symm⟩
theorem quiet_add_left {P : Program} {f : FuncId} {args : Array Value} {w : World} {a n : Nat} {v : Value}
    (h : Calls P f args (w.drewN (a + n)) fun e w' => e = .returned v ∧ w.drewN (a + n) = w') :
    Calls P f args (w.drewN (a + n)) fun e w'' => e = .returned v ∧ ∃ m, w'' = w.drewN (a + m) :=
  h.mono fun _ _ ⟨he, hm⟩ => ⟨he, n, hm.symm⟩
theorem quiet_add {P : Program} {f : FuncId} {args : Array Value} {w : World} {a n : Nat} {v : Value}
    (h : Calls P f args (w.drewN (a + n)) fun e w' => e = .returned v ∧ ∃ m, w' = (w.drewN (a + n)).drewN m) :
    Calls P f args (w.drewN (a + n)) fun e w'' => e = .returned v ∧ ∃ m, w'' = w.drewN (a + m) :=
  h.mono fun _ _ ⟨he, m, hm⟩ => ⟨he, n + m, by rw [hm, World.drewN_drewN, Nat.add_assoc]⟩
end Go.Proofs.YtojgjpegfkfnjaaDoor
