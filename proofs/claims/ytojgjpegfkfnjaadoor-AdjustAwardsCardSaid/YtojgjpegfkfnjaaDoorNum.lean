/- Arithmetic of words of 64 bits: plain numbers, no program in sight. -/
import Derived.WalkKit
import Derived.Lib.Mul64
namespace Go.Proofs.YtojgjpegfkfnjaaDoor
open Go.RowKit

/-- A fact put away: the walk does not see into it. -/
structure Sec (p : Prop) : Prop where
  out : p

theorem wrap_u64' (n : Int) : IntKind.u64.wrap n = n % 18446744073709551616 := IntKind.wrap_u64 n

theorem neg_u64 (n : Int) (h1 : -9223372036854775808 ≤ n) (h2 : n < 0) : IntKind.u64.wrap (-IntKind.u64.wrap n) = (n.natAbs : Int) := by
  rw [wrap_u64', wrap_u64']; omega
theorem pos_u64 (n : Int) (h1 : n ≤ 9223372036854775807) (h2 : 0 ≤ n) : IntKind.u64.wrap n = (n.natAbs : Int) := by
  rw [wrap_u64']; omega

theorem wraps_u64 (n : Int) (h₀ : 0 ≤ n) (h₁ : n < 2 ^ 64) : IntKind.u64.wrap n = n := by rw [wrap_u64']; omega
theorem and32 (x : Int) (h0 : 0 ≤ x) (h1 : x ≤ 18446744073709551615) : bits .and .u64 x 4294967295 = x % 4294967296 :=
  bits_mask .u64 64 (by decide) wraps_u64 32 (by decide) x h0 (by omega)
theorem and1 (x : Int) (h0 : 0 ≤ x) (h1 : x ≤ 18446744073709551615) : bits .and .u64 x 1 = x % 2 :=
  bits_mask .u64 64 (by decide) wraps_u64 1 (by decide) x h0 (by omega)
theorem bits_or_comm (k : IntKind) (x y : Int) : bits .or k x y = bits .or k y x := by
  simp only [bits, BitVec.or_comm]
theorem or32 (x y : Int) (h0 : 0 ≤ x) (h1 : x < 4294967296) (h2 : 0 ≤ y) (h3 : y ≤ 18446744073709551615) (h4 : y % 4294967296 = 0) : bits .or .u64 x y = x + y := by
  rw [bits_or_comm, bits_join .u64 64 (by decide) wraps_u64 32 y x h2 (by simpa using h4) (by omega) h0 (by simpa using h1) (by omega), Int.add_comm]

theorem split_mul (x1 x0 y1 y0 K : Int) : (x1 * K + x0) * (y1 * K + y0) = x1 * y1 * (K * K) + (x1 * y0 + x0 * y1) * K + x0 * y0 := by
  grind
theorem half_le {a b : Int} (ha : 0 ≤ a) (ha' : a ≤ 4294967295) (hb : 0 ≤ b) (hb' : b ≤ 4294967295) : 0 ≤ a * b ∧ a * b ≤ 18446744065119617025 :=
  ⟨Int.mul_nonneg ha hb, Int.mul_le_mul ha' hb' hb (by omega)⟩

/-- The four products of the halves of two words, and what becomes of them. -/
theorem times_eq (a b : Int) (h1 : 0 ≤ a) (h2 : a ≤ 18446744073709551615) (h3 : 0 ≤ b) (h4 : b ≤ 18446744073709551615) :
    let p := (a % 4294967296) * (b % 4294967296)
    let q := (a % 4294967296) * (b / 4294967296)
    let r := (a / 4294967296) * (b % 4294967296)
    let s := (a / 4294967296) * (b / 4294967296)
    (0 ≤ p ∧ p ≤ 18446744065119617025) ∧ (0 ≤ q ∧ q ≤ 18446744065119617025) ∧ (0 ≤ r ∧ r ≤ 18446744065119617025) ∧ (0 ≤ s ∧ s ≤ 18446744065119617025) ∧
      a * b = s * 18446744073709551616 + (q + r) * 4294967296 + p := by
  intro p q r s
  refine ⟨half_le (by omega) (by omega) (by omega) (by omega), half_le (by omega) (by omega) (by omega) (by omega), half_le (by omega) (by omega) (by omega) (by omega), half_le (by omega) (by omega) (by omega) (by omega), ?_⟩
  have ea : a = a / 4294967296 * 4294967296 + a % 4294967296 := by omega
  have eb : b = b / 4294967296 * 4294967296 + b % 4294967296 := by omega
  have := split_mul (a / 4294967296) (a % 4294967296) (b / 4294967296) (b % 4294967296) 4294967296
  rw [← ea, ← eb] at this
  rw [this]
  show _ = s * 18446744073709551616 + (q + r) * 4294967296 + p
  have e : (r + q) * 4294967296 = (q + r) * 4294967296 := by rw [Int.add_comm r q]
  show s * (4294967296 * 4294967296) + (r + q) * 4294967296 + p = _
  rw [e]; rfl

theorem times_lo (p mid ab s q r : Int) (hp : 0 ≤ p ∧ p ≤ 18446744065119617025) (hq : 0 ≤ q ∧ q ≤ 18446744065119617025) (hr : 0 ≤ r ∧ r ≤ 18446744065119617025) (hs : 0 ≤ s ∧ s ≤ 18446744065119617025)
    (hm : mid = p / 4294967296 + q % 4294967296 + r % 4294967296) (h : ab = s * 18446744073709551616 + (q + r) * 4294967296 + p) :
    p % 4294967296 + mid * 4294967296 % 18446744073709551616 = ab % 18446744073709551616 ∧ s + q / 4294967296 + r / 4294967296 + mid / 4294967296 = ab / 18446744073709551616 := by
  omega

theorem gcd_step (x y : Nat) : Nat.gcd y (x % y) = Nat.gcd x y := by
  rw [Nat.gcd_comm x y, Nat.gcd_rec y x, Nat.gcd_comm]

/-! ### the long division, bit by bit -/
theorem half_step (A j : Nat) : A / 2 ^ j = 2 * (A / 2 ^ (j + 1)) + A / 2 ^ j % 2 := by
  rw [Nat.pow_succ, ← Nat.div_div_eq_div_mul]; omega
theorem div_two_add (M D t : Nat) (hD : 0 < D) (ht : t ≤ 1) :
    (2 * (M % D) + t < D → (2 * M + t) / D = 2 * (M / D) ∧ (2 * M + t) % D = 2 * (M % D) + t) ∧
    (D ≤ 2 * (M % D) + t → (2 * M + t) / D = 2 * (M / D) + 1 ∧ (2 * M + t) % D = 2 * (M % D) + t - D) := by
  have h1 := Nat.div_add_mod M D
  have h2 := Nat.mod_lt M hD
  generalize M / D = q at *
  generalize M % D = r at *
  constructor
  · intro h
    have e : 2 * M + t = (2 * r + t) + D * (2 * q) := by rw [← h1, Nat.mul_add, ← Nat.mul_assoc 2, Nat.mul_comm 2 D, Nat.mul_assoc]; omega
    rw [e, Nat.add_mul_div_left _ _ hD, Nat.add_mul_mod_self_left, Nat.div_eq_of_lt h, Nat.mod_eq_of_lt h]
    omega
  · intro h
    have e : 2 * M + t = (2 * r + t - D) + D * (2 * q + 1) := by rw [← h1, Nat.mul_add, ← Nat.mul_assoc 2, Nat.mul_comm 2 D, Nat.mul_assoc, Nat.mul_add D]; omega
    have h3 : 2 * r + t - D < D := by omega
    rw [e, Nat.add_mul_div_left _ _ hD, Nat.add_mul_mod_self_left, Nat.div_eq_of_lt h3, Nat.mod_eq_of_lt h3]
    omega
/-- What has been found of the quotient behind the rounds down to k. -/
def quo (A D k : Nat) : Nat := A / 2 ^ k / D * 2 ^ k
def lft (A D k : Nat) : Nat := A / 2 ^ k % D
theorem quo_step (A D j : Nat) (hD : 0 < D) :
    (2 * lft A D (j + 1) + A / 2 ^ j % 2 < D → quo A D j = quo A D (j + 1) ∧ lft A D j = 2 * lft A D (j + 1) + A / 2 ^ j % 2) ∧
    (D ≤ 2 * lft A D (j + 1) + A / 2 ^ j % 2 → quo A D j = quo A D (j + 1) + 2 ^ j ∧ lft A D j = 2 * lft A D (j + 1) + A / 2 ^ j % 2 - D) := by
  have h := div_two_add (A / 2 ^ (j + 1)) D (A / 2 ^ j % 2) hD (by omega)
  rw [← half_step] at h
  unfold quo lft
  refine ⟨fun h1 => ?_, fun h1 => ?_⟩
  · obtain ⟨e1, e2⟩ := h.1 h1
    refine ⟨?_, e2⟩
    rw [e1, Nat.pow_succ, Nat.mul_comm 2, Nat.mul_assoc, Nat.mul_comm 2]
  · obtain ⟨e1, e2⟩ := h.2 h1
    refine ⟨?_, e2⟩
    rw [e1, Nat.add_mul, Nat.pow_succ, Nat.mul_comm 2, Nat.mul_assoc, Nat.mul_comm 2]; omega
theorem quo_lt (A D k : Nat) (hA : A < 2 ^ 128) : quo A D k < 2 ^ 128 :=
  Nat.lt_of_le_of_lt (Nat.le_trans (Nat.mul_le_mul_right _ (Nat.div_le_self _ _)) (Nat.div_mul_le_self A (2 ^ k))) hA
theorem quo_top (A D : Nat) (hA : A < 2 ^ 128) : quo A D 128 = 0 ∧ lft A D 128 = 0 := by
  unfold quo lft; rw [Nat.div_eq_of_lt hA]; simp
theorem quo_zero (A D : Nat) : quo A D 0 = A / D ∧ lft A D 0 = A % D := by simp [quo, lft]
theorem lft_lt (A D k : Nat) (hD : 0 < D) : lft A D k < D := Nat.mod_lt _ hD
theorem bit_hi (a b m : Nat) (ha : a < 2 ^ 64) : (a + b * 2 ^ 64) / 2 ^ (m + 64) = b / 2 ^ m := by
  rw [Nat.add_comm m 64, Nat.pow_add, ← Nat.div_div_eq_div_mul, Nat.add_mul_div_right _ _ (by decide), Nat.div_eq_of_lt ha, Nat.zero_add]
theorem bit_lo (a b m : Nat) (hm : m < 64) : (a + b * 2 ^ 64) / 2 ^ m % 2 = a / 2 ^ m % 2 := by
  obtain ⟨k, hk⟩ : ∃ k, 64 = m + 1 + k := ⟨63 - m, by omega⟩
  have e : b * 2 ^ 64 = 2 ^ m * (2 * (b * 2 ^ k)) := by rw [hk, Nat.pow_add, Nat.pow_succ]; grind
  rw [e, Nat.add_mul_div_left _ _ (Nat.two_pow_pos m)]; omega
theorem quo_hi (A D m : Nat) : quo A D (m + 64 + 1) / 2 ^ 64 % 2 ^ (m + 1) = 0 := by
  have e : quo A D (m + 64 + 1) = (A / 2 ^ (m + 64 + 1) / D * 2 ^ (m + 1)) * 2 ^ 64 := by
    unfold quo; rw [show m + 64 + 1 = (m + 1) + 64 by omega, Nat.pow_add, ← Nat.mul_assoc]
  rw [e, Nat.mul_div_cancel _ (by decide), Nat.mul_mod_left]
theorem quo_lo (A D m : Nat) (hm : m < 64) : quo A D (m + 1) % 2 ^ 64 % 2 ^ (m + 1) = 0 := by
  rw [Nat.mod_mod_of_dvd _ (Nat.pow_dvd_pow 2 (by omega))]
  unfold quo; rw [Nat.mul_mod_left]
theorem pow_split (m : Nat) : 2 ^ (m + 64) = 2 ^ m * 2 ^ 64 := Nat.pow_add 2 m 64
/-- One more bit of a word. -/
theorem or_bit (x m : Nat) (hm : m < 64) (hx : x < 2 ^ 64) (hd : x % 2 ^ (m + 1) = 0) : bits .or .u64 (x : Int) ((2 : Int) ^ m) = ((x + 2 ^ m : Nat) : Int) ∧ x + 2 ^ m < 2 ^ 64 := by
  have hlt : 2 ^ m < 2 ^ (m + 1) := Nat.pow_lt_pow_right (by decide) (by omega)
  have hle : 2 ^ (m + 1) ≤ 2 ^ 64 := Nat.pow_le_pow_right (by decide) (by omega)
  have e2 : ((2 : Int) ^ m) = ((2 ^ m : Nat) : Int) := by simp
  have hd' : ((x : Int) % 2 ^ (m + 1)) = 0 := by exact_mod_cast hd
  constructor
  · rw [e2, bits_join .u64 64 (by decide) wraps_u64 (m + 1) (x : Int) _ (by omega) hd' (by exact_mod_cast hx) (by omega) (by exact_mod_cast hlt) (by exact_mod_cast Nat.lt_of_lt_of_le hlt hle)]
    simp
  · obtain ⟨c, hc⟩ := Nat.pow_dvd_pow 2 (show m + 1 ≤ 64 by omega)
    have hxq := Nat.div_add_mod x (2 ^ (m + 1))
    rw [hd, Nat.add_zero] at hxq
    generalize x / 2 ^ (m + 1) = y at *
    have : y < c := by
      apply Nat.lt_of_mul_lt_mul_left (a := 2 ^ (m + 1))
      rw [hxq, ← hc]; exact hx
    have h2 : 2 ^ (m + 1) * (y + 1) ≤ 2 ^ (m + 1) * c := Nat.mul_le_mul_left _ this
    rw [Nat.mul_add, Nat.mul_one, hxq, ← hc] at h2
    omega

/-- One round of the division, of two words: what the words become. -/
theorem over_hi (A D a b m q0 q1 r : Nat) (hD : 0 < D) (hm : m < 64) (ha : a < 18446744073709551616) (hb : b < 18446744073709551616) (hA : A = a + b * 18446744073709551616) (h0 : q0 < 18446744073709551616) (h1 : q1 < 18446744073709551616)
    (hq : quo A D (m + 64 + 1) = q0 + q1 * 18446744073709551616) (hr : lft A D (m + 64 + 1) = r) :
    r < D ∧ bits .and .u64 ((b : Int) / 2 ^ m) 1 = ((b / 2 ^ m % 2 : Nat) : Int) ∧ bits .or .u64 (q1 : Int) ((2 : Int) ^ m) = ((q1 + 2 ^ m : Nat) : Int) ∧ q1 + 2 ^ m < 18446744073709551616 ∧
      (2 * r + b / 2 ^ m % 2 < D → quo A D (m + 64) = q0 + q1 * 18446744073709551616 ∧ lft A D (m + 64) = 2 * r + b / 2 ^ m % 2) ∧
      (D ≤ 2 * r + b / 2 ^ m % 2 → quo A D (m + 64) = q0 + (q1 + 2 ^ m) * 18446744073709551616 ∧ lft A D (m + 64) = 2 * r + b / 2 ^ m % 2 - D) := by
  subst hA
  have hst := quo_step (a + b * 18446744073709551616) D (m + 64) hD
  have hbit : (a + b * 18446744073709551616) / 2 ^ (m + 64) = b / 2 ^ m := bit_hi a b m ha
  rw [hbit, hq, hr] at hst
  have hqh := quo_hi (a + b * 18446744073709551616) D m
  rw [hq, show (q0 + q1 * 18446744073709551616) / 2 ^ 64 = q1 by omega] at hqh
  have hob := or_bit q1 m hm (by omega) hqh
  have hlt := lft_lt (a + b * 18446744073709551616) D (m + 64 + 1) hD
  rw [hr] at hlt
  refine ⟨hlt, ?_, hob.1, Nat.lt_of_lt_of_eq hob.2 (by decide), hst.1, fun h => ⟨?_, (hst.2 h).2⟩⟩
  · have e : ((b : Int) / 2 ^ m) = ((b / 2 ^ m : Nat) : Int) := by simp
    have hle := Nat.div_le_self b (2 ^ m)
    rw [e]
    clear e hst
    generalize b / 2 ^ m = x at *
    rw [and1 _ (by omega) (by omega)]; simp
  · rw [(hst.2 h).1, pow_split, Nat.add_mul, Nat.add_assoc]
theorem over_lo (A D a b m q0 q1 r : Nat) (hD : 0 < D) (hm : m < 64) (ha : a < 18446744073709551616) (hb : b < 18446744073709551616) (hA : A = a + b * 18446744073709551616) (h0 : q0 < 18446744073709551616) (h1 : q1 < 18446744073709551616)
    (hq : quo A D (m + 1) = q0 + q1 * 18446744073709551616) (hr : lft A D (m + 1) = r) :
    r < D ∧ bits .and .u64 ((a : Int) / 2 ^ m) 1 = ((a / 2 ^ m % 2 : Nat) : Int) ∧ bits .or .u64 (q0 : Int) ((2 : Int) ^ m) = ((q0 + 2 ^ m : Nat) : Int) ∧ q0 + 2 ^ m < 18446744073709551616 ∧
      (2 * r + a / 2 ^ m % 2 < D → quo A D m = q0 + q1 * 18446744073709551616 ∧ lft A D m = 2 * r + a / 2 ^ m % 2) ∧
      (D ≤ 2 * r + a / 2 ^ m % 2 → quo A D m = (q0 + 2 ^ m) + q1 * 18446744073709551616 ∧ lft A D m = 2 * r + a / 2 ^ m % 2 - D) := by
  subst hA
  have hst := quo_step (a + b * 18446744073709551616) D m hD
  have hbit : (a + b * 18446744073709551616) / 2 ^ m % 2 = a / 2 ^ m % 2 := bit_lo a b m hm
  rw [hbit, hq, hr] at hst
  have hql := quo_lo (a + b * 18446744073709551616) D m hm
  rw [hq, show (q0 + q1 * 18446744073709551616) % 2 ^ 64 = q0 by omega] at hql
  have hob := or_bit q0 m hm (by omega) hql
  have hlt := lft_lt (a + b * 18446744073709551616) D (m + 1) hD
  rw [hr] at hlt
  refine ⟨hlt, ?_, hob.1, Nat.lt_of_lt_of_eq hob.2 (by decide), hst.1, fun h => ⟨?_, (hst.2 h).2⟩⟩
  · have e : ((a : Int) / 2 ^ m) = ((a / 2 ^ m : Nat) : Int) := by simp
    have hle := Nat.div_le_self a (2 ^ m)
    rw [e]
    clear e hst
    generalize a / 2 ^ m = x at *
    rw [and1 _ (by omega) (by omega)]; simp
  · rw [(hst.2 h).1, Nat.add_right_comm]
theorem or_two (r t : Nat) (ht : t ≤ 1) (hr : r < 9223372036854775808) : bits .or .u64 ((r : Int) * 2) (t : Int) = (r : Int) * 2 + t := by
  rw [bits_join .u64 64 (by decide) wraps_u64 1 _ _ (by omega) (by omega) (by omega) (by omega) (by omega) (by omega)]

theorem wrap_pow (m : Nat) (hm : m < 64) : IntKind.u64.wrap ((2 : Int) ^ m) = 2 ^ m := by
  have h : (2 : Nat) ^ m < 2 ^ 64 := Nat.pow_lt_pow_right (by decide) hm
  have e : ((2 : Int) ^ m) = ((2 ^ m : Nat) : Int) := by simp
  rw [e]
  generalize (2 : Nat) ^ m = x at *
  rw [wrap_u64']; omega

theorem mul_bound (a b : Int) (ha : 0 ≤ a) (ha' : a ≤ 9223372036854775808) (hb : 0 ≤ b) (hb' : b ≤ 9223372036854775807) : 0 ≤ a * b ∧ a * b ≤ 85070591730234615847396907784232501249 * 2 :=
  ⟨Int.mul_nonneg ha hb, Int.le_trans (Int.mul_le_mul ha' hb' hb (by omega)) (by decide)⟩
end Go.Proofs.YtojgjpegfkfnjaaDoor
