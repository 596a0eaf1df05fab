/- Fractions as rational numbers: plain, no program in sight. -/
import Derived.Test.YtojgjpegfkfnjaaDoorNum
namespace Go.Proofs.YtojgjpegfkfnjaaDoor
open Go.RowKit
set_option linter.unusedVariables false
set_option linter.unusedSimpArgs false

/-- A rational number that fits two words. -/
def fits (q : Rat) : Prop := -9223372036854775808 ≤ q.num ∧ q.num ≤ 9223372036854775807 ∧ (q.den : Int) ≤ 9223372036854775807

theorem rat_eq (N : Int) (D : Nat) (hD : 0 < D) (hc : Nat.gcd N.natAbs D = 1) (q : Rat) (h : q = (N : Rat) / ((D : Int) : Rat)) : q.num = N ∧ q.den = D := by
  have e : q = ⟨N, D, by omega, hc⟩ := by
    rw [h, Rat.mk_eq_divInt, Rat.divInt_eq_div]
  rw [e]; exact ⟨rfl, rfl⟩
theorem rat_of (q : Rat) : q = (q.num : Rat) / ((q.den : Int) : Rat) := by
  have := Rat.num_divInt_den q
  rw [Rat.divInt_eq_div] at this
  exact this.symm
theorem rat_gcd (q : Rat) : Nat.gcd q.num.natAbs q.den = 1 := q.reduced

theorem intCast_ne (D : Int) (hD : D ≠ 0) : (D : Rat) ≠ 0 := by
  intro h
  have : D = 0 := by exact_mod_cast h
  omega
/-- Two quotients of integers are one number. -/
theorem div_eq_div (a b c d : Int) (hb : b ≠ 0) (hd : d ≠ 0) (h : a * d = c * b) : (a : Rat) / b = (c : Rat) / d := by
  have hb' := intCast_ne b hb
  have hd' := intCast_ne d hd
  have h' : (a : Rat) * d = c * b := by exact_mod_cast h
  grind

/-! ### sums in lowest terms -/
theorem cop_of (x g b : Nat) (h1 : Nat.gcd x (g * b) = 1) : Nat.gcd x b = 1 := Nat.Coprime.coprime_mul_left_right h1

/-- The numbers that add goes through: the sum in lowest terms (x, y: the two numerators over the common denominator g b d). -/
theorem sum_lowest (a1 a2 b d g S : Nat) (hb : 0 < b) (hd : 0 < d) (hg : 0 < g) (h1 : Nat.gcd a1 (g * b) = 1) (h2 : Nat.gcd a2 (g * d) = 1) (hbd : Nat.gcd b d = 1)
    (hS : S = a1 * d + a2 * b ∨ a1 * d = S + a2 * b ∨ a2 * b = S + a1 * d) (hS0 : 0 < S) :
    Nat.gcd (S / Nat.gcd g S) (b * (d * (g / Nat.gcd g S))) = 1 := by
  have t0 : 0 < Nat.gcd g S := Nat.gcd_pos_of_pos_left _ hg
  have c1 : Nat.gcd a1 b = 1 := cop_of _ _ _ h1
  have c2 : Nat.gcd a2 d = 1 := cop_of _ _ _ h2
  have sb : Nat.gcd S b = 1 := by
    have k : Nat.gcd (a1 * d) b = 1 := Nat.Coprime.mul_left c1 (by rw [Nat.Coprime, Nat.gcd_comm]; exact hbd)
    rcases hS with h | h | h
    · rw [h, Nat.gcd_add_mul_right_left]; exact k
    · rw [h, Nat.gcd_add_mul_right_left] at k; exact k
    · have e : Nat.gcd (S + a1 * d) b = b := by rw [← h]; exact Nat.gcd_eq_right (Nat.dvd_mul_left _ _)
      apply Nat.eq_one_of_dvd_one
      have hv : Nat.gcd S b ∣ a1 * d := by
        have w1 : Nat.gcd S b ∣ S + a1 * d := by rw [← h]; exact Nat.dvd_trans (Nat.gcd_dvd_right _ _) (Nat.dvd_mul_left _ _)
        exact (Nat.dvd_add_right (Nat.gcd_dvd_left _ _)).1 w1
      rw [← k]
      exact Nat.dvd_gcd hv (Nat.gcd_dvd_right _ _)
  have sd : Nat.gcd S d = 1 := by
    have k : Nat.gcd (a2 * b) d = 1 := Nat.Coprime.mul_left c2 hbd
    rcases hS with h | h | h
    · rw [h, Nat.add_comm, Nat.gcd_add_mul_right_left]; exact k
    · apply Nat.eq_one_of_dvd_one
      have hv : Nat.gcd S d ∣ a2 * b := by
        have w1 : Nat.gcd S d ∣ S + a2 * b := by rw [← h]; exact Nat.dvd_trans (Nat.gcd_dvd_right _ _) (Nat.dvd_mul_left _ _)
        exact (Nat.dvd_add_right (Nat.gcd_dvd_left _ _)).1 w1
      rw [← k]
      exact Nat.dvd_gcd hv (Nat.gcd_dvd_right _ _)
    · rw [h, Nat.gcd_add_mul_right_left] at k; exact k
  have q1 : Nat.gcd (S / Nat.gcd g S) b = 1 := Nat.Coprime.coprime_div_left sb (Nat.gcd_dvd_right _ _)
  have q2 : Nat.gcd (S / Nat.gcd g S) d = 1 := Nat.Coprime.coprime_div_left sd (Nat.gcd_dvd_right _ _)
  have q3 : Nat.gcd (S / Nat.gcd g S) (g / Nat.gcd g S) = 1 := by
    rw [Nat.gcd_comm]; exact Nat.coprime_div_gcd_div_gcd t0
  exact Nat.Coprime.mul_right q1 (Nat.Coprime.mul_right q2 q3)

/-! ### what comes of a rational number: itself, if it fits -/
instance (q : Rat) : Decidable (fits q) := by unfold fits; infer_instance
def qN (q : Rat) : Int := if fits q then q.num else 0
def qD (q : Rat) : Int := if fits q then (q.den : Int) else 0
def qE (q : Rat) : Int := if fits q then 0 else 3
theorem qN_fits {q : Rat} (h : fits q) : qN q = q.num := if_pos h
theorem qD_fits {q : Rat} (h : fits q) : qD q = q.den := if_pos h
theorem qE_fits {q : Rat} (h : fits q) : qE q = 0 := if_pos h
theorem fits_of (N : Int) (D : Int) (hD : 0 < D) (hc : Nat.gcd N.natAbs D.natAbs = 1) (q : Rat) (h : q = (N : Rat) / (D : Rat)) : q.num = N ∧ (q.den : Int) = D := by
  obtain ⟨d, rfl⟩ := Int.eq_ofNat_of_zero_le (show 0 ≤ D by omega)
  obtain ⟨h1, h2⟩ := rat_eq N d (by omega) (by simpa using hc) q h
  exact ⟨h1, by rw [h2]⟩
end Go.Proofs.YtojgjpegfkfnjaaDoor
