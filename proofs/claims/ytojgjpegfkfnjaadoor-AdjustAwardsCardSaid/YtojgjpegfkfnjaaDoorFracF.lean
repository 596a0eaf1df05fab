/- The sum as a rational number. -/
import Derived.Test.YtojgjpegfkfnjaaDoorFracE
import Derived.Test.YtojgjpegfkfnjaaDoorRat
namespace Go.Proofs.YtojgjpegfkfnjaaDoor
open Go.RowKit
set_option linter.unusedVariables false
set_option linter.unusedSimpArgs false

/-- What add computes is the sum, in lowest terms. -/
theorem add_rat (n1 d1 n2 d2 : Int) (m neg : Bool) (N D : Int) (hd1 : 0 < d1) (hd2 : 0 < d2) (h1 : Nat.gcd n1.natAbs d1.natAbs = 1) (h2 : Nat.gcd n2.natAbs d2.natAbs = 1) (h : AddWalk n1 d1 n2 d2 m neg N D) :
    0 ≤ N ∧ 0 < D ∧ Nat.gcd N.natAbs D.natAbs = 1 ∧ (N = 0 → neg = false) ∧
      (((if neg then -N else N : Int) : Rat) / (D : Rat)) = (n1 : Rat) / (d1 : Rat) + ((if m then -n2 else n2 : Int) : Rat) / (d2 : Rat) := by
  obtain ⟨g, p, q, S, hg, hp, hq, hS, hc⟩ := h
  have hg0 : 0 < g := by rw [hg]; exact Nat.gcd_pos_of_pos_left _ (by omega)
  have hp0 : 0 < p := by
    rcases Nat.eq_zero_or_pos p with h | h
    · subst h; simp at hp; omega
    · exact h
  have hq0 : 0 < q := by
    rcases Nat.eq_zero_or_pos q with h | h
    · subst h; simp at hq; omega
    · exact h
  have e1 : d1.natAbs = g * p := by rw [hp, Int.natAbs_mul]; simp
  have e2 : d2.natAbs = g * q := by rw [hq, Int.natAbs_mul]; simp
  have hpq : Nat.gcd p q = 1 := by
    have h3 : g * Nat.gcd p q = g := by rw [← Nat.gcd_mul_left, ← e1, ← e2, ← hg]
    exact Nat.eq_of_mul_eq_mul_left hg0 (by rw [h3, Nat.mul_one])
  rw [e1] at h1
  rw [e2] at h2
  -- the signed sum
  have hV : n1 * q + (if m then -n2 else n2) * p = (if addN (decide (n1 < 0)) (!(decide (n2 < 0) == m)) (n1.natAbs * q) (n2.natAbs * p) then -S else S) := by
    have a1 : n1 * q = (if n1 < 0 then -((n1.natAbs : Int) * q) else (n1.natAbs : Int) * q) := by
      split
      · rw [show ((n1.natAbs : Nat) : Int) = -n1 by omega, Int.neg_mul, Int.neg_neg]
      · rw [show ((n1.natAbs : Nat) : Int) = n1 by omega]
    have a2 : n2 * p = (if n2 < 0 then -((n2.natAbs : Int) * p) else (n2.natAbs : Int) * p) := by
      split
      · rw [show ((n2.natAbs : Nat) : Int) = -n2 by omega, Int.neg_mul, Int.neg_neg]
      · rw [show ((n2.natAbs : Nat) : Int) = n2 by omega]
    have a3 : (if m then -n2 else n2) * p = if m then -(n2 * p) else n2 * p := by split <;> simp [Int.neg_mul]
    rw [a3, a1, a2, hS]
    unfold addS addN
    generalize (n1.natAbs : Int) * q = X
    generalize (n2.natAbs : Int) * p = Y
    by_cases c1 : n1 < 0 <;> by_cases c2 : n2 < 0 <;> cases m <;> by_cases c3 : X < Y <;> simp [c1, c2, c3] <;> omega
  have gne := intCast_ne (g : Int) (by omega)
  have pne := intCast_ne (p : Int) (by omega)
  have qne := intCast_ne (q : Int) (by omega)
  have hsum : (n1 : Rat) / (d1 : Rat) + ((if m then -n2 else n2 : Int) : Rat) / (d2 : Rat) = ((n1 * q + (if m then -n2 else n2) * p : Int) : Rat) / ((g * p * q : Int) : Rat) := by
    rw [hp, hq]
    generalize (if m then -n2 else n2 : Int) = n2'
    rw [Rat.intCast_add, Rat.intCast_mul, Rat.intCast_mul, Rat.intCast_mul, Rat.intCast_mul, Rat.intCast_mul, Rat.intCast_mul]
    grind
  rw [hsum, hV]
  rcases hc with ⟨hS0, rfl, rfl, rfl⟩ | ⟨hS0, hneg, t, r, ht, hr, hN, hD⟩
  · refine ⟨by omega, by omega, by decide, fun _ => rfl, ?_⟩
    rw [hS0]
    generalize ((g : Int) * p * q : Int) = z
    simp
    grind
  · rw [← hneg]
    -- all in natural numbers
    obtain ⟨s, rfl⟩ := Int.eq_ofNat_of_zero_le (show 0 ≤ S by omega)
    have ht' : t = Nat.gcd g s := by
      rw [ht]
      have : ((s : Int) % (g : Int)).natAbs = s % g := by
        rw [show ((s : Int) % (g : Int)) = ((s % g : Nat) : Int) from rfl, Int.natAbs_natCast]
      rw [this, Nat.gcd_comm, ← Nat.gcd_rec, ]
    have ht0 : 0 < t := by rw [ht']; exact Nat.gcd_pos_of_pos_left _ hg0
    obtain ⟨c, hc⟩ : t ∣ g := ht' ▸ Nat.gcd_dvd_left _ _
    obtain ⟨n, hn⟩ : t ∣ s := ht' ▸ Nat.gcd_dvd_right _ _
    have er : r = q * c := by
      have : (t : Int) * r = t * (q * c : Nat) := by rw [← hr, hq, hc]; simp [Int.mul_comm, Int.mul_left_comm]
      have := Int.eq_of_mul_eq_mul_left (by omega : (t : Int) ≠ 0) this
      omega
    have eN : N = n := by
      rw [hN, hn]; simp; rw [Int.mul_ediv_cancel_left _ (by omega)]
    have eD : D = ((p * (q * c) : Nat) : Int) := by rw [hD, er]; simp
    have hc0 : 0 < c := by
      rcases Nat.eq_zero_or_pos c with h | h
      · subst h; simp at hc; omega
      · exact h
    have hn0 : 0 < n := by
      rcases Nat.eq_zero_or_pos n with h | h
      · subst h; simp at hn; omega
      · exact h
    have hlow := sum_lowest n1.natAbs n2.natAbs p q g s hp0 hq0 hg0 h1 h2 hpq (by
      unfold addS at hS
      have k1 : ((n1.natAbs * q : Nat) : Int) = (n1.natAbs : Int) * q := by simp
      have k2 : ((n2.natAbs * p : Nat) : Int) = (n2.natAbs : Int) * p := by simp
      rw [← k1, ← k2] at hS
      split at hS
      · left; omega
      · split at hS
        · right; right; omega
        · right; left; omega) (by omega)
    rw [← ht', hn, Nat.mul_div_cancel_left _ ht0, show g / t = c by rw [hc, Nat.mul_div_cancel_left _ ht0]] at hlow
    refine ⟨by omega, ?_, ?_, ?_, ?_⟩
    · rw [eD]; have := Nat.mul_pos hp0 (Nat.mul_pos hq0 hc0); omega
    · rw [eN, eD, Int.natAbs_natCast, Int.natAbs_natCast]; exact hlow
    · intro h; omega
    · refine div_eq_div _ _ _ _ ?_ ?_ ?_
      · rw [eD]; have := Nat.mul_pos hp0 (Nat.mul_pos hq0 hc0); omega
      · rw [show (g : Int) * p * q = ((g * p * q : Nat) : Int) by simp]; have := Nat.mul_pos (Nat.mul_pos hg0 hp0) hq0; omega
      · rw [eN, eD, hn, hc]
        cases neg <;> simp <;> grind
end Go.Proofs.YtojgjpegfkfnjaaDoor
