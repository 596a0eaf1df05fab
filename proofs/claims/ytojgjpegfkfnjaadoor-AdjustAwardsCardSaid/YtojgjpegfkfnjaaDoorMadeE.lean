/- chapter 22: outcome and Made, plainly and walked. -/
import Derived.Test.YtojgjpegfkfnjaaDoorAwkA
namespace Go.Proofs.YtojgjpegfkfnjaaDoor
open Go.RowKit
set_option linter.unusedVariables false
set_option linter.unusedSimpArgs false
set_option maxRecDepth 100000

/-- The outcome of two small numbers. -/
def oc22 (b t : Int) : Oc := if b % 211 = 210 then zO else ⟨1 + b % 211 / 30, b % 211 / 6 % 5, b % 211 % 3, (b + t) % 256 % 4, t % 14, 0⟩
def withW (o : Oc) (x : Int) : Oc := ⟨o.l, o.d, o.r, o.s, o.n, x⟩
/-- Small numbers: fourteen bytes. -/
def Small22 (B : Nat → Int) : Prop := ∀ k, k < 14 → 0 ≤ B k ∧ B k ≤ 255
theorem oc22_played {b t : Int} (hb : 0 ≤ b ∧ b ≤ 255) (ht : 0 ≤ t ∧ t ≤ 255) : playedB (oc22 b t) = true := by
  unfold playedB oc22
  by_cases h : b % 211 = 210
  · rw [if_pos h]; rfl
  · rw [if_neg h]
    unfold okRB okCB
    dsimp only
    rw [if_neg (by omega)]
    simp
    omega
theorem oc22_ok {b t : Int} (hb : 0 ≤ b ∧ b ≤ 255) (ht : 0 ≤ t ∧ t ≤ 255) : (oc22 b t).ok := by
  unfold oc22
  by_cases h : b % 211 = 210
  · rw [if_pos h]; exact zO_ok
  · rw [if_neg h]
    unfold Oc.ok Byt4 I64
    dsimp only
    omega
theorem withW_ok {o : Oc} {x : Int} (h : o.ok) (hx : I64 x) : (withW o x).ok := ⟨h.1, h.2.1, hx⟩
theorem withW_played (o : Oc) (x : Int) : playedB (withW o x) = playedB o := rfl
/-- What is left behind i weights of n; the weight i. -/
def wtI (B : Nat → Int) (n i : Nat) (left : Int) : Int := if i + 1 < n then 1 + B (11 + i) % (left - ((n : Int) - 1 - i)) else left
def leftI (B : Nat → Int) (n : Nat) : Nat → Int
  | 0 => 100
  | i + 1 => leftI B n i - wtI B n i (leftI B n i)
/-- The weighted outcome i. -/
def wo (B : Nat → Int) (n i : Nat) : Oc := withW (oc22 (B (3 + i)) (B (7 + i))) (wtI B n i (leftI B n i))
/-- Behind i rounds. -/
def stO (B : Nat → Int) (n i j : Nat) : Oc := if j < i then wo B n j else zO
def stE (B : Nat → Int) (n i : Nat) : En := ⟨0, 0, 0, 0, 2, B 1 % 4, false, stO B n i 0, stO B n i 1, stO B n i 2, stO B n i 3, 0, 0⟩
def cntN (B : Nat → Int) : Nat := (2 + B 11 % 3).toNat
def shAt (x : Int) : Int := shL.getD x.toNat 0
/-- The entry that Made makes. -/
def madeE (B : Nat → Int) : En :=
  if B 0 % 5 = 1 then ⟨0, 0, 0, 0, 1, B 1 % 4, false, oc22 (B 3) (B 7), zO, zO, zO, 0, 0⟩
  else if B 0 % 5 = 3 then ⟨0, 0, 0, 0, 3, B 1 % 4, false, oc22 (B 3) (B 7), oc22 (B 4) (B 8), zO, zO, 0, 0⟩
  else if B 0 % 5 = 2 then stE B (cntN B) (cntN B)
  else if B 0 % 5 = 4 then ⟨0, 0, 0, 0, 4, B 1 % 4, false, zO, zO, zO, zO, shAt (B 2 % 7), shAt (B 2 / 7 % 7)⟩
  else ⟨0, 0, 0, 0, 0, B 1 % 4, false, zO, zO, zO, zO, 0, 0⟩
theorem emod_bd (a b : Int) (hb : 0 < b) : 0 ≤ a % b ∧ a % b < b := ⟨Int.emod_nonneg _ (by omega), Int.emod_lt_of_pos _ hb⟩
/-- The weights of n outcomes: each is from 1 to 100, and together they are 100. -/
theorem weights_facts (B : Nat → Int) (n : Nat) (hn : n = 2 ∨ n = 3 ∨ n = 4) : ∀ i, i ≤ n → (i < n → (n : Int) - i ≤ leftI B n i ∧ leftI B n i ≤ 100 - i ∧ 1 ≤ wtI B n i (leftI B n i) ∧ wtI B n i (leftI B n i) ≤ 100) ∧ (i = n → leftI B n i = 0) := by
  intro i
  induction i with
  | zero =>
    intro _
    refine ⟨fun _ => ?_, fun h => by omega⟩
    have hl : leftI B n 0 = 100 := rfl
    rw [hl]
    unfold wtI
    have hm := emod_bd (B (11 + 0)) (100 - ((n : Int) - 1 - ((0 : Nat) : Int))) (by omega)
    rw [if_pos (by omega)]
    omega
  | succ i ih =>
    intro hi
    obtain ⟨h1, -⟩ := ih (by omega)
    obtain ⟨a1, a2, a3, a4⟩ := h1 (by omega)
    have hl : leftI B n (i + 1) = leftI B n i - wtI B n i (leftI B n i) := rfl
    by_cases hlt : i + 1 < n
    · have hw : wtI B n i (leftI B n i) = 1 + B (11 + i) % (leftI B n i - ((n : Int) - 1 - i)) := by
        conv => lhs; unfold wtI
        rw [if_pos hlt]
      have hm := emod_bd (B (11 + i)) (leftI B n i - ((n : Int) - 1 - i)) (by omega)
      have e1 : (n : Int) - ((i + 1 : Nat) : Int) ≤ leftI B n (i + 1) := by rw [hl, hw]; omega
      have e2 : leftI B n (i + 1) ≤ 100 - ((i + 1 : Nat) : Int) := by rw [hl]; omega
      refine ⟨fun _ => ⟨e1, e2, ?_⟩, fun h => by omega⟩
      generalize leftI B n (i + 1) = L at *
      unfold wtI
      split
      · have hm2 := emod_bd (B (11 + (i + 1))) (L - ((n : Int) - 1 - ((i + 1 : Nat) : Int))) (by omega)
        omega
      · omega
    · have hw : wtI B n i (leftI B n i) = leftI B n i := by
        conv => lhs; unfold wtI
        rw [if_neg hlt]
      exact ⟨fun h => by omega, fun _ => by rw [hl, hw]; omega⟩
end Go.Proofs.YtojgjpegfkfnjaaDoor
