/- par: the answers as a list, to be reckoned; the chapter's example. -/
import Derived.Test.YtfacmkelbjfffaaParI
namespace Go.Proofs.Ytfacmkelbjfffaa
open Go.RowKit
set_option linter.unusedVariables false
set_option linter.unusedSimpArgs false
set_option maxRecDepth 100000

/-- The best over a list of answers of both sides. -/
def chL (q : Nat) : Nat → List ((Nat × Int) × (Nat × Int)) → Nat × Int → Nat × Int
  | _, [], o => o
  | x, a :: l, o => chL q (x + 1) l (if betB q (if q = 0 then a.2.2 else a.1.2) o.2 then (x, if q = 0 then a.2.2 else a.1.2) else o)
def checkL (F : Nat → Nat → Int) : List ((Nat × Int) × (Nat × Int)) → Bool
  | [] => true
  | a :: l => decide (a = (chL 0 (38 - l.length) l (0, F (37 - l.length) 1), chL 1 (38 - l.length) l (0, F (37 - l.length) 0))) && checkL F l
theorem chL_best (F : Nat → Nat → Int) : ∀ (l : List ((Nat × Int) × (Nat × Int))), checkL F l = true → l.length ≤ 35 → ∀ q o, q ≤ 1 → chL q (38 - l.length) l o = bestC F l.length q o
  | [], _, _, q, o, _ => rfl
  | a :: l, h, hl, q, o, hq => by
    simp only [checkL, Bool.and_eq_true, decide_eq_true_eq] at h
    rw [List.length_cons] at hl
    have ih := chL_best F l h.2 (by omega)
    rw [List.length_cons]
    unfold chL bestC
    rw [show 38 - (l.length + 1) + 1 = 38 - l.length by omega, ih q _ hq, show 38 - (l.length + 1) = 37 - l.length by omega]
    have hv : (if q = 0 then a.2.2 else a.1.2) = (bestC F l.length (1 - q) (0, F (37 - l.length) q)).2 := by
      rw [← ih (1 - q) _ (by omega), h.1]
      rcases (by omega : q = 0 ∨ q = 1) with rfl | rfl <;> rfl
    rw [hv]
theorem chL_ans (F : Nat → Nat → Int) (l : List ((Nat × Int) × (Nat × Int))) (h : checkL F l = true) (hl : l.length ≤ 35) (b q : Nat) (hb : 37 - b = l.length) (hq : q ≤ 1) : ansZ F b q = chL q (38 - l.length) l (0, F b (1 - q)) := by
  rw [chL_best F l h hl q _ hq]
  unfold ansZ; rw [hb]
theorem checkL_drop (F : Nat → Nat → Int) : ∀ (l : List ((Nat × Int) × (Nat × Int))) (n : Nat), checkL F l = true → checkL F (l.drop n) = true
  | l, 0, h => h
  | [], n + 1, h => rfl
  | a :: l, n + 1, h => by
    simp only [checkL, Bool.and_eq_true] at h
    exact checkL_drop F l n h.2
/-- The chapter's example. -/
def exT (k : Nat) : Int := [0, 0, 0, 0, 0, 0, 0, 0, 4, 9, 4, 9, 10, 2, 10, 2, 0, 0, 0, 0].getD k 0
def exL0 : List ((Nat × Int) × (Nat × Int)) := [((0, 1700), 0, -1700), ((0, 1700), 0, -1700), ((21, 300), 0, -500), ((0, 1100), 0, 170), ((0, 1700), 0, -1700), ((0, 2000), 0, -2000), ((0, 2000), 0, -2000), ((21, 300), 0, -800), ((0, 1400), 0, 170), ((0, 2000), 0, -2000), ((0, 2300), 0, -2300), ((0, 2300), 0, -2300), ((21, 300), 0, -1100), ((0, 1700), 0, 170), ((0, 2300), 0, -2300), ((0, 2600), 0, -2600), ((0, 2600), 0, -2600), ((21, 300), 0, -1400), ((0, 2000), 25, 300), ((0, 2600), 0, -2600), ((0, 2900), 0, -2900), ((0, 2900), 0, -2900), ((0, 300), 0, -1700), ((0, 2300), 0, -100), ((0, 2900), 0, -2900), ((0, 3200), 0, -3200), ((0, 3200), 0, -3200), ((0, 500), 0, -2000), ((0, 2600), 0, -300), ((0, 3200), 0, -3200), ((0, 3500), 0, -3500), ((0, 3500), 0, -3500), ((0, 800), 0, -2300), ((0, 2900), 0, -500), ((0, 3500), 0, -3500)]
theorem exC0 : checkL (finalZ exT 0) exL0 = true := by kernel_rfl
theorem exS0 : secondA (finalZ exT 0) 0 = chL 1 3 exL0 (0, 0) := (chL_best (finalZ exT 0) exL0 exC0 (by decide) 1 (0, 0) (by decide)).symm
theorem exF0 : firstA (finalZ exT 0) 0 = (21, 300) := by
  unfold firstA
  rw [exS0]
  exact (chL_best (finalZ exT 0) exL0 exC0 (by decide) 0 (0, (chL 1 3 exL0 (0, 0)).2) (by decide)).symm.trans (by kernel_rfl)
theorem exO0 : openA (finalZ exT 0) 0 = (0, 21, 300) := by unfold openA; rw [exF0]; rfl
def exL2 : List ((Nat × Int) × (Nat × Int)) := [((0, 2000), 0, -1700), ((0, 2000), 0, -1700), ((21, 420), 0, -500), ((0, 1400), 0, 170), ((0, 2000), 0, -1700), ((0, 2300), 0, -2000), ((0, 2300), 0, -2000), ((21, 420), 0, -800), ((0, 1700), 0, 170), ((0, 2300), 0, -2000), ((0, 2600), 0, -2300), ((0, 2600), 0, -2300), ((21, 420), 0, -1100), ((0, 2000), 0, 170), ((0, 2600), 0, -2300), ((0, 2900), 0, -2600), ((0, 2900), 0, -2600), ((21, 420), 0, -1400), ((0, 2300), 0, 420), ((0, 2900), 0, -2600), ((0, 3200), 0, -2900), ((0, 3200), 0, -2900), ((0, 500), 0, -1700), ((0, 2600), 0, -100), ((0, 3200), 0, -2900), ((0, 3500), 0, -3200), ((0, 3500), 0, -3200), ((0, 800), 0, -2000), ((0, 2900), 0, -300), ((0, 3500), 0, -3200), ((0, 3800), 0, -3500), ((0, 3800), 0, -3500), ((0, 1100), 0, -2300), ((0, 3200), 0, -500), ((0, 3800), 0, -3500)]
theorem exC2 : checkL (finalZ exT 2) exL2 = true := by kernel_rfl
theorem exS2 : secondA (finalZ exT 2) 0 = chL 1 3 exL2 (0, 0) := (chL_best (finalZ exT 2) exL2 exC2 (by decide) 1 (0, 0) (by decide)).symm
theorem exF2 : firstA (finalZ exT 2) 0 = (21, 420) := by
  unfold firstA
  rw [exS2]
  exact (chL_best (finalZ exT 2) exL2 exC2 (by decide) 0 (0, (chL 1 3 exL2 (0, 0)).2) (by decide)).symm.trans (by kernel_rfl)
theorem exO2 : openA (finalZ exT 2) 0 = (0, 21, 420) := by unfold openA; rw [exF2]; rfl
theorem exA0 : ansZ (finalZ exT 0) 21 1 = (25, 300) := (chL_ans (finalZ exT 0) (exL0.drop 19) (checkL_drop _ _ _ exC0) (by decide) 21 1 (by decide) (by decide)).trans (by kernel_rfl)
theorem exA0' : (ansZ (finalZ exT 0) 25 0).1 = 0 := by
  rw [chL_ans (finalZ exT 0) (exL0.drop 23) (checkL_drop _ _ _ exC0) (by decide) 25 0 (by decide) (by decide)]
  kernel_rfl
theorem exA2 : (ansZ (finalZ exT 2) 21 1).1 = 0 := by
  rw [chL_ans (finalZ exT 2) (exL2.drop 19) (checkL_drop _ _ _ exC2) (by decide) 21 1 (by decide) (by decide)]
  kernel_rfl
theorem bidsL_zero (F : Nat → Nat → Int) (n sd : Nat) (nx : Nat × Int) (h : nx.1 = 0) : bidsL F n sd nx = [] := by
  cases n with
  | zero => rfl
  | succ n => unfold bidsL; rw [if_pos h]
theorem bidsL_cons (F : Nat → Nat → Int) (n sd : Nat) (nx : Nat × Int) (h : ¬ nx.1 = 0) : bidsL F (n + 1) sd nx = nx.1 :: bidsL F n (1 - sd) (ansZ F nx.1 (1 - sd)) := by
  conv => lhs; unfold bidsL
  rw [if_neg h]
theorem exB0 : bidsF (finalZ exT 0) 0 = [21, 25] := by
  unfold bidsF
  rw [exO0]
  rw [bidsL_cons _ _ _ _ (by decide)]
  show 21 :: bidsL (finalZ exT 0) 37 1 (ansZ (finalZ exT 0) 21 1) = _
  rw [exA0, bidsL_cons _ _ _ _ (by decide)]
  show 21 :: 25 :: bidsL (finalZ exT 0) 36 0 (ansZ (finalZ exT 0) 25 0) = _
  rw [bidsL_zero _ _ _ _ exA0']
theorem exB2 : bidsF (finalZ exT 2) 0 = [21] := by
  unfold bidsF
  rw [exO2]
  rw [bidsL_cons _ _ _ _ (by decide)]
  show 21 :: bidsL (finalZ exT 2) 37 1 (ansZ (finalZ exT 2) 21 1) = _
  rw [bidsL_zero _ _ _ _ exA2]
theorem exV0 : parV exT 0 0 = .agg #[.int .u8 5, .int .u8 2, .int .u8 1, .int .u8 1, .int .i64 9, .int .i64 0] := by
  unfold parV lastB lastS
  rw [exB0, exO0]
  kernel_rfl
theorem exV2 : parV exT 2 0 = .agg #[.int .u8 4, .int .u8 3, .int .u8 0, .int .u8 0, .int .i64 10, .int .i64 0] := by
  unfold parV lastB lastS
  rw [exB2, exO2]
  kernel_rfl
theorem exZ0 : parZ exT 0 0 = 300 := by
  unfold parZ lastB lastS
  rw [exB0, exO0]
  kernel_rfl
theorem exZ2 : parZ exT 2 0 = 420 := by
  unfold parZ lastB lastS
  rw [exB2, exO2]
  kernel_rfl
theorem exRight : rightT exT = true := by kernel_rfl
theorem exN : bestN exT 2 1 = 9 := by kernel_rfl
theorem exS : bestS exT 2 1 = 1 := by kernel_rfl
end Go.Proofs.Ytfacmkelbjfffaa
