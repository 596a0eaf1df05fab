/- par: more tricks; a turn of the table. -/
import Derived.Test.YtfacmkelbjfffaaPlainA
import Derived.Test.YtfacmkelbjfffaaParM
namespace Go.Proofs.Ytfacmkelbjfffaa
set_option linter.unusedVariables false
set_option linter.unusedSimpArgs false
set_option maxRecDepth 100000

/-- A trick more for one seat. -/
theorem best_more (T : Nat → Int) (k d s : Nat) (hs : s ≤ 1) (hk : k < 20) : bestN (putT T k (T k + 1)) d s = bestN T d s ∨ (k % 2 = s ∧ bestN (putT T k (T k + 1)) d s = bestN T d s + 1) := by
  unfold bestN putT
  by_cases h1 : d * 4 + s = k
  · have h2 : ¬ d * 4 + (s + 2) = k := by omega
    rw [if_pos h1, if_neg h2, h1]
    split <;> split <;> omega
  · by_cases h2 : d * 4 + (s + 2) = k
    · rw [if_neg h1, if_pos h2, h2]
      split <;> split <;> omega
    · rw [if_neg h1, if_neg h2]; exact .inl rfl
theorem final_more (T : Nat → Int) (u : Int) (k b s : Nat) (hs : s ≤ 1) (hk : k < 20) (hT : rightT T = true) (h13 : T k ≤ 12) (hb : 3 ≤ b ∧ b ≤ 37) :
    (k % 2 = 0 → finalZ T u b s ≤ finalZ (putT T k (T k + 1)) u b s) ∧ (k % 2 = 1 → finalZ (putT T k (T k + 1)) u b s ≤ finalZ T u b s) := by
  have hTr := (rightT_iff T).1 hT
  have hl : 1 ≤ lev b ∧ lev b ≤ 7 := by unfold lev; omega
  have hd : den b ≤ 4 := by unfold den; omega
  have hr' : ∀ j, j < 20 → 0 ≤ putT T k (T k + 1) j ∧ putT T k (T k + 1) j ≤ 13 := fun j hj => by
    have h1 := hTr j hj
    have h2 := hTr k hk
    unfold putT; split <;> omega
  have hn := bestN_bd hTr hd hs
  have hn' := bestN_bd hr' hd hs
  rw [finalZ_eq _ _ _ _ hs, finalZ_eq _ _ _ _ hs]
  rcases best_more T k (den b) s hs hk with e | ⟨ek, e⟩
  · rw [e]; exact ⟨fun _ => Int.le_refl _, fun _ => Int.le_refl _⟩
  · rw [e] at hn' ⊢
    have hm := pZ_mono (l := lev b) (d := den b) (n := bestN T (den b) s) (vulB u s) hl hd ⟨hn.1, by omega⟩
    refine ⟨fun h => ?_, fun h => ?_⟩
    · rw [if_neg (by omega), if_neg (by omega)]; exact hm
    · rw [if_pos (by omega), if_pos (by omega)]; omega
/-- More tricks for a side never cost it points. -/
theorem par_more (T : Nat → Int) (u : Int) (k s : Nat) (hs : s ≤ 1) (hk : k < 20) (hT : rightT T = true) (h13 : T k ≤ 12) :
    (k % 2 = 0 → parZ T u s ≤ parZ (putT T k (T k + 1)) u s) ∧ (k % 2 = 1 → parZ (putT T k (T k + 1)) u s ≤ parZ T u s) := by
  rw [parZ_W _ _ _ hs, parZ_W _ _ _ hs]
  refine ⟨fun h => ?_, fun h => ?_⟩
  · have hF := fun b h1 h2 q hq => (final_more T u k b q hq hk hT h13 ⟨h1, h2⟩).1 h
    exact bestW_mono hF 35 (by omega) s hs _ _ (bestW_mono hF 35 (by omega) (1 - s) (by omega) _ _ (Int.le_refl _))
  · have hF := fun b h1 h2 q hq => (final_more T u k b q hq hk hT h13 ⟨h1, h2⟩).2 h
    exact bestW_mono hF 35 (by omega) s hs _ _ (bestW_mono hF 35 (by omega) (1 - s) (by omega) _ _ (Int.le_refl _))
theorem more_right (T : Nat → Int) (k : Nat) (hk : k < 20) (hT : rightT T = true) (h13 : T k ≤ 12) : rightT (putT T k (T k + 1)) = true := (rightT_iff _).2 fun j hj => by
  have h1 := (rightT_iff T).1 hT j hj
  have h2 := (rightT_iff T).1 hT k hk
  unfold putT; split <;> omega

/-! ### A turn -/
def negO (o : Nat × Int) : Nat × Int := (o.1, -o.2)
theorem betB_turn (q : Nat) (hq : q ≤ 1) (x y : Int) : betB (1 - q) (-x) (-y) = betB q x y := by
  unfold betB
  rcases (by omega : q = 0 ∨ q = 1) with rfl | rfl
  · simp
  · simp
theorem bestC_turn {F G : Nat → Nat → Int} (h : ∀ b, 3 ≤ b → b ≤ 37 → ∀ q, q ≤ 1 → G b (1 - q) = -F b q) : ∀ (n : Nat), n ≤ 35 → ∀ q, q ≤ 1 → ∀ o, bestC G n (1 - q) (negO o) = negO (bestC F n q o)
  | 0, _, q, _, o => rfl
  | n + 1, hn, q, hq, o => by
    have e1 : bestC G n (1 - (1 - q)) (0, G (37 - n) (1 - q)) = negO (bestC F n (1 - q) (0, F (37 - n) q)) := by
      rw [h (37 - n) (by omega) (by omega) q hq]
      exact bestC_turn h n (by omega) (1 - q) (by omega) (0, F (37 - n) q)
    unfold bestC
    rw [e1, ← bestC_turn h n (by omega) q hq]
    congr 1
    show (if betB (1 - q) (-(bestC F n (1 - q) (0, F (37 - n) q)).2) (-o.2) = true then _ else _) = _
    rw [betB_turn q hq]
    split <;> rfl
theorem ansZ_turn {F G : Nat → Nat → Int} (h : ∀ b, 3 ≤ b → b ≤ 37 → ∀ q, q ≤ 1 → G b (1 - q) = -F b q) (b q : Nat) (hb : 3 ≤ b ∧ b ≤ 37) (hq : q ≤ 1) : ansZ G b (1 - q) = negO (ansZ F b q) := by
  unfold ansZ
  rw [← bestC_turn h (37 - b) (by omega) q hq]
  unfold negO
  have := h b hb.1 hb.2 (1 - q) (by omega)
  rw [show 1 - (1 - q) = q by omega] at this ⊢
  rw [this]
theorem secondA_turn {F G : Nat → Nat → Int} (h : ∀ b, 3 ≤ b → b ≤ 37 → ∀ q, q ≤ 1 → G b (1 - q) = -F b q) (s : Nat) (hs : s ≤ 1) : secondA G (1 - s) = negO (secondA F s) := by
  unfold secondA
  exact bestC_turn h 35 (by omega) (1 - s) (by omega) (0, 0)
theorem firstA_turn {F G : Nat → Nat → Int} (h : ∀ b, 3 ≤ b → b ≤ 37 → ∀ q, q ≤ 1 → G b (1 - q) = -F b q) (s : Nat) (hs : s ≤ 1) : firstA G (1 - s) = negO (firstA F s) := by
  unfold firstA
  rw [secondA_turn h s hs]
  exact bestC_turn h 35 (by omega) s hs (0, (secondA F s).2)
theorem bidsL_turn {F G : Nat → Nat → Int} (h : ∀ b, 3 ≤ b → b ≤ 37 → ∀ q, q ≤ 1 → G b (1 - q) = -F b q) : ∀ (n sd : Nat) (nx : Nat × Int), sd ≤ 1 → (nx.1 = 0 ∨ 3 ≤ nx.1 ∧ nx.1 ≤ 37) → bidsL G n (1 - sd) (negO nx) = bidsL F n sd nx
  | 0, sd, nx, _, _ => rfl
  | n + 1, sd, nx, hs, hb => by
    by_cases h0 : nx.1 = 0
    · rw [bidsL_zero F _ _ _ h0, bidsL_zero G _ _ (negO nx) h0]
    · rw [bidsL_cons F _ _ _ h0, bidsL_cons G _ _ (negO nx) h0]
      have e := ansZ_turn h nx.1 (1 - sd) (by omega) (by omega)
      show nx.1 :: bidsL G n (1 - (1 - sd)) (ansZ G nx.1 (1 - (1 - sd))) = _
      rw [e, bidsL_turn h n (1 - sd) _ (by omega) (by have := ansZ_bd F nx.1 (1 - sd) (by omega); omega)]
theorem bidsF_turn {F G : Nat → Nat → Int} (h : ∀ b, 3 ≤ b → b ≤ 37 → ∀ q, q ≤ 1 → G b (1 - q) = -F b q) (s : Nat) (hs : s ≤ 1) : bidsF G (1 - s) = bidsF F s := by
  unfold bidsF
  have e : openA G (1 - s) = (1 - (openA F s).1, negO (openA F s).2) := by
    unfold openA
    rw [firstA_turn h s hs, secondA_turn h s hs]
    show (if (firstA F s).1 = 0 then _ else _) = _
    split <;> rfl
  rw [e]
  exact bidsL_turn h 38 _ _ (openA_s F s hs) (openA_bd F s)
/-- All hands passed on by one seat. -/
def turnT (T : Nat → Int) (k : Nat) : Int := T (4 * (k / 4) + (k % 4 + 3) % 4)
def turnV (u : Int) : Int := if u = 1 ∨ u = 2 then 3 - u else u
theorem turn_best (T : Nat → Int) (d s : Nat) (hs : s ≤ 1) : bestN (turnT T) d (1 - s) = bestN T d s := by
  unfold bestN turnT
  rcases (by omega : s = 0 ∨ s = 1) with rfl | rfl
  · rw [show 4 * ((d * 4 + (1 - 0)) / 4) + ((d * 4 + (1 - 0)) % 4 + 3) % 4 = d * 4 + 0 by omega, show 4 * ((d * 4 + (1 - 0 + 2)) / 4) + ((d * 4 + (1 - 0 + 2)) % 4 + 3) % 4 = d * 4 + (0 + 2) by omega]
  · rw [show 4 * ((d * 4 + (1 - 1)) / 4) + ((d * 4 + (1 - 1)) % 4 + 3) % 4 = d * 4 + (1 + 2) by omega, show 4 * ((d * 4 + (1 - 1 + 2)) / 4) + ((d * 4 + (1 - 1 + 2)) % 4 + 3) % 4 = d * 4 + 1 by omega]
    split <;> split <;> omega
theorem turn_vul (u : Int) (s : Nat) (hs : s ≤ 1) (hu : 0 ≤ u ∧ u ≤ 3) : vulB (turnV u) ((1 - s : Nat) : Int) = vulB u s := by
  rcases (by omega : u = 0 ∨ u = 1 ∨ u = 2 ∨ u = 3) with rfl | rfl | rfl | rfl <;> rcases (by omega : s = 0 ∨ s = 1) with rfl | rfl <;> rfl
theorem turn_final (T : Nat → Int) (u : Int) (b s : Nat) (hs : s ≤ 1) (hu : 0 ≤ u ∧ u ≤ 3) : finalZ (turnT T) (turnV u) b (1 - s) = -finalZ T u b s := by
  rw [finalZ_eq _ _ _ _ (by omega : 1 - s ≤ 1), finalZ_eq _ _ _ _ hs, turn_best _ _ _ hs, turn_vul _ _ hs hu]
  rcases (by omega : s = 0 ∨ s = 1) with rfl | rfl
  · rfl
  · simp
theorem turn_right (T : Nat → Int) (hT : rightT T = true) : rightT (turnT T) = true := (rightT_iff _).2 fun k hk => (rightT_iff T).1 hT _ (by omega)
theorem par_turn (T : Nat → Int) (u : Int) (s : Nat) (hs : s ≤ 1) (hu : 0 ≤ u ∧ u ≤ 3) : parZ (turnT T) (turnV u) (1 - s) = -parZ T u s ∧ bidsF (finalZ (turnT T) (turnV u)) (1 - s) = bidsF (finalZ T u) s := by
  have h : ∀ b, 3 ≤ b → b ≤ 37 → ∀ q, q ≤ 1 → finalZ (turnT T) (turnV u) b (1 - q) = -finalZ T u b q := fun b _ _ q hq => turn_final T u b q hq hu
  refine ⟨?_, bidsF_turn h s hs⟩
  rw [parZ_val _ _ _ (by omega : 1 - s ≤ 1), parZ_val _ _ _ hs, firstA_turn h s hs]
  rfl
end Go.Proofs.Ytfacmkelbjfffaa
