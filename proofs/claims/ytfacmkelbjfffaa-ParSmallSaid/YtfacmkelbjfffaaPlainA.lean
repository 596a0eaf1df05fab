/- par: plain laws on the answers, no program in sight. -/
import Derived.Test.YtfacmkelbjfffaaParJ
namespace Go.Proofs.Ytfacmkelbjfffaa
set_option linter.unusedVariables false
set_option linter.unusedSimpArgs false
set_option maxRecDepth 100000

/-- The points of a bid of a side, as the declarer sees them. -/
def pZ (l d : Nat) (n : Int) (v : Bool) : Int := pointsZ l d (if n < 6 + (l : Int) then 1 else 0) n v
theorem vul_best (T : Nat → Int) (u : Int) (d s : Nat) : vulB u (bestS T d s) = vulB u s := by
  unfold bestS
  split
  · have e : ((s : Int) + 2) % 2 = (s : Int) % 2 := by omega
    unfold vulB; rw [e]
  · rfl
theorem finalZ_eq (T : Nat → Int) (u : Int) (b s : Nat) (hs : s ≤ 1) : finalZ T u b s = if s = 1 then -(pZ (lev b) (den b) (bestN T (den b) s) (vulB u s)) else pZ (lev b) (den b) (bestN T (den b) s) (vulB u s) := by
  unfold finalZ scoreZ pZ riskZ
  rw [vul_best]
  have hm : bestS T (den b) s % 2 = (s : Int) % 2 := by unfold bestS; split <;> omega
  rw [hm]
  rcases (by omega : s = 0 ∨ s = 1) with rfl | rfl <;> rfl
def monoB : Bool := (List.range 7).all fun l => (List.range 5).all fun d => (List.range 13).all fun n => [true, false].all fun v => decide (pZ (l + 1) d n v ≤ pZ (l + 1) d ((n : Int) + 1) v)
theorem monoB_true : monoB = true := by kernel_rfl
theorem pZ_mono {l d : Nat} {n : Int} (v : Bool) (hl : 1 ≤ l ∧ l ≤ 7) (hd : d ≤ 4) (hn : 0 ≤ n ∧ n ≤ 12) : pZ l d n v ≤ pZ l d (n + 1) v := by
  have h := monoB_true
  unfold monoB at h
  simp only [List.all_eq_true, List.mem_range, decide_eq_true_eq] at h
  have := h (l - 1) (by omega) d (by omega) n.toNat (by omega) v (by cases v <;> simp)
  rw [show l - 1 + 1 = l by omega, show ((n.toNat : Nat) : Int) = n by omega] at this
  exact this
def signB : Bool := (List.range 7).all fun l => (List.range 5).all fun d => (List.range 14).all fun n => [true, false].all fun v => decide ((6 + ((l + 1 : Nat) : Int) ≤ (n : Int)) = (0 < pZ (l + 1) d n v)) && decide (pZ (l + 1) d n v ≠ 0) && decide (-100000 ≤ pZ (l + 1) d n v) && decide (pZ (l + 1) d n v ≤ 100000)
theorem signB_true : signB = true := by kernel_rfl
theorem pZ_sign {l d : Nat} {n : Int} (v : Bool) (hl : 1 ≤ l ∧ l ≤ 7) (hd : d ≤ 4) (hn : 0 ≤ n ∧ n ≤ 13) : (6 + (l : Int) ≤ n ↔ 0 < pZ l d n v) ∧ pZ l d n v ≠ 0 ∧ -100000 ≤ pZ l d n v ∧ pZ l d n v ≤ 100000 := by
  have h := signB_true
  unfold signB at h
  simp only [List.all_eq_true, List.mem_range, decide_eq_true_eq, Bool.and_eq_true] at h
  have := h (l - 1) (by omega) d (by omega) n.toNat (by omega) v (by cases v <;> simp)
  rw [show l - 1 + 1 = l by omega, show ((n.toNat : Nat) : Int) = n by omega] at this
  exact ⟨by rw [this.1.1.1], this.1.1.2, this.1.2, this.2⟩

/-- The better one for side q. -/
def optZ (q : Nat) (p v : Int) : Int := if betB q v p then v else p
def bestW (F : Nat → Nat → Int) : Nat → Nat → Int → Int
  | 0, _, p => p
  | n + 1, q, p => bestW F n q (optZ q p (bestW F n (1 - q) (F (37 - n) q)))
theorem bestC_W (F : Nat → Nat → Int) : ∀ n q o, (bestC F n q o).2 = bestW F n q o.2
  | 0, q, o => rfl
  | n + 1, q, o => by
    unfold bestC bestW
    rw [bestC_W F n q, bestC_W F n (1 - q)]
    unfold optZ
    split <;> rfl
theorem optZ_mono (q : Nat) {p p' v v' : Int} (h1 : p ≤ p') (h2 : v ≤ v') : optZ q p v ≤ optZ q p' v' := by
  unfold optZ betB
  by_cases hq : q = 1
  · simp only [hq, if_true, decide_eq_true_eq]; split <;> split <;> omega
  · simp only [hq, if_false, decide_eq_true_eq]; split <;> split <;> omega
theorem bestW_mono {F G : Nat → Nat → Int} (h : ∀ b, 3 ≤ b → b ≤ 37 → ∀ q, q ≤ 1 → F b q ≤ G b q) : ∀ (n : Nat), n ≤ 35 → ∀ q, q ≤ 1 → ∀ p p', p ≤ p' → bestW F n q p ≤ bestW G n q p'
  | 0, _, q, _, p, p', hp => hp
  | n + 1, hn, q, hq, p, p', hp => by
    unfold bestW
    exact bestW_mono h n (by omega) q hq _ _ (optZ_mono q hp (bestW_mono h n (by omega) (1 - q) (by omega) _ _ (h (37 - n) (by omega) (by omega) q hq)))
theorem opt0_le (p v : Int) : p ≤ optZ 0 p v ∧ v ≤ optZ 0 p v := by unfold optZ betB; simp; split <;> omega
theorem opt1_le (p v : Int) : optZ 1 p v ≤ p ∧ optZ 1 p v ≤ v := by unfold optZ betB; simp; split <;> omega
theorem opt0_or (p v c : Int) (h1 : p ≤ c) (h2 : v ≤ c) : optZ 0 p v ≤ c := by unfold optZ; split <;> omega
theorem opt1_or (p v c : Int) (h1 : c ≤ p) (h2 : c ≤ v) : c ≤ optZ 1 p v := by unfold optZ; split <;> omega
theorem bestW0_ge (F : Nat → Nat → Int) : ∀ n p, p ≤ bestW F n 0 p
  | 0, p => Int.le_refl _
  | n + 1, p => by unfold bestW; exact Int.le_trans (opt0_le _ _).1 (bestW0_ge F n _)
theorem bestW1_le (F : Nat → Nat → Int) : ∀ n p, bestW F n 1 p ≤ p
  | 0, p => Int.le_refl _
  | n + 1, p => by unfold bestW; exact Int.le_trans (bestW1_le F n _) (opt1_le _ _).1
/-- The value of an answer. -/
theorem ansZ_W (F : Nat → Nat → Int) (b q : Nat) : (ansZ F b q).2 = bestW F (37 - b) q (F b (1 - q)) := bestC_W F _ q _
theorem bestW0_above (F : Nat → Nat → Int) : ∀ (n : Nat), n ≤ 35 → ∀ p x, 38 - n ≤ x → x ≤ 37 → (ansZ F x 1).2 ≤ bestW F n 0 p
  | 0, _, p, x, h1, h2 => by omega
  | n + 1, hn, p, x, h1, h2 => by
    unfold bestW
    by_cases e : x = 37 - n
    · rw [ansZ_W, e, show 37 - (37 - n) = n by omega]
      exact Int.le_trans (opt0_le _ _).2 (bestW0_ge F n _)
    · exact bestW0_above F n (by omega) _ x (by omega) h2
theorem bestW1_above (F : Nat → Nat → Int) : ∀ (n : Nat), n ≤ 35 → ∀ p x, 38 - n ≤ x → x ≤ 37 → bestW F n 1 p ≤ (ansZ F x 0).2
  | 0, _, p, x, h1, h2 => by omega
  | n + 1, hn, p, x, h1, h2 => by
    unfold bestW
    by_cases e : x = 37 - n
    · rw [ansZ_W, e, show 37 - (37 - n) = n by omega]
      exact Int.le_trans (bestW1_le F n _) (opt1_le _ _).2
    · exact bestW1_above F n (by omega) _ x (by omega) h2
theorem bestW0_le (F : Nat → Nat → Int) (c : Int) : ∀ (n : Nat), n ≤ 35 → (∀ x, 38 - n ≤ x → x ≤ 37 → F x 0 ≤ c) → ∀ p, p ≤ c → bestW F n 0 p ≤ c
  | 0, _, _, p, hp => hp
  | n + 1, hn, h, p, hp => by
    unfold bestW
    refine bestW0_le F c n (by omega) (fun x h1 h2 => h x (by omega) h2) _ (opt0_or _ _ _ hp ?_)
    exact Int.le_trans (bestW1_le F n _) (h (37 - n) (by omega) (by omega))
/-- A pick is a bid with its worth. -/
theorem bestC_pick (F : Nat → Nat → Int) : ∀ (n : Nat), n ≤ 35 → ∀ q, q ≤ 1 → ∀ o, bestC F n q o = o ∨ (38 - n ≤ (bestC F n q o).1 ∧ (bestC F n q o).1 ≤ 37 ∧ (bestC F n q o).2 = (ansZ F (bestC F n q o).1 (1 - q)).2)
  | 0, _, q, _, o => .inl rfl
  | n + 1, h, q, hq, o => by
    unfold bestC
    rcases bestC_pick F n (by omega) q hq (if betB q (bestC F n (1 - q) (0, F (37 - n) q)).2 o.2 then (37 - n, (bestC F n (1 - q) (0, F (37 - n) q)).2) else o) with e | e
    · rw [e]
      split
      · right
        refine ⟨by dsimp only; omega, by dsimp only; omega, ?_⟩
        show (bestC F n (1 - q) (0, F (37 - n) q)).2 = (ansZ F (37 - n) (1 - q)).2
        unfold ansZ
        rw [show 37 - (37 - n) = n by omega, show 1 - (1 - q) = q by omega]
      · exact .inl rfl
    · right; exact ⟨by omega, e.2⟩
theorem bids_val (F : Nat → Nat → Int) : ∀ (n sd : Nat) (nx : Nat × Int), sd ≤ 1 → 3 ≤ nx.1 ∧ nx.1 ≤ 37 → 38 ≤ n + nx.1 → nx.2 = (ansZ F nx.1 (1 - sd)).2 → 1 ≤ (bidsL F n sd nx).length ∧ F ((bidsL F n sd nx).getLastD 0) ((sd + ((bidsL F n sd nx).length - 1)) % 2) = nx.2
  | 0, sd, nx, _, h, h2, _ => by omega
  | n + 1, sd, nx, hs, h, h2, hv => by
    rw [bidsL_cons _ _ _ _ (by omega)]
    have hp := bestC_pick F (37 - nx.1) (by omega) (1 - sd) (by omega) (0, F nx.1 (1 - (1 - sd)))
    rw [show bestC F (37 - nx.1) (1 - sd) (0, F nx.1 (1 - (1 - sd))) = ansZ F nx.1 (1 - sd) from rfl] at hp
    rcases hp with e | e
    · rw [bidsL_zero _ _ _ _ (by rw [e])]
      refine ⟨by simp, ?_⟩
      rw [hv, e]
      simp only [List.getLastD_cons, List.getLastD_nil, List.length_cons, List.length_nil, Nat.zero_add, Nat.sub_self, Nat.add_zero]
      rw [show sd % 2 = sd by omega, show 1 - (1 - sd) = sd by omega]
    · have ih := bids_val F n (1 - sd) (ansZ F nx.1 (1 - sd)) (by omega) (by omega) (by omega) e.2.2
      refine ⟨by simp, ?_⟩
      rw [hv, ← ih.2]
      generalize bidsL F n (1 - sd) (ansZ F nx.1 (1 - sd)) = l at *
      cases l with
      | nil => simp at ih
      | cons x l =>
        simp only [List.getLastD_cons, List.length_cons]
        congr 1
        omega
theorem firstA_zero (F : Nat → Nat → Int) (s : Nat) (hs : s ≤ 1) (h : (firstA F s).1 = 0) : (firstA F s).2 = (secondA F s).2 := by
  unfold firstA at h ⊢
  rcases bestC_pick F 35 (by omega) s hs (0, (secondA F s).2) with e | e
  · rw [e]
  · omega
theorem secondA_zero (F : Nat → Nat → Int) (s : Nat) (hs : s ≤ 1) (h : (secondA F s).1 = 0) : (secondA F s).2 = 0 := by
  unfold secondA at h ⊢
  rcases bestC_pick F 35 (by omega) (1 - s) (by omega) (0, 0) with e | e
  · rw [e]
  · omega
theorem openA_val (F : Nat → Nat → Int) (s : Nat) (hs : s ≤ 1) : (openA F s).2.2 = (firstA F s).2 := by
  unfold openA
  split
  · rename_i h; exact (firstA_zero F s hs h).symm
  · rfl
theorem openA_pick (F : Nat → Nat → Int) (s : Nat) (hs : s ≤ 1) : (openA F s).2.1 = 0 ∨ (3 ≤ (openA F s).2.1 ∧ (openA F s).2.1 ≤ 37) ∧ (openA F s).2.2 = (ansZ F (openA F s).2.1 (1 - (openA F s).1)).2 := by
  unfold openA
  split
  · show (secondA F s).1 = 0 ∨ _
    unfold secondA
    rcases bestC_pick F 35 (by omega) (1 - s) (by omega) (0, 0) with e | e
    · rw [e]; exact .inl rfl
    · exact .inr ⟨⟨e.1, e.2.1⟩, e.2.2⟩
  · show (firstA F s).1 = 0 ∨ _
    unfold firstA
    rcases bestC_pick F 35 (by omega) s hs (0, (secondA F s).2) with e | e
    · rw [e]; exact .inl rfl
    · exact .inr ⟨⟨e.1, e.2.1⟩, e.2.2⟩
theorem parZ_val (T : Nat → Int) (u : Int) (s : Nat) (hs : s ≤ 1) : parZ T u s = (firstA (finalZ T u) s).2 := by
  have hF : ∀ F, F = finalZ T u → (if bidsF F s = [] then 0 else F (lastB F s) (lastS F s)) = (firstA F s).2 := by
    intro F _
    rcases openA_pick F s hs with e | ⟨e, ev⟩
    · have hb : bidsF F s = [] := by unfold bidsF; exact bidsL_zero _ _ _ _ e
      rw [if_pos hb, ← openA_val F s hs]
      unfold openA at e ⊢
      split at e
      · rename_i h; rw [if_pos h]; exact (secondA_zero F s hs e).symm
      · rename_i h; exact absurd e h
    · have hv := bids_val F 38 (openA F s).1 (openA F s).2 (openA_s F s hs) e (by omega) ev
      have hb : bidsF F s ≠ [] := by unfold bidsF; intro h; rw [h] at hv; simp at hv
      rw [if_neg hb, ← openA_val F s hs, ← hv.2]
      rfl
  exact hF _ rfl
theorem parZ_W (T : Nat → Int) (u : Int) (s : Nat) (hs : s ≤ 1) : parZ T u s = bestW (finalZ T u) 35 s (bestW (finalZ T u) 35 (1 - s) 0) := by
  rw [parZ_val T u s hs]
  unfold firstA secondA
  rw [bestC_W, bestC_W]
theorem parZ_bd (T : Nat → Int) (u : Int) (s : Nat) (hs : s ≤ 1) (hT : rightT T = true) : -100000 ≤ parZ T u s ∧ parZ T u s ≤ 100000 := by
  unfold parZ
  split
  · omega
  · rename_i h
    have hb : 3 ≤ lastB (finalZ T u) s ∧ lastB (finalZ T u) s ≤ 37 := by
      apply bidsF_mem (finalZ T u) s
      unfold lastB
      generalize bidsF (finalZ T u) s = l at *
      rw [List.getLastD_eq_getLast?, List.getLast?_eq_some_getLast h]
      exact List.getLast_mem h
    have hs2 : lastS (finalZ T u) s ≤ 1 := by unfold lastS; omega
    generalize lastB (finalZ T u) s = b at *
    generalize lastS (finalZ T u) s = q at *
    rw [finalZ_eq T u b q hs2]
    have hn := bestN_bd ((rightT_iff T).1 hT) (d := den b) (s := q) (by unfold den; omega) hs2
    have := pZ_sign (l := lev b) (d := den b) (n := bestN T (den b) q) (vulB u q) (by unfold lev; omega) (by unfold den; omega) hn
    split <;> omega
end Go.Proofs.Ytfacmkelbjfffaa
