/- par: nobody makes seven tricks; one seat makes a grand. -/
import Derived.Test.YtfacmkelbjfffaaPlainB
namespace Go.Proofs.Ytfacmkelbjfffaa
set_option linter.unusedVariables false
set_option linter.unusedSimpArgs false
set_option maxRecDepth 100000

theorem bestC_none (F : Nat → Nat → Int) (q : Nat) (o : Nat × Int) : ∀ (n : Nat), n ≤ 35 → (∀ x, 38 - n ≤ x → x ≤ 37 → betB q (ansZ F x (1 - q)).2 o.2 = false) → q ≤ 1 → bestC F n q o = o
  | 0, _, _, _ => rfl
  | n + 1, hn, h, hq => by
    have h1 := h (37 - n) (by omega) (by omega)
    unfold ansZ at h1
    rw [show 37 - (37 - n) = n by omega, show 1 - (1 - q) = q by omega] at h1
    unfold bestC
    rw [h1]
    exact bestC_none F q o n (by omega) (fun x h1 h2 => h x (by omega) h2) hq
theorem all_pass (F : Nat → Nat → Int) (h0 : ∀ b, 3 ≤ b → b ≤ 37 → F b 0 ≤ 0) (h1 : ∀ b, 3 ≤ b → b ≤ 37 → 0 ≤ F b 1) (q : Nat) (hq : q ≤ 1) : bestC F 35 q (0, 0) = (0, 0) := by
  refine bestC_none F q (0, 0) 35 (by omega) (fun x hx1 hx2 => ?_) hq
  rw [ansZ_W]
  rcases (by omega : q = 0 ∨ q = 1) with rfl | rfl
  · have a := bestW1_le F (37 - x) (F x 0)
    have b := h0 x (by omega) hx2
    show betB 0 (bestW F (37 - x) 1 (F x 0)) 0 = false
    unfold betB; simp; omega
  · have a := bestW0_ge F (37 - x) (F x 1)
    have b := h1 x (by omega) hx2
    show betB 1 (bestW F (37 - x) 0 (F x 1)) 0 = false
    unfold betB; simp; omega
theorem pass_out (T : Nat → Int) (u : Int) (s : Nat) (hs : s ≤ 1) (hT : ∀ k, k < 20 → 0 ≤ T k ∧ T k ≤ 6) : parZ T u s = 0 ∧ parV T u s = noneV ∧ bidsF (finalZ T u) s = [] := by
  have hT13 : ∀ k, k < 20 → 0 ≤ T k ∧ T k ≤ 13 := fun k hk => by have := hT k hk; omega
  have hn : ∀ b q, 3 ≤ b → b ≤ 37 → q ≤ 1 → pZ (lev b) (den b) (bestN T (den b) q) (vulB u q) < 0 := by
    intro b q h1 h2 hq
    have hd : den b ≤ 4 := by unfold den; omega
    have hb := bestN_bd hT13 hd hq
    have hb6 : bestN T (den b) q ≤ 6 := by
      have a1 := hT (den b * 4 + q) (by omega)
      have a2 := hT (den b * 4 + (q + 2)) (by omega)
      unfold bestN; split <;> omega
    have := pZ_sign (l := lev b) (d := den b) (n := bestN T (den b) q) (vulB u q) (by unfold lev; omega) hd hb
    have hl : 1 ≤ lev b := by unfold lev; omega
    omega
  have h0 : ∀ b, 3 ≤ b → b ≤ 37 → finalZ T u b 0 ≤ 0 := fun b h1 h2 => by
    have := hn b 0 h1 h2 (by omega)
    rw [finalZ_eq _ _ _ _ (by omega)]; simp; exact Int.le_of_lt this
  have h1 : ∀ b, 3 ≤ b → b ≤ 37 → 0 ≤ finalZ T u b 1 := fun b h1 h2 => by
    have := hn b 1 h1 h2 (by omega)
    rw [finalZ_eq _ _ _ _ (by omega)]; simp; exact Int.le_of_lt this
  have hsec : secondA (finalZ T u) s = (0, 0) := all_pass _ h0 h1 (1 - s) (by omega)
  have hfir : firstA (finalZ T u) s = (0, 0) := by unfold firstA; rw [hsec]; exact all_pass _ h0 h1 s hs
  have hop : openA (finalZ T u) s = (1 - s, 0, 0) := by unfold openA; rw [hfir, hsec]; rfl
  have hbi : bidsF (finalZ T u) s = [] := by unfold bidsF; rw [hop]; exact bidsL_zero _ _ _ _ rfl
  exact ⟨by unfold parZ; rw [if_pos hbi], by unfold parV; rw [if_pos hbi], hbi⟩

theorem bestW_turn {F G : Nat → Nat → Int} (h : ∀ b, 3 ≤ b → b ≤ 37 → ∀ q, q ≤ 1 → G b (1 - q) = -F b q) (n : Nat) (hn : n ≤ 35) (q : Nat) (hq : q ≤ 1) (p : Int) : bestW G n (1 - q) (-p) = -bestW F n q p := by
  have e := bestC_turn h n hn q hq (0, p)
  have e2 := congrArg Prod.snd e
  rw [bestC_W] at e2
  show bestW G n (1 - q) (negO (0, p)).2 = _
  rw [e2]
  show -(bestC F n q (0, p)).2 = _
  rw [bestC_W]
theorem grand_gen (F : Nat → Nat → Int) (c : Int) (hc : 0 ≤ c) (hF : ∀ b, 3 ≤ b → b ≤ 37 → F b 0 ≤ c) (h37 : F 37 0 = c) : bestW F 35 0 (bestW F 35 1 0) = c ∧ bestW F 35 1 (bestW F 35 0 0) ≤ c := by
  have h1 : bestW F 35 1 0 ≤ c := Int.le_trans (bestW1_le F 35 0) hc
  have hle := fun p hp => bestW0_le F c 35 (by omega) (fun x h1 h2 => hF x (by omega) h2) p hp
  refine ⟨Int.le_antisymm (hle _ h1) ?_, Int.le_trans (bestW1_le F 35 _) (hle 0 hc)⟩
  have h := bestW0_above F 35 (by omega) (bestW F 35 1 0) 37 (by omega) (by omega)
  rw [ansZ_W] at h
  have e : bestW F (37 - 37) 1 (F 37 (1 - 1)) = c := h37
  rw [e] at h; exact h
def ntB : Bool := (List.range 7).all fun l => [true, false].all fun v => decide (pZ (l + 1) 4 13 v ≤ pZ 7 4 13 v)
theorem ntB_true : ntB = true := by kernel_rfl
theorem nt_le {l : Nat} (v : Bool) (hl : 1 ≤ l ∧ l ≤ 7) : pZ l 4 13 v ≤ pZ 7 4 13 v := by
  have h := ntB_true
  unfold ntB at h
  simp only [List.all_eq_true, List.mem_range, decide_eq_true_eq] at h
  have := h (l - 1) (by omega) v (by cases v <;> simp)
  rw [show l - 1 + 1 = l by omega] at this
  exact this
/-- One seat makes seven notrump, and nobody anything else. -/
theorem grand_par (T : Nat → Int) (u : Int) (k s : Nat) (hs : s ≤ 1) (hk : k ≤ 3) (hT : ∀ j, j < 20 → 0 ≤ T j ∧ T j ≤ 6) :
    (k % 2 = 0 → parZ (putT T (16 + k) 13) u s ≤ finalZ (putT T (16 + k) 13) u 37 0 ∧ (s = 0 → parZ (putT T (16 + k) 13) u s = finalZ (putT T (16 + k) 13) u 37 0)) ∧
    (k % 2 = 1 → finalZ (putT T (16 + k) 13) u 37 1 ≤ parZ (putT T (16 + k) 13) u s ∧ (s = 1 → parZ (putT T (16 + k) 13) u s = finalZ (putT T (16 + k) 13) u 37 1)) := by
  have hbest : ∀ d q, d ≤ 4 → q ≤ 1 → (d = 4 ∧ q = k % 2 ∧ bestN (putT T (16 + k) 13) d q = 13) ∨ (¬ (d = 4 ∧ q = k % 2) ∧ 0 ≤ bestN (putT T (16 + k) 13) d q ∧ bestN (putT T (16 + k) 13) d q ≤ 6) := by
    intro d q hd hq
    have a1 := hT (d * 4 + q) (by omega)
    have a2 := hT (d * 4 + (q + 2)) (by omega)
    unfold bestN putT
    by_cases h1 : d * 4 + q = 16 + k
    · simp only [if_pos h1, if_neg (show ¬ d * 4 + (q + 2) = 16 + k by omega)]
      left; refine ⟨by omega, by omega, ?_⟩
      split <;> omega
    · by_cases h2 : d * 4 + (q + 2) = 16 + k
      · simp only [if_neg h1, if_pos h2]
        left; refine ⟨by omega, by omega, ?_⟩
        split <;> omega
      · simp only [if_neg h1, if_neg h2]
        right; refine ⟨by omega, ?_⟩
        split <;> omega
  have hside : ∀ q, q = k % 2 → (∀ b, 3 ≤ b → b ≤ 37 → pZ (lev b) (den b) (bestN (putT T (16 + k) 13) (den b) q) (vulB u q) ≤ pZ 7 4 13 (vulB u q)) ∧ pZ (lev 37) (den 37) (bestN (putT T (16 + k) 13) (den 37) q) (vulB u q) = pZ 7 4 13 (vulB u q) ∧ 0 ≤ pZ 7 4 13 (vulB u q) := by
    intro q hq
    have hpos : 0 < pZ 7 4 13 (vulB u q) := (pZ_sign (l := 7) (d := 4) (n := 13) (vulB u q) (by omega) (by omega) (by omega)).1.1 (by decide)
    refine ⟨fun b h1 h2 => ?_, ?_, Int.le_of_lt hpos⟩
    · have hl : 1 ≤ lev b ∧ lev b ≤ 7 := by unfold lev; omega
      have hd : den b ≤ 4 := by unfold den; omega
      rcases hbest (den b) q hd (by omega) with ⟨e1, _, e3⟩ | ⟨_, e1, e2⟩
      · rw [e3, e1]; exact nt_le _ hl
      · have := pZ_sign (l := lev b) (d := den b) (vulB u q) hl hd ⟨e1, by omega⟩
        omega
    · rcases hbest 4 q (by omega) (by omega) with ⟨_, _, e3⟩ | ⟨e, _⟩
      · rw [show den 37 = 4 from rfl, e3]; rfl
      · exact absurd ⟨rfl, hq⟩ e
  generalize putT T (16 + k) 13 = U at *
  refine ⟨fun hq => ?_, fun hq => ?_⟩
  · obtain ⟨g1, g2, g3⟩ := hside 0 hq.symm
    have e0 : ∀ b, finalZ U u b 0 = pZ (lev b) (den b) (bestN U (den b) 0) (vulB u (0 : Nat)) := fun b => by rw [finalZ_eq _ _ _ _ (by omega)]; rfl
    have hg := grand_gen (finalZ U u) (finalZ U u 37 0) (by rw [e0, g2]; exact g3) (fun b h1 h2 => by rw [e0, e0, g2]; exact g1 b h1 h2) rfl
    rw [parZ_W _ _ _ hs]
    rcases (by omega : s = 0 ∨ s = 1) with rfl | rfl
    · exact ⟨Int.le_of_eq hg.1, fun _ => hg.1⟩
    · exact ⟨hg.2, fun h => by omega⟩
  · obtain ⟨g1, g2, g3⟩ := hside 1 hq.symm
    have e1 : ∀ b, finalZ U u b 1 = -pZ (lev b) (den b) (bestN U (den b) 1) (vulB u (1 : Nat)) := fun b => by rw [finalZ_eq _ _ _ _ (by omega)]; rfl
    have hturn : ∀ b, 3 ≤ b → b ≤ 37 → ∀ q, q ≤ 1 → (fun b q => -finalZ U u b (1 - q)) b (1 - q) = -finalZ U u b q := fun b _ _ q hq => by
      show -finalZ U u b (1 - (1 - q)) = _
      rw [show 1 - (1 - q) = q by omega]
    have hg := grand_gen (fun b q => -finalZ U u b (1 - q)) (-finalZ U u 37 1) (by rw [e1, g2]; omega) (fun b h1 h2 => by show -finalZ U u b 1 ≤ _; rw [e1, e1, g2]; have := g1 b h1 h2; omega) rfl
    have t1 := fun q hq p => bestW_turn (F := finalZ U u) (G := fun b q => -finalZ U u b (1 - q)) hturn 35 (by omega) q hq p
    have z0 : bestW (fun b q => -finalZ U u b (1 - q)) 35 0 0 = -bestW (finalZ U u) 35 1 0 := t1 1 (by omega) 0
    have z1 : bestW (fun b q => -finalZ U u b (1 - q)) 35 1 0 = -bestW (finalZ U u) 35 0 0 := t1 0 (by omega) 0
    rw [z0, z1] at hg
    have y1 : bestW (fun b q => -finalZ U u b (1 - q)) 35 0 (-bestW (finalZ U u) 35 0 0) = -bestW (finalZ U u) 35 1 (bestW (finalZ U u) 35 0 0) := t1 1 (by omega) _
    have y0 : bestW (fun b q => -finalZ U u b (1 - q)) 35 1 (-bestW (finalZ U u) 35 1 0) = -bestW (finalZ U u) 35 0 (bestW (finalZ U u) 35 1 0) := t1 0 (by omega) _
    rw [y0, y1] at hg
    rw [parZ_W _ _ _ hs]
    rcases (by omega : s = 0 ∨ s = 1) with rfl | rfl
    · refine ⟨?_, fun h => by omega⟩
      show finalZ U u 37 1 ≤ bestW (finalZ U u) 35 0 (bestW (finalZ U u) 35 1 0)
      omega
    · have e : bestW (finalZ U u) 35 1 (bestW (finalZ U u) 35 0 0) = finalZ U u 37 1 := by omega
      exact ⟨Int.le_of_eq e.symm, fun _ => e⟩
end Go.Proofs.Ytfacmkelbjfffaa
