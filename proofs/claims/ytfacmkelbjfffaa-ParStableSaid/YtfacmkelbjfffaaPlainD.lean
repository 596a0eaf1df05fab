/- par: neither side can get more. -/
import Derived.Test.YtfacmkelbjfffaaPlainC
namespace Go.Proofs.Ytfacmkelbjfffaa
set_option linter.unusedVariables false
set_option linter.unusedSimpArgs false
set_option maxRecDepth 100000

/-- Points as a side sees them. -/
def ownZ (z : Int) (s : Nat) : Int := if s = 1 then -z else z
/-- Where the bidding stands behind i bids: side sd is to bid above last; passing is worth pass. -/
def StI (F : Nat → Nat → Int) (P : Int) (L : List Nat) (sO i last sd : Nat) (pass : Int) : Prop :=
  ∃ (n m : Nat) (nx : Nat × Int) (p : Int) (dn : List Nat), L = dn ++ bidsL F n sd nx ∧ dn.length = i ∧ sd ≤ 1 ∧ sd = (sO + i) % 2 ∧ nx = bestC F m sd (0, p) ∧ m ≤ 35 ∧
    (last = 0 ∧ m = 35 ∨ 3 ≤ last ∧ last ≤ 37 ∧ m = 37 - last) ∧ nx.2 = P ∧ (nx.1 = 0 ∨ 38 ≤ n + nx.1) ∧ (0 < i → pass = p)
theorem StI.above {F : Nat → Nat → Int} {P : Int} {L : List Nat} {sO i last sd : Nat} {pass : Int} (h : StI F P L sO i last sd pass) (b : Nat) (h1 : last < b) (h2 : 3 ≤ b) (h3 : b ≤ 37) : ownZ (ansZ F b (1 - sd)).2 sd ≤ ownZ P sd := by
  obtain ⟨n, m, nx, p, dn, -, -, hs, -, hnx, hm, hl, hP, -, -⟩ := h
  have hv : P = bestW F m sd p := by rw [← hP, hnx]; exact bestC_W F m sd (0, p)
  rw [hv]
  unfold ownZ
  rcases (by omega : sd = 0 ∨ sd = 1) with rfl | rfl
  · exact bestW0_above F m hm p b (by omega) h3
  · have := bestW1_above F m hm p b (by omega) h3
    show -(ansZ F b 0).2 ≤ -bestW F m 1 p
    omega
theorem StI.pass_le {F : Nat → Nat → Int} {P : Int} {L : List Nat} {sO i last sd : Nat} {pass : Int} (h : StI F P L sO i last sd pass) (hi : 0 < i) : ownZ pass sd ≤ ownZ P sd := by
  obtain ⟨n, m, nx, p, dn, -, -, hs, -, hnx, hm, hl, hP, -, hp⟩ := h
  have hv : P = bestW F m sd p := by rw [← hP, hnx]; exact bestC_W F m sd (0, p)
  rw [hv, hp hi]
  unfold ownZ
  rcases (by omega : sd = 0 ∨ sd = 1) with rfl | rfl
  · exact bestW0_ge F m p
  · have := bestW1_le F m p
    show -p ≤ -bestW F m 1 p
    omega
theorem StI.le {F : Nat → Nat → Int} {P : Int} {L : List Nat} {sO i last sd : Nat} {pass : Int} (h : StI F P L sO i last sd pass) : i ≤ L.length := by
  obtain ⟨n, m, nx, p, dn, rfl, rfl, -⟩ := h
  simp
/-- The next bid. -/
theorem StI.bid {F : Nat → Nat → Int} {P : Int} {L : List Nat} {sO i last sd : Nat} {pass : Int} (h : StI F P L sO i last sd pass) (hi : i < L.length) :
    ∃ b, L[i]? = some b ∧ last < b ∧ 3 ≤ b ∧ b ≤ 37 ∧ (ansZ F b (1 - sd)).2 = P ∧ StI F P L sO (i + 1) b (1 - sd) (F b sd) ∧ (i + 1 = L.length → F b sd = P ∧ L.getLastD 0 = b ∧ (sO + (L.length - 1)) % 2 = sd) := by
  obtain ⟨n, m, nx, p, dn, hL, hdn, hs, hsO, hnx, hm, hl, hP, hn, hp⟩ := h
  have h0 : nx.1 ≠ 0 := by
    intro e
    rw [bidsL_zero _ _ _ _ e, List.append_nil] at hL
    rw [hL] at hi; omega
  have hpk := bestC_pick F m hm sd hs (0, p)
  rw [← hnx] at hpk
  have hpk : 38 - m ≤ nx.1 ∧ nx.1 ≤ 37 ∧ nx.2 = (ansZ F nx.1 (1 - sd)).2 := hpk.resolve_left (fun e => h0 (by rw [e]))
  have hn := hn.resolve_left h0
  obtain ⟨n', rfl⟩ : ∃ n', n = n' + 1 := ⟨n - 1, by omega⟩
  have hcons := bidsL_cons F n' sd nx h0
  have e1 : 1 - (1 - sd) = sd := by omega
  have hnx' : ansZ F nx.1 (1 - sd) = bestC F (37 - nx.1) (1 - sd) (0, F nx.1 sd) := by unfold ansZ; rw [e1]
  have hab := ansZ_bd F nx.1 (1 - sd) (by omega)
  rw [hcons] at hL
  refine ⟨nx.1, by rw [hL, ← hdn]; simp, by omega, by omega, hpk.2.1, by rw [← hpk.2.2]; exact hP, ?_, ?_⟩
  · exact ⟨n', 37 - nx.1, _, F nx.1 sd, dn ++ [nx.1], by rw [hL]; simp, by simp [hdn], by omega, by omega, hnx', by omega, .inr ⟨by omega, hpk.2.1, rfl⟩, by rw [← hpk.2.2]; exact hP, by omega, fun _ => rfl⟩
  · intro hlen
    have hb := bids_val F (n' + 1) sd nx hs (by omega) hn hpk.2.2
    rw [hcons] at hb
    have hnil : bidsL F n' (1 - sd) (ansZ F nx.1 (1 - sd)) = [] := by
      rw [hL] at hlen
      simp at hlen
      have : (bidsL F n' (1 - sd) (ansZ F nx.1 (1 - sd))).length = 0 := by omega
      exact List.eq_nil_of_length_eq_zero this
    rw [hnil] at hb hL
    have hbs : F nx.1 ((sd + 0) % 2) = nx.2 := hb.2
    rw [show (sd + 0) % 2 = sd by omega] at hbs
    refine ⟨hbs.trans hP, by rw [hL]; simp [List.getLastD_eq_getLast?], by rw [← hlen]; omega⟩
theorem st_start (T : Nat → Int) (u : Int) (s : Nat) (hs : s ≤ 1) :
    ∃ sO, sO ≤ 1 ∧ (bidsF (finalZ T u) s = [] ∧ sO = s ∨ bidsF (finalZ T u) s ≠ [] ∧ sO = (openA (finalZ T u) s).1) ∧ StI (finalZ T u) (parZ T u s) (bidsF (finalZ T u) s) sO 0 0 sO 0 := by
  rw [parZ_val T u s hs]
  have hF : ∀ F, F = finalZ T u → ∃ sO, sO ≤ 1 ∧ (bidsF F s = [] ∧ sO = s ∨ bidsF F s ≠ [] ∧ sO = (openA F s).1) ∧ StI F (firstA F s).2 (bidsF F s) sO 0 0 sO 0 := by
    intro F _
    by_cases h0 : (openA F s).2.1 = 0
    · have hb : bidsF F s = [] := by unfold bidsF; exact bidsL_zero _ _ _ _ h0
      have hf : (firstA F s).1 = 0 := by
        unfold openA at h0
        split at h0
        · rename_i h; exact h
        · exact h0
      refine ⟨s, hs, .inl ⟨hb, rfl⟩, 38, 35, firstA F s, (secondA F s).2, [], ?_, rfl, hs, by omega, rfl, by omega, .inl ⟨rfl, rfl⟩, rfl, .inl hf, fun h => by omega⟩
      rw [hb, bidsL_zero _ _ _ _ hf]; rfl
    · have hb : bidsF F s ≠ [] := by
        unfold bidsF
        rw [bidsL_cons F 37 _ _ h0]
        simp
      have hbd := openA_bd F s
      have hval := openA_val F s hs
      refine ⟨(openA F s).1, openA_s F s hs, .inr ⟨hb, rfl⟩, ?_⟩
      have hso := openA_s F s hs
      by_cases hf : (firstA F s).1 = 0
      · have e : openA F s = (1 - s, secondA F s) := by unfold openA; rw [if_pos hf]
        refine ⟨38, 35, (openA F s).2, 0, [], rfl, rfl, hso, by omega, ?_, by omega, .inl ⟨rfl, rfl⟩, hval, .inr (by omega), fun h => by omega⟩
        rw [e]; rfl
      · have e : openA F s = (s, firstA F s) := by unfold openA; rw [if_neg hf]
        refine ⟨38, 35, (openA F s).2, (secondA F s).2, [], rfl, rfl, hso, by omega, ?_, by omega, .inl ⟨rfl, rfl⟩, hval, .inr (by omega), fun h => by omega⟩
        rw [e]; rfl
  exact hF _ rfl
end Go.Proofs.Ytfacmkelbjfffaa
