/- The reference of chapter 20: kept, Right. -/
import Derived.Test.YtfajnggdlhbgnaaDoorRefA
namespace Go.Proofs.YtfajnggdlhbgnaaDoor
open Go.RowKit
set_option linter.unusedVariables false
set_option linter.unusedSimpArgs false

def KeptRel (w : World) (n : Nat) (i : Value) (wr : World) : Prop := ∃ k : Nat, k ≤ n ∧ i = .int .i64 k ∧ Below w.heap.size w wr

set_option maxRecDepth 100000 in
set_option maxHeartbeats 1000000 in
theorem kept_same (A B : Option Addr) (c d : Nat) (r : List (Int × Int)) (w : World) (hA : Parts w A r) (hB : Parts w B r) (hl : r.length ≤ 1000) :
    Calls Tryd.prog 14 #[.slice A r.length c, .slice B r.length d] w fun e w' => e = .returned (.bool true) ∧ Below w.heap.size w w' := by
  have HA := Sec.mk hA
  have HB' := Sec.mk hB
  clear hA hB
  go_enter Tryd.func14, Tryd.ntmps14
  go_wp2_with fail
  go_loopw [13] (fun i wr => KeptRel w r.length i wr) (fun i _ => r.length - (intOf i).toNat)
  case atStart => exact ⟨0, Nat.zero_le _, rfl, Below.refl _ _⟩
  case round =>
    obtain ⟨k, hk, rfl, hB⟩ := hrel
    by_cases hlt : k < r.length
    · obtain ⟨p, hp⟩ : ∃ p, r[k]? = some p := ⟨_, List.getElem?_eq_getElem hlt⟩
      obtain ⟨p1, p2⟩ := p
      obtain ⟨b, o, rfl, h1, h2⟩ := HA.out.later hB k _ hp
      obtain ⟨b', o', rfl, h3, h4⟩ := HB'.out.later hB k _ hp
      simp only at h1 h2 h3 h4
      clear hp
      go_wp2_with fail
      go_quiet (fail)
      go_wp2_with fail
      exact ⟨⟨k + 1, hlt, rfl, below_drewN hB _⟩, by simp only [intOf]; omega⟩
    · go_wp2_with fail
      go_ret
      exact ⟨rfl, hB⟩

theorem sum_nonneg {l : List (Int × Int)} (h : ∀ p ∈ l, 0 ≤ p.2) : 0 ≤ (l.map (·.2)).sum := by
  induction l with
  | nil => simp
  | cons x l ih =>
    have h1 := h x (by simp)
    have h2 := ih (fun p hp => h p (by simp [hp]))
    simp only [List.map_cons, List.sum_cons]; omega
theorem sumTo_le {r : List (Int × Int)} (h : ∀ p ∈ r, 0 ≤ p.2) (k : Nat) : sumTo (·.2) r k ≤ (r.map (·.2)).sum := by
  have e : (r.map (·.2)).sum = ((r.take k).map (·.2)).sum + ((r.drop k).map (·.2)).sum := by
    rw [← List.sum_append, ← List.map_append, List.take_append_drop]
  have := sum_nonneg (l := r.drop k) (fun p hp => h p (List.mem_of_mem_drop hp))
  unfold sumTo
  omega
theorem rightR_parts {r : List (Int × Int)} (h : rightR r = true) : (∀ p ∈ r, badPart p = false) ∧ (r.map (·.2)).sum = 100 ∧ r.length ≤ 4 := by
  unfold rightR at h
  simp only [Bool.and_eq_true, Bool.not_eq_true', Bool.or_eq_false_iff, decide_eq_false_iff_not, decide_eq_true_eq] at h
  exact ⟨fun p hp => by have := List.any_eq_false.1 h.1.2 p hp; simpa using this, h.2, by omega⟩
theorem rightR_bad {r : List (Int × Int)} {k : Nat} {p : Int × Int} (hp : r[k]? = some p) (hb : badPart p = true) : rightR r = false := by
  cases h : rightR r with
  | false => rfl
  | true =>
    have := (rightR_parts h).1 p (List.mem_of_getElem? hp)
    rw [hb] at this; cases this
theorem rightR_over {r : List (Int × Int)} {k : Nat} (hk : 100 < sumTo (·.2) r k) : rightR r = false := by
  cases h : rightR r with
  | false => rfl
  | true =>
    obtain ⟨h1, h2, _⟩ := rightR_parts h
    have := sumTo_le (r := r) (fun p hp => by
      have := h1 p hp
      simp only [badPart, Bool.or_eq_false_iff, decide_eq_false_iff_not] at this
      omega) k
    omega
theorem rightR_end {r : List (Int × Int)} (h : ∀ p ∈ r, badPart p = false) : rightR r = (decide ((r.map (·.2)).sum = 100) && decide (r.length ≤ 4)) := by
  have ha : r.any badPart = false := by
    rw [List.any_eq_false]
    intro p hp
    rw [h p hp]; decide
  unfold rightR
  rw [ha]
  by_cases h0 : r.length = 0
  · have : r = [] := List.eq_nil_of_length_eq_zero h0
    subst this; simp
  · by_cases h4 : 4 < r.length
    · have : ¬ r.length ≤ 4 := by omega
      simp [h0, h4, this]
    · have : r.length ≤ 4 := by omega
      simp [h0, h4, this]

def RRightRel (w : World) (r : List (Int × Int)) (n i : Value) (wr : World) : Prop :=
  ∃ (k : Nat) (S : Int), k ≤ r.length ∧ i = .int .i64 k ∧ n = .int .i64 S ∧ S = sumTo (·.2) r k ∧ 0 ≤ S ∧ S ≤ 100 ∧ (∀ j p, j < k → r[j]? = some p → badPart p = false) ∧ wr = w

set_option maxRecDepth 100000 in
set_option maxHeartbeats 1000000 in
theorem refRight_any (A : Option Addr) (c : Nat) (r : List (Int × Int)) (w : World) (hA : Parts w A r) (hl : r.length ≤ 1000) :
    Calls Tryd.prog 24 #[.slice A r.length c] w fun e w' => e = .returned (.bool (rightR r)) ∧ w = w' := by
  have HA := Sec.mk hA
  clear hA
  go_enter Tryd.func24, Tryd.ntmps24
  go_wp2_with fail
  go_loopw [3, 4] (fun n i wr => RRightRel w r n i wr) (fun _ i _ => r.length - (intOf i).toNat)
  case atStart => exact ⟨0, 0, Nat.zero_le _, rfl, rfl, rfl, by omega, by omega, fun j p h => by omega, rfl⟩
  case round =>
    obtain ⟨k, S, hk, rfl, rfl, hS, hS0, hS1, hno, rfl⟩ := hrel
    by_cases hlt : k < r.length
    · obtain ⟨p, hp⟩ : ∃ p, r[k]? = some p := ⟨_, List.getElem?_eq_getElem hlt⟩
      obtain ⟨p1, p2⟩ := p
      obtain ⟨b, o, rfl, h1, h2⟩ := HA.out k _ hp
      simp only at h1 h2
      by_cases hbad : badPart (p1, p2) = true
      · have HR := Sec.mk (rightR_bad hp hbad)
        simp only [badPart, Bool.or_eq_true, decide_eq_true_eq] at hbad
        clear hp hS hno
        by_cases b1 : p2 < 1
        · clear hbad
          go_wp2_with fail
          go_ret
          exact ⟨ret_b HR.out.symm, rfl⟩
        · by_cases b2 : 100 < p2
          · clear hbad
            go_wp2_with fail
            go_ret
            exact ⟨ret_b HR.out.symm, rfl⟩
          · by_cases b3 : 10000 < p1
            · clear hbad
              go_wp2_with fail
              go_ret
              exact ⟨ret_b HR.out.symm, rfl⟩
            · have b4 : p1 < -10000 := by omega
              clear hbad
              go_wp2_with fail
              go_ret
              exact ⟨ret_b HR.out.symm, rfl⟩
      · have hbad' : badPart (p1, p2) = false := by simpa using hbad
        have hno' : ∀ j p, j < k + 1 → r[j]? = some p → badPart p = false := by
          intro j p hj hjp
          rcases Nat.lt_or_ge j k with h | h
          · exact hno j p h hjp
          · have : j = k := by omega
            subst this
            rw [hp] at hjp; cases hjp
            exact hbad'
        simp only [badPart, Bool.or_eq_true, decide_eq_true_eq, not_or] at hbad
        obtain ⟨⟨⟨g1, g2⟩, g3⟩, g4⟩ := hbad
        have HS : Sec (S + p2 = sumTo (·.2) r (k + 1)) := ⟨by rw [sumTo_succ _ _ _ _ hp, hS]⟩
        have HN := Sec.mk hno'
        clear hp hS hno hno' hbad'
        by_cases ho : 100 < S + p2
        · have HO := Sec.mk (rightR_over (r := r) (k := k + 1) (by rw [← HS.out]; exact ho))
          go_wp2_with fail
          go_ret
          exact ⟨ret_b HO.out.symm, rfl⟩
        · go_wp2_with fail
          exact ⟨⟨k + 1, S + p2, hlt, rfl, rfl, HS.out, by omega, by omega, HN.out, rfl⟩, by simp only [intOf]; omega⟩
    · have hk0 : k = r.length := by omega
      have HE : Sec (rightR r = (decide (S = 100) && decide (r.length ≤ 4))) := ⟨by
        rw [rightR_end (fun p hp => by
          obtain ⟨j, hj⟩ := List.mem_iff_getElem?.1 hp
          exact hno j p (by rw [hk0]; exact (List.getElem?_eq_some_iff.1 hj).1) hj), ← sumTo_all, hS, hk0]⟩
      clear hS hno
      have hki : ¬ (k : Int) < (r.length : Int) := by omega
      clear hk0
      by_cases h100 : S = 100
      · subst h100
        by_cases h4 : (r.length : Int) ≤ 4
        · go_wp2_with fail
          go_ret
          exact ⟨ret_b (by rw [HE.out]; simp; omega), rfl⟩
        · go_wp2_with fail
          go_ret
          exact ⟨ret_b (by rw [HE.out]; simp; omega), rfl⟩
      · go_wp2_with fail
        go_ret
        exact ⟨ret_b (by rw [HE.out]; simp [h100]), rfl⟩
end Go.Proofs.YtfajnggdlhbgnaaDoor
