/- finesseref17: Right, Need, Vulnerable, Result, value and contract, at contracts that are right. -/
import Derived.Test.YtojgjpegfkfnjaaDoorScoD
import Derived.Deep.DeepCutAuto
namespace Go.Proofs.YtojgjpegfkfnjaaDoor
open Go.RowKit
set_option linter.unusedVariables false
set_option linter.unusedSimpArgs false
set_option maxRecDepth 100000

def okQ (l d r s : Int) : Prop := (1 ≤ l ∧ l ≤ 7) ∧ (0 ≤ d ∧ d ≤ 4) ∧ (0 ≤ r ∧ r ≤ 2) ∧ 0 ≤ s ∧ s ≤ 3
theorem okQ_of {l d r s : Int} (h : okC l d r s) : okQ l d r s := ⟨h.1, h.2.1, ⟨h.2.2.1.1, by have := h.2.2.1; omega⟩, h.2.2.2⟩
theorem rsRight_ok (l d r s : Int) (w : World) (h : okQ l d r s) : Calls Tryd.prog 88 #[.agg #[.int .u8 l, .int .u8 d, .int .u8 r, .int .u8 s]] w fun e w' => e = .returned (.bool true) ∧ Below w.heap.size w w' := by
  obtain ⟨hl, hd, hr, hs⟩ := h
  have h0 : (l == 0) = false := beq_eq_false_iff_ne.2 (by omega)
  have h1 : decide (l < 8) = true := by simp; omega
  have h2 : decide (d < 5) = true := by simp; omega
  have h3 : decide (r < 3) = true := by simp; omega
  have h4 : decide (s < 4) = true := by simp; omega
  go_enter Tryd.func88, Tryd.ntmps88
  go_wp2_with fail
  go_ret
  exact ⟨by simp [h1, h2, h3, h4], sst1 _ _⟩
set_option maxHeartbeats 1000000 in
theorem rsNeed_ok (l d r s : Int) (w : World) (h : okQ l d r s) : Calls Tryd.prog 89 #[.agg #[.int .u8 l, .int .u8 d, .int .u8 r, .int .u8 s]] w fun e w' => e = .returned (.int .i64 (l + 6)) ∧ Below w.heap.size w w' := by
  have HR := Sec.mk fun w' => rsRight_ok l d r s w' h
  obtain ⟨hl, hd, hr, hs⟩ := h
  have h0 : (l == 0) = false := beq_eq_false_iff_ne.2 (by omega)
  have hw : IntKind.i64.wrap (l + 6) = l + 6 := IntWalk.i64_in _ ⟨by omega, by omega⟩
  go_enter Tryd.func89, Tryd.ntmps89
  go_wp2_with fail
  obtain ⟨W, g, e1, e2, P, hB⟩ := box4 w l d r s
  rw [← e1, ← e2]
  clear e1 e2
  refine (HR.out _).mono ?_
  rintro e w1 ⟨rfl, hb1⟩
  obtain ⟨c0, c1, c2, c3⟩ := P.later hb1
  go_wp2_with fail
  go_ret
  exact ⟨rfl, sbtr hB hb1⟩
set_option maxHeartbeats 1000000 in
theorem rsResult_ok (l d r s n : Int) (w : World) (h : okQ l d r s) (hn : 0 ≤ n ∧ n ≤ 13) : Calls Tryd.prog 58 #[.agg #[.int .u8 l, .int .u8 d, .int .u8 r, .int .u8 s], .int .i64 n] w fun e w' => e = .returned (.bool true) ∧ Below w.heap.size w w' := by
  have HR := Sec.mk fun w' => rsRight_ok l d r s w' h
  obtain ⟨hl, hd, hr, hs⟩ := h
  have h0 : decide (0 < l) = true := by simp; omega
  have h1 : decide (n < 0) = false := by simp; omega
  have h2 : decide (13 < n) = false := by simp; omega
  go_enter Tryd.func58, Tryd.ntmps58
  go_wp2_with fail
  obtain ⟨W, g, e1, e2, P, hB⟩ := box4 w l d r s
  rw [← e1, ← e2]
  clear e1 e2
  refine (HR.out _).mono ?_
  rintro e w1 ⟨rfl, hb1⟩
  obtain ⟨c0, c1, c2, c3⟩ := P.later hb1
  go_wp2_with fail
  go_ret
  exact ⟨by simp [h0], sbtr hB hb1⟩
set_option maxHeartbeats 1000000 in
theorem rsVul_ok (v s : Int) (w : World) (hv : 0 ≤ v ∧ v ≤ 3) (hs : 0 ≤ s ∧ s ≤ 3) : Calls Tryd.prog 60 #[.int .u8 v, .int .u8 s] w fun e w' => e = .returned (.bool (vulB v s)) ∧ w' = w := by
  have h2 : s = 0 ∨ s = 1 ∨ s = 2 ∨ s = 3 := by omega
  have h3 : v = 0 ∨ v = 1 ∨ v = 2 ∨ v = 3 := by omega
  rcases h2 with rfl | rfl | rfl | rfl <;> rcases h3 with rfl | rfl | rfl | rfl
  all_goals
    go_enter Tryd.func60, Tryd.ntmps60
    go_wp2_with fail
    go_ret
    exact ⟨by simp [vulB], rfl⟩
theorem rsValue_ok (d : Int) (w : World) : Calls Tryd.prog 105 #[.int .u8 d] w fun e w' => e = .returned (.int .i64 (valZ d)) ∧ w' = w := by
  unfold valZ
  by_cases h : d < 2
  all_goals
    go_enter Tryd.func105, Tryd.ntmps105
    go_wp2_with fail
    go_ret
    exact ⟨by simp [h], rfl⟩
def powQ (r : Int) : Int := if r = 0 then 1 else if r = 1 then 2 else 4
/-- The points of the tricks that were bid, with any risk. -/
def bidQ (l d r : Int) : Int := (l * valZ d + if d = 4 then 10 else 0) * powQ r
def RsConRel (W : World) (N r : Int) (n i : Value) (wr : World) : Prop := ∃ k : Nat, i = .int .u8 k ∧ (k : Int) ≤ r ∧ n = .int .i64 (N * powQ k) ∧ wr = W
set_option maxHeartbeats 2000000 in
theorem rsContract_ok (l d r s : Int) (w : World) (h : okQ l d r s) : Calls Tryd.prog 104 #[.agg #[.int .u8 l, .int .u8 d, .int .u8 r, .int .u8 s]] w fun e w' => e = .returned (.int .i64 (bidQ l d r)) ∧ Below w.heap.size w w' := by
  have HV := Sec.mk fun w' => rsValue_ok d w'
  obtain ⟨hl, hd, hr, hs⟩ := h
  obtain ⟨V, hV, hV2⟩ : ∃ V, valZ d = V ∧ (V = 20 ∨ V = 30) := ⟨_, rfl, by unfold valZ; split <;> simp⟩
  obtain ⟨g4, hg, N, hN, hNb, hNs0⟩ : ∃ g4, (d == 4) = g4 ∧ ∃ N, (l * V + if d = 4 then 10 else 0) = N ∧ (0 ≤ N ∧ N ≤ 1000) ∧ l * V + (if g4 then 10 else 0) = N := ⟨_, rfl, _, rfl, by rcases hV2 with rfl | rfl <;> split <;> omega, by by_cases h4 : d = 4 <;> simp [h4]⟩
  unfold bidQ
  rw [hV, hN]
  rw [hV] at HV
  have hlV := Sec.mk (show wrap64 l = l ∧ wrap64 (l * V) = l * V ∧ wrap64 (l * V + 10) = l * V + 10 from by unfold wrap64; rcases hV2 with rfl | rfl <;> omega)
  clear hN hV hV2 hd
  have hNs := Sec.mk hNs0
  clear hNs0
  have hNb2 := Sec.mk hNb
  clear hNb
  have hNl := Sec.mk (show IntKind.i64.wrap N = N from IntWalk.i64_in _ (by have := hNb2.out; omega))
  have hrb := hr
  replace hl := Sec.mk hl
  replace hs := Sec.mk hs
  cases g4
  all_goals
    go_enter Tryd.func104, Tryd.ntmps104
    go_wp2_with fail
    obtain ⟨W, g, e1, e2, P, hB⟩ := box4 w l d r s
    rw [← e1, ← e2]
    clear e1 e2
    have P2 := fun n => P.later (sc_drewN (Below.refl W.heap.size W) n)
    obtain ⟨c0, c1, c2, c3⟩ := P
    go_quiet (first | (go_at_call 105; exact Calls.quiet_of_same (HV.out _)))
    obtain ⟨W2, eW⟩ : ∃ V, V = W.drewN nq := ⟨_, rfl⟩
    have P3 := P2 nq
    have hB2 := sc_drewN hB nq
    rw [← eW] at P3 hB2 ⊢
    clear eW P2 c0 c1 c2 c3 hB
    obtain ⟨c0, c1, c2, c3⟩ := P3
    have hb1 := hNs.out
    simp only [if_true, Bool.false_eq_true, if_false, Int.add_zero] at hb1
    replace hb1 := Sec.mk hb1
    go_wp2_with fail
    simp only [hlV.out.1, hlV.out.2.1, hlV.out.2.2]
    simp only [hb1.out]
    clear hlV hg HV hNs hNl
    go_loopw [3, 4] (fun n i wr => RsConRel W2 N r n i wr) (fun _ i _ => 3 - (intOf i).toNat)
    case atStart => exact ⟨0, rfl, by omega, by simp [powQ], rfl⟩
    case round =>
      obtain ⟨k, rfl, hk, rfl, rfl⟩ := hrel
      by_cases hlt : (k : Int) < r
      · have hk2 : k = 0 ∨ k = 1 := by omega
        have hNx := hNb2.out
        rcases hk2 with rfl | rfl
        · simp only [show N * powQ ((0 : Nat) : Int) = N by simp [powQ]]
          go_wp2_with fail
          exact ⟨⟨1, rfl, by omega, by simp [powQ]; omega, rfl⟩, by simp [intOf]⟩
        · simp only [show N * powQ ((1 : Nat) : Int) = N * 2 by simp [powQ]]
          go_wp2_with fail
          exact ⟨⟨2, rfl, by omega, by simp [powQ]; omega, rfl⟩, by simp [intOf]⟩
      · have e : (k : Int) = r := by omega
        subst e
        go_wp2_with fail
        go_ret
        exact ⟨rfl, hB2⟩
end Go.Proofs.YtojgjpegfkfnjaaDoor
