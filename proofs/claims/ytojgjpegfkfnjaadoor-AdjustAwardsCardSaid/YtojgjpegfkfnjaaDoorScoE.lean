/- score: Right, Need, result, Vulnerable, for whatever contract. -/
import Derived.Test.YtojgjpegfkfnjaaDoorRScoC
namespace Go.Proofs.YtojgjpegfkfnjaaDoor
open Go.RowKit
set_option linter.unusedVariables false
set_option linter.unusedSimpArgs false
set_option maxRecDepth 100000

/-- A contract is right. -/
def okCB (l d r s : Int) : Bool := if l = 0 then (d == 0) && (r == 0) && (s == 0) else decide (l ≤ 7) && decide (d ≤ 4) && decide (r ≤ 2) && decide (s ≤ 3)
/-- A contract and tricks are a result. -/
def okRB (l d r s n : Int) : Bool := okCB l d r s && decide (0 ≤ n) && decide (n ≤ 13) && (decide (0 < l) || (n == 0))
theorem scret_b {a b : Bool} (h : a = b) : Ending.returned (.bool a) = .returned (.bool b) := by rw [h]
theorem scret_i {a b : Int} (h : a = b) : Ending.returned (.int .i64 a) = .returned (.int .i64 b) := by rw [h]
def Byt4 (l d r s : Int) : Prop := (0 ≤ l ∧ l ≤ 255) ∧ (0 ≤ d ∧ d ≤ 255) ∧ (0 ≤ r ∧ r ≤ 255) ∧ 0 ≤ s ∧ s ≤ 255
theorem gRight_any (l d r s : Int) (w : World) : Calls Tryd.prog 108 #[.agg #[.int .u8 l, .int .u8 d, .int .u8 r, .int .u8 s]] w fun e w' => e = .returned (.bool (okCB l d r s)) ∧ Below w.heap.size w w' := by
  have hS : Sec (okCB l d r s = if l = 0 then (d == 0) && (r == 0) && (s == 0) else decide (l ≤ 7) && decide (d ≤ 4) && decide (r ≤ 2) && decide (s ≤ 3)) := ⟨rfl⟩
  generalize okCB l d r s = R at *
  by_cases h : l = 0
  · subst h
    go_enter Tryd.func108, Tryd.ntmps108
    go_wp2_with fail
    all_goals
      go_ret
      exact ⟨scret_b (by rw [hS.out]; simp [*]), sst1 _ _⟩
  · have h0 : (l == 0) = false := beq_eq_false_iff_ne.2 h
    replace h := Sec.mk h
    go_enter Tryd.func108, Tryd.ntmps108
    go_wp2_with fail
    all_goals
      go_ret
      exact ⟨scret_b (by rw [hS.out, if_neg h.out]; first | (simp [*]; done) | (simp [*]; intros; omega) | (simp [*]; omega)), sst1 _ _⟩
set_option maxHeartbeats 1000000 in
theorem gNeed_bad (l d r s : Int) (w : World) (h : okCB l d r s = false ∨ l = 0) : Calls Tryd.prog 99 #[.agg #[.int .u8 l, .int .u8 d, .int .u8 r, .int .u8 s]] w fun e w' => e = .returned (.int .i64 0) ∧ Below w.heap.size w w' := by
  have HR := Sec.mk fun w' => gRight_any l d r s w'
  by_cases h0 : l = 0
  · clear h HR
    subst h0
    go_enter Tryd.func99, Tryd.ntmps99
    go_wp2_with fail
    go_ret
    exact ⟨rfl, sst1 _ _⟩
  · have h1 : okCB l d r s = false := h.resolve_right h0
    have h2 : (l == 0) = false := beq_eq_false_iff_ne.2 h0
    rw [h1] at HR
    clear h h1 h0
    go_enter Tryd.func99, Tryd.ntmps99
    go_wp2_with fail
    obtain ⟨W, g, e1, e2, P, hB⟩ := box4 w l d r s
    rw [← e1, ← e2]
    clear e1 e2
    refine (HR.out _).mono ?_
    rintro e w1 ⟨rfl, hb1⟩
    obtain ⟨c0, c1, c2, c3⟩ := P.later hb1
    go_wp2_with fail
    go_ret
    exact ⟨rfl, sbtr hB hb1⟩
theorem okCB_true {l d r s : Int} (hb : Byt4 l d r s) (h : okCB l d r s = true) (h0 : ¬ l = 0) : okQ l d r s := by
  unfold okCB at h
  rw [if_neg h0] at h
  simp only [Bool.and_eq_true, decide_eq_true_eq] at h
  obtain ⟨⟨hl, _⟩, ⟨hd, _⟩, ⟨hr, _⟩, hs, _⟩ := hb
  exact ⟨by omega, by omega, by omega, by omega⟩
set_option maxHeartbeats 1000000 in
theorem gNeed_ok (l d r s : Int) (w : World) (h : okQ l d r s) : Calls Tryd.prog 99 #[.agg #[.int .u8 l, .int .u8 d, .int .u8 r, .int .u8 s]] w fun e w' => e = .returned (.int .i64 (6 + l)) ∧ Below w.heap.size w w' := by
  have HR := Sec.mk fun w' => gRight_any l d r s w'
  obtain ⟨hl, hd, hr, hs⟩ := h
  have h1 : okCB l d r s = true := by unfold okCB; rw [if_neg (by omega)]; simp; omega
  rw [h1] at HR
  have h0 : (l == 0) = false := beq_eq_false_iff_ne.2 (by omega)
  have hw : IntKind.i64.wrap (6 + l) = 6 + l := IntWalk.i64_in _ ⟨by omega, by omega⟩
  clear h1
  go_enter Tryd.func99, Tryd.ntmps99
  go_wp2_with fail
  obtain ⟨W, g, e1, e2, P, hB⟩ := box4 w l d r s
  rw [← e1, ← e2]
  clear e1 e2
  refine (HR.out _).mono ?_
  rintro e w1 ⟨rfl, hb1⟩
  obtain ⟨c0, c1, c2, c3⟩ := P.later hb1
  go_wp2_with fail
  go_ret
  exact ⟨rfl, sbtr hB hb1⟩
set_option maxHeartbeats 1000000 in
theorem gresult_any (l d r s n : Int) (w : World) : Calls Tryd.prog 100 #[.agg #[.int .u8 l, .int .u8 d, .int .u8 r, .int .u8 s], .int .i64 n] w fun e w' => e = .returned (.bool (okRB l d r s n)) ∧ Below w.heap.size w w' := by
  have HR := Sec.mk fun w' => gRight_any l d r s w'
  have hS : Sec (okRB l d r s n = (okCB l d r s && decide (0 ≤ n) && decide (n ≤ 13) && (decide (0 < l) || (n == 0)))) := ⟨rfl⟩
  generalize okRB l d r s n = R at *
  generalize okCB l d r s = C at *
  go_enter Tryd.func100, Tryd.ntmps100
  go_wp2_with fail
  obtain ⟨W, g, e1, e2, P, hB⟩ := box4 w l d r s
  rw [← e1, ← e2]
  clear e1 e2
  refine (HR.out _).mono ?_
  rintro e w1 ⟨rfl, hb1⟩
  obtain ⟨c0, c1, c2, c3⟩ := P.later hb1
  have hB1 := sbtr hB hb1
  clear HR
  cases C
  · go_wp2_with fail
    all_goals
      go_ret
      exact ⟨scret_b (by rw [hS.out]; simp), hB1⟩
  · go_wp2_with fail
    all_goals
      go_ret
      exact ⟨scret_b (by rw [hS.out]; first | (simp [*]; done) | (simp [*]; intros; omega) | (simp [*]; omega)), hB1⟩
/-- Vulnerability, for whatever bytes. -/
def vulG (v s : Int) : Bool := decide (v ≤ 3) && decide (s ≤ 3) && vulB v s
set_option maxHeartbeats 1000000 in
theorem gvul_any (v s : Int) (w : World) (hv : 0 ≤ v ∧ v ≤ 255) (hs : 0 ≤ s ∧ s ≤ 255) : Calls Tryd.prog 78 #[.int .u8 v, .int .u8 s] w fun e w' => e = .returned (.bool (vulG v s)) ∧ Below w.heap.size w w' := by
  by_cases h1 : v ≤ 3
  · by_cases h2 : s ≤ 3
    · have := vul_ok v s w ⟨hv.1, h1⟩ ⟨hs.1, h2⟩
      unfold vulG
      simpa [h1, h2] using this
    · have h2' : decide (s ≤ 3) = false := by simp; omega
      have h1' : decide (v ≤ 3) = true := by simp; omega
      have e : vulG v s = false := by unfold vulG; simp [h2']
      rw [e]
      go_enter Tryd.func78, Tryd.ntmps78
      go_wp2_with fail
      go_ret
      exact ⟨scret_b (by simp [h2']), Below.refl _ _⟩
  · have h1' : decide (v ≤ 3) = false := by simp; omega
    have e : vulG v s = false := by unfold vulG; simp [h1']
    rw [e]
    go_enter Tryd.func78, Tryd.ntmps78
    go_wp2_with fail
    go_ret
    exact ⟨scret_b (by simp [h1']), Below.refl _ _⟩
end Go.Proofs.YtojgjpegfkfnjaaDoor
