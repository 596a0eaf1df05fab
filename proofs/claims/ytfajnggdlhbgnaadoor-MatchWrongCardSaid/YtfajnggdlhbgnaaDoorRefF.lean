/- The reference of chapter 20: Compare, Sum, Top. -/
import Derived.Test.YtfajnggdlhbgnaaDoorRefE
namespace Go.Proofs.YtfajnggdlhbgnaaDoor
open Go.RowKit
set_option linter.unusedVariables false
set_option linter.unusedSimpArgs false

theorem reduced_gain (a b : List (Int × Int)) (w : World) (ha : weightsOk a) (hb : weightsOk b) :
    Calls Tryd.prog 42 #[.int .i64 (gainR a b), .int .i64 10000] w fun e w' => e = .returned (.agg #[.int .i64 (gainQ a b).num, .int .i64 (gainQ a b).den]) ∧ Below w.heap.size w w' := by
  have h1 := gainR_bd a b ha hb
  obtain ⟨M, hM⟩ : ∃ M : Nat, gainR a b = (M : Int) := ⟨(gainR a b).toNat, by omega⟩
  have h := Reduced_any M 10000 w (by omega) (by decide) (by decide)
  have e : ((M : Int) : Rat) / (((10000 : Nat) : Int) : Rat) = gainQ a b := by unfold gainQ; rw [hM]; rfl
  rw [e] at h
  rw [hM]
  exact h

set_option maxRecDepth 100000 in
set_option maxHeartbeats 1000000 in
theorem refCompare_right (A B : Option Addr) (ca cb : Nat) (a b : List (Int × Int)) (w : World) (hA : Parts w A a) (hB : Parts w B b) (ha : rightR a = true) (hb : rightR b = true) :
    Calls Tryd.prog 19 #[.slice A a.length ca, .slice B b.length cb] w fun e w' => e = .returned (.tuple #[.agg #[.int .i64 (gainQ a b).num, .int .i64 (gainQ a b).den], .int .i64 0]) ∧ Below w.heap.size w w' := by
  have wa := right_weights ha
  have wb := right_weights hb
  have HA := Sec.mk fun (w' : World) (h : Below w.heap.size w w') => refRight_any A ca a w' (hA.later h) (by have := wa.1; omega)
  have HB := Sec.mk fun (w' : World) (h : Below w.heap.size w w') => refRight_any B cb b w' (hB.later h) (by have := wb.1; omega)
  rw [ha] at HA
  rw [hb] at HB
  have HC := Sec.mk fun (w' : World) (h : Below w.heap.size w w') => refGets_any A B ca cb a b w' (hA.later h) (hB.later h) wa wb
  have HM := Sec.mk fun (w' : World) => reduced_gain a b w' wa wb
  have hbd := gainR_bd a b wa wb
  clear hA hB ha hb wa wb
  generalize gainR a b = GR at *
  generalize (gainQ a b).num = N at *
  generalize ((gainQ a b).den : Int) = D at *
  go_enter Tryd.func19, Tryd.ntmps19
  have h0 : Below w.heap.size w (w.alloc (.cells #[.int .i64 0, .int .i64 0] 46)) := (Below.refl _ _).alloc (Nat.le_refl _) _
  go_wp2_with fail
  refine (HA.out _ h0).mono ?_; rintro e w1 ⟨rfl, rfl⟩
  go_wp2_with fail
  refine (HB.out _ h0).mono ?_; rintro e w1 ⟨rfl, rfl⟩
  go_wp2_with fail
  refine (HC.out _ h0).mono ?_; rintro e w3 ⟨rfl, hb3⟩
  obtain ⟨c1, c2, c3, c4, c5⟩ := kept2a hb3
  have hB3 : Below w.heap.size w w3 := h0.trans (hb3.mono (by simp))
  go_wp2_with fail
  refine (HM.out _).mono ?_; rintro e w4 ⟨rfl, hb4⟩
  have hB4 := hB3.trans (hb4.mono hB3.size)
  have d1 := cell_later hb4 c1
  have d2 := cell_later hb4 c2
  have d3 := (hb4.frozen (p := ⟨w.heap.size, 0, none⟩) c5).trans c3
  have d4 := (hb4.frozen (p := ⟨w.heap.size, 1, none⟩) c5).trans c4
  clear c1 c2 c3 c4 hb3 hb4
  go_wp2_with fail
  refine bodyPost_ret (v := .tuple #[.agg #[.int .i64 N, .int .i64 D], .int .i64 0]) (by simp [results, Tryd.results19, go_sem, d1, d2]) rfl ⟨rfl, ?_⟩
  exact (hB4.setCell (by simp) _).setCell (by simp) _

theorem refCompare_wrong (A B : Option Addr) (ca cb : Nat) (a b : List (Int × Int)) (w : World) (hA : Parts w A a) (hB : Parts w B b) (la : a.length ≤ 1000) (lb : b.length ≤ 1000) (h : (rightR a && rightR b) = false) :
    Calls Tryd.prog 19 #[.slice A a.length ca, .slice B b.length cb] w fun e w' => e = .returned (.tuple #[.agg #[.int .i64 0, .int .i64 0], .int .i64 2]) ∧ Below w.heap.size w w' := by
  have HA := Sec.mk fun (w' : World) (h : Below w.heap.size w w') => refRight_any A ca a w' (hA.later h) la
  have HB := Sec.mk fun (w' : World) (h : Below w.heap.size w w') => refRight_any B cb b w' (hB.later h) lb
  clear hA hB
  have h0 : Below w.heap.size w (w.alloc (.cells #[.int .i64 0, .int .i64 0] 46)) := (Below.refl _ _).alloc (Nat.le_refl _) _
  cases ha : rightR a with
  | false =>
    rw [ha] at HA
    clear h HB ha
    go_enter Tryd.func19, Tryd.ntmps19
    go_wp2_with fail
    refine (HA.out _ h0).mono ?_; rintro e w1 ⟨rfl, rfl⟩
    go_wp2_with fail
    exact bodyPost_ret (v := .tuple #[.agg #[.int .i64 0, .int .i64 0], .int .i64 2]) (by simp [results, Tryd.results19, go_sem]) rfl ⟨rfl, by first | exact h0 | exact (h0.setCell (by simp) _).setCell (by simp) _⟩
  | true =>
    have hb : rightR b = false := by rw [ha] at h; simpa using h
    rw [ha] at HA
    rw [hb] at HB
    clear h ha hb
    go_enter Tryd.func19, Tryd.ntmps19
    go_wp2_with fail
    refine (HA.out _ h0).mono ?_; rintro e w1 ⟨rfl, rfl⟩
    go_wp2_with fail
    refine (HB.out _ h0).mono ?_; rintro e w1 ⟨rfl, rfl⟩
    go_wp2_with fail
    exact bodyPost_ret (v := .tuple #[.agg #[.int .i64 0, .int .i64 0], .int .i64 2]) (by simp [results, Tryd.results19, go_sem]) rfl ⟨rfl, by first | exact h0 | exact (h0.setCell (by simp) _).setCell (by simp) _⟩
end Go.Proofs.YtfajnggdlhbgnaaDoor
