/- The chapter's examples. -/
import Derived.Test.YtojgjpegfkfnjaaDoorMatE
namespace Go.Proofs.YtojgjpegfkfnjaaDoor
open Go.RowKit
set_option linter.unusedVariables false
set_option linter.unusedSimpArgs false

theorem parts_block2 (w : World) (a b c d : Int) : PartsB (w.alloc (.cells #[.int .i64 a, .int .i64 b, .int .i64 c, .int .i64 d] 47)) (some ⟨w.heap.size, 0, none⟩) [(a, b), (c, d)] := by
  refine ⟨fun i p hp => ?_, fun a' ha => ?_⟩
  · match i, hp with
    | 0, hp => simp at hp; subst hp; exact ⟨w.heap.size, 0, rfl, by go_simp, by go_simp⟩
    | 1, hp => simp at hp; subst hp; exact ⟨w.heap.size, 0, rfl, by go_simp, by go_simp⟩
  · cases ha
    exact ⟨_, (0, 0), heap_alloc_new w _⟩

theorem parts_four {w : World} {A : Option Addr} {p0 p1 p2 p3 q0 q1 q2 q3 : Int} (h : Parts w A [(p0, q0), (p1, q1), (p2, q2), (p3, q3)]) :
    ∃ b o : Nat, A = some ⟨b, o, none⟩ ∧ w.cell? ⟨b, o, none⟩ = some (.int .i64 p0) ∧ w.cell? ⟨b, o + 1, none⟩ = some (.int .i64 q0) ∧ w.cell? ⟨b, o + 2, none⟩ = some (.int .i64 p1) ∧ w.cell? ⟨b, o + 2 + 1, none⟩ = some (.int .i64 q1) ∧
      w.cell? ⟨b, o + 4, none⟩ = some (.int .i64 p2) ∧ w.cell? ⟨b, o + 4 + 1, none⟩ = some (.int .i64 q2) ∧ w.cell? ⟨b, o + 6, none⟩ = some (.int .i64 p3) ∧ w.cell? ⟨b, o + 6 + 1, none⟩ = some (.int .i64 q3) := by
  obtain ⟨b, o, rfl, a1, a2⟩ := h 0 _ rfl
  obtain ⟨b', o', e, a3, a4⟩ := h 1 _ rfl
  obtain ⟨b2, o2, e2, a5, a6⟩ := h 2 _ rfl
  obtain ⟨b3, o3, e3, a7, a8⟩ := h 3 _ rfl
  cases e; cases e2; cases e3
  exact ⟨b, o, rfl, by simpa using a1, by simpa using a2, by simpa using a3, by simpa using a4, by simpa using a5, by simpa using a6, by simpa using a7, by simpa using a8⟩

def Bund (w : World) (l : List (Addr × Value)) : Prop := ∀ x ∈ l, w.cell? x.1 = some x.2
theorem Bund.later {w w' : World} {l : List (Addr × Value)} (h : Bund w l) (hb : Below w.heap.size w w') : Bund w' l := fun x hx => cell_later hb (h x hx)
theorem fourteen {w : World} {x1 x2 x3 x4 x5 x6 x7 x8 x9 x10 x11 x12 x13 x14 : Addr × Value} (h : Bund w [x1, x2, x3, x4, x5, x6, x7, x8, x9, x10, x11, x12, x13, x14]) :
    w.cell? x1.1 = some x1.2 ∧ w.cell? x2.1 = some x2.2 ∧ w.cell? x3.1 = some x3.2 ∧ w.cell? x4.1 = some x4.2 ∧ w.cell? x5.1 = some x5.2 ∧ w.cell? x6.1 = some x6.2 ∧ w.cell? x7.1 = some x7.2 ∧ w.cell? x8.1 = some x8.2 ∧ w.cell? x9.1 = some x9.2 ∧ w.cell? x10.1 = some x10.2 ∧ w.cell? x11.1 = some x11.2 ∧ w.cell? x12.1 = some x12.2 ∧ w.cell? x13.1 = some x13.2 ∧ w.cell? x14.1 = some x14.2 := by
  refine ⟨?_, ?_, ?_, ?_, ?_, ?_, ?_, ?_, ?_, ?_, ?_, ?_, ?_, ?_⟩ <;> exact h _ (by simp)
end Go.Proofs.YtojgjpegfkfnjaaDoor
