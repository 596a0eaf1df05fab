/- MatchSplit: the walk. -/
import Derived.Test.YtkocgknidpmcmaaDoorSplitA
namespace Go.Proofs.YtkocgknidpmcmaaDoor
open Go.RowKit
set_option linter.unusedVariables false
set_option linter.unusedSimpArgs false

theorem Ints.take {w : World} {k : IntKind} {A : Option Addr} {l : List Int} (h : Ints w k A l) (n : Nat) : Ints w k A (l.take n) := fun i x hx => by
  refine h i x ?_
  rcases Nat.lt_or_ge i n with hl | hl
  · rwa [List.getElem?_take_of_lt hl] at hx
  · rw [List.getElem?_eq_none (by simp; omega)] at hx; cases hx

/-- What a small result looks like. -/
def smallV (p wt : Int) (A : Option Addr) (n c : Nat) : Value := .agg #[.int .i16 p, .int .u8 wt, .slice A n c]
def SmallOk (w : World) (p wt : Int) (A : Option Addr) (c : Nat) (l : List Int) : Prop :=
  (-32768 ≤ p ∧ p ≤ 32767) ∧ (0 ≤ wt ∧ wt ≤ 255) ∧ Ints w .i16 A l ∧ (∀ x ∈ l, -32768 ≤ x ∧ x ≤ 32767) ∧ l.length ≤ c ∧ c ≤ 9223372036854775807
theorem SmallOk.later {w w' : World} {p wt : Int} {A : Option Addr} {c : Nat} {l : List Int} (h : SmallOk w p wt A c l) (hb : Below w.heap.size w w') : SmallOk w' p wt A c l :=
  ⟨h.1, h.2.1, h.2.2.1.later hb, h.2.2.2⟩
theorem SmallOk.take {w : World} {p wt : Int} {A : Option Addr} {c : Nat} {l : List Int} (h : SmallOk w p wt A c l) (n : Nat) : SmallOk w p wt A c (l.take n) :=
  ⟨h.1, h.2.1, h.2.2.1.take n, fun x hx => h.2.2.2.1 x (List.mem_of_mem_take hx), by have := h.2.2.2.2; simp; omega⟩
theorem Made_ok {w : World} {p wt : Int} {A : Option Addr} {c : Nat} {l : List Int} (h : SmallOk w p wt A c l) :
    Calls Tryd.prog 55 #[.agg #[.int .i16 p, .int .u8 wt, .slice A l.length c]] w fun e w' => ∃ A' c', e = .returned (.slice A' (madeR p wt l).length c') ∧ PartsB w' A' (madeR p wt l) ∧ Below w.heap.size w w' :=
  (Made_any p wt A c l w h.1 h.2.1 h.2.2.1 h.2.2.2.1 h.2.2.2.2).mono fun e w' ⟨v, e1, e2, e3⟩ => by
    obtain ⟨A', c', rfl, h1, -⟩ := partsB_of_own e2
    exact ⟨A', c', e1, h1, e3⟩

theorem six {w : World} {x1 x2 x3 x4 x5 x6 : Addr × Value} (h : Bund w [x1, x2, x3, x4, x5, x6]) :
    w.cell? x1.1 = some x1.2 ∧ w.cell? x2.1 = some x2.2 ∧ w.cell? x3.1 = some x3.2 ∧ w.cell? x4.1 = some x4.2 ∧ w.cell? x5.1 = some x5.2 ∧ w.cell? x6.1 = some x6.2 := by
  refine ⟨?_, ?_, ?_, ?_, ?_, ?_⟩ <;> exact h _ (by simp)
end Go.Proofs.YtkocgknidpmcmaaDoor
