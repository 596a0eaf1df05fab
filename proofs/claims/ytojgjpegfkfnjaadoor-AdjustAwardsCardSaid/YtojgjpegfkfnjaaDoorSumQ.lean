/- frac.Sum over rational numbers; whole. -/
import Derived.Test.YtojgjpegfkfnjaaDoorMatF
namespace Go.Proofs.YtojgjpegfkfnjaaDoor
open Go.RowKit
set_option linter.unusedVariables false
set_option linter.unusedSimpArgs false

/-- The sum of the first k numbers. -/
def sumQ (l : List Rat) : Nat → Rat
  | 0 => 0
  | k + 1 => sumQ l k + l.getD k 0
theorem sumQ_succ (l : List Rat) (k : Nat) (q : Rat) (h : l[k]? = some q) : sumQ l (k + 1) = sumQ l k + q := by
  rw [sumQ, List.getD_eq_getElem?_getD, h]; rfl

/-- A pair of cells that lies there and may be written. -/
structure Pair (w : World) (g : Nat) (u v : Value) : Prop where
  c0 : w.cell? ⟨g, 0, none⟩ = some u
  c1 : w.cell? ⟨g, 1, none⟩ = some v
  f0 : w.frozen? ⟨g, 0, none⟩ = false
  f1 : w.frozen? ⟨g, 1, none⟩ = false
theorem Pair.lt {w : World} {g : Nat} {u v : Value} (h : Pair w g u v) : g < w.heap.size := World.block_lt_of_cell? _ _ h.c0
theorem Pair.later {w w' : World} {g : Nat} {u v : Value} (h : Pair w g u v) (hb : Below w.heap.size w w') : Pair w' g u v :=
  ⟨cell_later hb h.c0, cell_later hb h.c1, (hb.frozen (p := ⟨g, 0, none⟩) h.lt).trans h.f0, (hb.frozen (p := ⟨g, 1, none⟩) h.lt).trans h.f1⟩
theorem Pair.new (w : World) (u v : Value) (T : Nat) : Pair (w.alloc (.cells #[u, v] T)) w.heap.size u v := by
  refine ⟨?_, ?_, ?_, ?_⟩ <;> go_simp
theorem Pair.lt' {w w' : World} {g : Nat} {u v : Value} (h : Pair w g u v) (hb : Below w.heap.size w w') : g < w'.heap.size := Nat.lt_of_lt_of_le h.lt hb.size

theorem set2 {B : Nat} {a w : World} {g : Nat} {x y : Value} (h : Below B a w) (hg : B ≤ g) : Below B a ((w.setCell ⟨g, 0, none⟩ x).setCell ⟨g, 1, none⟩ y) := (h.setCell (p := ⟨g, 0, none⟩) hg _).setCell (p := ⟨g, 1, none⟩) hg _

end Go.Proofs.YtojgjpegfkfnjaaDoor
