/- Package match: Points. -/
import Derived.Test.YtojgjpegfkfnjaaDoorMatC
namespace Go.Proofs.YtojgjpegfkfnjaaDoor
open Go.RowKit
set_option linter.unusedVariables false
set_option linter.unusedSimpArgs false

/-- A rational number as the two numbers that hold it. -/
def qp (q : Rat) : Int × Int := (q.num, (q.den : Int))
/-- The matchpoints of a result among results (times 10000), and as a rational number. -/
def matchN (l : List (List (Int × Int))) (a : List (Int × Int)) : Int := (l.map (gainR a)).sum - gainR a a
def matchQ (l : List (List (Int × Int))) (a : List (Int × Int)) : Rat := (matchN l a : Rat) / ((10000 : Int) : Rat)

theorem infoFrac : (Tryd.prog.info? 40).map (fun i => (i.zero, i.size, i.bytes)) = some (some (.agg #[.int .i64 0, .int .i64 0]), 2, 16) := by kernel_rfl

def PtsRel (w : World) (l : List (List (Int × Int))) (v i : Value) (wr : World) : Prop :=
  ∃ k : Nat, k ≤ l.length ∧ i = .int .i64 k ∧ wr.ownsRow w.heap.size 40 2 v ((l.take k).map fun a => qp (matchQ l a)).length (partCells ((l.take k).map fun a => qp (matchQ l a))) ∧ Below w.heap.size w wr

theorem new2d {w w2 : World} {u v : Value} {T : Nat} (hb : Below (w.alloc (.cells #[u, v] T)).drew.heap.size (w.alloc (.cells #[u, v] T)).drew w2) :
    w2.cell? ⟨w.heap.size, 0, none⟩ = some u ∧ w2.cell? ⟨w.heap.size, 1, none⟩ = some v ∧ w2.frozen? ⟨w.heap.size, 0, none⟩ = false ∧ w2.frozen? ⟨w.heap.size, 1, none⟩ = false ∧ w.heap.size < w2.heap.size :=
  kept2 (n := 1) hb
theorem carry2 {w w2 : World} {u v : Value} {g : Nat} (hb : Below w.heap.size w w2) (h1 : w.cell? ⟨g, 0, none⟩ = some u) (h2 : w.cell? ⟨g, 1, none⟩ = some v) (h3 : w.frozen? ⟨g, 0, none⟩ = false) (h4 : w.frozen? ⟨g, 1, none⟩ = false) (h5 : g < w.heap.size) :
    w2.cell? ⟨g, 0, none⟩ = some u ∧ w2.cell? ⟨g, 1, none⟩ = some v ∧ w2.frozen? ⟨g, 0, none⟩ = false ∧ w2.frozen? ⟨g, 1, none⟩ = false ∧ g < w2.heap.size :=
  ⟨cell_later hb h1, cell_later hb h2, (hb.frozen (p := ⟨g, 0, none⟩) h5).trans h3, (hb.frozen (p := ⟨g, 1, none⟩) h5).trans h4, Nat.lt_of_lt_of_le h5 hb.size⟩

def PtsCut (wr : World) (N D : Int) (s7 s8 : Value) (wx : World) : Prop :=
  ∃ g : Nat, s7 = .pointer (some ⟨g, 0, none⟩) ∧ s8 = .int .i64 0 ∧ wr.heap.size ≤ g ∧ g < wx.heap.size ∧ wx.cell? ⟨g, 0, none⟩ = some (.int .i64 N) ∧ wx.cell? ⟨g, 1, none⟩ = some (.int .i64 D) ∧ Below wr.heap.size wr wx

theorem matchN_bd (l : List (List (Int × Int))) (a : List (Int × Int)) (ha : weightsOk a) (hl : ∀ r ∈ l, weightsOk r) (hn : l.length ≤ 24) : -320000 ≤ matchN l a ∧ matchN l a ≤ 320000 * 24 := by
  have h1 := sum_bd (gainR a) l 320000 (by omega) (fun r hr => gainR_bd a r ha (hl r hr))
  have h2 := gainR_bd a a ha ha
  unfold matchN
  omega

end Go.Proofs.YtojgjpegfkfnjaaDoor
