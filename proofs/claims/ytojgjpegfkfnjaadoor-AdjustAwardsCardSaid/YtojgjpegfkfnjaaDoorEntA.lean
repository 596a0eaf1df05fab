/- Outcomes and entries, as values and in memory. -/
import Derived.Test.YtojgjpegfkfnjaaDoorScoG
import Derived.Test.YtojgjpegfkfnjaaDoorMatC
namespace Go.Proofs.YtojgjpegfkfnjaaDoor
open Go.RowKit
set_option linter.unusedVariables false
set_option linter.unusedSimpArgs false
set_option maxRecDepth 100000

/-- An outcome: level, denomination, risk, declarer, tricks, weight. -/
structure Oc where
  (l d r s n wt : Int)
abbrev I64 (n : Int) : Prop := -9223372036854775808 ≤ n ∧ n ≤ 9223372036854775807
/-- Its numbers are of their types. -/
def Oc.ok (o : Oc) : Prop := Byt4 o.l o.d o.r o.s ∧ I64 o.n ∧ I64 o.wt
def ocC (o : Oc) : List Value := [.int .u8 o.l, .int .u8 o.d, .int .u8 o.r, .int .u8 o.s, .int .i64 o.n, .int .i64 o.wt]
abbrev ocV (o : Oc) : Value := .agg #[.int .u8 o.l, .int .u8 o.d, .int .u8 o.r, .int .u8 o.s, .int .i64 o.n, .int .i64 o.wt]
/-- An entry: its place, kind, field, whether it was turned, four outcomes, an award. -/
structure En where
  (rd tb bo ve k f : Int) (tu : Bool) (o0 o1 o2 o3 : Oc) (a b : Int)
def En.outs (e : En) : List Oc := [e.o0, e.o1, e.o2, e.o3]
def enC (e : En) : List Value := [.int .i64 e.rd, .int .i64 e.tb, .int .i64 e.bo, .int .i64 e.ve, .int .u8 e.k, .int .u8 e.f, .bool e.tu] ++ (ocC e.o0 ++ (ocC e.o1 ++ (ocC e.o2 ++ (ocC e.o3 ++ [.int .i64 e.a, .int .i64 e.b]))))
def enV (e : En) : Array Value := (enC e).toArray
def En.ok (e : En) : Prop := I64 e.rd ∧ I64 e.tb ∧ I64 e.bo ∧ I64 e.ve ∧ (0 ≤ e.k ∧ e.k ≤ 255) ∧ (0 ≤ e.f ∧ e.f ≤ 255) ∧ e.o0.ok ∧ e.o1.ok ∧ e.o2.ok ∧ e.o3.ok ∧ I64 e.a ∧ I64 e.b
theorem enV_size (e : En) : (enV e).size = 33 := by simp [enV, enC, ocC]
theorem enV_len (e : En) : (enV e).toList.length = 33 := by simp [enV, enC, ocC]
theorem enV_one (e : En) : (enV e).all (·.oneCell') = true := by simp [enV, enC, ocC, Value.oneCell']
theorem infoEn : (Tryd.prog.info? 29).map (·.size) = some 33 := by kernel_rfl
/-- These values lie in block g, from its start. -/
def RowAt (W : World) (g : Nat) (c : Array Value) : Prop := ∀ k v, c[k]? = some v → W.cell? ⟨g, k, none⟩ = some v ∧ W.frozen? ⟨g, k, none⟩ = false
theorem ent_later {w w' : World} {a : Addr} {v : Value} (hb : Below w.heap.size w w') (h : w.cell? a = some v ∧ w.frozen? a = false) : w'.cell? a = some v ∧ w'.frozen? a = false :=
  ⟨sc_later hb h.1, (World.frozen?_of_block (hb.block _ (World.block_lt_of_cell? _ _ h.1))).trans h.2⟩
theorem RowAt.later {W W' : World} {g : Nat} {c : Array Value} (h : RowAt W g c) (hb : Below W.heap.size W W') : RowAt W' g c := fun k v hk => ent_later hb (h k v hk)
theorem row_new (W : World) (c : Array Value) (t : TypeId) : RowAt (W.alloc (.cells c t)) W.heap.size c := fun k v hk =>
  ⟨(cell_of_row _ _ _ _ _ _ (heap_alloc_new W _)).trans hk, by have e := heap_alloc_new W (.cells c t); simp only [World.frozen?, e]; simp⟩
theorem RowAt.range {W : World} {g : Nat} {c : Array Value} (h : RowAt W g c) : W.rangeAt g 0 c.toList := fun j v hv => by
  rw [Array.getElem?_toList] at hv
  rw [Nat.zero_add]; exact (h j v hv).1
theorem RowAt.there {W : World} {g : Nat} {c c' : Array Value} (h : RowAt W g c) (hs : c'.size = c.size) : W.there g 0 c'.size := fun j hj => by
  rw [Nat.zero_add]
  have := h j c[j] (Array.getElem?_eq_getElem (by omega))
  exact ⟨by rw [this.1]; rfl, this.2⟩
theorem RowAt.lt {W : World} {g : Nat} {c : Array Value} (h : RowAt W g c) (h0 : 0 < c.size) : g < W.heap.size := World.block_lt_of_cell? _ _ (h 0 c[0] (Array.getElem?_eq_getElem h0)).1
theorem RowAt.stored {W : World} {g : Nat} {c c' : Array Value} (h : RowAt W g c) (hs : c'.size = c.size) : RowAt (W.setCells g 0 c'.toList) g c' := fun k v hk => by
  have hr := World.rangeAt_setCells_same W g 0 c'.toList (by simpa using h.there hs)
  have hc := hr k v (by rw [Array.getElem?_toList]; exact hk)
  rw [Nat.zero_add] at hc
  have hks : k < c'.size := (Array.getElem?_eq_some_iff.1 hk).1
  exact ⟨hc, by rw [World.frozen?_setCells]; exact (h k c[k] (Array.getElem?_eq_getElem (by omega))).2⟩
theorem RowAt.put {W : World} {g : Nat} {c : Array Value} (h : RowAt W g c) (k : Nat) (v : Value) (hk : k < c.size) : RowAt (W.setCell ⟨g, k, none⟩ v) g (c.set k v) := fun j u hj => by
  by_cases e : k = j
  · subst e
    rw [Array.getElem?_set_self] at hj
    cases hj
    have := h k c[k] (Array.getElem?_eq_getElem hk)
    exact ⟨World.cell?_setCell_same' W _ v (by rw [this.1]; rfl), by rw [World.frozen?_setCell]; exact this.2⟩
  · rw [Array.getElem?_set_ne hk e] at hj
    have := h j u hj
    exact ⟨by rw [World.cell?_setCell_other _ _ _ _ (by simp only [ne_eq, Addr.mk.injEq]; omega)]; exact this.1, by rw [World.frozen?_setCell]; exact this.2⟩
theorem RowAt.put_far {W : World} {g g' : Nat} {c : Array Value} (h : RowAt W g' c) (k : Nat) (v : Value) (hne : g ≠ g') : RowAt (W.setCell ⟨g, k, none⟩ v) g' c := fun j u hj =>
  ⟨by rw [World.cell?_setCell_other _ _ _ _ (by simp only [ne_eq, Addr.mk.injEq]; omega)]; exact (h j u hj).1, by rw [World.frozen?_setCell]; exact (h j u hj).2⟩
theorem RowAt.stored_far {W : World} {g g' : Nat} {c : Array Value} (h : RowAt W g' c) (cs : List Value) (hne : g' ≠ g) : RowAt (W.setCells g 0 cs) g' c := fun k v hk =>
  ⟨by rw [World.cell?_setCells_out g cs 0 W _ (fun e _ => absurd e hne)]; exact (h k v hk).1, by rw [World.frozen?_setCells]; exact (h k v hk).2⟩
theorem row_below {B : Nat} {w0 : World} (g : Nat) (hg : B ≤ g) : ∀ (cs : List Value) (o : Nat) (W : World), Below B w0 W → Below B w0 (W.setCells g o cs)
  | [], _, _, h => h
  | v :: cs, o, W, h => row_below g hg cs (o + 1) _ (h.setCell (p := ⟨g, o, none⟩) hg v)
/-- An entry boxed. -/
theorem en_box (w : World) (e : En) : ∃ W g, W = w.alloc (.cells (enV e) 29) ∧ g = w.heap.size ∧ RowAt W g (enV e) ∧ Below w.heap.size w W := ⟨_, _, rfl, rfl, row_new w _ _, sst1 _ _⟩
theorem en_hra (w : World) (e : En) : (w.alloc (.cells (enV e) 29)).rangeAt w.heap.size 0 (enV e).toList := (row_new w (enV e) 29).range
theorem en_sz (e : En) : (Tryd.prog.info? 29).map (·.size) = some (enV e).toList.length := by rw [enV_len]; exact infoEn

/-- The address A is that of outcomes. -/
def Ocs (w : World) (A : Option Addr) (l : List Oc) : Prop :=
  ∀ (i : Nat) (o : Oc), l[i]? = some o → ∃ b f : Nat, A = some ⟨b, f, none⟩ ∧ w.cell? ⟨b, f + i * 6, none⟩ = some (.int .u8 o.l) ∧ w.cell? ⟨b, f + i * 6 + 1, none⟩ = some (.int .u8 o.d) ∧ w.cell? ⟨b, f + i * 6 + 2, none⟩ = some (.int .u8 o.r) ∧ w.cell? ⟨b, f + i * 6 + 3, none⟩ = some (.int .u8 o.s) ∧ w.cell? ⟨b, f + i * 6 + 4, none⟩ = some (.int .i64 o.n) ∧ w.cell? ⟨b, f + i * 6 + 5, none⟩ = some (.int .i64 o.wt)
theorem Ocs.later {w w' : World} {A : Option Addr} {l : List Oc} (h : Ocs w A l) (hb : Below w.heap.size w w') : Ocs w' A l := fun i o ho =>
  let ⟨b, f, e, h0, h1, h2, h3, h4, h5⟩ := h i o ho
  ⟨b, f, e, sc_later hb h0, sc_later hb h1, sc_later hb h2, sc_later hb h3, sc_later hb h4, sc_later hb h5⟩
theorem ocs_nil (w : World) (A : Option Addr) : Ocs w A [] := fun i o h => by simp at h
/-- The outcomes of an entry that lies in block g, from number n on. -/
theorem ocs_en {W : World} {g : Nat} {e : En} (h : RowAt W g (enV e)) (n : Nat) : Ocs W (some ⟨g, 7 + n * 6, none⟩) (e.outs.drop n) := by
  have c : ∀ k v, (enC e)[k]? = some v → W.cell? ⟨g, k, none⟩ = some v := fun k v hk => (h k v (by unfold enV; simpa using hk)).1
  intro i o ho
  rw [List.getElem?_drop] at ho
  have hi : n + i < 4 := by have := (List.getElem?_eq_some_iff.1 ho).1; simpa [En.outs] using this
  refine ⟨g, 7 + n * 6, rfl, ?_⟩
  have e0 : 7 + n * 6 + i * 6 = 7 + (n + i) * 6 := by omega
  rw [e0]
  generalize n + i = m at *
  have hm : m = 0 ∨ m = 1 ∨ m = 2 ∨ m = 3 := by omega
  rcases hm with rfl | rfl | rfl | rfl <;> (simp [En.outs] at ho; subst ho; exact ⟨c _ _ rfl, c _ _ rfl, c _ _ rfl, c _ _ rfl, c _ _ rfl, c _ _ rfl⟩)
theorem Ocs.take {w : World} {A : Option Addr} {l : List Oc} (h : Ocs w A l) (n : Nat) : Ocs w A (l.take n) := fun i o ho => h i o (by
  rw [List.getElem?_take] at ho
  split at ho
  · exact ho
  · cases ho)
end Go.Proofs.YtojgjpegfkfnjaaDoor
