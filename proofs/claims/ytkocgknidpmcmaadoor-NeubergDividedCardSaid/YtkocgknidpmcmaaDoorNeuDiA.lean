/- NeubergDivided: the rows of an array, each its own. -/
import Derived.Test.YtkocgknidpmcmaaDoorAppK
import Derived.Deep.AppendLies
import Derived.Laws.BitsAllLaws
namespace Go.Proofs.YtkocgknidpmcmaaDoor
open Go.RowKit
set_option linter.unusedVariables false
set_option linter.unusedSimpArgs false

theorem and_one_u32 (E : Int) (h0 : 0 ≤ E) (h1 : E ≤ 4294967295) : bits BinOp.and IntKind.u32 E 1 = E % 2 := by
  obtain ⟨n, rfl⟩ : ∃ n : Nat, E = n := ⟨E.toNat, by omega⟩
  have h := u32_and_nat n 1 (by omega) (by omega)
  rw [Nat.and_one_is_mod] at h
  have h2 : ((n % 2 : Nat) : Int) = (n : Int) % 2 := by omega
  exact h.trans h2
theorem shr_bounds (bs : Int) (k : Nat) (h : 0 ≤ bs ∧ bs ≤ 4294967295) : 0 ≤ bs / 2 ^ k ∧ bs / 2 ^ k ≤ 4294967295 := by
  have h1 := Int.ediv_le_self (2 ^ k) h.1
  have h2 := Int.ediv_nonneg h.1 (Int.le_of_lt (Int.pow_pos (n := 2) (m := k) (by decide)))
  omega
theorem grown_setCell (w : World) (a : Addr) (u : Value) : w.grownBy (w.setCell a u) (some a.block) :=
  ⟨rfl, rfl, rfl, by simp, fun k _ hk => heap_setCell_other w a k u (fun e => hk (by rw [e]))⟩
theorem OwnRess.beside {w w' : World} {base : Nat} {u : Value} {m : List (List (Int × Int))} {row : Option Nat} (h : OwnRess w base u m) (hg : w.grownBy w' row) (hne : u.ownBlock = none ∨ u.ownBlock ≠ row)
    (hr : ∀ g, row = some g → ∃ cs e fr, w.heap[g]? = some (.cells cs e fr) ∧ e ≠ 80) : OwnRess w' base u m :=
  let ⟨vs, h1, h2⟩ := h
  ⟨vs, h1.kept hg hne, fun i r hr' => let ⟨Ai, ci, e1, e2⟩ := h2 i r hr'; ⟨Ai, ci, e1, e2.grown hg hr⟩⟩
theorem OwnRess.low {w : World} {base g : Nat} {u : Value} {m : List (List (Int × Int))} (h : OwnRess w base u m) (hg : g < base) : u.ownBlock = none ∨ u.ownBlock ≠ some g := by
  obtain ⟨vs, h1, -⟩ := h
  right
  intro e
  have := (h1.lt g e).1
  omega
/-- What is written into the array's own block leaves the rows. -/
theorem OwnRess.stored {w : World} {base g j : Nat} {u v : Value} {m : List (List (Int × Int))} {cs : Array Value} {e : TypeId} {fr : Nat × Nat} (h : OwnRess w base u m) (hg : g < base) (hb : w.heap[g]? = some (.cells cs e fr)) (he : e ≠ 80) : OwnRess (w.setCell ⟨g, j, none⟩ v) base u m :=
  h.beside (grown_setCell w ⟨g, j, none⟩ v) (h.low hg) (fun k hk => by cases hk; exact ⟨cs, e, fr, hb, he⟩)

/-- Those of the first k that go to side b. -/
def divL (R : List (List (Int × Int))) (f : Nat → Int) (b : Int) : Nat → List (List (Int × Int))
  | 0 => []
  | k + 1 => if f k = b then divL R f b k ++ (R[k]?).toList else divL R f b k
theorem divL_mem {R : List (List (Int × Int))} {f : Nat → Int} {b : Int} : ∀ k, ∀ r ∈ divL R f b k, r ∈ R
  | 0, r, h => by simp [divL] at h
  | k + 1, r, h => by
    unfold divL at h
    split at h
    · rcases List.mem_append.1 h with h | h
      · exact divL_mem k r h
      · exact List.mem_of_getElem? (by simpa using h)
    · exact divL_mem k r h
theorem divL_len {R : List (List (Int × Int))} {f : Nat → Int} : ∀ k, k ≤ R.length → (∀ j, f j = 0 ∨ f j = 1) → (divL R f 0 k).length + (divL R f 1 k).length = k
  | 0, _, _ => rfl
  | k + 1, h, hf => by
    have ih := divL_len (R := R) (f := f) k (by omega) hf
    have hk : R[k]? = some R[k] := List.getElem?_eq_getElem (by omega)
    unfold divL
    rw [hk]
    rcases hf k with e | e
    · rw [if_pos e, if_neg (show ¬ f k = 1 by omega), List.length_append]; simp; omega
    · rw [if_neg (show ¬ f k = 0 by omega), if_pos e, List.length_append]; simp; omega
theorem divL_hit {R : List (List (Int × Int))} {f : Nat → Int} {b : Int} {k : Nat} {r : List (Int × Int)} (hr : R[k]? = some r) (h : f k = b) : divL R f b (k + 1) = divL R f b k ++ [r] := by
  conv => lhs; unfold divL
  rw [if_pos h, hr]; rfl
theorem divL_miss {R : List (List (Int × Int))} {f : Nat → Int} {b : Int} {k : Nat} (h : f k ≠ b) : divL R f b (k + 1) = divL R f b k := by
  conv => lhs; unfold divL
  rw [if_neg h]

/-- The array of the two fields at the block g, behind k results. -/
def DivRel (w1 : World) (T : TypeId) (R : List (List (Int × Int))) (f : Nat → Int) (i : Value) (wr : World) : Prop :=
  ∃ (k : Nat) (v0 v1 : Value), k ≤ R.length ∧ i = .int .i64 k ∧ wr.heap[w1.heap.size]? = some (.cells #[v0, v1] T (0, 0)) ∧ OwnRess wr (w1.heap.size + 1) v0 (divL R f 0 k) ∧ OwnRess wr (w1.heap.size + 1) v1 (divL R f 1 k) ∧
    (v0.ownBlock = none ∨ v1.ownBlock = none ∨ v0.ownBlock ≠ v1.ownBlock) ∧ Below w1.heap.size w1 wr

/-- An append to one of two rows, stored into the array. -/
theorem div_push {w w3 : World} {base g gg cap j : Nat} {v u : Value} {cs : Array Value} {T : TypeId} {fr : Nat × Nat} {l m : List (List (Int × Int))} {r : List (Int × Int)} {Ai : Option Addr} {ci : Nat} {vs : List Value}
    (h1 : w.ownsRow base 35 1 v l.length vs) (h2 : ∀ (i : Nat) (r : List (Int × Int)), l[i]? = some r → ∃ Ai ci, vs[i]? = some (.slice Ai r.length ci) ∧ PartsB w Ai r) (hr : PartsB w Ai r)
    (hu : OwnRess w base u m) (hb : w.heap[g]? = some (.cells cs T fr)) (hg : g < base) (hT : T ≠ 80)
    (hd : v.ownBlock = none ∨ u.ownBlock = none ∨ v.ownBlock ≠ u.ownBlock)
    (hown : w3.ownsRow base 35 1 (.slice (some ⟨gg, 0, none⟩) (l.length + 1) cap) (l.length + 1) (vs ++ [.slice Ai r.length ci])) (hgrow : w.grownBy w3 v.ownBlock) (hat : v.ownBlock = some gg ∨ gg = w.heap.size) :
    OwnRess (w3.setCell ⟨g, j, none⟩ (.slice (some ⟨gg, 0, none⟩) (l.length + 1) cap)) base (.slice (some ⟨gg, 0, none⟩) (l.length + 1) cap) (l ++ [r]) ∧
    OwnRess (w3.setCell ⟨g, j, none⟩ (.slice (some ⟨gg, 0, none⟩) (l.length + 1) cap)) base u m ∧ ((Value.slice (some ⟨gg, 0, none⟩) (l.length + 1) cap).ownBlock = none ∨ u.ownBlock = none ∨ (Value.slice (some ⟨gg, 0, none⟩) (l.length + 1) cap).ownBlock ≠ u.ownBlock) ∧ w3.heap[g]? = some (.cells cs T fr) := by
  have hne : ∀ g, v.ownBlock = some g → ∃ cs e fr, w.heap[g]? = some (.cells cs e fr) ∧ e ≠ 80 := by
    intro g hg'
    rcases h1.2 with ⟨rfl, _⟩ | ⟨g', cap, cur, rfl, _, hh, _⟩
    · simp [Value.ownBlock] at hg'
    · simp [Value.ownBlock] at hg'
      subst hg'
      exact ⟨cur, 35, (0, 0), hh, by decide⟩
  have hvg : v.ownBlock ≠ some g := fun e => by have := (h1.lt g e).1; omega
  have hb3 : w3.heap[g]? = some (.cells cs T fr) := by
    rw [hgrow.block g (Array.getElem?_eq_some_iff.1 hb).1 (fun e => hvg e.symm)]; exact hb
  have hO : OwnRess w3 base (.slice (some ⟨gg, 0, none⟩) (l.length + 1) cap) (l ++ [r]) := OwnRess.push h1 h2 hr hown hgrow
  have hU : OwnRess w3 base u m := hu.beside hgrow (by
    rcases hd with e | e | e
    · cases hub : u.ownBlock with
      | none => exact .inl rfl
      | some x => right; rw [e]; simp
    · exact .inl e
    · exact .inr (fun e' => e e'.symm)) hne
  refine ⟨hO.stored hg hb3 hT, hU.stored hg hb3 hT, ?_, hb3⟩
  cases hub : u.ownBlock with
  | none => exact .inr (.inl rfl)
  | some x =>
    right; right
    obtain ⟨vu, hu1, -⟩ := hu
    have hx := (hu1.lt x hub).2
    intro e
    simp only [Value.ownBlock, Option.some.injEq] at e
    subst e
    rcases hat with e | e
    · rcases hd with h | h | h
      · rw [h] at e; simp at e
      · rw [h] at hub; simp at hub
      · exact h (e.trans hub.symm)
    · omega
/-- Results that lie in blocks of their own kind. -/
def RessB (w : World) (A : Option Addr) (l : List (List (Int × Int))) : Prop :=
  ∀ (i : Nat) (r : List (Int × Int)), l[i]? = some r → ∃ b o : Nat, A = some ⟨b, o, none⟩ ∧ ∃ Ai ci, w.cell? ⟨b, o + i, none⟩ = some (.slice Ai r.length ci) ∧ PartsB w Ai r
theorem RessB.later {w w' : World} {A : Option Addr} {l : List (List (Int × Int))} (h : RessB w A l) (hb : Below w.heap.size w w') : RessB w' A l := fun i r hr =>
  let ⟨b, o, h1, Ai, ci, h2, h3⟩ := h i r hr
  ⟨b, o, h1, Ai, ci, cell_later hb h2, h3.later hb⟩
theorem OwnRess.ressB {w : World} {base : Nat} {A : Option Addr} {c : Nat} {l : List (List (Int × Int))} (h : OwnRess w base (.slice A l.length c) l) : RessB w A l := by
  obtain ⟨vs, h1, h2⟩ := h
  rcases h1.2 with ⟨_, h0⟩ | ⟨g, cap, cur, hv, hb, _⟩
  · exact fun i p hp => by
      have : l = [] := List.eq_nil_of_length_eq_zero h0
      subst this; simp at hp
  · simp only [Value.slice.injEq] at hv
    refine fun i r hr => ⟨g, 0, hv.1, ?_⟩
    obtain ⟨Ai, ci, e1, e2⟩ := h2 i r hr
    have hc := h1.cells (g := g) (by rw [hv.1]; rfl) i _ e1
    refine ⟨Ai, ci, ?_, e2⟩
    simp only [Addr.add] at hc
    by_cases hz : i = 0
    · subst hz; simpa using hc
    · simpa [hz] using hc
theorem OwnRess.ress' {w : World} {base : Nat} {v : Value} {l : List (List (Int × Int))} (h : OwnRess w base v l) : ∃ A c, v = .slice A l.length c ∧ Ress w A l ∧ RessB w A l := by
  obtain ⟨A, c, rfl, hR⟩ := h.ress
  exact ⟨A, c, rfl, hR, h.ressB⟩
end Go.Proofs.YtkocgknidpmcmaaDoor
