/- Package match: rows of results; small functions; the chapter's examples. -/
import Derived.Test.YtojgjpegfkfnjaaDoorMatD
namespace Go.Proofs.YtojgjpegfkfnjaaDoor
open Go.RowKit
set_option linter.unusedVariables false
set_option linter.unusedSimpArgs false

/-- Parts that lie in a block of parts. -/
def PartsB (w : World) (A : Option Addr) (r : List (Int × Int)) : Prop :=
  Parts w A r ∧ ∀ a, A = some a → ∃ cs fr, w.heap[a.block]? = some (.cells cs 47 fr)
theorem heap_lt {w : World} {b : Nat} {o : Obj} (h : w.heap[b]? = some o) : b < w.heap.size := (Array.getElem?_eq_some_iff.1 h).1
theorem PartsB.later {w w' : World} {A : Option Addr} {r : List (Int × Int)} (h : PartsB w A r) (hb : Below w.heap.size w w') : PartsB w' A r :=
  ⟨h.1.later hb, fun a ha => let ⟨cs, fr, e⟩ := h.2 a ha; ⟨cs, fr, (hb.block _ (heap_lt e)).trans e⟩⟩
/-- A row of another type is written: the parts stay. -/
theorem PartsB.grown {w w' : World} {A : Option Addr} {r : List (Int × Int)} {row : Option Nat} (h : PartsB w A r) (hg : w.grownBy w' row)
    (hr : ∀ g, row = some g → ∃ cs e fr, w.heap[g]? = some (.cells cs e fr) ∧ e ≠ 47) : PartsB w' A r := by
  have key : ∀ a, A = some a → w'.heap[a.block]? = w.heap[a.block]? := by
    intro a ha
    obtain ⟨cs, fr, e⟩ := h.2 a ha
    refine hg.block _ (heap_lt e) ?_
    intro hrow
    obtain ⟨cs', e', fr', h1, h2⟩ := hr _ hrow.symm
    rw [h1] at e
    injection e with e
    injection e with _ e
    exact h2 e
  refine ⟨fun i p hp => ?_, fun a ha => ?_⟩
  · obtain ⟨b, o, rfl, h1, h2⟩ := h.1 i p hp
    have hk := key _ rfl
    exact ⟨b, o, rfl, (World.cell?_of_block (w := w) (w' := w') (a := ⟨b, o + i * 2, none⟩) hk).trans h1, (World.cell?_of_block (w := w) (w' := w') (a := ⟨b, o + i * 2 + 1, none⟩) hk).trans h2⟩
  · obtain ⟨cs, fr, e⟩ := h.2 a ha
    exact ⟨cs, fr, (key a ha).trans e⟩
theorem partsB_of_own {w : World} {base : Nat} {v : Value} {r : List (Int × Int)} (h : w.ownsRow base 47 2 v r.length (partCells r)) :
    ∃ A c, v = .slice A r.length c ∧ PartsB w A r ∧ (∀ b, A = some b → base ≤ b.block) := by
  obtain ⟨A, c, hv, hp, hb⟩ := parts_of_own h
  refine ⟨A, c, hv, ⟨hp, fun a ha => ?_⟩, hb⟩
  rcases h.2 with ⟨h0, _⟩ | ⟨g, cap, cur, hv', _, hh, _⟩
  · rw [hv, ha] at h0; cases h0
  · rw [hv, ha] at hv'
    injection hv' with hv'
    injection hv' with hv'
    subst hv'
    exact ⟨cur, (0, 0), hh⟩

/-- A row of the call's own that holds results. -/
def OwnRess (w : World) (base : Nat) (v : Value) (l : List (List (Int × Int))) : Prop :=
  ∃ vs : List Value, w.ownsRow base 31 1 v l.length vs ∧ ∀ (i : Nat) (r : List (Int × Int)), l[i]? = some r → ∃ Ai ci, vs[i]? = some (.slice Ai r.length ci) ∧ PartsB w Ai r
theorem OwnRess.nil (w : World) (base : Nat) : OwnRess w base (.slice none 0 0) [] := ⟨[], World.ownsRow_nil _ _ _ _, fun i r h => by simp at h⟩
theorem OwnRess.later {w w' : World} {base : Nat} {v : Value} {l : List (List (Int × Int))} (h : OwnRess w base v l) (hb : Below w.heap.size w w') : OwnRess w' base v l :=
  let ⟨vs, h1, h2⟩ := h
  ⟨vs, own_below h1 hb, fun i r hr => let ⟨Ai, ci, e1, e2⟩ := h2 i r hr; ⟨Ai, ci, e1, e2.later hb⟩⟩
theorem OwnRess.push {w w' : World} {base : Nat} {v v' : Value} {l : List (List (Int × Int))} {r : List (Int × Int)} {Ai : Option Addr} {ci : Nat} {vs : List Value} (h1 : w.ownsRow base 31 1 v l.length vs) (h2 : ∀ (i : Nat) (r : List (Int × Int)), l[i]? = some r → ∃ Ai ci, vs[i]? = some (.slice Ai r.length ci) ∧ PartsB w Ai r) (hr : PartsB w Ai r)
    (hown : w'.ownsRow base 31 1 v' (l.length + 1) (vs ++ [.slice Ai r.length ci])) (hg : w.grownBy w' v.ownBlock) : OwnRess w' base v' (l ++ [r]) := by
  have hne : ∀ g, v.ownBlock = some g → ∃ cs e fr, w.heap[g]? = some (.cells cs e fr) ∧ e ≠ 47 := by
    intro g hg'
    rcases h1.2 with ⟨rfl, _⟩ | ⟨g', cap, cur, rfl, _, hh, _⟩
    · simp [Value.ownBlock] at hg'
    · simp [Value.ownBlock] at hg'
      subst hg'
      exact ⟨cur, 31, (0, 0), hh, by decide⟩
  have hlen : vs.length = l.length := by have := h1.1; simpa using this
  refine ⟨vs ++ [.slice Ai r.length ci], by simpa using hown, fun i r' hi => ?_⟩
  rcases Nat.lt_or_ge i l.length with hlt | hge
  · rw [List.getElem?_append_left hlt] at hi
    obtain ⟨Bi, di, e1, e2⟩ := h2 i r' hi
    exact ⟨Bi, di, by rw [List.getElem?_append_left (by omega)]; exact e1, e2.grown hg hne⟩
  · rw [List.getElem?_append_right hge] at hi
    have hi0 : i - l.length = 0 := by
      rcases Nat.eq_zero_or_pos (i - l.length) with h | h
      · exact h
      · rw [List.getElem?_eq_none (by simp only [List.length_cons, List.length_nil]; omega)] at hi; cases hi
    rw [hi0] at hi
    simp at hi
    subst hi
    have : i = vs.length := by omega
    subst this
    exact ⟨Ai, ci, by simp, hr.grown hg hne⟩
theorem OwnRess.ress {w : World} {base : Nat} {v : Value} {l : List (List (Int × Int))} (h : OwnRess w base v l) : ∃ A c, v = .slice A l.length c ∧ Ress w A l := by
  obtain ⟨vs, h1, h2⟩ := h
  rcases h1.2 with ⟨rfl, h0⟩ | ⟨g, cap, cur, hv, hb, _⟩
  · rw [h0]
    exact ⟨none, 0, rfl, fun i p hp => by
      have : l = [] := List.eq_nil_of_length_eq_zero h0
      subst this; simp at hp⟩
  · refine ⟨_, _, hv, fun i r hr => ⟨g, 0, rfl, ?_⟩⟩
    obtain ⟨Ai, ci, e1, e2⟩ := h2 i r hr
    have hc := h1.cells (g := g) (by rw [hv]; rfl) i _ e1
    refine ⟨Ai, ci, ?_, e2.1⟩
    simp only [Addr.add] at hc
    by_cases hz : i = 0
    · subst hz; simpa using hc
    · simpa [hz] using hc

/-! ### small functions -/
theorem top_small (n : Int) (w : World) (h : 0 ≤ n ∧ n ≤ 1000000) : Calls Tryd.prog 65 #[.int .i64 n] w fun e w' => e = .returned (.int .i64 (if n < 1 then 0 else 2 * (n - 1))) ∧ w = w' := by
  by_cases h1 : n < 1
  · go_enter Tryd.func65, Tryd.ntmps65
    go_wp2
    go_ret
    exact ⟨ret_i (by simp [h1]), rfl⟩
  · go_enter Tryd.func65, Tryd.ntmps65
    go_wp2
    go_ret
    exact ⟨ret_i (by first | (simp [h1]; done) | (simp [h1]; omega)), rfl⟩
theorem one_any (n : Int) (w : World) : Calls Tryd.prog 57 #[.int .i64 n] w fun e w' => e = .returned (.slice (some ⟨w.heap.size, 0, none⟩) 1 1) ∧ w.alloc (.cells #[.int .i64 n, .int .i64 100] 47) = w' := by
  go_enter Tryd.func57, Tryd.ntmps57
  go_wp2
  go_ret
  exact ⟨rfl, rfl⟩
theorem parts_block1 (w : World) (a b : Int) : PartsB (w.alloc (.cells #[.int .i64 a, .int .i64 b] 47)) (some ⟨w.heap.size, 0, none⟩) [(a, b)] := by
  refine ⟨fun i p hp => ?_, fun a' ha => ?_⟩
  · match i, hp with
    | 0, hp => simp at hp; subst hp; exact ⟨w.heap.size, 0, rfl, by go_simp, by go_simp⟩
  · cases ha
    exact ⟨_, (0, 0), heap_alloc_new w _⟩

theorem infoRes : (Tryd.prog.info? 31).map (fun i => (i.zero, i.size, i.bytes)) = some (some (.slice none 0 0), 1, 24) := by kernel_rfl

/-- The address A is that of these integers. -/
def Ints (w : World) (k : IntKind) (A : Option Addr) (l : List Int) : Prop :=
  ∀ (i : Nat) (x : Int), l[i]? = some x → ∃ b o : Nat, A = some ⟨b, o, none⟩ ∧ w.cell? ⟨b, o + i, none⟩ = some (.int k x)
theorem Ints.later {w w' : World} {k : IntKind} {A : Option Addr} {l : List Int} (h : Ints w k A l) (hb : Below w.heap.size w w') : Ints w' k A l := fun i x hx =>
  let ⟨b, o, h1, h2⟩ := h i x hx
  ⟨b, o, h1, cell_later hb h2⟩

theorem news1 {w : World} {x : Value} {T : Nat} (g : Nat) (hg : g = w.heap.size) : ∀ j u, [x][j]? = some u → (w.alloc (.cells #[x] T)).cell? ((⟨g, 0, none⟩ : Addr).add j) = some u := by
  intro j u hj
  subst hg
  match j, hj with
  | 0, hj => simp at hj; subst hj; simp [Addr.add]

end Go.Proofs.YtojgjpegfkfnjaaDoor
