/- An append that leaves its row as it was. -/
import Derived.Test.YtkocgknidpmcmaaDoorAll
import Derived.ArgAppend
import Derived.Deep.Onto
namespace Go.Proofs.YtkocgknidpmcmaaDoor
open Go.RowKit
set_option linter.unusedVariables false
set_option linter.unusedSimpArgs false

theorem own_shorter {w : World} {base : Nat} {e : TypeId} {size g n m cap : Nat} {xs news : List Value} (hx : xs.length = n * size)
    (h : w.ownsRow base e size (.slice (some ⟨g, 0, none⟩) (n + m) cap) (n + m) (xs ++ news)) : w.ownsRow base e size (.slice (some ⟨g, 0, none⟩) n cap) n xs := by
  refine ⟨hx, ?_⟩
  rcases h.2 with ⟨h', _⟩ | ⟨g', cap', cur, h', hb, hg, hnc, hcm, hcs, htake⟩
  · cases h'
  · simp only [Value.slice.injEq, Option.some.injEq, Addr.mk.injEq, and_true, true_and] at h'
    obtain ⟨rfl, rfl⟩ := h'
    refine .inr ⟨g, cap, cur, rfl, hb, hg, by omega, hcm, hcs, ?_⟩
    have : (cur.toList.take ((n + m) * size)).take (n * size) = xs := by rw [htake, ← hx, List.take_left]
    rw [List.take_take, Nat.min_eq_left (Nat.mul_le_mul_right _ (by omega))] at this
    exact this
theorem grown_any {w w' : World} {row : Option Nat} (h : w.grownBy w' none) : w.grownBy w' row := ⟨h.os, h.tape, h.output, h.size, fun k hk _ => h.block k hk (by simp)⟩

theorem wpList_append_keep {P : Program} (w : World) {ops : Array Oper} {rest : List Oper} {o : Oper} {a : Act} {Q : Exit → Act → World → Prop} (hgd : o.guard = none) (s x : Operand) (t : TypeId)
    (ho : o.op = .call { callee := .builtin .append, args := #[s, x], argTypes := #[t, t] })
    (base : Nat) (e : TypeId) (i : TypeInfo) (z : Value) (size bytes : Nat) (ht : P.underlying t = some (.slice e)) (hi : P.info? e = some i) (hz : i.zero = some z)
    (hsize : i.size = size) (hby : i.bytes = bytes) (hzs : z.cells.size = size) (hsz : 0 < size)
    (v : Value) (n : Nat) (xs : List Value) (hs : a.eval s = v) (hown : w.ownsRow base e size v n xs)
    (ad : Addr) (m c : Nat) (news : List Value) (hx : a.eval x = .slice (some ad) m c) (hl : news.length = m * size) (hnews : ∀ j u, news[j]? = some u → w.cell? (ad.add j) = some u) (h1 : ∀ u ∈ news, u.oneCell' = true)
    (h63 : n + m ≤ maxLen) (hbytes : (n + m) * bytes ≤ 140737488355328) (hbase : base ≤ w.heap.size)
    (h : ∀ v' w', w'.ownsRow base e size v' (n + m) (xs ++ news) → w.grownBy w' v.ownBlock → w'.ownsRow base e size v n xs → wpList P ops Q rest (a.put o.dst v') w') : wpList P ops Q (o :: rest) a w := by
  rcases hown.2 with ⟨rfl, rfl⟩ | ⟨g, cap, cur, rfl, hb, hg, hnc, hcm, hcs, htake⟩
  · have hx0 : xs = [] := List.eq_nil_of_length_eq_zero (by simpa using hown.1)
    subst hx0
    exact wpList_append_own w hgd s x t ho base e i z size bytes ht hi hz hsize hby hzs hsz _ 0 [] hs hown ad m c news hx hl hnews h1 h63 hbytes hbase fun v' w' h2 h3 _ => h v' w' h2 h3 (World.ownsRow_nil _ _ _ _)
  · by_cases hroom : n + m ≤ cap
    · exact wpList_append_fits w hgd s x t ho base e i size ht hi hsize g n cap xs hs hown ad m c news hx hl hnews h1 hroom fun w' h2 h3 => h _ w' h2 h3 (own_shorter hown.1 h2)
    · exact wpList_append_grows w hgd s x t ho e i z size bytes ht hi hz hsize hby hzs hsz (some ⟨g, 0, none⟩) n cap xs hs (by simp) hown.1 (fun b hb' => by cases hb'; exact hown.cells rfl) ad m c news hx hl hnews h1 (by omega) h63 hbytes
        fun v' w' h2 h3 => h v' w' (h2.mono hbase) (grown_any h3) (hown.kept h3 (Or.inr (by simp [Value.ownBlock])))

/-- A row of results behind an append: the longer row, and the row as it was. -/
theorem OwnRess.keep {w w' : World} {base : Nat} {v : Value} {l : List (List (Int × Int))} {vs : List Value} (h1 : w.ownsRow base 35 1 v l.length vs)
    (h2 : ∀ (i : Nat) (r : List (Int × Int)), l[i]? = some r → ∃ Ai ci, vs[i]? = some (.slice Ai r.length ci) ∧ PartsB w Ai r)
    (hk : w'.ownsRow base 35 1 v l.length vs) (hg : w.grownBy w' v.ownBlock) : OwnRess w' base v l := by
  have hne : ∀ g, v.ownBlock = some g → ∃ cs e fr, w.heap[g]? = some (.cells cs e fr) ∧ e ≠ 80 := by
    intro g hg'
    rcases h1.2 with ⟨rfl, _⟩ | ⟨g', cap, cur, rfl, _, hh, _⟩
    · simp [Value.ownBlock] at hg'
    · simp [Value.ownBlock] at hg'
      subst hg'
      exact ⟨cur, 35, (0, 0), hh, by decide⟩
  exact ⟨vs, hk, fun i r hi => let ⟨Ai, ci, e1, e2⟩ := h2 i r hi; ⟨Ai, ci, e1, e2.grown hg hne⟩⟩
/-- Parts stay where a row of results is written. -/
theorem PartsB.grownRes {w w' : World} {base : Nat} {v : Value} {n : Nat} {vs : List Value} {A : Option Addr} {r : List (Int × Int)} (h : PartsB w A r) (h1 : w.ownsRow base 35 1 v n vs) (hg : w.grownBy w' v.ownBlock) : PartsB w' A r :=
  h.grown hg (by
    intro g hg'
    rcases h1.2 with ⟨rfl, _⟩ | ⟨g', cap, cur, rfl, _, hh, _⟩
    · simp [Value.ownBlock] at hg'
    · simp [Value.ownBlock] at hg'
      subst hg'
      exact ⟨cur, 35, (0, 0), hh, by decide⟩)
end Go.Proofs.YtkocgknidpmcmaaDoor
