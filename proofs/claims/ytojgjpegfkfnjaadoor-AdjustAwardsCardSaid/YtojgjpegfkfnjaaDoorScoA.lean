/- score: the inner functions, at contracts that are right. -/
import Derived.Test.YtojgjpegfkfnjaaDoorProg
import Derived.Test.YtojgjpegfkfnjaaDoorNum
import Derived.WalkSpells
import Derived.WalkLawsBesides
import Derived.Lib.Hide
import Derived.Deep.QuietTactic
import Derived.BigQuiet
import Derived.Laws.BitsAllLaws
namespace Go.Proofs.YtojgjpegfkfnjaaDoor
open Go.RowKit
set_option linter.unusedVariables false
set_option linter.unusedSimpArgs false

theorem sbtr {w0 w1 w2 : World} (h1 : Below w0.heap.size w0 w1) (h2 : Below w1.heap.size w1 w2) : Below w0.heap.size w0 w2 := h1.trans (h2.mono h1.size)
theorem sst1 (w : World) (o : Obj) : Below w.heap.size w (w.alloc o) := (Below.refl _ _).alloc (Nat.le_refl _) _

def byZ (v : Bool) (no yes : Int) : Int := if v then yes else no
theorem by_any (v : Bool) (x y : Int) (w : World) : Calls Tryd.prog 109 #[.bool v, .int .i64 x, .int .i64 y] w fun e w' => e = .returned (.int .i64 (byZ v x y)) ∧ w = w' := by
  cases v
  · go_enter Tryd.func109, Tryd.ntmps109
    go_wp2_with fail
    go_ret
    exact ⟨rfl, rfl⟩
  · go_enter Tryd.func109, Tryd.ntmps109
    go_wp2_with fail
    go_ret
    exact ⟨rfl, rfl⟩

def okC (l d r s : Int) : Prop := (1 ≤ l ∧ l ≤ 7) ∧ (0 ≤ d ∧ d ≤ 4) ∧ (0 ≤ r ∧ r ≤ 1) ∧ 0 ≤ s ∧ s ≤ 3
theorem right_ok (l d r s : Int) (w : World) (h : okC l d r s) : Calls Tryd.prog 108 #[.agg #[.int .u8 l, .int .u8 d, .int .u8 r, .int .u8 s]] w fun e w' => e = .returned (.bool true) ∧ Below w.heap.size w w' := by
  obtain ⟨hl, hd, hr, hs⟩ := h
  have h0 : (l == 0) = false := beq_eq_false_iff_ne.2 (by omega)
  have h1 : decide (l ≤ 7) = true := by simp; omega
  have h2 : decide (d ≤ 4) = true := by simp; omega
  have h3 : decide (r ≤ 2) = true := by simp; omega
  have h4 : decide (s ≤ 3) = true := by simp; omega
  go_enter Tryd.func108, Tryd.ntmps108
  go_wp2_with fail
  go_ret
  exact ⟨by simp [h1, h2, h3, h4], sst1 _ _⟩
theorem sc_later {w w' : World} {a : Addr} {v : Value} (hb : Below w.heap.size w w') (h : w.cell? a = some v) : w'.cell? a = some v := (hb.cell (World.block_lt_of_cell? _ _ h)).trans h
/-- A contract that lies in a block of its own. -/
structure Quad (w : World) (g : Nat) (l d r s : Int) : Prop where
  c0 : w.cell? ⟨g, 0, none⟩ = some (.int .u8 l)
  c1 : w.cell? ⟨g, 1, none⟩ = some (.int .u8 d)
  c2 : w.cell? ⟨g, 2, none⟩ = some (.int .u8 r)
  c3 : w.cell? ⟨g, 3, none⟩ = some (.int .u8 s)
theorem Quad.later {w w' : World} {g : Nat} {l d r s : Int} (h : Quad w g l d r s) (hb : Below w.heap.size w w') : Quad w' g l d r s := ⟨sc_later hb h.c0, sc_later hb h.c1, sc_later hb h.c2, sc_later hb h.c3⟩
theorem box4 (w : World) (l d r s : Int) : ∃ W g, W = w.alloc (.cells #[.int .u8 l, .int .u8 d, .int .u8 r, .int .u8 s] 23) ∧ g = w.heap.size ∧ Quad W g l d r s ∧ Below w.heap.size w W :=
  ⟨_, _, rfl, rfl, ⟨by go_simp, by go_simp, by go_simp, by go_simp⟩, sst1 _ _⟩
set_option maxHeartbeats 1000000 in
theorem need_ok (l d r s : Int) (w : World) (h : okC l d r s) : Calls Tryd.prog 99 #[.agg #[.int .u8 l, .int .u8 d, .int .u8 r, .int .u8 s]] w fun e w' => e = .returned (.int .i64 (6 + l)) ∧ Below w.heap.size w w' := by
  have HR := Sec.mk fun w' => right_ok l d r s w' h
  obtain ⟨hl, hd, hr, hs⟩ := h
  have h0 : (l == 0) = false := beq_eq_false_iff_ne.2 (by omega)
  have hw : IntKind.i64.wrap (6 + l) = 6 + l := IntWalk.i64_in _ ⟨by omega, by omega⟩
  go_enter Tryd.func99, Tryd.ntmps99
  go_wp2_with fail
  obtain ⟨W, g, e1, e2, P, hB⟩ := box4 w l d r s
  rw [← e1, ← e2]
  clear e1 e2
  refine (HR.out _).mono ?_
  rintro e w1 ⟨rfl, hb1⟩
  obtain ⟨c0, c1, c2, c3⟩ := P.later hb1
  go_wp2_with fail
  go_ret
  exact ⟨rfl, sbtr hB hb1⟩
set_option maxHeartbeats 1000000 in
theorem result_ok (l d r s n : Int) (w : World) (h : okC l d r s) (hn : 0 ≤ n ∧ n ≤ 13) : Calls Tryd.prog 100 #[.agg #[.int .u8 l, .int .u8 d, .int .u8 r, .int .u8 s], .int .i64 n] w fun e w' => e = .returned (.bool true) ∧ Below w.heap.size w w' := by
  have HR := Sec.mk fun w' => right_ok l d r s w' h
  obtain ⟨hl, hd, hr, hs⟩ := h
  have h0 : decide (0 < l) = true := by simp; omega
  have h1 : decide (0 ≤ n) = true := by simp; omega
  have h2 : decide (n ≤ 13) = true := by simp; omega
  go_enter Tryd.func100, Tryd.ntmps100
  go_wp2_with fail
  obtain ⟨W, g, e1, e2, P, hB⟩ := box4 w l d r s
  rw [← e1, ← e2]
  clear e1 e2
  refine (HR.out _).mono ?_
  rintro e w1 ⟨rfl, hb1⟩
  obtain ⟨c0, c1, c2, c3⟩ := P.later hb1
  go_wp2_with fail
  go_ret
  exact ⟨by simp [h0, h1, h2], sbtr hB hb1⟩
/-- Vulnerability v of the seat s. -/
def vulB (v s : Int) : Bool := decide (v / 2 ^ (s % 2).toNat % 2 = 1)
set_option maxHeartbeats 1000000 in
theorem vul_ok (v s : Int) (w : World) (hv : 0 ≤ v ∧ v ≤ 3) (hs : 0 ≤ s ∧ s ≤ 3) : Calls Tryd.prog 78 #[.int .u8 v, .int .u8 s] w fun e w' => e = .returned (.bool (vulB v s)) ∧ Below w.heap.size w w' := by
  have h1 : decide (v ≤ 3) = true := by simp; omega
  have h2 : decide (s ≤ 3) = true := by simp; omega
  have e2 : s % 2 = 0 ∨ s % 2 = 1 := by omega
  have h3 : v = 0 ∨ v = 1 ∨ v = 2 ∨ v = 3 := by omega
  rcases e2 with e2 | e2 <;> rcases h3 with rfl | rfl | rfl | rfl
  all_goals
    go_enter Tryd.func78, Tryd.ntmps78
    go_wp2_with fail
    go_ret
    exact ⟨by simp [h2, vulB, e2]; decide, Below.refl _ _⟩
end Go.Proofs.YtojgjpegfkfnjaaDoor
