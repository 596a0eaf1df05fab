/- par: above, its closure as an iterator; the two comparisons of choose. -/
import Derived.RangeFuncFrom
import Derived.RangeFuncNested
import Derived.RangeFuncBound
import Derived.RangeFuncCalls
import Derived.RangeFuncLeaves
import Derived.Shelf.Abstract
import Derived.Shelf.RegionOpen
import Derived.WalkKit
import Derived.OwnWalkIn
import Derived.TacticsInMore
import Derived.LoopNIn
import Derived.LoopIn
import Derived.Test.YtfacmkelbjfffaaParC
namespace Go.Proofs.Ytfacmkelbjfffaa
open Go.RowKit Go.Shelf
set_option linter.unusedVariables false
set_option linter.unusedSimpArgs false

theorem pcell_of_box {W : World} {B : Nat} {v : Value} {t : TypeId} (h : W.heap[B]? = some (.cells #[v] t (0, 0))) : W.cell? ⟨B, 0, none⟩ = some v ∧ W.frozen? ⟨B, 0, none⟩ = false := by
  constructor <;> simp [World.cell?, World.frozen?, h]
theorem pcell_new (W : World) (v : Value) (t : TypeId) : (W.alloc (.cells #[v] t)).cell? ⟨W.heap.size, 0, none⟩ = some v ∧ (W.alloc (.cells #[v] t)).frozen? ⟨W.heap.size, 0, none⟩ = false :=
  pcell_of_box (World.alloc_heap_new W _)

/-- The bids above one. -/
def aboveL (b : Nat) : List Nat := List.range' (max (b + 1) 3) (38 - max (b + 1) 3)
abbrev BidIx (b : Nat) := { x : Nat // b < x ∧ 3 ≤ x ∧ x ≤ 37 }

theorem above_ok (b : Int) (w : World) : Calls Try.prog 35 #[.int .u8 b] w fun e w' => e = .returned (.func (.func 40) #[] #[.pointer (some ⟨w.heap.size, 0, none⟩)]) ∧ w' = w.alloc (.cells #[.int .u8 b] 5) := by
  go_enter Try.func35, Try.ntmps35
  go_wp2_with fail
  go_ret
  exact ⟨rfl, rfl⟩

theorem choose1_ok (x y : Int) (w : World) : Calls Try.prog 33 #[.int .i64 x, .int .i64 y] w fun e w' => e = .returned (.bool (decide (y < x))) ∧ w' = w := by
  go_enter Try.func33, Try.ntmps33
  go_wp2_with fail
  go_ret
  exact ⟨rfl, rfl⟩
theorem choose2_ok (x y : Int) (w : World) : Calls Try.prog 34 #[.int .i64 x, .int .i64 y] w fun e w' => e = .returned (.bool (decide (x < y))) ∧ w' = w := by
  go_enter Try.func34, Try.ntmps34
  go_wp2_with fail
  go_ret
  exact ⟨rfl, rfl⟩

def AbRel (b : Nat) (J : List (BidIx b) → World → Prop) (i : Value) (wr : World) : Prop :=
  ∃ (c : Nat) (pre : List (BidIx b)), i = .int .u8 c ∧ max (b + 1) 3 ≤ c ∧ c ≤ 38 ∧ pre.map (·.1) = List.range' (max (b + 1) 3) (c - max (b + 1) 3) ∧ J pre wr
set_option maxRecDepth 100000 in
set_option maxHeartbeats 2000000 in
/-- The closure of above yields the bids above b, in order, until a round says no. -/
theorem above1_in (F : Fence) (n : Nat) (hf : F.fn 40) (hro : F.round = none) (hn : 1 ≤ n) (l Bn b : Nat) (hb : b ≤ 37) (J Jx : List (BidIx b) → World → Prop)
    (hY : ∀ pre x W, J pre W → pre.length < 40 → YieldAt F (n - 1) Try.prog l #[.int .u8 (x.1 : Int)] W fun e W' =>
      (e = .returned (.bool true) ∧ J (pre ++ [x]) W' ∧ True) ∨ (e = .returned (.bool false) ∧ Jx (pre ++ [x]) W'))
    (W : World) (hBn : W.cell? ⟨Bn, 0, none⟩ = some (.int .u8 (b : Int))) (h0 : J [] W) :
    CallsIn F n Try.prog 40 #[.func (.yield l) #[] #[], .pointer (some ⟨Bn, 0, none⟩)] W fun e W' => (∃ v, e = .returned v) ∧
      ((∃ ys : List (BidIx b), ys.map (·.1) = aboveL b ∧ J ys W') ∨ (∃ pre : List (BidIx b), True ∧ Jx pre W')) := by
  refine callsIn_of_wp Try.func40 rfl hf ?_ hro
  simp only [Try.ntmps40, List.size_toArray, List.length_cons, List.length_nil, Nat.reduceAdd, Nat.reduceSub, Array.replicate_succ, Array.replicate_zero, List.push_toArray, List.append_toArray, List.nil_append, List.cons_append]
  have hw : IntKind.u8.wrap ((b : Int) + 1) = (b : Int) + 1 := IntWalk.u8_in _ ⟨by omega, by omega⟩
  rcases (by omega : (b : Int) + 1 < 3 ∨ 3 ≤ (b : Int) + 1) with hb3 | hb3
  all_goals
    gi_wp2
    gi_loopw [3] (fun i wr => AbRel b J i wr) (fun i _ => 38 - (intOf i).toNat)
    case atStart =>
      exact ⟨max (b + 1) 3, [], by simp; omega, by omega, by omega, by simp, h0⟩
    case round =>
      obtain ⟨c, pre, rfl, hc1, hc2, hpre, hJs⟩ := hrel
      by_cases hlt : c ≤ 37
      · have hlen : pre.length < 40 := by
          have := congrArg List.length hpre
          simp at this; omega
        obtain ⟨fn, tmps, assign, body, hy, hR⟩ := hY pre ⟨c, by omega, by omega, hlt⟩ wr hJs hlen
        have hw2 : IntKind.u8.wrap ((c : Int) + 1) = (c : Int) + 1 := IntWalk.u8_in _ ⟨by omega, by omega⟩
        dsimp only at hy
        gi_wp2
        refine hR.mono ?_
        rintro e W3 (⟨rfl, hJ3, _⟩ | ⟨rfl, hJx3⟩)
        · gi_wp2
          go_roundw
          case rel =>
            refine ⟨c + 1, _, rfl, by omega, by omega, ?_, hJ3⟩
            rw [List.map_append, hpre]
            have e1 : c + 1 - max (b + 1) 3 = (c - max (b + 1) 3) + 1 := by omega
            rw [e1, List.range'_concat]
            simp; omega
          case measure => simp only [intOf]; omega
        · gi_wp2
          refine bodyPost_ret (results_none rfl _ _ _) rfl ?_
          exact ⟨⟨_, rfl⟩, .inr ⟨_, trivial, hJx3⟩⟩
      · gi_wp2
        go_end0
        refine ⟨⟨_, rfl⟩, .inl ⟨pre, ?_, hJs⟩⟩
        rw [hpre]; unfold aboveL
        rw [show c = 38 by omega]
theorem above_stops (F : Fence) (n : Nat) (hf : F.fn 40) (hro : F.round = none) (hn : 1 ≤ n) (Bn b : Nat) (hb : b ≤ 37) (w : World) (hBn : Bn < w.heap.size) (hc : w.cell? ⟨Bn, 0, none⟩ = some (.int .u8 (b : Int))) :
    SeqStopsK F n Try.prog 40 #[.pointer (some ⟨Bn, 0, none⟩)] (fun x : BidIx b => #[Value.int .u8 (x.1 : Int)]) (fun _ _ => True) (fun ys => ys.map (·.1) = aboveL b) (fun _ => True) 40 w := fun l J Jx W hW _ _ hY h0 =>
  above1_in F n hf hro hn l Bn b hb J Jx hY W ((hW.cell (p := ⟨Bn, 0, none⟩) hBn).trans hc) h0
end Go.Proofs.Ytfacmkelbjfffaa
