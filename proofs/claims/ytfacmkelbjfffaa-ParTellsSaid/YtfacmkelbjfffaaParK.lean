/- chapter 18: Example, ours, awake. -/
import Derived.Test.YtfacmkelbjfffaaParJ
namespace Go.Proofs.Ytfacmkelbjfffaa
open Go.RowKit
set_option linter.unusedVariables false
set_option linter.unusedSimpArgs false
set_option maxRecDepth 100000

theorem ours_ok (n : Int) (s : Nat) (w : World) (hs : s ≤ 1) (hn : -1000000 ≤ n ∧ n ≤ 1000000) : Calls Try.prog 15 #[.int .i64 n, .int .u8 s] w fun e w' => e = .returned (.int .i64 (if s = 1 then -n else n)) ∧ w' = w := by
  have hw : IntKind.i64.wrap (-n) = -n := IntWalk.i64_in _ ⟨by omega, by omega⟩
  rcases (by omega : s = 0 ∨ s = 1) with rfl | rfl
  · go_enter Try.func15, Try.ntmps15
    go_wp2_with fail
    go_ret
    exact ⟨rfl, rfl⟩
  · go_enter Try.func15, Try.ntmps15
    go_wp2_with fail
    go_ret
    exact ⟨rfl, rfl⟩

/-- A table lies in block g. -/
def TabAt (W : World) (g : Nat) (T : Nat → Int) : Prop := ∀ k, k < 20 → CellIs W ⟨g, k, none⟩ (.int .i64 (T k))
theorem TabAt.later {W W' : World} {g : Nat} {T : Nat → Int} (h : TabAt W g T) (hb : Below W.heap.size W W') : TabAt W' g T := fun k hk => cellIs_later hb (h k hk)
theorem TabAt.range {W : World} {g : Nat} {T : Nat → Int} (h : TabAt W g T) : W.rangeAt g 0 (tabV T).toList := rangeAt_tab W T g fun k hk => (h k hk).1
theorem TabAt.there {W : World} {g : Nat} {T : Nat → Int} (h : TabAt W g T) (U : Nat → Int) : W.there g 0 (tabV U).size := fun j hj => by
  have hj : j < 20 := hj
  rw [Nat.zero_add]
  exact ⟨by rw [(h j hj).1]; rfl, (h j hj).2⟩
theorem TabAt.lt {W : World} {g : Nat} {T : Nat → Int} (h : TabAt W g T) : g < W.heap.size := World.block_lt_of_cell? _ _ (h 0 (by decide)).1
theorem tab_new (W : World) (T : Nat → Int) : TabAt (W.alloc (.cells (tabV T) 25)) W.heap.size T := fun k hk => cellIs_row W (tabV T) 25 k _ (tab_cells T k hk)
theorem tab_one (U : Nat → Int) : (tabV U).all (·.oneCell') = true := by simp [tabV, Value.oneCell']
theorem TabAt.stored {W : World} {g : Nat} {T : Nat → Int} (h : TabAt W g T) (U : Nat → Int) : TabAt (W.setCells g 0 (tabV U).toList) g U := fun k hk => by
  have hr := World.rangeAt_setCells_same W g 0 (tabV U).toList (by simpa using h.there U)
  have hc := hr k (.int .i64 (U k)) (by rw [Array.getElem?_toList]; exact tab_cells U k hk)
  rw [Nat.zero_add] at hc
  exact ⟨hc, by rw [World.frozen?_setCells]; exact (h k hk).2⟩
theorem cellIs_stored_far {W : World} {g : Nat} {a : Addr} {v : Value} (h : CellIs W a v) (cs : List Value) (hne : a.block ≠ g) : CellIs (W.setCells g 0 cs) a v :=
  ⟨by rw [World.cell?_setCells_out g cs 0 W a (fun e _ => absurd e hne)]; exact h.1, by rw [World.frozen?_setCells]; exact h.2⟩
theorem TabAt.stored_far {W : World} {g g' : Nat} {T : Nat → Int} (h : TabAt W g' T) (cs : List Value) (hne : g' ≠ g) : TabAt (W.setCells g 0 cs) g' T := fun k hk => cellIs_stored_far (h k hk) cs hne
theorem below_setCells {B : Nat} {w0 : World} (g : Nat) (hg : B ≤ g) : ∀ (cs : List Value) (o : Nat) (W : World), Below B w0 W → Below B w0 (W.setCells g o cs)
  | [], _, _, h => h
  | v :: cs, o, W, h => below_setCells g hg cs (o + 1) _ (h.setCell (p := ⟨g, o, none⟩) hg v)
/-- One cell of a table is written. -/
def putT (T : Nat → Int) (k : Nat) (x : Int) : Nat → Int := fun j => if j = k then x else T j
theorem TabAt.put {W : World} {g : Nat} {T : Nat → Int} (h : TabAt W g T) (k : Nat) (hk : k < 20) (x : Int) : TabAt (W.setCell ⟨g, k, none⟩ (.int .i64 x)) g (putT T k x) := fun j hj => by
  unfold putT
  by_cases e : j = k
  · rw [if_pos e, e]; exact cellIs_set (h k hk) _
  · rw [if_neg e]; exact cellIs_far (h j hj) _ (by simp only [ne_eq, Addr.mk.injEq]; omega)
theorem TabAt.put_far {W : World} {g g' : Nat} {T : Nat → Int} (h : TabAt W g' T) (k : Nat) (v : Value) (hne : g ≠ g') : TabAt (W.setCell ⟨g, k, none⟩ v) g' T := fun j hj => cellIs_far (h j hj) _ (by simp only [ne_eq, Addr.mk.injEq]; omega)
theorem TabAt.same {W : World} {g : Nat} {T U : Nat → Int} (h : TabAt W g T) (e : ∀ k, k < 20 → T k = U k) : TabAt W g U := fun k hk => by rw [← e k hk]; exact h k hk
theorem tabV_same {T U : Nat → Int} (e : ∀ k, k < 20 → T k = U k) : tabV T = tabV U := by
  unfold tabV
  simp only [e 0 (by decide), e 1 (by decide), e 2 (by decide), e 3 (by decide), e 4 (by decide), e 5 (by decide), e 6 (by decide), e 7 (by decide), e 8 (by decide), e 9 (by decide), e 10 (by decide), e 11 (by decide), e 12 (by decide), e 13 (by decide), e 14 (by decide), e 15 (by decide), e 16 (by decide), e 17 (by decide), e 18 (by decide), e 19 (by decide)]
theorem info_tab : (Try.prog.info? 25).map (·.size) = some 20 := by kernel_rfl
/-- A table for a result. -/
theorem results_tab {fn : Func} {t : Tmp} (h : fn.results = #[.cell t 25]) {tmps : Array Value} {g : Nat} (ht : tmps.getD t undef = .pointer (some ⟨g, 0, none⟩)) {w : World} {T : Nat → Int} (hT : TabAt w g T) :
    (results fn tmps).run Try.prog w = .ok (.agg (tabV T)) w := by
  have := run_loadVar_mid (P := Try.prog) w g 0 25 (tabV T).toList _ hT.range Try.underlying25 rfl info_tab
  rw [Array.toArray_toList] at this
  rw [Array.getD_eq_getD_getElem?] at ht
  simp [results, h, ht, this, asAddr]

set_option maxHeartbeats 4000000 in
theorem Example_ok (w : World) : Calls Try.prog 18 #[] w fun e w' => e = .returned (.agg (tabV exT)) ∧ Below w.heap.size w w' := by
  have hsz : (Try.prog.info? 25).map (·.size) = some (tabV exT).toList.length := by kernel_rfl
  go_enter Try.func18, Try.ntmps18
  have hex : (tabV exT) = #[.int .i64 0, .int .i64 0, .int .i64 0, .int .i64 0, .int .i64 0, .int .i64 0, .int .i64 0, .int .i64 0, .int .i64 4, .int .i64 9, .int .i64 4, .int .i64 9, .int .i64 10, .int .i64 2, .int .i64 10, .int .i64 2, .int .i64 0, .int .i64 0, .int .i64 0, .int .i64 0] := by kernel_rfl
  go_upto_region 4 with fail
  rw [← hex]
  have hz : (tabV fun _ => 0) = #[.int .i64 0, .int .i64 0, .int .i64 0, .int .i64 0, .int .i64 0, .int .i64 0, .int .i64 0, .int .i64 0, .int .i64 0, .int .i64 0, .int .i64 0, .int .i64 0, .int .i64 0, .int .i64 0, .int .i64 0, .int .i64 0, .int .i64 0, .int .i64 0, .int .i64 0, .int .i64 0] := rfl
  rw [← hz]
  obtain ⟨W, g, eW, eg, h0, h1, hB⟩ : ∃ W g, W = (w.alloc (.cells (tabV fun _ => 0) 25)).alloc (.cells (tabV exT) 25) ∧ g = w.heap.size + 1 ∧ TabAt W w.heap.size (fun _ => 0) ∧ TabAt W g exT ∧ Below w.heap.size w W :=
    ⟨_, _, rfl, rfl, (tab_new w _).later (sst1 _ _), by have h := tab_new (w.alloc (.cells (tabV fun _ => 0) 25)) exT; rwa [World.size_alloc] at h, sbtr (sst1 _ _) (sst1 _ _)⟩
  rw [← eW, ← eg]
  clear eW eg hex hz
  have hra := h1.range
  have hth := h0.there exT
  have h1c := tab_one exT
  go_wp2_with (first
    | (refine wpList_load_mid (by rfl) 25 (.tmp 1) (by rfl) g 0 (by rfl) (tabV exT).toList _ hra Try.underlying25 rfl hsz ?_; simp only [Array.toArray_toList])
    | (refine wpList_store_mid (by rfl) 25 (.tmp 0) (.tmp 6) (by rfl) w.heap.size 0 (tabV exT) (by rfl) (by rfl) hth info_tab h1c ?_))
  exact bodyPost_ret (results_tab rfl rfl (h0.stored exT)) rfl ⟨rfl, below_setCells _ (Nat.le_refl _) _ _ _ hB⟩
end Go.Proofs.Ytfacmkelbjfffaa
