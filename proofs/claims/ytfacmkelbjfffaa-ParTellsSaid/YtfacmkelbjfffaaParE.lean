/- par: choose. -/
import Derived.Laws.EntriesVeiled
import Derived.Sort.BigQuietIn
import Derived.Test.YtfacmkelbjfffaaParD
import Derived.Test.YtfacmkelbjfffaaQuiet
namespace Go.Proofs.Ytfacmkelbjfffaa
open Go.RowKit Go.Shelf
set_option linter.unusedVariables false
set_option linter.unusedSimpArgs false
attribute [local go_sem] Oper.semAt_some

theorem pc_keep {W : World} {a : Addr} {v : Value} (o : Obj) (h : W.cell? a = some v ∧ W.frozen? a = false) : (W.alloc o).cell? a = some v ∧ (W.alloc o).frozen? a = false :=
  ⟨sc_later (sst1 _ _) h.1, (World.frozen?_of_block ((sst1 W o).block _ (World.block_lt_of_cell? _ _ h.1))).trans h.2⟩
theorem pcell_new2 (W : World) (u v : Value) (t : TypeId) : ((W.alloc (.cells #[u, v] t)).cell? ⟨W.heap.size, 0, none⟩ = some u ∧ (W.alloc (.cells #[u, v] t)).frozen? ⟨W.heap.size, 0, none⟩ = false) ∧ (W.alloc (.cells #[u, v] t)).cell? ⟨W.heap.size, 1, none⟩ = some v ∧ (W.alloc (.cells #[u, v] t)).frozen? ⟨W.heap.size, 1, none⟩ = false := by
  have h := World.alloc_heap_new W (.cells #[u, v] t)
  refine ⟨⟨?_, ?_⟩, ?_, ?_⟩ <;> simp only [World.cell?, World.frozen?, h] <;> simp
/-- The blocks of choose. -/
structure ChW (w : World) (g : Nat) (s : Int) (f b : Nat) (p : Int) (W0 : World) : Prop where
  c4 : W0.cell? ⟨w.heap.size, 0, none⟩ = some (.pointer (some ⟨g, 0, none⟩)) ∧ W0.frozen? ⟨w.heap.size, 0, none⟩ = false
  c5 : W0.cell? ⟨w.heap.size + 1, 0, none⟩ = some (.int .u8 s) ∧ W0.frozen? ⟨w.heap.size + 1, 0, none⟩ = false
  c8 : W0.cell? ⟨w.heap.size + 1 + 1 + 1, 0, none⟩ = some (.int .u8 0) ∧ W0.frozen? ⟨w.heap.size + 1 + 1 + 1, 0, none⟩ = false
  c8' : W0.cell? ⟨w.heap.size + 1 + 1 + 1, 1, none⟩ = some (.int .i64 0) ∧ W0.frozen? ⟨w.heap.size + 1 + 1 + 1, 1, none⟩ = false
  c9 : W0.cell? ⟨w.heap.size + 1 + 1 + 1 + 1, 0, none⟩ = some (.func (.func f) #[] #[]) ∧ W0.frozen? ⟨w.heap.size + 1 + 1 + 1 + 1, 0, none⟩ = false
  c10 : W0.cell? ⟨w.heap.size + 1 + 1 + 1 + 1 + 1, 0, none⟩ = some (.int .u8 0) ∧ W0.frozen? ⟨w.heap.size + 1 + 1 + 1 + 1 + 1, 0, none⟩ = false
  c10' : W0.cell? ⟨w.heap.size + 1 + 1 + 1 + 1 + 1, 1, none⟩ = some (.int .i64 p) ∧ W0.frozen? ⟨w.heap.size + 1 + 1 + 1 + 1 + 1, 1, none⟩ = false
  c11 : W0.cell? ⟨w.heap.size + 1 + 1 + 1 + 1 + 1 + 1, 0, none⟩ = some (.int .u8 b) ∧ W0.frozen? ⟨w.heap.size + 1 + 1 + 1 + 1 + 1 + 1, 0, none⟩ = false
  size : W0.heap.size = w.heap.size + 7
  below : Below w.heap.size w W0
theorem chW (w : World) (g : Nat) (s : Int) (f b : Nat) (p : Int) (t1 t2 t3 t4 t5 t6 t7 : TypeId) : ChW w g s f b p
    (((((((w.alloc (.cells #[.pointer (some ⟨g, 0, none⟩)] t1)).alloc (.cells #[.int .u8 s] t2)).alloc (.cells #[.int .u8 0, .int .i64 p] t3)).alloc (.cells #[.int .u8 0, .int .i64 0] t4)).alloc (.cells #[.func (.func f) #[] #[]] t5)).alloc (.cells #[.int .u8 0, .int .i64 p] t6)).alloc (.cells #[.int .u8 (b : Int)] t7)) := by
  constructor
  · exact pc_keep _ (pc_keep _ (pc_keep _ (pc_keep _ (pc_keep _ (pc_keep _ (pcell_new _ _ _))))))
  · have h := pcell_new (w.alloc (.cells #[.pointer (some ⟨g, 0, none⟩)] t1)) (.int .u8 s) t2
    rw [World.size_alloc] at h
    exact pc_keep _ (pc_keep _ (pc_keep _ (pc_keep _ (pc_keep _ h))))
  · have h := pcell_new2 (((w.alloc (.cells #[.pointer (some ⟨g, 0, none⟩)] t1)).alloc (.cells #[.int .u8 s] t2)).alloc (.cells #[.int .u8 0, .int .i64 p] t3)) (.int .u8 0) (.int .i64 0) t4
    rw [World.size_alloc, World.size_alloc, World.size_alloc] at h
    exact pc_keep _ (pc_keep _ (pc_keep _ h.1))
  · have h := pcell_new2 (((w.alloc (.cells #[.pointer (some ⟨g, 0, none⟩)] t1)).alloc (.cells #[.int .u8 s] t2)).alloc (.cells #[.int .u8 0, .int .i64 p] t3)) (.int .u8 0) (.int .i64 0) t4
    rw [World.size_alloc, World.size_alloc, World.size_alloc] at h
    exact pc_keep _ (pc_keep _ (pc_keep _ h.2))
  · have h := pcell_new ((((w.alloc (.cells #[.pointer (some ⟨g, 0, none⟩)] t1)).alloc (.cells #[.int .u8 s] t2)).alloc (.cells #[.int .u8 0, .int .i64 p] t3)).alloc (.cells #[.int .u8 0, .int .i64 0] t4)) (.func (.func f) #[] #[]) t5
    rw [World.size_alloc, World.size_alloc, World.size_alloc, World.size_alloc] at h
    exact pc_keep _ (pc_keep _ h)
  · have h := pcell_new2 (((((w.alloc (.cells #[.pointer (some ⟨g, 0, none⟩)] t1)).alloc (.cells #[.int .u8 s] t2)).alloc (.cells #[.int .u8 0, .int .i64 p] t3)).alloc (.cells #[.int .u8 0, .int .i64 0] t4)).alloc (.cells #[.func (.func f) #[] #[]] t5)) (.int .u8 0) (.int .i64 p) t6
    rw [World.size_alloc, World.size_alloc, World.size_alloc, World.size_alloc, World.size_alloc] at h
    exact pc_keep _ h.1
  · have h := pcell_new2 (((((w.alloc (.cells #[.pointer (some ⟨g, 0, none⟩)] t1)).alloc (.cells #[.int .u8 s] t2)).alloc (.cells #[.int .u8 0, .int .i64 p] t3)).alloc (.cells #[.int .u8 0, .int .i64 0] t4)).alloc (.cells #[.func (.func f) #[] #[]] t5)) (.int .u8 0) (.int .i64 p) t6
    rw [World.size_alloc, World.size_alloc, World.size_alloc, World.size_alloc, World.size_alloc] at h
    exact pc_keep _ h.2
  · have h := pcell_new ((((((w.alloc (.cells #[.pointer (some ⟨g, 0, none⟩)] t1)).alloc (.cells #[.int .u8 s] t2)).alloc (.cells #[.int .u8 0, .int .i64 p] t3)).alloc (.cells #[.int .u8 0, .int .i64 0] t4)).alloc (.cells #[.func (.func f) #[] #[]] t5)).alloc (.cells #[.int .u8 0, .int .i64 p] t6)) (.int .u8 b) t7
    rw [World.size_alloc, World.size_alloc, World.size_alloc, World.size_alloc, World.size_alloc, World.size_alloc] at h
    exact h
  · simp
  · exact sbtr (sbtr (sbtr (sbtr (sbtr (sbtr (sst1 _ _) (sst1 _ _)) (sst1 _ _)) (sst1 _ _)) (sst1 _ _)) (sst1 _ _)) (sst1 _ _)
def betB (s : Nat) (x y : Int) : Bool := if s = 1 then decide (x < y) else decide (y < x)
def chStep (A : Nat → Nat → Int) (s : Nat) (o : Nat × Int) (x : Nat) : Nat × Int := if betB s (A x (1 - s)) o.2 then (x, A x (1 - s)) else o
/-- What a side does after a bid, if passing is worth p. -/
def chooseC (A : Nat → Nat → Int) (s b : Nat) (p : Int) : Nat × Int := (aboveL b).foldl (chStep A s) (0, p)
abbrev CellIs (W : World) (a : Addr) (v : Value) : Prop := W.cell? a = some v ∧ W.frozen? a = false
/-- Between two rounds. -/
structure ChI (w : World) (g : Nat) (s : Int) (f : Nat) (o : Nat × Int) (W : World) : Prop where
  c4 : CellIs W ⟨w.heap.size, 0, none⟩ (.pointer (some ⟨g, 0, none⟩))
  c5 : CellIs W ⟨w.heap.size + 1, 0, none⟩ (.int .u8 s)
  c8 : CellIs W ⟨w.heap.size + 1 + 1 + 1, 0, none⟩ (.int .u8 0)
  c8' : CellIs W ⟨w.heap.size + 1 + 1 + 1, 1, none⟩ (.int .i64 0)
  c9 : CellIs W ⟨w.heap.size + 1 + 1 + 1 + 1, 0, none⟩ (.func (.func f) #[] #[])
  c10 : CellIs W ⟨w.heap.size + 1 + 1 + 1 + 1 + 1, 0, none⟩ (.int .u8 o.1)
  c10' : CellIs W ⟨w.heap.size + 1 + 1 + 1 + 1 + 1, 1, none⟩ (.int .i64 o.2)
theorem cellIs_kept {W W' : World} {row : Option Nat} {a : Addr} {v : Value} (h : CellIs W a v) (hg : W.grownBy W' row) (hr : ∀ r, row = some r → ∃ o : Obj, W.heap[r]? = some o ∧ o.isCells = false) : CellIs W' a v :=
  ⟨cell_kept h.1 hg hr, (frozen_kept h.1 hg hr).trans h.2⟩
theorem ChI_own (w : World) (g : Nat) (s : Int) (f : Nat) {β : Type} (o : β → Nat × Int) : Own (fun (x : β) W => ChI w g s f (o x) W) := fun x A B row h hg hr =>
  ⟨cellIs_kept h.c4 hg hr, cellIs_kept h.c5 hg hr, cellIs_kept h.c8 hg hr, cellIs_kept h.c8' hg hr, cellIs_kept h.c9 hg hr, cellIs_kept h.c10 hg hr, cellIs_kept h.c10' hg hr⟩
theorem cellIs_set {W : World} {a : Addr} {v : Value} (h : CellIs W a v) (u : Value) : CellIs (W.setCell a u) a u := ⟨World.cell?_setCell_same' W a u (by rw [h.1]; rfl), by rw [World.frozen?_setCell]; exact h.2⟩
theorem cellIs_far {W : World} {a b : Addr} {v : Value} (h : CellIs W b v) (u : Value) (hne : a ≠ b) : CellIs (W.setCell a u) b v := ⟨by rw [World.cell?_setCell_other _ _ _ _ hne]; exact h.1, by rw [World.frozen?_setCell]; exact h.2⟩
theorem cellIs_drew {W : World} {a : Addr} {v : Value} (h : CellIs W a v) (n : Nat) : CellIs (W.drewN n) a v := h
theorem ChI.drew {w : World} {g : Nat} {s : Int} {f : Nat} {o : Nat × Int} {W : World} (h : ChI w g s f o W) (n : Nat) : ChI w g s f o (W.drewN n) := ⟨h.c4, h.c5, h.c8, h.c8', h.c9, h.c10, h.c10'⟩
theorem ChI.put {w : World} {g : Nat} {s : Int} {f : Nat} {o : Nat × Int} {W : World} (h : ChI w g s f o W) (x : Nat) (y : Int) :
    ChI w g s f (x, y) ((W.setCell ⟨w.heap.size + 1 + 1 + 1 + 1 + 1, 0, none⟩ (.int .u8 x)).setCell ⟨w.heap.size + 1 + 1 + 1 + 1 + 1, 1, none⟩ (.int .i64 y)) := by
  constructor
  · exact cellIs_far (cellIs_far h.c4 _ (by simp)) _ (by simp)
  · exact cellIs_far (cellIs_far h.c5 _ (by simp)) _ (by simp)
  · exact cellIs_far (cellIs_far h.c8 _ (by simp)) _ (by simp)
  · exact cellIs_far (cellIs_far h.c8' _ (by simp)) _ (by simp)
  · exact cellIs_far (cellIs_far h.c9 _ (by simp)) _ (by simp)
  · exact cellIs_far (cellIs_set h.c10 _) _ (by simp)
  · exact cellIs_set (cellIs_far h.c10' _ (by simp)) _
theorem keepsOthers_drewN (W : World) (n : Nat) : KeepsOthers W (W.drewN n) := ⟨Nat.le_refl _, fun _ _ h _ => h⟩
def outC (A : Nat → Nat → Int) (s : Nat) (p : Int) {b : Nat} (pre : List (BidIx b)) : Nat × Int := (pre.map (·.1)).foldl (chStep A s) (0, p)
theorem outC_snoc (A : Nat → Nat → Int) (s : Nat) (p : Int) {b : Nat} (pre : List (BidIx b)) (x : BidIx b) : outC A s p (pre ++ [x]) = chStep A s (outC A s p pre) x.1 := by simp [outC]
set_option maxRecDepth 100000 in
set_option maxHeartbeats 2000000 in
theorem choose_ok (A : Nat → Nat → Int) (g s b : Nat) (p : Int) (w : World) (hs : s ≤ 1) (hb : b ≤ 37)
    (hA : ∀ x, b < x → 3 ≤ x → x ≤ 37 → ∀ q, q ≤ 1 → w.cell? ⟨g, x * 4 + q * 2 + 1, none⟩ = some (.int .i64 (A x q))) :
    Calls Try.prog 23 #[.pointer (some ⟨g, 0, none⟩), .int .u8 s, .int .u8 b, .agg #[.int .u8 0, .int .i64 p]] w fun e w' =>
      e = .returned (.agg #[.int .u8 (chooseC A s b p).1, .int .i64 (chooseC A s b p).2]) ∧ Below w.heap.size w w' := by
  refine (callsIn_wide (n := 8)).1 ?_
  refine callsIn_of_wp_marks Try.func23 rfl trivial ?_ rfl
  simp only [Try.ntmps23, List.size_toArray, List.length_cons, List.length_nil, Nat.reduceAdd, Nat.reduceSub, Array.replicate_succ, Array.replicate_zero, List.push_toArray, List.append_toArray, List.nil_append, List.cons_append]
  rcases (by omega : s = 0 ∨ s = 1) with rfl | rfl
  · gi_wp2
    refine ⟨trivial, ?_⟩
    refine (callsIn_wide.2 (above_ok _ _)).mono ?_
    rintro e w1 ⟨rfl, rfl⟩
    have HW := chW w g 0 33 b p 54 5 57 57 76 57 5
    simp only [World.size_alloc]
    generalize World.alloc (World.alloc (World.alloc (World.alloc (World.alloc (World.alloc (World.alloc w (.cells #[.pointer (some ⟨g, 0, none⟩)] 54)) (.cells #[.int .u8 0] 5)) (.cells #[.int .u8 0, .int .i64 p] 57)) (.cells #[.int .u8 0, .int .i64 0] 57)) (.cells #[.func (.func 33) #[] #[]] 76)) (.cells #[.int .u8 0, .int .i64 p] 57)) (.cells #[.int .u8 (b : Int)] 5) = W0 at HW ⊢
    gi_wp2
    refine wpIn_rangeFunc_ownF rfl (by omega) (gf := 40) (lb := #[.pointer (some ⟨w.heap.size + 1 + 1 + 1 + 1 + 1 + 1, 0, none⟩)]) rfl trivial (enters_of Try.func40 (by kernel_rfl) rfl)
      (above_stops Fence.wide 7 trivial rfl (by omega) (w.heap.size + 1 + 1 + 1 + 1 + 1 + 1) b hb W0 (by rw [HW.size]; omega) HW.c11.1) (fun _ _ => trivial) (fun _ _ _ _ _ _ _ _ => trivial) (Below.refl _ _) (fun _ => rfl)
      (fun pre W => ChI w g 0 33 (outC A 0 p pre) W ∧ Below w.heap.size w W)
      (fun _ _ _ => False)
      (OwnFrom.and (Own.from (ChI_own w g 0 33 (outC A 0 p)) _) (ownFrom_below (Nat.le_refl _) (by rw [HW.size]; omega)))
      (fun _ _ _ _ _ hs _ _ => hs)
      ⟨⟨HW.c4, HW.c5, HW.c8, HW.c8', HW.c9, HW.c10, HW.c10'⟩, HW.below⟩
      (fun x => { tmps := #[.pointer (some ⟨g, 0, none⟩), .int .u8 ((0 : Nat) : Int), .int .u8 b, .agg #[.int .u8 0, .int .i64 p], .pointer (some ⟨w.heap.size, 0, none⟩), .pointer (some ⟨w.heap.size + 1, 0, none⟩), undef, .pointer (some ⟨w.heap.size + 1 + 1, 0, none⟩), .pointer (some ⟨w.heap.size + 1 + 1 + 1, 0, none⟩), .pointer (some ⟨w.heap.size + 1 + 1 + 1 + 1, 0, none⟩), .pointer (some ⟨w.heap.size + 1 + 1 + 1 + 1 + 1, 0, none⟩), .int .u8 (x.1 : Int), undef, .int .u8 0, .bool false, .agg #[.int .u8 0, .int .i64 p], .int .u8 b, .func (.func 40) #[] #[.pointer (some ⟨w.heap.size + 1 + 1 + 1 + 1 + 1 + 1, 0, none⟩)], .int .u8 (x.1 : Int), undef, undef, undef, undef, undef, undef, undef, undef, undef, undef, undef, undef, undef, undef, undef, undef, undef, undef], defers := [] }) ?assign ?body ?done ?stop
    case assign =>
      intro l x W K hK
      gi_wp2
      exact hK
    case body =>
      rintro l pre ⟨x, hx1, hx2, hx3⟩ W ⟨hI, hB⟩ _
      obtain ⟨i4, i5, i8, i8', i9, i10, i10'⟩ := id hI
      have ho := outC_snoc A 0 p pre ⟨x, hx1, hx2, hx3⟩
      generalize outC A 0 p pre = o at *
      obtain ⟨i4, -⟩ := i4
      obtain ⟨i5, -⟩ := i5
      obtain ⟨i9, -⟩ := i9
      obtain ⟨j10, f10⟩ := i10
      obtain ⟨j10', f10'⟩ := i10'
      dsimp only
      have x0 : (0 : Int) ≤ (x : Int) := by omega
      have x1 : (x : Int) < 38 := by omega
      have ha : W.cell? ⟨g, x * 4 + 2 + 1, none⟩ = some (.int .i64 (A x 1)) := sc_later hB (hA x hx1 hx2 hx3 1 (by omega))
      gi_wp2
      refine wpIn_region_quietR (by simp) (by kernel_rfl) (by kernel_rfl) ?_
      repeat (gi_big_quiet_step (fail))
      refine wpQuietIn_nil ?_
      intro _ hw'
      obtain ⟨nq, hw''⟩ := hw'
      subst hw''
      gi_wp2
      refine ⟨trivial, ?_⟩
      refine (CallsIn.inRound l (callsIn_wide.2 (choose1_ok _ _ _))).mono ?_
      rintro e w1 ⟨rfl, rfl⟩
      by_cases hlt : o.2 < A x 1
      · have hst : chStep A 0 o x = (x, A x 1) := by simp [chStep, betB, hlt]
        gi_wp2
        refine ⟨((keepsOthers_drewN _ _).trans (KeepsOthers.setCell _ _ _)).trans (KeepsOthers.setCell _ _ _), trivial, ?_, ?_⟩
        · rw [ho, hst]; exact (hI.drew _).put x (A x 1)
        · exact ((sc_drewN hB _).setCell (p := ⟨w.heap.size + 1 + 1 + 1 + 1 + 1, 0, none⟩) (by simp; omega) _).setCell (p := ⟨w.heap.size + 1 + 1 + 1 + 1 + 1, 1, none⟩) (by simp; omega) _
      · have hst : chStep A 0 o x = o := by simp [chStep, betB, hlt]
        gi_wp2
        refine ⟨keepsOthers_drewN _ _, trivial, ?_, sc_drewN hB _⟩
        rw [ho, hst]; exact hI.drew _
    case done =>
      rintro D ys W hD hys ⟨hI, hB⟩ hK
      have ho : outC A 0 p ys = chooseC A 0 b p := by unfold outC chooseC; rw [hys]
      rw [ho] at hI
      generalize hoc : chooseC A 0 b p = o at *
      obtain ⟨i4, i5, i8, i8', i9, i10, i10'⟩ := id hI
      obtain ⟨j10, f10⟩ := i10
      obtain ⟨j10', f10'⟩ := i10'
      have j8 := i8.1
      have f8 := i8.2
      have j8' := i8'.1
      have f8' := i8'.2
      gi_wp2
      have hK1 := (KeepsOthers.setCell W ⟨w.heap.size + 1 + 1 + 1, 0, none⟩ (.int .u8 o.1)).same D _ hK rfl
      have hK2 := (KeepsOthers.setCell _ ⟨w.heap.size + 1 + 1 + 1, 1, none⟩ (.int .i64 o.2)).same D _ hK1 rfl
      have r1 := cellIs_kept (cellIs_far (cellIs_set i8 (.int .u8 o.1)) (a := ⟨w.heap.size + 1 + 1 + 1, 1, none⟩) (.int .i64 o.2) (by simp)) (grownBy_putObj' _ D (.deferred none)) (fun r e => by cases e; exact ⟨_, hK2, rfl⟩)
      have r2 := cellIs_kept (cellIs_set (cellIs_far i8' (a := ⟨w.heap.size + 1 + 1 + 1, 0, none⟩) (.int .u8 o.1) (by simp)) (.int .i64 o.2)) (grownBy_putObj' _ D (.deferred none)) (fun r e => by cases e; exact ⟨_, hK2, rfl⟩)
      refine ⟨by simp, .inl ⟨_, _, rfl, run_takeDeferred hK2, ?_⟩⟩
      refine ⟨.agg #[.int .u8 o.1, .int .i64 o.2], ?_, by rw [hoc], ((hB.setCell (p := ⟨w.heap.size + 1 + 1 + 1, 0, none⟩) (by simp; omega) _).setCell (p := ⟨w.heap.size + 1 + 1 + 1, 1, none⟩) (by simp; omega) _).trans (belowK_b (w := w) (Nat.le_refl _) _ D _ _ (by have := HW.size; omega) hK2 rfl rfl)⟩
      simp [results, Try.f23, go_sem, r1.1, r2.1]
    case stop =>
      rintro D c pre W _ _ h _
      exact h.elim
  · gi_wp2
    refine ⟨trivial, ?_⟩
    refine (callsIn_wide.2 (above_ok _ _)).mono ?_
    rintro e w1 ⟨rfl, rfl⟩
    have HW := chW w g 1 34 b p 54 5 57 57 76 57 5
    simp only [World.size_alloc]
    generalize World.alloc (World.alloc (World.alloc (World.alloc (World.alloc (World.alloc (World.alloc w (.cells #[.pointer (some ⟨g, 0, none⟩)] 54)) (.cells #[.int .u8 1] 5)) (.cells #[.int .u8 0, .int .i64 p] 57)) (.cells #[.int .u8 0, .int .i64 0] 57)) (.cells #[.func (.func 34) #[] #[]] 76)) (.cells #[.int .u8 0, .int .i64 p] 57)) (.cells #[.int .u8 (b : Int)] 5) = W0 at HW ⊢
    gi_wp2
    refine wpIn_rangeFunc_ownF rfl (by omega) (gf := 40) (lb := #[.pointer (some ⟨w.heap.size + 1 + 1 + 1 + 1 + 1 + 1, 0, none⟩)]) rfl trivial (enters_of Try.func40 (by kernel_rfl) rfl)
      (above_stops Fence.wide 7 trivial rfl (by omega) (w.heap.size + 1 + 1 + 1 + 1 + 1 + 1) b hb W0 (by rw [HW.size]; omega) HW.c11.1) (fun _ _ => trivial) (fun _ _ _ _ _ _ _ _ => trivial) (Below.refl _ _) (fun _ => rfl)
      (fun pre W => ChI w g 1 34 (outC A 1 p pre) W ∧ Below w.heap.size w W)
      (fun _ _ _ => False)
      (OwnFrom.and (Own.from (ChI_own w g 1 34 (outC A 1 p)) _) (ownFrom_below (Nat.le_refl _) (by rw [HW.size]; omega)))
      (fun _ _ _ _ _ hs _ _ => hs)
      ⟨⟨HW.c4, HW.c5, HW.c8, HW.c8', HW.c9, HW.c10, HW.c10'⟩, HW.below⟩
      (fun x => { tmps := #[.pointer (some ⟨g, 0, none⟩), .int .u8 ((1 : Nat) : Int), .int .u8 b, .agg #[.int .u8 0, .int .i64 p], .pointer (some ⟨w.heap.size, 0, none⟩), .pointer (some ⟨w.heap.size + 1, 0, none⟩), undef, .pointer (some ⟨w.heap.size + 1 + 1, 0, none⟩), .pointer (some ⟨w.heap.size + 1 + 1 + 1, 0, none⟩), .pointer (some ⟨w.heap.size + 1 + 1 + 1 + 1, 0, none⟩), .pointer (some ⟨w.heap.size + 1 + 1 + 1 + 1 + 1, 0, none⟩), .int .u8 (x.1 : Int), undef, .int .u8 1, .bool true, .agg #[.int .u8 0, .int .i64 p], .int .u8 b, .func (.func 40) #[] #[.pointer (some ⟨w.heap.size + 1 + 1 + 1 + 1 + 1 + 1, 0, none⟩)], .int .u8 (x.1 : Int), undef, undef, undef, undef, undef, undef, undef, undef, undef, undef, undef, undef, undef, undef, undef, undef, undef, undef], defers := [] }) ?assign ?body ?done ?stop
    case assign =>
      intro l x W K hK
      gi_wp2
      exact hK
    case body =>
      rintro l pre ⟨x, hx1, hx2, hx3⟩ W ⟨hI, hB⟩ _
      obtain ⟨i4, i5, i8, i8', i9, i10, i10'⟩ := id hI
      have ho := outC_snoc A 1 p pre ⟨x, hx1, hx2, hx3⟩
      generalize outC A 1 p pre = o at *
      obtain ⟨i4, -⟩ := i4
      obtain ⟨i5, -⟩ := i5
      obtain ⟨i9, -⟩ := i9
      obtain ⟨j10, f10⟩ := i10
      obtain ⟨j10', f10'⟩ := i10'
      dsimp only
      have x0 : (0 : Int) ≤ (x : Int) := by omega
      have x1 : (x : Int) < 38 := by omega
      have ha : W.cell? ⟨g, x * 4 + 1, none⟩ = some (.int .i64 (A x 0)) := by have := sc_later hB (hA x hx1 hx2 hx3 0 (by omega)); simpa using this
      gi_wp2
      refine wpIn_region_quietR (by simp) (by kernel_rfl) (by kernel_rfl) ?_
      repeat (gi_big_quiet_step (fail))
      refine wpQuietIn_nil ?_
      intro _ hw'
      obtain ⟨nq, hw''⟩ := hw'
      subst hw''
      gi_wp2
      refine ⟨trivial, ?_⟩
      refine (CallsIn.inRound l (callsIn_wide.2 (choose2_ok _ _ _))).mono ?_
      rintro e w1 ⟨rfl, rfl⟩
      by_cases hlt : A x 0 < o.2
      · have hst : chStep A 1 o x = (x, A x 0) := by simp [chStep, betB, hlt]
        gi_wp2
        refine ⟨((keepsOthers_drewN _ _).trans (KeepsOthers.setCell _ _ _)).trans (KeepsOthers.setCell _ _ _), trivial, ?_, ?_⟩
        · rw [ho, hst]; exact (hI.drew _).put x (A x 0)
        · exact ((sc_drewN hB _).setCell (p := ⟨w.heap.size + 1 + 1 + 1 + 1 + 1, 0, none⟩) (by simp; omega) _).setCell (p := ⟨w.heap.size + 1 + 1 + 1 + 1 + 1, 1, none⟩) (by simp; omega) _
      · have hst : chStep A 1 o x = o := by simp [chStep, betB, hlt]
        gi_wp2
        refine ⟨keepsOthers_drewN _ _, trivial, ?_, sc_drewN hB _⟩
        rw [ho, hst]; exact hI.drew _
    case done =>
      rintro D ys W hD hys ⟨hI, hB⟩ hK
      have ho : outC A 1 p ys = chooseC A 1 b p := by unfold outC chooseC; rw [hys]
      rw [ho] at hI
      generalize hoc : chooseC A 1 b p = o at *
      obtain ⟨i4, i5, i8, i8', i9, i10, i10'⟩ := id hI
      obtain ⟨j10, f10⟩ := i10
      obtain ⟨j10', f10'⟩ := i10'
      have j8 := i8.1
      have f8 := i8.2
      have j8' := i8'.1
      have f8' := i8'.2
      gi_wp2
      have hK1 := (KeepsOthers.setCell W ⟨w.heap.size + 1 + 1 + 1, 0, none⟩ (.int .u8 o.1)).same D _ hK rfl
      have hK2 := (KeepsOthers.setCell _ ⟨w.heap.size + 1 + 1 + 1, 1, none⟩ (.int .i64 o.2)).same D _ hK1 rfl
      have r1 := cellIs_kept (cellIs_far (cellIs_set i8 (.int .u8 o.1)) (a := ⟨w.heap.size + 1 + 1 + 1, 1, none⟩) (.int .i64 o.2) (by simp)) (grownBy_putObj' _ D (.deferred none)) (fun r e => by cases e; exact ⟨_, hK2, rfl⟩)
      have r2 := cellIs_kept (cellIs_set (cellIs_far i8' (a := ⟨w.heap.size + 1 + 1 + 1, 0, none⟩) (.int .u8 o.1) (by simp)) (.int .i64 o.2)) (grownBy_putObj' _ D (.deferred none)) (fun r e => by cases e; exact ⟨_, hK2, rfl⟩)
      refine ⟨by simp, .inl ⟨_, _, rfl, run_takeDeferred hK2, ?_⟩⟩
      refine ⟨.agg #[.int .u8 o.1, .int .i64 o.2], ?_, by rw [hoc], ((hB.setCell (p := ⟨w.heap.size + 1 + 1 + 1, 0, none⟩) (by simp; omega) _).setCell (p := ⟨w.heap.size + 1 + 1 + 1, 1, none⟩) (by simp; omega) _).trans (belowK_b (w := w) (Nat.le_refl _) _ D _ _ (by have := HW.size; omega) hK2 rfl rfl)⟩
      simp [results, Try.f23, go_sem, r1.1, r2.1]
    case stop =>
      rintro D c pre W _ _ h _
      exact h.elim
end Go.Proofs.Ytfacmkelbjfffaa
