/- ParWrong: the walk. -/
import Derived.Test.YtfacmkelbjfffaaMoreA
namespace Go.Proofs.Ytfacmkelbjfffaa
open Go.RowKit
set_option linter.unusedVariables false
set_option linter.unusedSimpArgs false
set_option maxRecDepth 100000

theorem putT_wrong (T : Nat → Int) (k : Nat) (x : Int) (hk : k < 20) (hx : x < 0 ∨ 13 < x) : rightT (putT T k x) = false := rightT_bad hk (by unfold putT; rw [if_pos rfl]; exact hx)
theorem wrongT_of {T : Nat → Int} {u b s : Int} (h : rightT T = false ∨ 3 < u ∨ b < 3 ∨ 37 < b ∨ 1 < s) : wrongT T u b s = true := by
  unfold wrongT
  rcases h with h | h | h | h | h <;> simp [h]
def triA (m1 m2 m3 m4 : Int) (i j : Nat) : Int := match i, j with
  | 0, 0 => m1
  | 0, 1 => 3
  | 1, 1 => m2
  | 2, 1 => m3
  | 3, 1 => 3
  | 3, 2 => m4
  | _, _ => 0
theorem tri_cells (W : World) (m1 m2 m3 m4 : Int) (t : TypeId) : ∀ i, i < 4 → ∀ j, j < 3 → (W.alloc (.cells #[.int .u8 m1, .int .u8 3, .int .u8 0, .int .u8 0, .int .u8 m2, .int .u8 0, .int .u8 0, .int .u8 m3, .int .u8 0, .int .u8 0, .int .u8 3, .int .u8 m4] t)).cell? ⟨W.heap.size, i * 3 + j, none⟩ = some (.int .u8 (triA m1 m2 m3 m4 i j)) := by
  intro i hi j hj
  refine (cellIs_row W _ t _ _ ?_).1
  match i, hi, j, hj with
  | 0, _, 0, _ | 0, _, 1, _ | 0, _, 2, _ | 1, _, 0, _ | 1, _, 1, _ | 1, _, 2, _ | 2, _, 0, _ | 2, _, 1, _ | 2, _, 2, _ | 3, _, 0, _ | 3, _, 1, _ | 3, _, 2, _ => rfl
  | i + 4, h, _, _ => exact absurd h (by omega)
  | _, _, j + 3, h => exact absurd h (by omega)
theorem tri_wrong (T : Nat → Int) (m1 m2 m3 m4 : Int) (h1 : 3 < m1) (h2 : m2 < 3) (h3 : 37 < m3) (h4 : 1 < m4) : ∀ i, i < 4 → wrongT T (triA m1 m2 m3 m4 i 0) (triA m1 m2 m3 m4 i 1) (triA m1 m2 m3 m4 i 2) = true := by
  intro i hi
  match i, hi with
  | 0, _ => exact wrongT_of (.inr (.inl h1))
  | 1, _ => exact wrongT_of (.inr (.inr (.inl h2)))
  | 2, _ => exact wrongT_of (.inr (.inr (.inr (.inl h3))))
  | 3, _ => exact wrongT_of (.inr (.inr (.inr (.inr h4))))
  | i + 4, h => exact absurd h (by omega)
theorem tri_new (W : World) (a b c : Value) (t : TypeId) : ∃ W' g, W' = W.alloc (.cells #[a, b, c] t) ∧ g = W.heap.size ∧ W'.cell? ⟨g, 0, none⟩ = some a ∧ W'.cell? ⟨g, 1, none⟩ = some b ∧ W'.cell? ⟨g, 2, none⟩ = some c ∧ Below W.heap.size W W' :=
  ⟨_, _, rfl, rfl, (cellIs_row W _ t 0 _ rfl).1, (cellIs_row W _ t 1 _ rfl).1, (cellIs_row W _ t 2 _ rfl).1, sst1 _ _⟩
/-- The two numbers behind the limits. -/
def WrCut (w : World) (T : Nat → Int) (g1 : Nat) (a b c : Value) (wx : World) : Prop :=
  ∃ g5 x0 x1, a = .slice (some ⟨g5, 0, none⟩) 2 2 ∧ b = .int .i64 2 ∧ c = .int .i64 0 ∧ wx.cell? ⟨g5, 0, none⟩ = some (.int .i64 x0) ∧ wx.cell? ⟨g5, 1, none⟩ = some (.int .i64 x1) ∧ x0 < 0 ∧ 13 < x1 ∧ TabAt wx g1 T ∧ Below w.heap.size w wx
def WrRel (w : World) (T : Nat → Int) (g1 g5 : Nat) (x0 x1 : Int) (i : Value) (wr : World) : Prop :=
  ∃ j : Nat, j ≤ 2 ∧ i = .int .i64 j ∧ wr.cell? ⟨g5, 0, none⟩ = some (.int .i64 x0) ∧ wr.cell? ⟨g5, 1, none⟩ = some (.int .i64 x1) ∧ TabAt wr g1 T ∧ Below w.heap.size w wr
/-- Four triples that cannot be asked for. -/
def TriCut (w : World) (T : Nat → Int) (g1 : Nat) (a b c : Value) (wx : World) : Prop :=
  ∃ (g7 : Nat) (A : Nat → Nat → Int), a = .slice (some ⟨g7, 0, none⟩) 4 4 ∧ b = .int .i64 4 ∧ c = .int .i64 0 ∧ (∀ i, i < 4 → ∀ j, j < 3 → wx.cell? ⟨g7, i * 3 + j, none⟩ = some (.int .u8 (A i j))) ∧ (∀ i, i < 4 → wrongT T (A i 0) (A i 1) (A i 2) = true) ∧ TabAt wx g1 T ∧ Below w.heap.size w wx
def TriRel (w : World) (T : Nat → Int) (g1 g7 : Nat) (A : Nat → Nat → Int) (i : Value) (wr : World) : Prop :=
  ∃ j : Nat, j ≤ 4 ∧ i = .int .i64 j ∧ (∀ i, i < 4 → ∀ j, j < 3 → wr.cell? ⟨g7, i * 3 + j, none⟩ = some (.int .u8 (A i j))) ∧ TabAt wr g1 T ∧ Below w.heap.size w wr

set_option maxHeartbeats 2000000 in
theorem ParWrong_any (B : Nat → Int) (n k : Int) (w : World) (hB : BytesIn B) (hn : -9223372036854775808 ≤ n ∧ n ≤ 9223372036854775807) (hk : 0 ≤ k ∧ k ≤ 255) :
    Calls Try.prog 10 #[.agg (bytV B), .int .i64 n, .int .u8 k] w fun e w' => e = .returned (.bool true) ∧ Below w.heap.size w w' := by
  have HM := Sec.mk fun w' => Made_ok B w' hB
  have HA := Sec.mk awake_true
  have hTr := madeT_right hB
  generalize madeT B = T at *
  obtain ⟨a, ha, ha4⟩ : ∃ a : Nat, k % 5 = (a : Int) ∧ a ≤ 4 := ⟨(k % 5).toNat, by omega, by omega⟩
  obtain ⟨b, hb, hb3⟩ : ∃ b : Nat, k % 4 = (b : Int) ∧ b ≤ 3 := ⟨(k % 4).toNat, by omega, by omega⟩
  have hra := (byt_new w B).range
  have hszb : (Try.prog.info? 22).map (·.size) = some (bytV B).toList.length := info_byt
  have hszt : (Try.prog.info? 25).map (·.size) = some (tabV T).toList.length := info_tab
  have h1c := tab_one T
  go_enter Try.func10, Try.ntmps10
  go_wp2_with (refine wpList_load_mid (by rfl) 22 (.tmp 3) (by rfl) w.heap.size 0 (by rfl) (bytV B).toList _ hra Try.underlying22 rfl hszb ?_; simp only [Array.toArray_toList])
  refine (HM.out _).mono ?_
  rintro e w1 ⟨rfl, hb1⟩
  have hBl := sbtr (sst1 w (.cells (bytV B) 22)) hb1
  clear hra hb1 HM
  have hth := tab_there w1 T
  go_upto_region 2 with (refine wpList_store_mid (by rfl) 25 (.tmp 7) (.tmp 43) ?_ w1.heap.size 0 (tabV T) ?_ ?_ ?_ info_tab h1c ?_; rfl; rfl; rfl; exact hth; simp only [Act.put])
  rw [← zeros20]
  obtain ⟨W2, g1, e2, eg, t1, hb2⟩ := tab_put w1 T
  rw [← e2, ← eg]
  have hBl := sbtr hBl hb2
  clear e2 eg hb2 hth
  go_cut [48, 49, 50] (fun a b c wx => WrCut w T g1 a b c wx)
  case first =>
    have hmk := fun x0 x1 => (⟨cellIs_row W2 #[.int .i64 x0, .int .i64 x1] 3 0 _ rfl, cellIs_row W2 #[.int .i64 x0, .int .i64 x1] 3 1 _ rfl⟩ : CellIs _ _ _ ∧ CellIs _ _ _)
    rcases (by omega : n ≤ -1 ∨ -1 < n ∧ n < 14 ∨ 14 ≤ n) with h | ⟨h, h'⟩ | h
    · have h2 : n < 14 := by omega
      go_wp2_with fail
      all_goals go_meet
      all_goals exact ⟨W2.heap.size, _, _, rfl, rfl, rfl, (hmk _ _).1.1, (hmk _ _).2.1, by omega, by omega, t1.later (sst1 _ _), sbtr hBl (sst1 _ _)⟩
    · go_wp2_with fail
      all_goals go_meet
      all_goals exact ⟨W2.heap.size, _, _, rfl, rfl, rfl, (hmk _ _).1.1, (hmk _ _).2.1, by omega, by omega, t1.later (sst1 _ _), sbtr hBl (sst1 _ _)⟩
    · have h2 : -1 < n := by omega
      go_wp2_with fail
      all_goals go_meet
      all_goals exact ⟨W2.heap.size, _, _, rfl, rfl, rfl, (hmk _ _).1.1, (hmk _ _).2.1, by omega, by omega, t1.later (sst1 _ _), sbtr hBl (sst1 _ _)⟩
  case rest =>
    clear t1 hBl
    obtain ⟨g5, x0, x1, rfl, rfl, rfl, c0, c1, hx0, hx1, t1, hBl⟩ := hcut
    go_wp2_with fail
    go_loopw [50] (fun i wr => WrRel w T g1 g5 x0 x1 i wr) (fun i _ => 2 - (intOf i).toNat)
    case atStart => exact ⟨0, by omega, rfl, c0, c1, t1, hBl⟩
    case round =>
      clear c0 c1 t1 hBl
      obtain ⟨j, hj, rfl, c0, c1, t1, hBl⟩ := hrel
      by_cases hlt : j < 2
      · obtain ⟨x, hx, cx⟩ : ∃ x : Int, (x < 0 ∨ 13 < x) ∧ wr.cell? ⟨g5, j, none⟩ = some (.int .i64 x) := by
          rcases (by omega : j = 0 ∨ j = 1) with rfl | rfl
          · exact ⟨x0, .inl hx0, c0⟩
          · exact ⟨x1, .inr hx1, c1⟩
        have j0 : (0 : Int) ≤ (j : Int) := by omega
        have j2 : (j : Int) < 2 := by omega
        have a0 : (0 : Int) ≤ (a : Int) := by omega
        have a5 : (a : Int) < 5 := by omega
        have b0 : (0 : Int) ≤ (b : Int) := by omega
        have b4 : (b : Int) < 4 := by omega
        have hra := t1.range
        have hth := tab_there wr T
        go_upto_region 6 with (first
          | (refine wpList_load_mid (by rfl) 25 (.tmp 7) (by rfl) g1 0 (by rfl) (tabV T).toList _ hra Try.underlying25 rfl hszt ?_; simp only [Array.toArray_toList])
          | (refine wpList_store_mid (by rfl) 25 (.tmp 10) (.tmp 54) ?_ wr.heap.size 0 (tabV T) ?_ ?_ ?_ info_tab h1c ?_; rfl; rfl; rfl; exact hth; simp only [Act.put]))
        rw [← zeros20]
        have hszr := hBl.size
        obtain ⟨W4, g10, e4, eg, t10, hb4⟩ := tab_put wr T
        rw [← e4, ← eg]
        have hg10 : w.heap.size ≤ g10 := by rw [eg]; exact hszr
        have hne : g1 ≠ g10 := by rw [eg]; exact Nat.ne_of_lt t1.lt
        have hne5 : g5 ≠ g10 := by rw [eg]; exact Nat.ne_of_lt (World.block_lt_of_cell? _ _ c0)
        have t1 := t1.later hb4
        have c0 := sc_later hb4 c0
        have c1 := sc_later hb4 c1
        have hBl := sbtr hBl hb4
        clear e4 eg hb4 hth hra cx hszr
        obtain ⟨m0, n0⟩ := id (t10 (a * 4 + b) (by omega))
        go_upto_region 7 with fail
        obtain ⟨W5, e5, tu, t1, c0, c1, hBl⟩ : ∃ W5, W5 = W4.setCell ⟨g10, a * 4 + b, none⟩ (.int .i64 x) ∧ TabAt W5 g10 (putT T (a * 4 + b) x) ∧ TabAt W5 g1 T ∧ W5.cell? ⟨g5, 0, none⟩ = some (.int .i64 x0) ∧ W5.cell? ⟨g5, 1, none⟩ = some (.int .i64 x1) ∧ Below w.heap.size w W5 :=
          ⟨_, rfl, t10.put _ (by omega) _, t1.put_far _ _ (Ne.symm hne), by rw [World.cell?_setCell_other _ _ _ _ (by simp only [ne_eq, Addr.mk.injEq]; omega)]; exact c0, by rw [World.cell?_setCell_other _ _ _ _ (by simp only [ne_eq, Addr.mk.injEq]; omega)]; exact c1, hBl.setCell (p := ⟨g10, a * 4 + b, none⟩) hg10 _⟩
        rw [← e5]
        have hUr := putT_wrong T (a * 4 + b) x (by omega) hx
        generalize putT T (a * 4 + b) x = U at *
        clear e5 m0 n0 t10
        have hszu : (Try.prog.info? 25).map (·.size) = some (tabV U).toList.length := info_tab
        have TU := Sec.mk tu
        have T1 := Sec.mk t1
        have H1 := Sec.mk fun w' => Best_wrong U 0 0 w' (.inl hUr)
        have H2 := Sec.mk fun w' => Final_wrong U 0 3 0 w' (wrongT_of (.inl hUr))
        have H3 := Sec.mk fun w' => Value_wrong U 0 3 0 w' (wrongT_of (.inl hUr))
        have H4 := Sec.mk fun w' => Bids_wrong U 0 0 w' (.inl hUr)
        have H5 := Sec.mk fun w' => Par_wrong U 0 0 w' (.inl hUr)
        have H6 := Sec.mk fun w' => Right_ok U w'
        rw [hUr] at H6
        unfold noneV at H5
        clear tu t1
        have hra := TU.out.range
        go_wp2_with (refine wpList_load_mid (by rfl) 25 (.tmp 10) (by rfl) g10 0 (by rfl) (tabV U).toList _ hra Try.underlying25 rfl hszu ?_; simp only [Array.toArray_toList])
        refine (H1.out _).mono ?_
        rintro e w7 ⟨rfl, hb⟩
        have TU := Sec.mk (TU.out.later hb)
        have T1 := Sec.mk (T1.out.later hb)
        have c0 := sc_later hb c0
        have c1 := sc_later hb c1
        have hBl := sbtr hBl hb
        clear hb hra H1
        have hra := TU.out.range
        go_wp2_with (refine wpList_load_mid (by rfl) 25 (.tmp 10) (by rfl) g10 0 (by rfl) (tabV U).toList _ hra Try.underlying25 rfl hszu ?_; simp only [Array.toArray_toList])
        refine (H2.out _).mono ?_
        rintro e w8 ⟨rfl, hb⟩
        go_upto_region 9 with fail
        obtain ⟨w8', gw8, e6, eg, -, hb6⟩ := out_new w8 (.int .u8 0) (.int .u8 0) (.int .u8 0) (.int .u8 0) (.int .i64 0) (.int .i64 0) 30
        rw [← e6, ← eg]
        have hb := sbtr hb hb6
        clear e6 eg hb6
        have TU := Sec.mk (TU.out.later hb)
        have T1 := Sec.mk (T1.out.later hb)
        have c0 := sc_later hb c0
        have c1 := sc_later hb c1
        have hBl := sbtr hBl hb
        clear hb hra H2
        have hra := TU.out.range
        go_wp2_with (refine wpList_load_mid (by rfl) 25 (.tmp 10) (by rfl) g10 0 (by rfl) (tabV U).toList _ hra Try.underlying25 rfl hszu ?_; simp only [Array.toArray_toList])
        refine (H3.out _).mono ?_
        rintro e w9 ⟨rfl, hb⟩
        have TU := Sec.mk (TU.out.later hb)
        have T1 := Sec.mk (T1.out.later hb)
        have c0 := sc_later hb c0
        have c1 := sc_later hb c1
        have hBl := sbtr hBl hb
        clear hb hra H3
        have hra := TU.out.range
        go_wp2_with (refine wpList_load_mid (by rfl) 25 (.tmp 10) (by rfl) g10 0 (by rfl) (tabV U).toList _ hra Try.underlying25 rfl hszu ?_; simp only [Array.toArray_toList])
        refine (H4.out _).mono ?_
        rintro e w10 ⟨rfl, hb⟩
        have TU := Sec.mk (TU.out.later hb)
        have T1 := Sec.mk (T1.out.later hb)
        have c0 := sc_later hb c0
        have c1 := sc_later hb c1
        have hBl := sbtr hBl hb
        clear hb hra H4
        have hra := TU.out.range
        go_wp2_with (refine wpList_load_mid (by rfl) 25 (.tmp 10) (by rfl) g10 0 (by rfl) (tabV U).toList _ hra Try.underlying25 rfl hszu ?_; simp only [Array.toArray_toList])
        refine (H5.out _).mono ?_
        rintro e w11 ⟨rfl, hb⟩
        go_upto_region 12 with fail
        obtain ⟨w11', gw11, e6, eg, -, hb6⟩ := out_new w11 (.int .u8 0) (.int .u8 0) (.int .u8 0) (.int .u8 0) (.int .i64 0) (.int .i64 0) 30
        rw [← e6, ← eg]
        have hb := sbtr hb hb6
        clear e6 eg hb6
        have TU := Sec.mk (TU.out.later hb)
        have T1 := Sec.mk (T1.out.later hb)
        have c0 := sc_later hb c0
        have c1 := sc_later hb c1
        have hBl := sbtr hBl hb
        clear hb hra H5
        have hra := TU.out.range
        go_wp2_with (refine wpList_load_mid (by rfl) 25 (.tmp 10) (by rfl) g10 0 (by rfl) (tabV U).toList _ hra Try.underlying25 rfl hszu ?_; simp only [Array.toArray_toList])
        refine (H6.out _).mono ?_
        rintro e w12 ⟨rfl, hb⟩
        have TU := Sec.mk (TU.out.later hb)
        have T1 := Sec.mk (T1.out.later hb)
        have c0 := sc_later hb c0
        have c1 := sc_later hb c1
        have hBl := sbtr hBl hb
        clear hb hra H6
        go_wp2_with fail
        exact ⟨⟨j + 1, hlt, rfl, c0, c1, T1.out, hBl⟩, by simp only [intOf]; omega⟩
      · clear c0 c1
        go_upto_region 15 with fail
        go_cut [129, 130, 131] (fun a b c wx => TriCut w T g1 a b c wx)
        case first =>
          rcases (by omega : k ≤ 1 ∨ (1 < k ∧ k < 4) ∨ (4 ≤ k ∧ k < 38) ∨ 38 ≤ k) with h | ⟨h, h'⟩ | ⟨h, h'⟩ | h
          all_goals
            go_wp2_with fail
            all_goals go_meet
            all_goals exact ⟨wr.heap.size, triA _ _ _ _, rfl, rfl, rfl, tri_cells wr _ _ _ _ _, tri_wrong T _ _ _ _ (by omega) (by omega) (by omega) (by omega), t1.later (sst1 _ _), sbtr hBl (sst1 _ _)⟩
        case rest =>
          clear t1 hBl
          obtain ⟨g7, A, rfl, rfl, rfl, hA, hAw, t1, hBl⟩ := hcut
          go_wp2_with fail
          go_loopw [131] (fun i wr => TriRel w T g1 g7 A i wr) (fun i _ => 4 - (intOf i).toNat)
          case atStart => exact ⟨0, by omega, rfl, hA, t1, hBl⟩
          case round =>
            clear hA t1 hBl
            obtain ⟨i, hi, rfl, hA, t1, hBl⟩ := hrel
            by_cases hli : i < 4
            · have i0 : (0 : Int) ≤ (i : Int) := by omega
              have i4 : (i : Int) < 4 := by omega
              have c0 := hA i hli 0 (by omega)
              have c1 := hA i hli 1 (by omega)
              have c2 := hA i hli 2 (by omega)
              rw [Nat.add_zero] at c0
              have hw := hAw i hli
              have H1 := Sec.mk fun w' => Final_wrong T (A i 0) (A i 1) (A i 2) w' hw
              have H2 := Sec.mk fun w' => Value_wrong T (A i 0) (A i 1) (A i 2) w' hw
              have HA4 := Sec.mk hA
              clear hA hw
              generalize A i 0 = y0 at *
              generalize A i 1 = y1 at *
              generalize A i 2 = y2 at *
              go_upto_region 18 with fail
              obtain ⟨W6, g25, e6, eg, d0, d1, d2, hb⟩ := tri_new wr (.int .u8 y0) (.int .u8 y1) (.int .u8 y2) 51
              rw [← e6, ← eg]
              have T1 := Sec.mk (t1.later hb)
              have hBl := sbtr hBl hb
              have HA4 := Sec.mk fun i hi j hj => sc_later hb (HA4.out i hi j hj)
              clear e6 eg c0 c1 c2 t1 hb
              have hra := T1.out.range
              go_wp2_with (refine wpList_load_mid (by rfl) 25 (.tmp 7) (by rfl) g1 0 (by rfl) (tabV T).toList _ hra Try.underlying25 rfl hszt ?_; simp only [Array.toArray_toList])
              refine (H1.out _).mono ?_
              rintro e w7 ⟨rfl, hb⟩
              go_upto_region 19 with fail
              obtain ⟨W8, g8, e8, eg, -, hb8⟩ := out_new w7 (.int .u8 0) (.int .u8 0) (.int .u8 0) (.int .u8 0) (.int .i64 0) (.int .i64 0) 30
              rw [← e8, ← eg]
              have hb := sbtr hb hb8
              have T1 := Sec.mk (T1.out.later hb)
              have hBl := sbtr hBl hb
              have HA4 := Sec.mk fun i hi j hj => sc_later hb (HA4.out i hi j hj)
              have d0 := sc_later hb d0
              have d1 := sc_later hb d1
              have d2 := sc_later hb d2
              clear e8 eg hb hb8 hra H1
              have hra := T1.out.range
              go_wp2_with (refine wpList_load_mid (by rfl) 25 (.tmp 7) (by rfl) g1 0 (by rfl) (tabV T).toList _ hra Try.underlying25 rfl hszt ?_; simp only [Array.toArray_toList])
              refine (H2.out _).mono ?_
              rintro e w9 ⟨rfl, hb⟩
              have T1 := Sec.mk (T1.out.later hb)
              have hBl := sbtr hBl hb
              have HA4 := Sec.mk fun i hi j hj => sc_later hb (HA4.out i hi j hj)
              clear hb hra H2 d0 d1 d2
              go_wp2_with fail
              exact ⟨⟨i + 1, hli, rfl, HA4.out, T1.out, hBl⟩, by simp only [intOf]; omega⟩
            · clear hA hAw
              have T1 := Sec.mk t1
              clear t1
              rcases (by omega : k ≤ 1 ∨ (1 < k ∧ k < 4) ∨ k = 4 ∨ 4 < k) with h | ⟨h, h'⟩ | rfl | h
              all_goals
                have hra := T1.out.range
                go_wp2_with (refine wpList_load_mid (by rfl) 25 (.tmp 7) (by rfl) g1 0 (by rfl) (tabV T).toList _ hra Try.underlying25 rfl hszt ?_; simp only [Array.toArray_toList])
                refine (Best_wrong T _ _ _ (.inr (.inl (by omega)))).mono ?_
                rintro e w7 ⟨rfl, hb⟩
                have T1 := Sec.mk (T1.out.later hb)
                have hBl := sbtr hBl hb
                clear hb hra
                have hra := T1.out.range
                go_wp2_with (refine wpList_load_mid (by rfl) 25 (.tmp 7) (by rfl) g1 0 (by rfl) (tabV T).toList _ hra Try.underlying25 rfl hszt ?_; simp only [Array.toArray_toList])
                refine (Best_wrong T _ _ _ (.inr (.inr (by omega)))).mono ?_
                rintro e w8 ⟨rfl, hb⟩
                have T1 := Sec.mk (T1.out.later hb)
                have hBl := sbtr hBl hb
                clear hb hra
                have hra := T1.out.range
                go_wp2_with (refine wpList_load_mid (by rfl) 25 (.tmp 7) (by rfl) g1 0 (by rfl) (tabV T).toList _ hra Try.underlying25 rfl hszt ?_; simp only [Array.toArray_toList])
                refine (Bids_wrong T _ _ _ (.inr (.inl (by omega)))).mono ?_
                rintro e w9 ⟨rfl, hb⟩
                have T1 := Sec.mk (T1.out.later hb)
                have hBl := sbtr hBl hb
                clear hb hra
                have hra := T1.out.range
                go_wp2_with (refine wpList_load_mid (by rfl) 25 (.tmp 7) (by rfl) g1 0 (by rfl) (tabV T).toList _ hra Try.underlying25 rfl hszt ?_; simp only [Array.toArray_toList])
                refine (Par_wrong T _ _ _ (.inr (.inr (by omega)))).mono ?_
                rintro e w10 ⟨rfl, hb⟩
                have hBl := sbtr hBl hb
                clear hb hra T1
                unfold noneV
                go_wp2_with (go_at_call 14; refine (HA.out _).mono ?_; rintro e w11 ⟨rfl, hb11⟩)
                go_ret
                exact ⟨rfl, sbtr (sbtr hBl (sst1 _ _)) hb11⟩
end Go.Proofs.Ytfacmkelbjfffaa
