/- ParMore: the walk. -/
import Derived.Test.YtfacmkelbjfffaaPlainB
namespace Go.Proofs.Ytfacmkelbjfffaa
open Go.RowKit
set_option linter.unusedVariables false
set_option linter.unusedSimpArgs false
set_option maxRecDepth 100000

theorem BytAt.later {W W' : World} {g : Nat} {B : Nat → Int} (h : BytAt W g B) (hb : Below W.heap.size W W') : BytAt W' g B := fun k hk => cellIs_later hb (h k hk)
theorem byt_new (w : World) (B : Nat → Int) : BytAt (w.alloc (.cells (bytV B) 22)) w.heap.size B := fun k hk => cellIs_row w (bytV B) 22 k _ (byt_cells B k hk)
theorem BytAt.range {W : World} {g : Nat} {B : Nat → Int} (h : BytAt W g B) : W.rangeAt g 0 (bytV B).toList := fun j v hv => by
  have hj : j < 20 := (List.getElem?_eq_some_iff.1 hv).1
  have e := byt_cells B j hj
  rw [Array.getElem?_toList, e] at hv
  cases hv
  rw [Nat.zero_add]; exact (h j hj).1
theorem info_byt : (Try.prog.info? 22).map (·.size) = some 20 := by kernel_rfl
theorem zeros20 : (tabV fun _ => 0) = #[.int .i64 0, .int .i64 0, .int .i64 0, .int .i64 0, .int .i64 0, .int .i64 0, .int .i64 0, .int .i64 0, .int .i64 0, .int .i64 0, .int .i64 0, .int .i64 0, .int .i64 0, .int .i64 0, .int .i64 0, .int .i64 0, .int .i64 0, .int .i64 0, .int .i64 0, .int .i64 0] := rfl
/-- A table stored into a new variable. -/
theorem tab_put (w1 : World) (T : Nat → Int) : ∃ W g, W = (w1.alloc (.cells (tabV fun _ => 0) 25)).setCells w1.heap.size 0 (tabV T).toList ∧ g = w1.heap.size ∧ TabAt W g T ∧ Below w1.heap.size w1 W :=
  ⟨_, _, rfl, rfl, (tab_new w1 _).stored T, below_setCells _ (Nat.le_refl _) _ _ _ (sst1 _ _)⟩
theorem tab_there (w1 : World) (T : Nat → Int) : (w1.alloc (.cells (tabV fun _ => 0) 25)).there w1.heap.size 0 (tabV T).size := (tab_new w1 _).there T
theorem parV_agg (T : Nat → Int) (u : Int) (s : Nat) : ∃ a b c d e f : Int, parV T u s = .agg #[.int .u8 a, .int .u8 b, .int .u8 c, .int .u8 d, .int .i64 e, .int .i64 f] := by
  unfold parV
  split
  · exact ⟨_, _, _, _, _, _, rfl⟩
  · exact ⟨_, _, _, _, _, _, rfl⟩
theorem Par_six (T : Nat → Int) (u : Int) (d : Nat) (hT : rightT T = true) (hu : 0 ≤ u ∧ u ≤ 3) (hd : d ≤ 3) : ∃ a b c d' e f : Int, parV T u (d % 2) = .agg #[.int .u8 a, .int .u8 b, .int .u8 c, .int .u8 d', .int .i64 e, .int .i64 f] ∧ Sec (∀ w, Calls Try.prog 12 #[.agg (tabV T), .int .u8 u, .int .u8 d] w fun e' w' =>
    e' = .returned (.tuple #[.agg #[.int .u8 a, .int .u8 b, .int .u8 c, .int .u8 d', .int .i64 e, .int .i64 f], .int .i64 (parZ T u (d % 2)), .int .i64 0]) ∧ Below w.heap.size w w') := by
  obtain ⟨a, b, c, d', e, f, h⟩ := parV_agg T u (d % 2)
  refine ⟨a, b, c, d', e, f, h, ⟨fun w => ?_⟩⟩
  have := Par_ok T u d w hT hu hd
  rw [h] at this
  exact this

set_option maxHeartbeats 400000 in
theorem ParMore_any (B : Nat → Int) (u d dn st : Int) (w : World) (hB : BytesIn B) (hu : 0 ≤ u ∧ u ≤ 255) (hd : 0 ≤ d ∧ d ≤ 255) (hdn : 0 ≤ dn ∧ dn ≤ 255) (hst : 0 ≤ st ∧ st ≤ 255) :
    Calls Try.prog 4 #[.agg (bytV B), .int .u8 u, .int .u8 d, .int .u8 dn, .int .u8 st] w fun e w' => e = .returned (.bool true) ∧ Below w.heap.size w w' := by
  have HM := Sec.mk fun w' => Made_ok B w' hB
  have HA := Sec.mk awake_true
  have hTr := madeT_right hB
  generalize madeT B = T at *
  obtain ⟨v, hv, hv3⟩ : ∃ v, u % 4 = v ∧ 0 ≤ v ∧ v ≤ 3 := ⟨_, rfl, by omega⟩
  obtain ⟨D, hD, hD3⟩ : ∃ D : Nat, d % 4 = (D : Int) ∧ D ≤ 3 := ⟨(d % 4).toNat, by omega, by omega⟩
  obtain ⟨a, ha, ha4⟩ : ∃ a : Nat, dn % 5 = (a : Int) ∧ a ≤ 4 := ⟨(dn % 5).toNat, by omega, by omega⟩
  obtain ⟨b, hb, hb3⟩ : ∃ b : Nat, st % 4 = (b : Int) ∧ b ≤ 3 := ⟨(st % 4).toNat, by omega, by omega⟩
  have hra := (byt_new w B).range
  have hszb : (Try.prog.info? 22).map (·.size) = some (bytV B).toList.length := info_byt
  have hszt : (Try.prog.info? 25).map (·.size) = some (tabV T).toList.length := info_tab
  have h1c := tab_one T
  have a0 : (0 : Int) ≤ (a : Int) := by omega
  have a1 : (a : Int) < 5 := by omega
  have b0 : (0 : Int) ≤ (b : Int) := by omega
  have b1 : (b : Int) < 4 := by omega
  go_enter Try.func4, Try.ntmps4
  go_wp2_with (refine wpList_load_mid (by rfl) 22 (.tmp 5) (by rfl) w.heap.size 0 (by rfl) (bytV B).toList _ hra Try.underlying22 rfl hszb ?_; simp only [Array.toArray_toList])
  refine (HM.out _).mono ?_
  rintro e w1 ⟨rfl, hb1⟩
  have hBl := sbtr (sst1 w (.cells (bytV B) 22)) hb1
  clear hra hb1 HM
  have hth := tab_there w1 T
  go_upto_region 2 with (refine wpList_store_mid (by rfl) 25 (.tmp 11) (.tmp 23) ?_ w1.heap.size 0 (tabV T) ?_ ?_ ?_ info_tab h1c ?_; rfl; rfl; rfl; exact hth; simp only [Act.put])
  rw [← zeros20]
  obtain ⟨W2, g1, e2, eg, t1, hb2⟩ := tab_put w1 T
  rw [← e2, ← eg]
  have hBl := sbtr hBl hb2
  clear e2 eg hb2 hth
  have hra := t1.range
  have hth := tab_there W2 T
  go_upto_region 3 with (first
    | (refine wpList_load_mid (by rfl) 25 (.tmp 11) (by rfl) g1 0 (by rfl) (tabV T).toList _ hra Try.underlying25 rfl hszt ?_; simp only [Array.toArray_toList])
    | (refine wpList_store_mid (by rfl) 25 (.tmp 15) (.tmp 30) ?_ W2.heap.size 0 (tabV T) ?_ ?_ ?_ info_tab h1c ?_; rfl; rfl; rfl; exact hth; simp only [Act.put]))
  rw [← zeros20]
  obtain ⟨W3, g2, e3, eg, t2, hb3⟩ := tab_put W2 T
  rw [← e3, ← eg]
  have t1 := t1.later hb3
  have hsz2 := hBl.size
  have hne : g1 ≠ g2 := by have := (tab_put W2 T); rw [eg]; exact Nat.ne_of_lt (TabAt.lt (by assumption))
  have hBl := sbtr hBl hb3
  have hg2 : w.heap.size ≤ g2 := by rw [eg]; exact hsz2
  clear e3 hb3 hth hra eg hsz2
  have hk : a * 4 + b < 20 := by omega
  obtain ⟨c2, f2⟩ := id (t2 (a * 4 + b) hk)
  have hTk := (rightT_iff T).1 hTr (a * 4 + b) hk
  by_cases h13 : T (a * 4 + b) = 13
  · have h13' : (T (a * 4 + b) == 13) = true := by simp [h13]
    go_wp2_with (go_at_call 14; refine (HA.out _).mono ?_; rintro e w5 ⟨rfl, hb5⟩)
    go_ret
    exact ⟨rfl, sbtr hBl hb5⟩
  · have h13' : (T (a * 4 + b) == 13) = false := by simp [h13]
    have hw : IntKind.i64.wrap (T (a * 4 + b) + 1) = T (a * 4 + b) + 1 := IntWalk.i64_in _ ⟨by omega, by omega⟩
    have hpm := fun s hs => par_more T v (a * 4 + b) s hs hk hTr (by omega)
    have hmr := more_right T (a * 4 + b) hk hTr (by omega)
    go_upto_region 5 with fail
    go_region
    go_upto_region 6 with fail
    obtain ⟨W4, e4, t2', t1', hB4⟩ : ∃ W4, W4 = (W3.setCell ⟨g2, a * 4 + b, none⟩ (.int .i64 (T (a * 4 + b) + 1))).drew ∧ TabAt W4 g2 (putT T (a * 4 + b) (T (a * 4 + b) + 1)) ∧ TabAt W4 g1 T ∧ Below w.heap.size w W4 :=
      ⟨_, rfl, t2.put _ hk _, t1.put_far _ _ (Ne.symm hne), (hBl.setCell (p := ⟨g2, a * 4 + b, none⟩) hg2 _).drew⟩
    rw [← e4]
    clear e4 t1 t2 c2 f2 hBl hw
    obtain ⟨q, hq, hq1⟩ : ∃ q : Nat, (b : Int) % 2 = (q : Int) ∧ q ≤ 1 := ⟨b % 2, by omega, by omega⟩
    obtain ⟨x1, x2, x3, x4, x5, x6, -, HP1⟩ := Par_six T v D hTr hv3 hD3
    obtain ⟨y1, y2, y3, y4, y5, y6, -, HP2⟩ := Par_six _ v D hmr hv3 hD3
    have hpm := hpm (D % 2) (by omega)
    have hn1 := parZ_bd T v (D % 2) (by omega) hTr
    have hm1 := parZ_bd _ v (D % 2) (by omega) hmr
    generalize hU : putT T (a * 4 + b) (T (a * 4 + b) + 1) = U at *
    generalize parZ T v (D % 2) = n at *
    generalize parZ U v (D % 2) = m at *
    obtain ⟨Y, X, OM, ON, hXY⟩ : ∃ Y X : Int, Sec (∀ w, Calls Try.prog 15 #[.int .i64 m, .int .u8 q] w fun e w' => e = .returned (.int .i64 Y) ∧ w' = w) ∧ Sec (∀ w, Calls Try.prog 15 #[.int .i64 n, .int .u8 q] w fun e w' => e = .returned (.int .i64 X) ∧ w' = w) ∧ X ≤ Y :=
      ⟨_, _, ⟨fun w => ours_ok m q w hq1 (by omega)⟩, ⟨fun w => ours_ok n q w hq1 (by omega)⟩, by
        by_cases e : q = 1
        · rw [if_pos e, if_pos e]; have := hpm.2 (by omega); omega
        · rw [if_neg e, if_neg e]; exact hpm.1 (by omega)⟩
    clear hpm hn1 hm1 hU hmr hTk h13 h13'
    have hszu : (Try.prog.info? 25).map (·.size) = some (tabV U).toList.length := info_tab
    have hra := t1'.range
    go_wp2_with (refine wpList_load_mid (by rfl) 25 (.tmp 11) (by rfl) g1 0 (by rfl) (tabV T).toList _ hra Try.underlying25 rfl hszt ?_; simp only [Array.toArray_toList])
    refine (HP1.out _).mono ?_
    rintro e w5 ⟨rfl, hb5⟩
    have hra2 := fun X => ((t2'.later hb5).later (sst1 w5 X)).range
    have hB5 := fun X => sbtr (sbtr hB4 hb5) (sst1 w5 X)
    clear hra t1' t2' hB4 hb5
    go_wp2_with (refine wpList_load_mid (by rfl) 25 (.tmp 15) (by rfl) g2 0 (by rfl) (tabV U).toList _ (hra2 _) Try.underlying25 rfl hszu ?_; simp only [Array.toArray_toList])
    refine (HP2.out _).mono ?_
    rintro e w6 ⟨rfl, hb6⟩
    have hB6 := sbtr (hB5 _) hb6
    clear hra2 hB5 hb6
    go_wp2_with (first
      | (go_at_call 15; refine (OM.out _).mono ?_; clear OM; rintro e w7 ⟨rfl, rfl⟩)
      | (go_at_call 15; refine (ON.out _).mono ?_; clear ON; rintro e w7 ⟨rfl, rfl⟩)
      | (go_at_call 14; refine (HA.out _).mono ?_; rintro e w8 ⟨rfl, hb8⟩))
    go_ret
    exact ⟨rfl, sbtr (sbtr hB6 (sst1 _ _)) hb8⟩
end Go.Proofs.Ytfacmkelbjfffaa
