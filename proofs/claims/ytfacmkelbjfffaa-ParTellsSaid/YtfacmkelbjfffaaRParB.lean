/- finesseref18: Final. -/
import Derived.Test.YtfacmkelbjfffaaRParA
namespace Go.Proofs.Ytfacmkelbjfffaa
open Go.RowKit
set_option linter.unusedVariables false
set_option linter.unusedSimpArgs false
set_option maxRecDepth 100000

def rWrongT (T : Nat → Int) (u b s : Int) : Bool := !rightT T || decide (3 < u) || decide (b < 3) || decide (37 < b) || decide (1 < s)
theorem rWrongT_eq (T : Nat → Int) (u b s : Int) : rWrongT T u b s = wrongT T u b s := rfl
/-- Six cells of an outcome. -/
theorem six_box (w : World) (v0 v1 v2 v3 v4 v5 : Value) (t : TypeId) : ∃ W g, W = w.alloc (.cells #[v0, v1, v2, v3, v4, v5] t) ∧ g = w.heap.size ∧ (CellIs W ⟨g, 0, none⟩ v0 ∧ CellIs W ⟨g, 1, none⟩ v1 ∧ CellIs W ⟨g, 2, none⟩ v2 ∧ CellIs W ⟨g, 3, none⟩ v3 ∧ CellIs W ⟨g, 4, none⟩ v4 ∧ CellIs W ⟨g, 5, none⟩ v5) ∧ Below w.heap.size w W :=
  ⟨_, _, rfl, rfl, ⟨cellIs_row _ _ _ 0 _ rfl, cellIs_row _ _ _ 1 _ rfl, cellIs_row _ _ _ 2 _ rfl, cellIs_row _ _ _ 3 _ rfl, cellIs_row _ _ _ 4 _ rfl, cellIs_row _ _ _ 5 _ rfl⟩, sst1 _ _⟩
/-- A block of six cells, whatever they hold. -/
def SixAt (W : World) (g : Nat) : Prop := ∀ k, k < 6 → ∃ v, CellIs W ⟨g, k, none⟩ v
theorem SixAt.later {W W' : World} {g : Nat} (h : SixAt W g) (hb : Below W.heap.size W W') : SixAt W' g := fun k hk => let ⟨v, hv⟩ := h k hk; ⟨v, cellIs_later hb hv⟩
theorem sixAt_new (w : World) (v0 v1 v2 v3 v4 v5 : Value) (t : TypeId) : SixAt (w.alloc (.cells #[v0, v1, v2, v3, v4, v5] t)) w.heap.size := fun k hk => ⟨_, cellIs_row w _ t k _ (Array.getElem?_eq_getElem (by simpa using hk))⟩
theorem rfin_start (w : World) (T : Nat → Int) (t t2 : TypeId) (v0 v1 v2 v3 v4 v5 : Value) : ∃ W g g8, W = (w.alloc (.cells (tabV T) t)).alloc (.cells #[v0, v1, v2, v3, v4, v5] t2) ∧ g = w.heap.size ∧ g8 = w.heap.size + 1 ∧ TabAt W g T ∧ SixAt W g8 ∧ Below w.heap.size w W := by
  refine ⟨_, _, _, rfl, rfl, rfl, ?_, ?_, sbtr (sst1 _ _) (sst1 _ _)⟩
  · exact TabAt.later (fun k hk => cellIs_row w (tabV T) _ k _ (tab_cells T k hk)) (sst1 _ _)
  · have h := sixAt_new (w.alloc (.cells (tabV T) t)) v0 v1 v2 v3 v4 v5 t2
    rwa [World.size_alloc] at h
set_option maxHeartbeats 2000000 in
theorem rFinal_wrong (T : Nat → Int) (u b s : Int) (w : World) (h : wrongT T u b s = true) : Calls Try.prog 28 #[.agg (tabV T), .int .i64 u, .int .i64 b, .int .i64 s] w fun e w' =>
    e = .returned (.tuple #[noneV, .int .i64 0, .int .i64 2]) ∧ Below w.heap.size w w' := by
  have HR := Sec.mk fun w' => rRight_ok T w'
  have hsz : (Try.prog.info? 63).map (·.size) = some (tabV T).toList.length := by kernel_rfl
  unfold wrongT at h
  generalize rightT T = r at *
  obtain ⟨W, g, g8, eW, eg, eg8, hTW, hS, hB⟩ := rfin_start w T 63 30 (.int .u8 0) (.int .u8 0) (.int .u8 0) (.int .u8 0) (.int .i64 0) (.int .i64 0)
  have hg8 : w.heap.size ≤ g8 := by omega
  replace eW := Sec.mk eW
  replace eg := Sec.mk eg
  replace eg8 := Sec.mk eg8
  have hra := fun o => rtab_hra2 w T 63 o
  unfold noneV
  go_enter Try.func28, Try.ntmps28
  go_wp2_with (refine wpList_load_mid (by rfl) 63 (.tmp 4) (by rfl) w.heap.size 0 (by rfl) (tabV T).toList _ (hra _) Try.underlying63 rfl hsz ?_; simp only [Array.toArray_toList])
  rw [← eW.out, ← eg8.out, ← eg.out]
  clear eW eg eg8
  refine (HR.out _).mono ?_
  rintro e w1 ⟨rfl, hb1⟩
  have hB1 := sbtr hB hb1
  have hS1 := hS.later hb1
  clear hra hTW hb1 hB HR hS
  obtain ⟨x0, o0, f0⟩ := hS1 0 (by omega)
  obtain ⟨x1, o1, f1⟩ := hS1 1 (by omega)
  obtain ⟨x2, o2, f2⟩ := hS1 2 (by omega)
  obtain ⟨x3, o3, f3⟩ := hS1 3 (by omega)
  obtain ⟨x4, o4, f4⟩ := hS1 4 (by omega)
  obtain ⟨x5, o5, f5⟩ := hS1 5 (by omega)
  clear hS1
  have hcase : r = false ∨ (r = true ∧ decide (3 < u) = true) ∨ (r = true ∧ decide (3 < u) = false ∧ decide (b < 3) = true) ∨ (r = true ∧ decide (3 < u) = false ∧ decide (b < 3) = false ∧ decide (37 < b) = true) ∨ (r = true ∧ decide (3 < u) = false ∧ decide (b < 3) = false ∧ decide (37 < b) = false ∧ decide (1 < s) = true) := by
    revert h
    cases r <;> cases decide (3 < u) <;> cases decide (b < 3) <;> cases decide (37 < b) <;> cases decide (1 < s) <;> simp
  clear h
  rcases hcase with rfl | ⟨rfl, h1⟩ | ⟨rfl, h1, h2⟩ | ⟨rfl, h1, h2, h3⟩ | ⟨rfl, h1, h2, h3, h4⟩
  all_goals
    go_wp2_with fail
    exact bodyPost_ret (v := .tuple #[.agg #[.int .u8 0, .int .u8 0, .int .u8 0, .int .u8 0, .int .i64 0, .int .i64 0], .int .i64 0, .int .i64 2]) (by simp [results, Try.results28, go_sem, o0, o1, o2, o3, o4, o5]) rfl ⟨rfl, (((((hB1.setCell (p := ⟨g8, 0, none⟩) hg8 _).setCell (p := ⟨g8, 1, none⟩) hg8 _).setCell (p := ⟨g8, 2, none⟩) hg8 _).setCell (p := ⟨g8, 3, none⟩) hg8 _).setCell (p := ⟨g8, 4, none⟩) hg8 _).setCell (p := ⟨g8, 5, none⟩) hg8 _⟩
def FinRel (W : World) (b : Nat) (lv dn : Value) (wr : World) : Prop := ∃ k : Nat, k ≤ (b - 3) / 5 ∧ lv = .int .i64 ((1 + k : Nat) : Int) ∧ dn = .int .i64 ((b - 3 - 5 * k : Nat) : Int) ∧ wr = W
set_option maxHeartbeats 2000000 in
theorem rFinal_ok (T : Nat → Int) (u : Int) (b s : Nat) (w : World) (hT : rightT T = true) (hu : 0 ≤ u ∧ u ≤ 3) (hb : 3 ≤ b ∧ b ≤ 37) (hs : s ≤ 1) : Calls Try.prog 28 #[.agg (tabV T), .int .i64 u, .int .i64 b, .int .i64 s] w fun e w' =>
    e = .returned (.tuple #[outV T b s, .int .i64 (finalZ T u b s), .int .i64 0]) ∧ Below w.heap.size w w' := by
  have HR := Sec.mk fun w' => rRight_ok T w'
  have HB := Sec.mk fun w' => rBest_ok T (den b) s w' hT (by unfold den; omega) hs
  have hl : 1 ≤ lev b ∧ lev b ≤ 7 := by unfold lev; omega
  have hd : den b ≤ 4 := by unfold den; omega
  have hnb := bestN_bd ((rightT_iff T).1 hT) hd hs
  have hsb := bestS_bd (T := T) (d := den b) hs
  have hok : okC (lev b) (den b) (riskZ T b s) (bestS T (den b) s) := ⟨by omega, by omega, by unfold riskZ; split <;> omega, hsb⟩
  have HS := Sec.mk fun w' => rsScore_ok (lev b) (den b) (riskZ T b s) (bestS T (den b) s) (bestN T (den b) s) u w' (okQ_of hok) hnb hu
  rw [scoreQ_eq hok] at HS
  have hsz : (Try.prog.info? 63).map (·.size) = some (tabV T).toList.length := by kernel_rfl
  rw [hT] at HR
  have hlev : (b - 3) / 5 = lev b - 1 := by unfold lev; omega
  have hden : b - 3 = 5 * (lev b - 1) + den b := by unfold lev den; omega
  unfold finalZ outV
  generalize scoreZ (lev b) (den b) (riskZ T b s) (bestS T (den b) s) (bestN T (den b) s) u = Z at *
  unfold riskZ at HS ⊢
  clear hok
  generalize bestN T (den b) s = n at *
  generalize bestS T (den b) s = q at *
  generalize lev b = L at *
  generalize den b = D at *
  obtain ⟨W, g, g8, eW, eg, eg8, hTW, hS, hB⟩ := rfin_start w T 63 30 (.int .u8 0) (.int .u8 0) (.int .u8 0) (.int .u8 0) (.int .i64 0) (.int .i64 0)
  have hg8 : w.heap.size ≤ g8 := by omega
  replace eW := Sec.mk eW
  replace eg := Sec.mk eg
  replace eg8 := Sec.mk eg8
  have hra := fun o => rtab_hra2 w T 63 o
  have b0 : (3 : Int) ≤ (b : Int) := by omega
  have b1 : (b : Int) ≤ 37 := by omega
  have s0 : (0 : Int) ≤ (s : Int) := by omega
  have s1 : (s : Int) ≤ 1 := by omega
  obtain ⟨u0, u3⟩ := hu
  go_enter Try.func28, Try.ntmps28
  go_wp2_with (refine wpList_load_mid (by rfl) 63 (.tmp 4) (by rfl) w.heap.size 0 (by rfl) (tabV T).toList _ (hra _) Try.underlying63 rfl hsz ?_; simp only [Array.toArray_toList])
  rw [← eW.out, ← eg8.out, ← eg.out]
  clear eW eg eg8 hra
  refine (HR.out _).mono ?_
  rintro e w1 ⟨rfl, hb1⟩
  have hB1 := sbtr hB hb1
  have hS1 := hS.later hb1
  have hT1 := hTW.later hb1
  clear hTW hb1 hB HR hS
  replace hS1 := Sec.mk hS1
  replace hT1 := Sec.mk hT1
  replace hden := Sec.mk hden
  replace hlev := Sec.mk hlev
  have hbm : IntKind.i64.wrap ((b : Int) - 3) = ((b - 3 : Nat) : Int) := by rw [IntWalk.i64_in _ ⟨by omega, by omega⟩]; omega
  go_wp2_with fail
  go_loopw [11, 12] (fun lv dn wr => FinRel w1 b lv dn wr) (fun _ dn _ => (intOf dn).toNat)
  case atStart => exact ⟨0, by omega, by simp, by first | rfl | (congr 1; omega), rfl⟩
  case round =>
    obtain ⟨k, hk, rfl, rfl, rfl⟩ := hrel
    by_cases hlt : 4 < b - 3 - 5 * k
    · have hw1 : IntKind.i64.wrap (((b - 3 - 5 * k : Nat) : Int) - 5) = ((b - 3 - 5 * (k + 1) : Nat) : Int) := by rw [IntWalk.i64_in _ ⟨by omega, by omega⟩]; omega
      have hlt' : (4 : Int) < ((b - 3 - 5 * k : Nat) : Int) := by omega
      go_wp2_with fail
      exact ⟨⟨k + 1, by omega, by first | rfl | go_num, by first | rfl | (congr 1; omega), rfl⟩, by simp only [intOf]; omega⟩
    · have hkL : 1 + k = L := by have := hlev.out; have := hden.out; omega
      have hkD : b - 3 - 5 * k = D := by have := hlev.out; have := hden.out; omega
      rw [hkL, hkD]
      have hra := hT1.out.range
      rw [hkD] at hlt
      clear hkL hkD hk
      go_wp2_with (refine wpList_load_mid (by rfl) 63 (.tmp 4) (by rfl) g 0 (by rfl) (tabV T).toList _ hra Try.underlying63 rfl hsz ?_; simp only [Array.toArray_toList])
      refine (HB.out _).mono ?_
      rintro e w2 ⟨rfl, hb2⟩
      have hB2 := sbtr hB1 hb2
      have hS2 := Sec.mk (hS1.out.later hb2)
      clear hra hT1 hS1 hB1 hb2 HB
      have l0 : (0 : Int) ≤ (L : Int) := by omega
      have l1 : (L : Int) ≤ 7 := by omega
      have d0 : (0 : Int) ≤ (D : Int) := by omega
      have d1 : (D : Int) ≤ 4 := by omega
      have hw6 : IntKind.i64.wrap ((L : Int) + 6) = (L : Int) + 6 := IntWalk.i64_in _ ⟨by omega, by omega⟩
      by_cases hrk : n < 6 + (L : Int)
      · rw [if_pos hrk] at HS
        have hrk' : n < (L : Int) + 6 := by omega
        go_wp2_with fail
        obtain ⟨W2, g2, e3, e4, P, hbx⟩ := box4 w2 (L : Int) (D : Int) 1 q
        rw [← e3, ← e4]
        clear e3 e4
        refine (HS.out _).mono ?_
        rintro e w3 ⟨rfl, hb3⟩
        obtain ⟨c0, c1, c2, c3⟩ := P.later hb3
        have hb23 := sbtr hbx hb3
        have hB3 := sbtr hB2 hb23
        have hS3 := hS2.out.later hb23
        obtain ⟨x0, o0, f0⟩ := hS3 0 (by omega)
        obtain ⟨x1, o1, f1⟩ := hS3 1 (by omega)
        obtain ⟨x2, o2, f2⟩ := hS3 2 (by omega)
        obtain ⟨x3, o3, f3⟩ := hS3 3 (by omega)
        obtain ⟨x4, o4, f4⟩ := hS3 4 (by omega)
        obtain ⟨x5, o5, f5⟩ := hS3 5 (by omega)
        clear hS2 hS3 hB2 hbx hb3 hb23 P HS
        go_wp2_with fail
        exact bodyPost_ret (v := .tuple #[.agg #[.int .u8 L, .int .u8 D, .int .u8 1, .int .u8 q, .int .i64 n, .int .i64 0], .int .i64 Z, .int .i64 0]) (by simp [results, Try.results28, go_sem, o0, o1, o2, o3, o4, o5]) rfl ⟨by simp [hrk], (((((hB3.setCell (p := ⟨g8, 0, none⟩) hg8 _).setCell (p := ⟨g8, 1, none⟩) hg8 _).setCell (p := ⟨g8, 2, none⟩) hg8 _).setCell (p := ⟨g8, 3, none⟩) hg8 _).setCell (p := ⟨g8, 4, none⟩) hg8 _).setCell (p := ⟨g8, 5, none⟩) hg8 _⟩
      · rw [if_neg hrk] at HS
        have hrk' : ¬ n < (L : Int) + 6 := by omega
        go_wp2_with fail
        obtain ⟨W2, g2, e3, e4, P, hbx⟩ := box4 w2 (L : Int) (D : Int) 0 q
        rw [← e3, ← e4]
        clear e3 e4
        refine (HS.out _).mono ?_
        rintro e w3 ⟨rfl, hb3⟩
        obtain ⟨c0, c1, c2, c3⟩ := P.later hb3
        have hb23 := sbtr hbx hb3
        have hB3 := sbtr hB2 hb23
        have hS3 := hS2.out.later hb23
        obtain ⟨x0, o0, f0⟩ := hS3 0 (by omega)
        obtain ⟨x1, o1, f1⟩ := hS3 1 (by omega)
        obtain ⟨x2, o2, f2⟩ := hS3 2 (by omega)
        obtain ⟨x3, o3, f3⟩ := hS3 3 (by omega)
        obtain ⟨x4, o4, f4⟩ := hS3 4 (by omega)
        obtain ⟨x5, o5, f5⟩ := hS3 5 (by omega)
        clear hS2 hS3 hB2 hbx hb3 hb23 P HS
        go_wp2_with fail
        exact bodyPost_ret (v := .tuple #[.agg #[.int .u8 L, .int .u8 D, .int .u8 0, .int .u8 q, .int .i64 n, .int .i64 0], .int .i64 Z, .int .i64 0]) (by simp [results, Try.results28, go_sem, o0, o1, o2, o3, o4, o5]) rfl ⟨by simp [hrk], (((((hB3.setCell (p := ⟨g8, 0, none⟩) hg8 _).setCell (p := ⟨g8, 1, none⟩) hg8 _).setCell (p := ⟨g8, 2, none⟩) hg8 _).setCell (p := ⟨g8, 3, none⟩) hg8 _).setCell (p := ⟨g8, 4, none⟩) hg8 _).setCell (p := ⟨g8, 5, none⟩) hg8 _⟩
theorem rWorth_ok (p : Int) (s : Nat) (w : World) (hs : s ≤ 1) (hp : -1000000 ≤ p ∧ p ≤ 1000000) : Calls Try.prog 46 #[.int .i64 p, .int .i64 s] w fun e w' => e = .returned (.int .i64 (if s = 1 then -p else p)) ∧ w' = w := by
  have hw : IntKind.i64.wrap (-p) = -p := IntWalk.i64_in _ ⟨by omega, by omega⟩
  rcases (by omega : s = 0 ∨ s = 1) with rfl | rfl
  all_goals
    go_enter Try.func46, Try.ntmps46
    go_wp2_with fail
    go_ret
    exact ⟨by simp, rfl⟩
end Go.Proofs.Ytfacmkelbjfffaa
