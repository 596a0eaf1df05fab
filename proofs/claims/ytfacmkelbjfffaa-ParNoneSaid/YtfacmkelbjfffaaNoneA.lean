/- ParNone: the walk. -/
import Derived.Test.YtfacmkelbjfffaaMoreA
import Derived.Test.YtfacmkelbjfffaaPlainC
namespace Go.Proofs.Ytfacmkelbjfffaa
open Go.RowKit
set_option linter.unusedVariables false
set_option linter.unusedSimpArgs false
set_option maxRecDepth 100000

def modT (T : Nat → Int) (j : Nat) : Int := T j % 7
def NoRel (w : World) (T : Nat → Int) (g1 n : Nat) (wr : World) : Prop := (∃ U, TabAt wr g1 U ∧ (∀ j, j < n → U j = modT T j) ∧ ∀ j, n ≤ j → j < 20 → U j = T j) ∧ Below w.heap.size w wr
def NoRel1 (w : World) (T : Nat → Int) (g1 : Nat) (i : Value) (wr : World) : Prop := ∃ d : Nat, d ≤ 5 ∧ i = .int .i64 d ∧ NoRel w T g1 (4 * d) wr
def NoRel2 (w : World) (T : Nat → Int) (g1 d : Nat) (i : Value) (wr : World) : Prop := ∃ s : Nat, s ≤ 4 ∧ i = .int .i64 s ∧ NoRel w T g1 (4 * d + s) wr
theorem grand_right (T : Nat → Int) (k : Nat) (hT : ∀ j, j < 20 → 0 ≤ T j ∧ T j ≤ 6) : rightT (putT T (16 + k) 13) = true := (rightT_iff _).2 fun j hj => by
  have := hT j hj
  unfold putT; split <;> omega
theorem outV_agg (T : Nat → Int) (b s : Nat) : ∃ a b' c d e f : Int, outV T b s = .agg #[.int .u8 a, .int .u8 b', .int .u8 c, .int .u8 d, .int .i64 e, .int .i64 f] := ⟨_, _, _, _, _, _, rfl⟩

set_option maxHeartbeats 2000000 in
theorem ParNone_any (B : Nat → Int) (u d st : Int) (w : World) (hB : BytesIn B) (hu : 0 ≤ u ∧ u ≤ 255) (hd : 0 ≤ d ∧ d ≤ 255) (hst : 0 ≤ st ∧ st ≤ 255) :
    Calls Try.prog 5 #[.agg (bytV B), .int .u8 u, .int .u8 d, .int .u8 st] w fun e w' => e = .returned (.bool true) ∧ Below w.heap.size w w' := by
  have HM := Sec.mk fun w' => Made_ok B w' hB
  have HA := Sec.mk awake_true
  have hTr := (rightT_iff _).1 (madeT_right hB)
  generalize madeT B = T at *
  obtain ⟨v, hv, hv3⟩ : ∃ v, u % 4 = v ∧ 0 ≤ v ∧ v ≤ 3 := ⟨_, rfl, by omega⟩
  obtain ⟨D, hD, hD3⟩ : ∃ D : Nat, d % 4 = (D : Int) ∧ D ≤ 3 := ⟨(d % 4).toNat, by omega, by omega⟩
  obtain ⟨k, hk, hk3⟩ : ∃ k : Nat, st % 4 = (k : Int) ∧ k ≤ 3 := ⟨(st % 4).toNat, by omega, by omega⟩
  have hra := (byt_new w B).range
  have hszb : (Try.prog.info? 22).map (·.size) = some (bytV B).toList.length := info_byt
  have h1c := tab_one T
  go_enter Try.func5, Try.ntmps5
  go_wp2_with (refine wpList_load_mid (by rfl) 22 (.tmp 4) (by rfl) w.heap.size 0 (by rfl) (bytV B).toList _ hra Try.underlying22 rfl hszb ?_; simp only [Array.toArray_toList])
  refine (HM.out _).mono ?_
  rintro e w1 ⟨rfl, hb1⟩
  have hBl := sbtr (sst1 w (.cells (bytV B) 22)) hb1
  have hsz1 := hBl.size
  clear hra hb1 HM
  have hth := tab_there w1 T
  go_upto_region 2 with (refine wpList_store_mid (by rfl) 25 (.tmp 9) (.tmp 27) ?_ w1.heap.size 0 (tabV T) ?_ ?_ ?_ info_tab h1c ?_; rfl; rfl; rfl; exact hth; simp only [Act.put])
  rw [← zeros20]
  obtain ⟨W2, g1, e2, eg, t1, hb2⟩ := tab_put w1 T
  rw [← e2, ← eg]
  have hBl := sbtr hBl hb2
  have hg1 : w.heap.size ≤ g1 := by rw [eg]; exact hsz1
  clear e2 eg hb2 hth hsz1
  go_wp2_with fail
  try simp only [hv, hD, hk]
  go_loopw [34] (fun i wr => NoRel1 w T g1 i wr) (fun i _ => 5 - (intOf i).toNat)
  case atStart => exact ⟨0, by omega, rfl, ⟨T, t1, fun j hj => by omega, fun j _ _ => rfl⟩, hBl⟩
  case round =>
    clear t1 hBl
    obtain ⟨a, ha, rfl, hI⟩ := hrel
    by_cases hlt : a < 5
    · go_wp2_with fail
      simp only [decide_eq_true (show (a : Int) < 5 by omega)]
      go_loopw [37] (fun i wx => NoRel2 w T g1 a i wx) (fun i _ => 4 - (intOf i).toNat)
      case atStart => exact ⟨0, by omega, rfl, hI⟩
      case round =>
        clear hI
        obtain ⟨b, hb, rfl, hJ⟩ := hrel
        by_cases hlb : b < 4
        · obtain ⟨⟨U, t1, hU1, hU2⟩, hBl⟩ := hJ
          have hx := hTr (a * 4 + b) (by omega)
          obtain ⟨c0, f0⟩ := id (t1 (a * 4 + b) (by omega))
          rw [hU2 (a * 4 + b) (by omega) (by omega)] at c0
          have a0 : (0 : Int) ≤ (a : Int) := by omega
          have b0 : (0 : Int) ≤ (b : Int) := by omega
          have b4 : (b : Int) < 4 := by omega
          have hend : NoRel w T g1 (4 * a + (b + 1)) ((wr.setCell ⟨g1, a * 4 + b, none⟩ (.int .i64 (T (a * 4 + b) % 7))).drew) := by
            refine ⟨⟨_, t1.put (a * 4 + b) (by omega) _, fun j hj => ?_, fun j h1 h2 => ?_⟩, (hBl.setCell (p := ⟨g1, a * 4 + b, none⟩) hg1 _).drew⟩
            · unfold putT
              by_cases e : j = a * 4 + b
              · rw [if_pos e, e]; rfl
              · rw [if_neg e]; exact hU1 j (by omega)
            · unfold putT
              rw [if_neg (by omega)]; exact hU2 j (by omega) h2
          have HE := Sec.mk hend
          clear hend t1 hU1 hU2 hBl
          generalize T (a * 4 + b) = x at *
          go_upto_region 8 with fail
          go_region
          go_wp2_with fail
          exact ⟨⟨b + 1, hlb, rfl, HE.out⟩, by simp only [intOf]; omega⟩
        · go_wp2_with fail
          have e : 4 * a + b = 4 * (a + 1) := by omega
          rw [e] at hJ
          exact ⟨⟨a + 1, hlt, rfl, hJ⟩, by simp only [intOf]; omega⟩
    · obtain ⟨⟨U, t1, hU1, -⟩, hBl⟩ := hI
      have t1 := t1.same (U := modT T) fun j hj => hU1 j (by omega)
      have hM6 : ∀ j, j < 20 → 0 ≤ modT T j ∧ modT T j ≤ 6 := fun j hj => by unfold modT; omega
      have hMr : rightT (modT T) = true := (rightT_iff _).2 fun j hj => by have := hM6 j hj; omega
      have hpo := pass_out (modT T) v (D % 2) (by omega) hM6
      have hgp := grand_par (modT T) v k (D % 2) (by omega) hk3 hM6
      have hGr := grand_right (modT T) k hM6
      clear hU1 hTr
      have HP1 := Sec.mk fun w' => Par_ok (modT T) v D w' hMr hv3 hD3
      have HB1 := Sec.mk fun w' => Bids_ok (modT T) v D w' hMr hv3 hD3
      rw [hpo.1, hpo.2.1] at HP1
      rw [hpo.2.2] at HB1
      unfold noneV at HP1
      clear hpo
      generalize modT T = M at *
      have hszm : (Try.prog.info? 25).map (·.size) = some (tabV M).toList.length := info_tab
      have hra := t1.range
      go_wp2_with (refine wpList_load_mid (by rfl) 25 (.tmp 9) (by rfl) g1 0 (by rfl) (tabV M).toList _ hra Try.underlying25 rfl hszm ?_; simp only [Array.toArray_toList])
      refine (HP1.out _).mono ?_
      rintro e w5 ⟨rfl, hb5⟩
      go_upto_region 12 with fail
      obtain ⟨W6, g6, e6, eg, hc6, hb6⟩ := out_new w5 (.int .u8 0) (.int .u8 0) (.int .u8 0) (.int .u8 0) (.int .i64 0) (.int .i64 0) 30
      rw [← e6, ← eg]
      have t1 := (t1.later hb5).later hb6
      have hBl := sbtr (sbtr hBl hb5) hb6
      clear e6 eg hb5 hb6 HP1 hra
      have hra := t1.range
      go_wp2_with (refine wpList_load_mid (by rfl) 25 (.tmp 9) (by rfl) g1 0 (by rfl) (tabV M).toList _ hra Try.underlying25 rfl hszm ?_; simp only [Array.toArray_toList])
      refine (HB1.out _).mono ?_
      rintro e w7 ⟨vb, rfl, hown, hb7⟩
      obtain ⟨A, c, rfl, -⟩ := bytes_of_own hown
      simp only [List.length_nil]
      have t1 := t1.later hb7
      have hBl := sbtr hBl hb7
      obtain ⟨z0, z1, z2, z3, z4, z5⟩ := six_later hc6 hb7
      clear hown hb7 HB1 hra hc6
      go_upto_region 15 with fail
      obtain ⟨m0, n0⟩ := id (t1 (16 + k) (by omega))
      have k0 : (0 : Int) ≤ (k : Int) := by omega
      have k4 : (k : Int) < 4 := by omega
      go_upto_region 16 with fail
      obtain ⟨W8, e8, t8, hB8⟩ : ∃ W8, W8 = w7.setCell ⟨g1, 16 + k, none⟩ (.int .i64 13) ∧ TabAt W8 g1 (putT M (16 + k) 13) ∧ Below w.heap.size w W8 :=
        ⟨_, rfl, t1.put _ (by omega) _, hBl.setCell (p := ⟨g1, 16 + k, none⟩) hg1 _⟩
      rw [← e8]
      clear e8 m0 n0 t1 hBl z0 z1 z2 z3 z4 z5
      obtain ⟨q, hq, hq1, hq2⟩ : ∃ q : Nat, (k : Int) % 2 = (q : Int) ∧ q ≤ 1 ∧ k % 2 = q := ⟨k % 2, by omega, by omega, rfl⟩
      obtain ⟨s, hs, hs1, hs2⟩ : ∃ s : Nat, (D : Int) % 2 = (s : Int) ∧ s ≤ 1 ∧ D % 2 = s := ⟨D % 2, by omega, by omega, rfl⟩
      obtain ⟨x1, x2, x3, x4, x5, x6, hx⟩ := outV_agg (putT M (16 + k) 13) 37 q
      have HF := Sec.mk fun w' => Final_ok (putT M (16 + k) 13) v 37 q w' hGr hv3 (by omega) hq1
      obtain ⟨y1, y2, y3, y4, y5, y6, -, HP⟩ := Par_six (putT M (16 + k) 13) v D hGr hv3 hD3
      have hm1 := parZ_bd (putT M (16 + k) 13) v (D % 2) (by omega) hGr
      have hgb : -100000 ≤ finalZ (putT M (16 + k) 13) v 37 q ∧ finalZ (putT M (16 + k) 13) v 37 q ≤ 100000 := by
        rw [finalZ_eq _ _ _ _ hq1]
        have := pZ_sign (l := lev 37) (d := den 37) (n := bestN (putT M (16 + k) 13) (den 37) q) (vulB v q) (by decide) (by decide) (bestN_bd ((rightT_iff _).1 hGr) (by decide) hq1)
        split <;> omega
      rw [hx] at HF
      have hlaw : (if q = 1 then -parZ (putT M (16 + k) 13) v (D % 2) else parZ (putT M (16 + k) 13) v (D % 2)) ≤ (if q = 1 then -finalZ (putT M (16 + k) 13) v 37 q else finalZ (putT M (16 + k) 13) v 37 q) ∧ (s = q → parZ (putT M (16 + k) 13) v (D % 2) = finalZ (putT M (16 + k) 13) v 37 q) := by
        rcases (by omega : q = 0 ∨ q = 1) with rfl | rfl
        · have h := hgp.1 hq2
          exact ⟨by simpa using h.1, fun e => h.2 (by omega)⟩
        · have h := hgp.2 hq2
          exact ⟨by have := h.1; simp; omega, fun e => h.2 (by omega)⟩
      generalize parZ (putT M (16 + k) 13) v (D % 2) = m at *
      generalize finalZ (putT M (16 + k) 13) v 37 q = gr at *
      generalize putT M (16 + k) 13 = U at *
      obtain ⟨Y, X, OM, ON, hXY⟩ : ∃ Y X : Int, Sec (∀ w, Calls Try.prog 15 #[.int .i64 m, .int .u8 q] w fun e w' => e = .returned (.int .i64 Y) ∧ w' = w) ∧ Sec (∀ w, Calls Try.prog 15 #[.int .i64 gr, .int .u8 q] w fun e w' => e = .returned (.int .i64 X) ∧ w' = w) ∧ Y ≤ X :=
        ⟨_, _, ⟨fun w => ours_ok m q w hq1 (by omega)⟩, ⟨fun w => ours_ok gr q w hq1 (by omega)⟩, hlaw.1⟩
      have hsq := hlaw.2
      clear hgp hlaw hm1 hgb hx hM6 hMr hGr hszm
      have hszu : (Try.prog.info? 25).map (·.size) = some (tabV U).toList.length := info_tab
      have hra := t8.range
      go_wp2_with (refine wpList_load_mid (by rfl) 25 (.tmp 9) (by rfl) g1 0 (by rfl) (tabV U).toList _ hra Try.underlying25 rfl hszu ?_; simp only [Array.toArray_toList])
      refine (HF.out _).mono ?_
      rintro e w9 ⟨rfl, hb9⟩
      have hra := fun X => ((t8.later hb9).later (sst1 w9 X)).range
      have hBl := fun X => sbtr (sbtr hB8 hb9) (sst1 w9 X)
      clear hb9 HF hB8 t8
      go_wp2_with (refine wpList_load_mid (by rfl) 25 (.tmp 9) (by rfl) g1 0 (by rfl) (tabV U).toList _ (hra _) Try.underlying25 rfl hszu ?_; simp only [Array.toArray_toList])
      refine (HP.out _).mono ?_
      rintro e w10 ⟨rfl, hb10⟩
      have hBl := sbtr (sbtr (hBl _) hb10) (sst1 w10 (.cells #[.int .u8 y1, .int .u8 y2, .int .u8 y3, .int .u8 y4, .int .i64 y5, .int .i64 y6] 30))
      clear hra hb10 HP
      by_cases hsq2 : s = q
      · have he := hsq hsq2
        subst hsq2
        subst he
        have hss : ((s : Int) != (s : Int)) = false := by simp
        go_wp2_with (first
          | (go_at_call 15; refine (OM.out _).mono ?_; clear OM; rintro e w7 ⟨rfl, rfl⟩)
          | (go_at_call 15; refine (ON.out _).mono ?_; clear ON; rintro e w7 ⟨rfl, rfl⟩)
          | (go_at_call 14; refine (HA.out _).mono ?_; rintro e w11 ⟨rfl, hb11⟩))
        go_ret
        exact ⟨rfl, sbtr hBl hb11⟩
      · have hss : ((s : Int) != (q : Int)) = true := by simp; omega
        go_wp2_with (first
          | (go_at_call 15; refine (OM.out _).mono ?_; clear OM; rintro e w7 ⟨rfl, rfl⟩)
          | (go_at_call 15; refine (ON.out _).mono ?_; clear ON; rintro e w7 ⟨rfl, rfl⟩)
          | (go_at_call 14; refine (HA.out _).mono ?_; rintro e w11 ⟨rfl, hb11⟩))
        go_ret
        exact ⟨rfl, sbtr hBl hb11⟩
end Go.Proofs.Ytfacmkelbjfffaa
