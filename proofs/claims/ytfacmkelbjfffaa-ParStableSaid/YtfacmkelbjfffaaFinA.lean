/- ParFinal: the walk. -/
import Derived.Test.YtfacmkelbjfffaaMoreA
import Derived.Test.YtfacmkelbjfffaaPlainC
namespace Go.Proofs.Ytfacmkelbjfffaa
open Go.RowKit
set_option linter.unusedVariables false
set_option linter.unusedSimpArgs false
set_option maxRecDepth 100000

theorem bestW_bd (F : Nat → Nat → Int) (c : Int) (hF : ∀ b, 3 ≤ b → b ≤ 37 → ∀ q, q ≤ 1 → -c ≤ F b q ∧ F b q ≤ c) : ∀ (n : Nat), n ≤ 35 → ∀ q, q ≤ 1 → ∀ p, -c ≤ p ∧ p ≤ c → -c ≤ bestW F n q p ∧ bestW F n q p ≤ c
  | 0, _, q, _, p, hp => hp
  | n + 1, hn, q, hq, p, hp => by
    unfold bestW
    refine bestW_bd F c hF n (by omega) q hq _ ?_
    have := bestW_bd F c hF n (by omega) (1 - q) (by omega) _ (hF (37 - n) (by omega) (by omega) q hq)
    unfold optZ; split <;> omega
theorem finalZ_bd (T : Nat → Int) (u : Int) (b s : Nat) (hT : rightT T = true) (hb : 3 ≤ b ∧ b ≤ 37) (hs : s ≤ 1) : -100000 ≤ finalZ T u b s ∧ finalZ T u b s ≤ 100000 := by
  rw [finalZ_eq _ _ _ _ hs]
  have := pZ_sign (l := lev b) (d := den b) (n := bestN T (den b) s) (vulB u s) (by unfold lev; omega) (by unfold den; omega) (bestN_bd ((rightT_iff _).1 hT) (by unfold den; omega) hs)
  split <;> omega
theorem ansZ_val_bd (T : Nat → Int) (u : Int) (b s : Nat) (hT : rightT T = true) (hb : 3 ≤ b ∧ b ≤ 37) (hs : s ≤ 1) : -100000 ≤ (ansZ (finalZ T u) b s).2 ∧ (ansZ (finalZ T u) b s).2 ≤ 100000 := by
  rw [ansZ_W]
  exact bestW_bd _ 100000 (fun b h1 h2 q hq => finalZ_bd T u b q hT ⟨h1, h2⟩ hq) (37 - b) (by omega) s hs _ (finalZ_bd T u b (1 - s) hT hb (by omega))
/-- What ParFinal asks of a bid. -/
theorem final_facts (T : Nat → Int) (u : Int) (b s : Nat) (hT : rightT T = true) (hb : 3 ≤ b ∧ b ≤ 37) (hs : s ≤ 1) :
    ∃ q : Nat, bestS T (den b) s = (q : Int) ∧ q ≤ 3 ∧ (q : Int) % 2 = (s : Int) ∧ T (den b * 4 + q) = bestN T (den b) s ∧ T (den b * 4 + s) ≤ bestN T (den b) s ∧ T (den b * 4 + (s + 2)) ≤ bestN T (den b) s ∧
      (6 + (lev b : Int) ≤ bestN T (den b) s ↔ 0 < (if s = 1 then -finalZ T u b s else finalZ T u b s)) ∧
      (if 1 - s = 1 then -finalZ T u b s else finalZ T u b s) ≤ (if 1 - s = 1 then -(ansZ (finalZ T u) b (1 - s)).2 else (ansZ (finalZ T u) b (1 - s)).2) := by
  have hn := bestN_bd ((rightT_iff _).1 hT) (d := den b) (s := s) (by unfold den; omega) hs
  have hp := pZ_sign (l := lev b) (d := den b) (vulB u s) (by unfold lev; omega) (by unfold den; omega) hn
  have h1 : (6 + (lev b : Int) ≤ bestN T (den b) s ↔ 0 < (if s = 1 then -finalZ T u b s else finalZ T u b s)) := by
    rw [hp.1, finalZ_eq _ _ _ _ hs]
    rcases (by omega : s = 0 ∨ s = 1) with rfl | rfl <;> simp
  have h2 : (if 1 - s = 1 then -finalZ T u b s else finalZ T u b s) ≤ (if 1 - s = 1 then -(ansZ (finalZ T u) b (1 - s)).2 else (ansZ (finalZ T u) b (1 - s)).2) := by
    rw [ansZ_W]
    rcases (by omega : s = 0 ∨ s = 1) with rfl | rfl
    · have := bestW1_le (finalZ T u) (37 - b) (finalZ T u b 0)
      show -finalZ T u b 0 ≤ -bestW (finalZ T u) (37 - b) 1 (finalZ T u b 0)
      omega
    · have := bestW0_ge (finalZ T u) (37 - b) (finalZ T u b 1)
      show finalZ T u b 1 ≤ bestW (finalZ T u) (37 - b) 0 (finalZ T u b 1)
      exact this
  by_cases hlt : T (den b * 4 + s) < T (den b * 4 + (s + 2))
  · have e1 : bestS T (den b) s = ((s + 2 : Nat) : Int) := by unfold bestS; rw [if_pos hlt]; rfl
    have e2 : bestN T (den b) s = T (den b * 4 + (s + 2)) := by unfold bestN; rw [if_pos hlt]
    exact ⟨s + 2, e1, by omega, by omega, e2.symm, by omega, by omega, h1, h2⟩
  · have e1 : bestS T (den b) s = (s : Int) := by unfold bestS; rw [if_neg hlt]
    have e2 : bestN T (den b) s = T (den b * 4 + s) := by unfold bestN; rw [if_neg hlt]
    exact ⟨s, e1, by omega, by omega, e2.symm, by omega, by omega, h1, h2⟩
def FiRel (w : World) (T : Nat → Int) (g1 : Nat) (i : Value) (wr : World) : Prop := ∃ c : Nat, i = .int .u8 c ∧ 3 ≤ c ∧ c ≤ 38 ∧ TabAt wr g1 T ∧ Below w.heap.size w wr

set_option maxHeartbeats 2000000 in
theorem ParFinal_any (B : Nat → Int) (u sd : Int) (w : World) (hB : BytesIn B) (hu : 0 ≤ u ∧ u ≤ 255) (hsd : 0 ≤ sd ∧ sd ≤ 255) :
    Calls Try.prog 9 #[.agg (bytV B), .int .u8 u, .int .u8 sd] w fun e w' => e = .returned (.bool true) ∧ Below w.heap.size w w' := by
  have HM := Sec.mk fun w' => Made_ok B w' hB
  have HA := Sec.mk awake_true
  have hTr := madeT_right hB
  generalize madeT B = T at *
  obtain ⟨v, hv, hv3⟩ : ∃ v, u % 4 = v ∧ 0 ≤ v ∧ v ≤ 3 := ⟨_, rfl, by omega⟩
  obtain ⟨s, hs, hs1⟩ : ∃ s : Nat, sd % 2 = (s : Int) ∧ s ≤ 1 := ⟨(sd % 2).toNat, by omega, by omega⟩
  have hra := (byt_new w B).range
  have hszb : (Try.prog.info? 22).map (·.size) = some (bytV B).toList.length := info_byt
  have hszt : (Try.prog.info? 25).map (·.size) = some (tabV T).toList.length := info_tab
  have h1c := tab_one T
  go_enter Try.func9, Try.ntmps9
  go_wp2_with (refine wpList_load_mid (by rfl) 22 (.tmp 3) (by rfl) w.heap.size 0 (by rfl) (bytV B).toList _ hra Try.underlying22 rfl hszb ?_; simp only [Array.toArray_toList])
  refine (HM.out _).mono ?_
  rintro e w1 ⟨rfl, hb1⟩
  have hBl := sbtr (sst1 w (.cells (bytV B) 22)) hb1
  have hsz1 := hBl.size
  clear hra hb1 HM
  have hth := tab_there w1 T
  go_upto_region 2 with (refine wpList_store_mid (by rfl) 25 (.tmp 7) (.tmp 22) ?_ w1.heap.size 0 (tabV T) ?_ ?_ ?_ info_tab h1c ?_; rfl; rfl; rfl; exact hth; simp only [Act.put])
  rw [← zeros20]
  obtain ⟨W2, g1, e2, eg, t1, hb2⟩ := tab_put w1 T
  rw [← e2, ← eg]
  have hBl := sbtr hBl hb2
  clear e2 eg hb2 hth hsz1
  go_wp2_with fail
  try simp only [hv, hs]
  go_loopw [10] (fun i wr => FiRel w T g1 i wr) (fun i _ => 38 - (intOf i).toNat)
  case atStart => exact ⟨3, rfl, by omega, by omega, t1, hBl⟩
  case round =>
    clear t1 hBl
    obtain ⟨c, rfl, hc3, hc38, t1, hBl⟩ := hrel
    by_cases hlt : c ≤ 37
    · have hw3 : IntKind.u8.wrap ((c : Int) - 3) = (c : Int) - 3 := IntWalk.u8_in _ ⟨by omega, by omega⟩
      have hwc : IntKind.u8.wrap ((c : Int) + 1) = (c : Int) + 1 := IntWalk.u8_in _ ⟨by omega, by omega⟩
      have hws : IntKind.u8.wrap (1 - (s : Int)) = ((1 - s : Nat) : Int) := by rw [IntWalk.u8_in _ ⟨by omega, by omega⟩]; omega
      have hl : 1 ≤ lev c ∧ lev c ≤ 7 := by unfold lev; omega
      have hd : den c ≤ 4 := by unfold den; omega
      have e1 : (1 : Int) + ((c : Int) - 3) / 5 = (lev c : Int) := by unfold lev; omega
      have e2 : ((c : Int) - 3) % 5 = (den c : Int) := by unfold den; omega
      have HF := Sec.mk fun w' => Final_ok T v c s w' hTr hv3 ⟨hc3, hlt⟩ hs1
      have HBe := Sec.mk fun w' => Best_ok T (den c) s w' hTr hd hs1
      have HV := Sec.mk fun w' => Value_ok T v c (1 - s) w' hTr hv3 ⟨hc3, hlt⟩ (by omega)
      have hzb := finalZ_bd T v c s hTr ⟨hc3, hlt⟩ hs1
      have hvb := ansZ_val_bd T v c (1 - s) hTr ⟨hc3, hlt⟩ (by omega)
      obtain ⟨q, hq, hq3, hq2, f1, f2, f3, f4, f5⟩ := final_facts T v c s hTr ⟨hc3, hlt⟩ hs1
      have hr : riskZ T c s = if bestN T (den c) s < 6 + (lev c : Int) then 1 else 0 := rfl
      have hnb := bestN_bd ((rightT_iff _).1 hTr) (d := den c) (s := s) hd hs1
      unfold outV at HF
      obtain ⟨k0, -⟩ := t1 (den c * 4 + s) (by omega)
      obtain ⟨k1, -⟩ := t1 (den c * 4 + (s + 2)) (by omega)
      obtain ⟨k2, -⟩ := t1 (den c * 4 + q) (by omega)
      rw [f1] at k2
      have T1 := Sec.mk t1
      clear t1
      rw [hq] at HF HBe
      generalize riskZ T c s = r at *
      generalize bestN T (den c) s = n at *
      generalize finalZ T v c s = z at *
      generalize (ansZ (finalZ T v) c (1 - s)).2 = va at *
      generalize T (den c * 4 + s) = x0 at *
      generalize T (den c * 4 + (s + 2)) = x1 at *
      generalize lev c = l at *
      generalize den c = dn at *
      obtain ⟨Y1, O1, hY1⟩ : ∃ Y : Int, Sec (∀ w, Calls Try.prog 15 #[.int .i64 z, .int .u8 s] w fun e w' => e = .returned (.int .i64 Y) ∧ w' = w) ∧ (6 + (l : Int) ≤ n ↔ 0 < Y) := ⟨_, ⟨fun w => ours_ok z s w hs1 (by omega)⟩, f4⟩
      obtain ⟨Y2, Y3, O2, O3, hY23⟩ : ∃ Y2 Y3 : Int, Sec (∀ w, Calls Try.prog 15 #[.int .i64 va, .int .u8 ((1 - s : Nat) : Int)] w fun e w' => e = .returned (.int .i64 Y2) ∧ w' = w) ∧ Sec (∀ w, Calls Try.prog 15 #[.int .i64 z, .int .u8 ((1 - s : Nat) : Int)] w fun e w' => e = .returned (.int .i64 Y3) ∧ w' = w) ∧ Y3 ≤ Y2 :=
        ⟨_, _, ⟨fun w => ours_ok va (1 - s) w (by omega) (by omega)⟩, ⟨fun w => ours_ok z (1 - s) w (by omega) (by omega)⟩, f5⟩
      replace hr := Sec.mk hr
      clear f1 f4 f5 hq hzb hvb
      have hra := T1.out.range
      go_wp2_with (refine wpList_load_mid (by rfl) 25 (.tmp 7) (by rfl) g1 0 (by rfl) (tabV T).toList _ hra Try.underlying25 rfl hszt ?_; simp only [Array.toArray_toList])
      refine (HF.out _).mono ?_
      rintro e w5 ⟨rfl, hb5⟩
      go_upto_region 6 with fail
      obtain ⟨W6, g6, e6, eg, hc6, hb6⟩ := out_new w5 (.int .u8 l) (.int .u8 dn) (.int .u8 r) (.int .u8 q) (.int .i64 n) (.int .i64 0) 30
      rw [← e6, ← eg]
      have hb56 := sbtr hb5 hb6
      have T2 := Sec.mk (T1.out.later hb56)
      have hBl := sbtr hBl hb56
      have k0 := sc_later hb56 k0
      have k1 := sc_later hb56 k1
      have k2 := sc_later hb56 k2
      clear e6 eg hb5 hb6 hb56 HF hra T1
      have hra := T2.out.range
      go_wp2_with (refine wpList_load_mid (by rfl) 25 (.tmp 7) (by rfl) g1 0 (by rfl) (tabV T).toList _ hra Try.underlying25 rfl hszt ?_; simp only [Array.toArray_toList])
      refine (HBe.out _).mono ?_
      rintro e w7 ⟨rfl, hb7⟩
      have hra := (T2.out.later hb7).range
      go_wp2_with (refine wpList_load_mid (by rfl) 25 (.tmp 7) (by rfl) g1 0 (by rfl) (tabV T).toList _ hra Try.underlying25 rfl hszt ?_; simp only [Array.toArray_toList])
      refine (HV.out _).mono ?_
      rintro e w8 ⟨rfl, hb8⟩
      have hb78 := sbtr hb7 hb8
      have T3 := Sec.mk (T2.out.later hb78)
      have hBl := sbtr hBl hb78
      have k0 := sc_later hb78 k0
      have k1 := sc_later hb78 k1
      have k2 := sc_later hb78 k2
      obtain ⟨o0, o1, o2, o3, o4, o5⟩ := six_later hc6 hb78
      have n1 := World.new_ne w8 _ k0
      have n6 := World.new_ne w8 _ o0
      clear hb7 hb8 hb78 HBe HV hra T2 hc6
      have s0 : (0 : Int) ≤ (s : Int) := by omega
      have s1 : (s : Int) < 4 := by omega
      have s2 : (s : Int) + 2 < 4 := by omega
      have q0 : (0 : Int) ≤ (q : Int) := by omega
      have q4 : (q : Int) < 4 := by omega
      have d0 : (0 : Int) ≤ (dn : Int) := by omega
      have d5 : (dn : Int) < 5 := by omega
      have hws2 : IntKind.u8.wrap ((s : Int) + 2) = (s : Int) + 2 := IntWalk.u8_in _ ⟨by omega, by omega⟩
      have b0 : ¬ n < x0 := by omega
      have b1 : ¬ n < x1 := by omega
      have b2 : ¬ Y2 < Y3 := by omega
      by_cases hm : n < 6 + (l : Int)
      · have hre := hr.out
        rw [if_pos hm] at hre
        subst hre
        have m1 : ¬ 6 + (l : Int) ≤ n := by omega
        have m2 : ¬ 0 < Y1 := by omega
        have hb28 := sst1 w8 (.cells #[.int .u8 l, .int .u8 dn, .int .u8 1, .int .u8 q] 28)
        have hB9 := sbtr hBl hb28
        have T4 := Sec.mk (T3.out.later hb28)
        have k0 := sc_later hb28 k0
        have k1 := sc_later hb28 k1
        have k2 := sc_later hb28 k2
        have o4 := sc_later hb28 o4
        have o5 := sc_later hb28 o5
        clear hb28 hr hY1 hY23 hm hnb hra T3 n1 n6 hBl
        go_wp2_with (first
          | (go_at_call 15; refine (O1.out _).mono ?_; clear O1; rintro e w9 ⟨rfl, rfl⟩)
          | (go_at_call 15; refine (O2.out _).mono ?_; clear O2; rintro e w9 ⟨rfl, rfl⟩)
          | (go_at_call 15; refine (O3.out _).mono ?_; clear O3; rintro e w9 ⟨rfl, rfl⟩))
        exact ⟨⟨c + 1, rfl, by omega, by omega, T4.out, hB9⟩, by simp only [intOf]; omega⟩
      · have hre := hr.out
        rw [if_neg hm] at hre
        subst hre
        have m1 : 6 + (l : Int) ≤ n := by omega
        have m2 : 0 < Y1 := by omega
        have hb28 := sst1 w8 (.cells #[.int .u8 l, .int .u8 dn, .int .u8 0, .int .u8 q] 28)
        have hB9 := sbtr hBl hb28
        have T4 := Sec.mk (T3.out.later hb28)
        have k0 := sc_later hb28 k0
        have k1 := sc_later hb28 k1
        have k2 := sc_later hb28 k2
        have o4 := sc_later hb28 o4
        have o5 := sc_later hb28 o5
        clear hb28 hr hY1 hY23 hm hnb hra T3 n1 n6 hBl
        go_wp2_with (first
          | (go_at_call 15; refine (O1.out _).mono ?_; clear O1; rintro e w9 ⟨rfl, rfl⟩)
          | (go_at_call 15; refine (O2.out _).mono ?_; clear O2; rintro e w9 ⟨rfl, rfl⟩)
          | (go_at_call 15; refine (O3.out _).mono ?_; clear O3; rintro e w9 ⟨rfl, rfl⟩))
        exact ⟨⟨c + 1, rfl, by omega, by omega, T4.out, hB9⟩, by simp only [intOf]; omega⟩
    · go_wp2_with (go_at_call 14; refine (HA.out _).mono ?_; rintro e w9 ⟨rfl, hb9⟩)
      go_ret
      exact ⟨rfl, sbtr hBl hb9⟩
end Go.Proofs.Ytfacmkelbjfffaa
