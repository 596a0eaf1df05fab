/- ParSmall: the walk. -/
import Derived.Test.YtfacmkelbjfffaaTel18B
namespace Go.Proofs.Ytfacmkelbjfffaa
open Go.RowKit
set_option linter.unusedVariables false
set_option linter.unusedSimpArgs false
set_option maxRecDepth 100000

theorem tells_any (T : Nat → Int) (u b s d : Int) (w : World) (hu : 0 ≤ u ∧ u ≤ 255) (hb : 0 ≤ b ∧ b ≤ 255) (hs : 0 ≤ s ∧ s ≤ 255) (hd : 0 ≤ d ∧ d ≤ 255) :
    Calls Try.prog 17 #[.agg (tabV T), .int .u8 u, .int .u8 b, .int .u8 s, .int .u8 d] w fun e w' => e = .returned (.bool true) ∧ Below w.heap.size w w' := by
  obtain ⟨b', rfl, hb'⟩ : ∃ n : Nat, b = (n : Int) ∧ n ≤ 255 := ⟨b.toNat, by omega, by omega⟩
  obtain ⟨s', rfl, hs'⟩ : ∃ n : Nat, s = (n : Int) ∧ n ≤ 255 := ⟨s.toNat, by omega, by omega⟩
  obtain ⟨d', rfl, hd'⟩ : ∃ n : Nat, d = (n : Int) ∧ n ≤ 255 := ⟨d.toNat, by omega, by omega⟩
  exact tells_true T u b' s' d' w hu hb' hs' hd'
/-- A block of n integers. -/
def IntsAt (W : World) (g n : Nat) : Prop := ∀ j, j < n → ∃ x, W.cell? ⟨g, j, none⟩ = some (.int .i64 x)
theorem IntsAt.later {W W' : World} {g n : Nat} (h : IntsAt W g n) (hb : Below W.heap.size W W') : IntsAt W' g n := fun j hj => let ⟨x, hx⟩ := h j hj; ⟨x, sc_later hb hx⟩
theorem ints6 (w : World) (a b c d e f : Int) (t : TypeId) : ∃ W g, W = w.alloc (.cells #[.int .i64 a, .int .i64 b, .int .i64 c, .int .i64 d, .int .i64 e, .int .i64 f] t) ∧ g = w.heap.size ∧ IntsAt W g 6 ∧ Below w.heap.size w W := by
  refine ⟨_, _, rfl, rfl, fun j hj => ?_, sst1 _ _⟩
  match j, hj with
  | 0, _ => exact ⟨_, (cellIs_row w _ t 0 _ rfl).1⟩
  | 1, _ => exact ⟨_, (cellIs_row w _ t 1 _ rfl).1⟩
  | 2, _ => exact ⟨_, (cellIs_row w _ t 2 _ rfl).1⟩
  | 3, _ => exact ⟨_, (cellIs_row w _ t 3 _ rfl).1⟩
  | 4, _ => exact ⟨_, (cellIs_row w _ t 4 _ rfl).1⟩
  | 5, _ => exact ⟨_, (cellIs_row w _ t 5 _ rfl).1⟩
theorem ints3 (w : World) (a b c : Int) (t : TypeId) : ∃ W g, W = w.alloc (.cells #[.int .i64 a, .int .i64 b, .int .i64 c] t) ∧ g = w.heap.size ∧ IntsAt W g 3 ∧ Below w.heap.size w W := by
  refine ⟨_, _, rfl, rfl, fun j hj => ?_, sst1 _ _⟩
  match j, hj with
  | 0, _ => exact ⟨_, (cellIs_row w _ t 0 _ rfl).1⟩
  | 1, _ => exact ⟨_, (cellIs_row w _ t 1 _ rfl).1⟩
  | 2, _ => exact ⟨_, (cellIs_row w _ t 2 _ rfl).1⟩
def SmRel (w : World) (g m : Nat) (i : Value) (wr : World) : Prop := ∃ k : Nat, k ≤ m ∧ i = .int .i64 k ∧ IntsAt wr g 6 ∧ Below w.heap.size w wr
def SmRel2 (w : World) (m : Nat) (i : Value) (wr : World) : Prop := ∃ k : Nat, k ≤ m ∧ i = .int .i64 k ∧ Below w.heap.size w wr
def SmRel3 (w : World) (g : Nat) (i : Value) (wr : World) : Prop := ∃ k : Nat, k ≤ 3 ∧ i = .int .i64 k ∧ IntsAt wr g 3 ∧ Below w.heap.size w wr
set_option maxHeartbeats 4000000 in
theorem ParSmall_any (w : World) : Calls Try.prog 7 #[] w fun e w' => e = .returned (.bool true) ∧ Below w.heap.size w w' := by
  have HT := Sec.mk fun T u b s d w' h1 h2 h3 h4 => tells_any T u b s d w' h1 h2 h3 h4
  have HE := Sec.mk fun w' => Example_ok w'
  have HA := Sec.mk awake_true
  have hszt : ∀ T, (Try.prog.info? 25).map (·.size) = some (tabV T).toList.length := fun T => info_tab
  go_enter Try.func7, Try.ntmps7
  go_upto_region 2 with fail
  obtain ⟨W, g, eW, eg, hI0, hB0⟩ := ints6 w 0 6 7 10 12 13 3
  rw [← eW, ← eg]
  clear eW eg
  go_wp2_with fail
  go_loopw [16] (fun i wr => SmRel w g 6 i wr) (fun i _ => 6 - (intOf i).toNat)
  case atStart => exact ⟨0, by omega, rfl, hI0, hB0⟩
  case round =>
    clear hI0 hB0
    obtain ⟨i, hi, rfl, hI, hB⟩ := hrel
    by_cases hi6 : i < 6
    · obtain ⟨a, ha⟩ := hI i hi6
      go_wp2_with fail
      try simp only [decide_eq_true (show (i : Int) < 6 by omega)]
      go_loopw [23] (fun k wx => SmRel w g 6 k wx) (fun k _ => 6 - (intOf k).toNat)
      case atStart => exact ⟨0, by omega, rfl, hI, hB⟩
      case round =>
        clear hI hB ha
        obtain ⟨k, hk, rfl, hI, hB⟩ := hrel
        by_cases hk6 : k < 6
        · obtain ⟨b, hb⟩ := hI k hk6
          go_wp2_with fail
          try simp only [decide_eq_true (show (k : Int) < 6 by omega)]
          go_loopw [28] (fun d wx => SmRel w g 5 d wx) (fun d _ => 5 - (intOf d).toNat)
          case atStart => exact ⟨0, by omega, rfl, hI, hB⟩
          case round =>
            clear hI hB hb
            obtain ⟨d, hd, rfl, hI, hB⟩ := hrel
            by_cases hd5 : d < 5
            · go_upto_region 12 with fail
              rw [← zeros20]
              obtain ⟨W1, g7, e1, eg, hT, hI1, hB1, hg7⟩ : ∃ W1 g7, W1 = wr.alloc (.cells (tabV fun _ => 0) 25) ∧ g7 = wr.heap.size ∧ TabAt W1 g7 (fun _ => 0) ∧ IntsAt W1 g 6 ∧ Below w.heap.size w W1 ∧ w.heap.size ≤ g7 ∧ g < g7 :=
                ⟨_, _, rfl, rfl, tab_new wr _, hI.later (sst1 _ _), sbtr hB (sst1 _ _), hB.size, let ⟨x, hx⟩ := hI 0 (by omega); World.block_lt_of_cell? _ _ hx⟩
              rw [← e1, ← eg]
              clear e1 eg hI hB
              obtain ⟨p, hp, hp2⟩ : ∃ p : Nat, (i : Int) % 2 * 2 = (p : Int) ∧ p ≤ 2 := ⟨i % 2 * 2, by omega, by omega⟩
              obtain ⟨q, hq, hq5⟩ : ∃ q : Nat, ((d : Int) + (i : Int) + (k : Int)) % 5 = (q : Int) ∧ q < 5 := ⟨(d + i + k) % 5, by omega, by omega⟩
              obtain ⟨r, hr, hr4⟩ : ∃ r : Nat, 1 + (k : Int) % 2 * 2 = (r : Int) ∧ r < 4 := ⟨1 + k % 2 * 2, by omega, by omega⟩
              have d0 : (0 : Int) ≤ (d : Int) := by omega
              have d5 : (d : Int) < 5 := by omega
              have p0 : (0 : Int) ≤ (p : Int) := by omega
              have p4 : (p : Int) < 4 := by omega
              have q0 : (0 : Int) ≤ (q : Int) := by omega
              have q5 : (q : Int) < 5 := by omega
              have r0 : (0 : Int) ≤ (r : Int) := by omega
              have r4 : (r : Int) < 4 := by omega
              obtain ⟨c0, f0⟩ := id (hT (d * 4 + p) (by omega))
              have hq' := Sec.mk hq
              have hr' := Sec.mk hr
              clear hq hr
              go_upto_region 13 with fail
              obtain ⟨W2, e2, hT2, hI2, hB2⟩ : ∃ W2, W2 = W1.setCell ⟨g7, d * 4 + p, none⟩ (.int .i64 a) ∧ TabAt W2 g7 (putT (fun _ => 0) (d * 4 + p) a) ∧ IntsAt W2 g 6 ∧ Below w.heap.size w W2 :=
                ⟨_, rfl, hT.put _ (by omega) _, fun j hj => let ⟨x, hx⟩ := hI1 j hj; ⟨x, by rw [World.cell?_setCell_other _ _ _ _ (by simp only [ne_eq, Addr.mk.injEq]; omega)]; exact hx⟩, hB1.setCell (p := ⟨g7, d * 4 + p, none⟩) hg7.1 _⟩
              rw [← e2]
              clear e2 hT hI1 hB1 c0 f0 hp
              have hq := hq'.out
              have hr := hr'.out
              obtain ⟨c0, f0⟩ := id (hT2 (q * 4 + r) (by omega))
              go_upto_region 14 with fail
              obtain ⟨W3, e3, hT3, hI3, hB3⟩ : ∃ W3, W3 = W2.setCell ⟨g7, q * 4 + r, none⟩ (.int .i64 b) ∧ TabAt W3 g7 (putT (putT (fun _ => 0) (d * 4 + p) a) (q * 4 + r) b) ∧ IntsAt W3 g 6 ∧ Below w.heap.size w W3 :=
                ⟨_, rfl, hT2.put _ (by omega) _, fun j hj => let ⟨x, hx⟩ := hI2 j hj; ⟨x, by rw [World.cell?_setCell_other _ _ _ _ (by simp only [ne_eq, Addr.mk.injEq]; omega)]; exact hx⟩, hB2.setCell (p := ⟨g7, q * 4 + r, none⟩) hg7.1 _⟩
              rw [← e3]
              clear e3 hT2 hI2 hB2 c0 f0 hq hr hq' hr' p0 p4 q0 q5 r0 r4 hp2 hq5 hr4
              generalize putT (putT (fun _ => 0) (d * 4 + p) a) (q * 4 + r) b = U at *
              have hra := hT3.range
              have hszu := hszt U
              go_wp2_with (refine wpList_load_mid (by rfl) 25 (.tmp 7) (by rfl) g7 0 (by rfl) (tabV U).toList _ hra Try.underlying25 rfl hszu ?_; simp only [Array.toArray_toList])
              clear hra
              refine (HT.out _ _ _ _ _ _ ?_ ?_ ?_ ?_).mono ?_
              case refine_1 => omega
              case refine_2 => omega
              case refine_3 => omega
              case refine_4 => omega
              rintro e w4 ⟨rfl, hb4⟩
              have hB4 := sbtr hB3 hb4
              have hI4 := hI3.later hb4
              clear hT3 hI3 hB3 hb4
              go_wp2_with fail
              exact ⟨⟨d + 1, by omega, by first | rfl | go_num, hI4, hB4⟩, by simp only [intOf]; omega⟩
            · go_wp2_with fail
              exact ⟨⟨k + 1, by omega, by first | rfl | go_num, hI, hB⟩, by simp only [intOf]; omega⟩
        · go_wp2_with fail
          exact ⟨⟨i + 1, by omega, by first | rfl | go_num, hI, hB⟩, by simp only [intOf]; omega⟩
    · go_wp2_with fail
      clear hI
      try simp only [decide_eq_false (show ¬ (i : Int) < 6 by omega)]
      go_loopw [79] (fun d wx => SmRel2 w 5 d wx) (fun d _ => 5 - (intOf d).toNat)
      case atStart => exact ⟨0, by omega, rfl, hB⟩
      case round =>
        clear hB
        obtain ⟨d, hd, rfl, hB⟩ := hrel
        by_cases hd5 : d < 5
        · go_wp2_with fail
          try simp only [decide_eq_true (show (d : Int) < 5 by omega)]
          go_loopw [82] (fun s wx => SmRel2 w 4 s wx) (fun s _ => 4 - (intOf s).toNat)
          case atStart => exact ⟨0, by omega, rfl, hB⟩
          case round =>
            clear hB
            obtain ⟨s, hs, rfl, hB⟩ := hrel
            by_cases hs4 : s < 4
            · go_upto_region 26 with fail
              obtain ⟨W1, g1, e1, eg, hI1, hb1⟩ := ints3 wr (-1) 14 13 3
              rw [← e1, ← eg]
              have hB1 := sbtr hB hb1
              have hwg : w.heap.size ≤ g1 := by rw [eg]; exact hB.size
              clear e1 eg hb1 hB
              try simp only [decide_eq_true (show (s : Int) < 4 by omega)]
              go_loopw [87] (fun k wx => SmRel3 w g1 k wx) (fun k _ => 3 - (intOf k).toNat)
              case atStart => exact ⟨0, by omega, rfl, hI1, hB1⟩
              case round =>
                clear hI1 hB1
                obtain ⟨k, hk, rfl, hI, hB⟩ := hrel
                by_cases hk3 : k < 3
                · obtain ⟨x, hx⟩ := hI k hk3
                  go_wp2_with fail
                  refine (HE.out _).mono ?_
                  rintro e w2 ⟨rfl, hb2⟩
                  have hB2 := sbtr hB hb2
                  have hI2 := hI.later hb2
                  clear hB hI hx hb2
                  have hth := tab_there w2 exT
                  have h1c := tab_one exT
                  go_upto_region 29 with (refine wpList_store_mid (by rfl) 25 (.tmp 12) (.tmp 91) ?_ w2.heap.size 0 (tabV exT) ?_ ?_ ?_ info_tab h1c ?_; rfl; rfl; rfl; exact hth; simp only [Act.put])
                  rw [← zeros20]
                  obtain ⟨W3, g3, e3, eg, hT3, hb3⟩ := tab_put w2 exT
                  rw [← e3, ← eg]
                  have hB3 := sbtr hB2 hb3
                  have hI3 := hI2.later hb3
                  have hwg3 : w.heap.size ≤ g3 := by rw [eg]; exact hB2.size
                  have hg31 : g1 < g3 := by rw [eg]; exact let ⟨x, hx⟩ := hI2 0 (by omega); World.block_lt_of_cell? _ _ hx
                  clear e3 eg hB2 hI2 hb3 hth h1c
                  have d0 : (0 : Int) ≤ (d : Int) := by omega
                  have d5 : (d : Int) < 5 := by omega
                  have s0 : (0 : Int) ≤ (s : Int) := by omega
                  have s4 : (s : Int) < 4 := by omega
                  obtain ⟨c0, f0⟩ := id (hT3 (d * 4 + s) (by omega))
                  go_upto_region 30 with fail
                  obtain ⟨W4, e4, hT4, hI4, hB4⟩ : ∃ W4, W4 = W3.setCell ⟨g3, d * 4 + s, none⟩ (.int .i64 x) ∧ TabAt W4 g3 (putT exT (d * 4 + s) x) ∧ IntsAt W4 g1 3 ∧ Below w.heap.size w W4 :=
                    ⟨_, rfl, hT3.put _ (by omega) _, fun j hj => let ⟨x, hx⟩ := hI3 j hj; ⟨x, by rw [World.cell?_setCell_other _ _ _ _ (by simp only [ne_eq, Addr.mk.injEq]; omega)]; exact hx⟩, hB3.setCell (p := ⟨g3, d * 4 + s, none⟩) hwg3 _⟩
                  rw [← e4]
                  clear e4 hT3 hI3 hB3 c0 f0
                  generalize putT exT (d * 4 + s) x = U at *
                  have hra := hT4.range
                  have hszu := hszt U
                  go_wp2_with (refine wpList_load_mid (by rfl) 25 (.tmp 12) (by rfl) g3 0 (by rfl) (tabV U).toList _ hra Try.underlying25 rfl hszu ?_; simp only [Array.toArray_toList])
                  clear hra
                  refine (HT.out _ _ _ _ _ _ ?_ ?_ ?_ ?_).mono ?_
                  case refine_1 => omega
                  case refine_2 => omega
                  case refine_3 => omega
                  case refine_4 => omega
                  rintro e w5 ⟨rfl, hb5⟩
                  have hB5 := sbtr hB4 hb5
                  have hI5 := hI4.later hb5
                  clear hT4 hI4 hB4 hb5
                  go_wp2_with fail
                  exact ⟨⟨k + 1, by omega, by first | rfl | go_num, hI5, hB5⟩, by simp only [intOf]; omega⟩
                · go_wp2_with fail
                  exact ⟨⟨s + 1, by omega, by first | rfl | go_num, hB⟩, by simp only [intOf]; omega⟩
            · go_wp2_with fail
              exact ⟨⟨d + 1, by omega, by first | rfl | go_num, hB⟩, by simp only [intOf]; omega⟩
        · go_wp2_with (go_at_call 14; refine (HA.out _).mono ?_; rintro e w9 ⟨rfl, hb9⟩)
          go_ret
          exact ⟨rfl, sbtr hB hb9⟩
end Go.Proofs.Ytfacmkelbjfffaa
