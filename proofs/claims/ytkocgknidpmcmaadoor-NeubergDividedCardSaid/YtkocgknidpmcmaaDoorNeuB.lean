/- Package neuberg: within, Adjust. -/
import Derived.Test.YtkocgknidpmcmaaDoorNeuA
namespace Go.Proofs.YtkocgknidpmcmaaDoor
open Go.RowKit
set_option linter.unusedVariables false
set_option linter.unusedSimpArgs false

def withinB (mn md most : Int) : Bool := rightB mn md && decide (0 ≤ mn) && decide (md ≤ 10000) && decide (ordQ ((mn : Rat) / (md : Rat)) (most : Rat) ≤ 0)

set_option maxRecDepth 100000 in
set_option maxHeartbeats 1000000 in
theorem within_any (mn md most : Int) (w : World) (hn : -9223372036854775808 ≤ mn ∧ mn ≤ 9223372036854775807) (hd : -9223372036854775808 ≤ md ∧ md ≤ 9223372036854775807) (hm : 0 ≤ most ∧ most ≤ 1000) :
    Calls Tryd.prog 34 #[.agg #[.int .i64 mn, .int .i64 md], .int .i64 most] w fun e w' => e = .returned (.bool (withinB mn md most)) ∧ Below w.heap.size w w' := by
  have HR := fun w' => right_exact mn md w' hn hd
  cases hr : rightB mn md with
  | false =>
    have HE : Sec (withinB mn md most = false) := ⟨by unfold withinB; rw [hr]; rfl⟩
    rw [hr] at HR
    have HR' := Sec.mk HR
    clear HR hr hn hd
    go_enter Tryd.func34, Tryd.ntmps34
    go_wp2_with fail
    refine (HR'.out _).mono ?_; rintro e w1 ⟨rfl, k, rfl⟩
    go_wp2_with fail
    go_ret
    exact ⟨ret_b HE.out.symm, below_drewN (btr (st1 _ _) (st1 _ _)) _⟩
  | true =>
    obtain ⟨q, rfl, rfl⟩ := right_rat hr
    rw [hr] at HR
    have HR' := Sec.mk HR
    have hf : fits q := ⟨hn.1, hn.2, hd.2⟩
    have HC := Sec.mk fun w' => Cmp_int q most w' hf (by omega)
    have HE : Sec (withinB q.num (q.den : Int) most = (decide (0 ≤ q.num) && decide ((q.den : Int) ≤ 10000) && decide (ordQ q (most : Rat) ≤ 0))) := ⟨by
      unfold withinB; rw [hr, Bool.true_and, ← rat_of q]⟩
    have hO := ordQ_bd q (most : Rat)
    clear HR hr hf hd
    generalize withinB q.num (q.den : Int) most = B at *
    generalize ordQ q (most : Rat) = O at *
    generalize q.num = n1 at *
    generalize (q.den : Int) = d1 at *
    by_cases h1 : n1 < 0
    · go_enter Tryd.func34, Tryd.ntmps34
      go_wp2_with fail
      refine (HR'.out _).mono ?_; rintro e w1 ⟨rfl, k, rfl⟩
      go_wp2_with fail
      go_ret
      exact ⟨ret_b (by rw [HE.out]; simp; omega), below_drewN (btr (st1 _ _) (st1 _ _)) _⟩
    by_cases h2 : 10000 < d1
    · go_enter Tryd.func34, Tryd.ntmps34
      go_wp2_with fail
      refine (HR'.out _).mono ?_; rintro e w1 ⟨rfl, k, rfl⟩
      go_wp2_with fail
      go_ret
      exact ⟨ret_b (by rw [HE.out]; simp; omega), below_drewN (btr (st1 _ _) (st1 _ _)) _⟩
    go_enter Tryd.func34, Tryd.ntmps34
    go_wp2_with fail
    refine (HR'.out _).mono ?_; rintro e w1 ⟨rfl, k, rfl⟩
    go_wp2_with fail
    obtain ⟨V, hV⟩ : ∃ V, V = (((w.alloc (.cells #[.int .i64 n1, .int .i64 d1] 23)).alloc (.cells #[.int .i64 n1, .int .i64 d1] 23)).drewN k) := ⟨_, rfl⟩
    rw [← hV]
    have c1 : V.cell? ⟨w.heap.size, 0, none⟩ = some (.int .i64 n1) := by rw [hV]; go_simp
    have c2 : V.cell? ⟨w.heap.size, 1, none⟩ = some (.int .i64 d1) := by rw [hV]; go_simp
    have hBV : Below w.heap.size w V := by rw [hV]; exact below_drewN (btr (st1 _ _) (st1 _ _)) _
    have hBx := Below.refl V.heap.size V
    clear hV HR'
    go_region_held3 (fun w' => w'.cell? ⟨w.heap.size, 0, none⟩ = some (.int .i64 n1) ∧ w'.cell? ⟨w.heap.size, 1, none⟩ = some (.int .i64 d1))
      (first | assumption | exact ⟨c1, c2⟩ | exact ⟨cell_later hBx c1, cell_later hBx c2⟩)
      ((first
        | (go_at_call 50; refine (nwhole_any _ _).mono ?_; rintro e w8 ⟨rfl, hb8⟩; have hBx : Below V.heap.size V w8 := btr (by repeat (first | exact hBx | refine Below.drew ?_ | refine below_drewN ?_ _)) hb8)
        | (go_at_call 27; refine (HC.out _).mono ?_; rintro e w9 ⟨rfl, hb8⟩; have hBx : Below V.heap.size V w9 := btr (by repeat (first | exact hBx | refine Below.drew ?_ | refine below_drewN ?_ _)) hb8)))
    go_wp2_with fail
    go_ret
    exact ⟨ret_b (by rw [HE.out]; simp; omega), btr hBV hBx⟩

theorem top_any (n : Nat) (w : World) (h : 1 ≤ n ∧ n ≤ 1000) : Calls Tryd.prog 35 #[.int .i64 n] w fun e w' => e = .returned (.int .i64 (2 * ((n : Int) - 1))) ∧ w = w' := by
  have h1 := top_small n w (by omega)
  rw [if_neg (by omega)] at h1
  exact h1
def qs3 (q r s : Rat) : Nat → Rat
  | 0 => q
  | 1 => r
  | _ => s
theorem steps2 {w : World} {v1 v2 : Value} {T : Nat} {qs : Nat → Rat} (h1 : Step w v1 (qs 0) (qs 1)) (h2 : Step w v2 (qs 1) (qs 2)) : Steps (w.alloc (.cells #[v1, v2] T)) (some ⟨w.heap.size, 0, none⟩) 2 qs := by
  intro k hk
  match k, hk with
  | 0, _ => exact ⟨w.heap.size, 0, rfl, v1, by go_simp, h1.later (st1 _ _)⟩
  | 1, _ => exact ⟨w.heap.size, 0, rfl, v2, by go_simp, h2.later (st1 _ _)⟩
theorem Steps.later {w w' : World} {A : Option Addr} {n : Nat} {qs : Nat → Rat} (h : Steps w A n qs) (hb : Below w.heap.size w w') : Steps w' A n qs := fun k hk =>
  let ⟨b, o, e, v, h1, h2⟩ := h k hk
  ⟨b, o, e, v, cell_later hb h1, h2.later hb⟩

set_option maxRecDepth 100000 in
set_option maxHeartbeats 2000000 in
theorem Adjust_right (q : Rat) (n N : Nat) (w : World) (hf : fits q) (hw : withinB q.num q.den (2 * ((n : Int) - 1)) = true) (hn : 1 ≤ n) (hN : n ≤ N) (hN2 : N ≤ 24)
    (hf1 : fits (q * (((N : Int) : Rat) / ((n : Int) : Rat)))) (hf2 : fits (adjQ q n N)) :
    Calls Tryd.prog 11 #[.agg #[.int .i64 q.num, .int .i64 q.den], .int .i64 n, .int .i64 N] w fun e w' => e = .returned (.tuple #[.agg #[.int .i64 (adjQ q n N).num, .int .i64 (adjQ q n N).den], .int .i64 0]) ∧ Below w.heap.size w w' := by
  have hBo := fun w' => board_any n N w'
  rw [show (decide (1 ≤ (N : Int)) && decide ((N : Int) ≤ 24) && decide (0 ≤ (n : Int)) && decide ((n : Int) ≤ (N : Int))) = true by simp; omega] at hBo
  have HBo := Sec.mk hBo
  have HT := Sec.mk fun w' => top_any n w' ⟨hn, by omega⟩
  have q0 := q.den_pos
  have hWi := fun w' => within_any q.num q.den (2 * ((n : Int) - 1)) w' ⟨hf.1, hf.2.1⟩ ⟨by omega, hf.2.2⟩ (by omega)
  rw [hw] at hWi
  have HWi := Sec.mk hWi
  have HDo := Sec.mk fun (w' : World) (A : Option Addr) (c : Nat) (h : Steps w' A 2 (qs3 q (q * (((N : Int) : Rat) / ((n : Int) : Rat))) (adjQ q n N))) => do_any A 2 c _ w' h (by omega)
  have HS1 : Sec (∀ (w' : World) (v : Value), (∀ q' r : Rat, (-1000000000000 ≤ (N : Int) ∧ (N : Int) ≤ 1000000000000) → (0 < (n : Int) ∧ (n : Int) ≤ 1000000000) → fits q' → fits r → q' * (((N : Int) : Rat) / ((n : Int) : Rat)) = r → Step w' v q' r) → Step w' v q (q * (((N : Int) : Rat) / ((n : Int) : Rat)))) :=
    ⟨fun w' v h => h _ _ (by omega) (by omega) hf hf1 rfl⟩
  have HS2 : Sec (∀ (w' : World) (b1 b2 : Nat), w'.cell? ⟨b1, 0, none⟩ = some (.int .i64 N) → w'.cell? ⟨b2, 0, none⟩ = some (.int .i64 n) → Step w' (.func (.func 38) #[] #[.pointer (some ⟨b1, 0, none⟩), .pointer (some ⟨b2, 0, none⟩)]) (q * (((N : Int) : Rat) / ((n : Int) : Rat))) (adjQ q n N)) :=
    ⟨fun w' b1 b2 h1 h2 => ⟨_, _, rfl, cfAdj, fun w2 hb => adj1_any N n _ _ b1 b2 w2 (cell_later hb h1) (cell_later hb h2) (by omega) (by omega) hf1 hf2 rfl⟩⟩
  have hn1 : decide ((n : Int) < 1) = false := by simp; omega
  clear hBo hWi hw hf hf1 hf2 q0
  generalize (adjQ q n N) = r at *
  generalize hq1 : (q * (((N : Int) : Rat) / ((n : Int) : Rat))) = q1 at *
  clear hq1
  generalize hn2 : q.num = n1 at *
  generalize hd2 : (q.den : Int) = d1 at *
  have HDo' : Sec (∀ (w' : World) (A : Option Addr) (c : Nat), Steps w' A 2 (qs3 q q1 r) → Calls Tryd.prog 36 #[.agg #[.int .i64 n1, .int .i64 d1], .slice A 2 c] w' fun e w'' => e = .returned (.tuple #[.agg #[.int .i64 r.num, .int .i64 r.den], .int .i64 0]) ∧ Below w'.heap.size w' w'') := ⟨fun w' A c h => by
    have := HDo.out w' A c h
    rw [show (qs3 q q1 r 0) = q from rfl, show (qs3 q q1 r 2) = r from rfl, hn2, hd2] at this
    exact this⟩
  clear hn2 hd2 HDo
  go_enter Tryd.func11, Tryd.ntmps11
  go_wp2_with fail
  obtain ⟨V, hV⟩ : ∃ V, V = ((((w.alloc (.cells #[.int .i64 n1, .int .i64 d1] 23)).alloc (.cells #[.int .i64 n] 3)).alloc (.cells #[.int .i64 N] 3)).alloc (.cells #[.int .i64 0, .int .i64 0] 23)) := ⟨_, rfl⟩
  rw [← hV]
  have c1 : V.cell? ⟨w.heap.size, 0, none⟩ = some (.int .i64 n1) := by rw [hV]; go_simp
  have c2 : V.cell? ⟨w.heap.size, 1, none⟩ = some (.int .i64 d1) := by rw [hV]; go_simp
  have c3 : V.cell? ⟨w.heap.size + 1, 0, none⟩ = some (.int .i64 n) := by rw [hV]; go_simp
  have c4 : V.cell? ⟨w.heap.size + 1 + 1, 0, none⟩ = some (.int .i64 N) := by rw [hV]; go_simp
  have P5 : Pair V (w.heap.size + 1 + 1 + 1) (.int .i64 0) (.int .i64 0) := by
    rw [hV]; refine ⟨?_, ?_, ?_, ?_⟩ <;> go_simp
  have hBV : Below w.heap.size w V := by rw [hV]; exact btr (st1 _ _) (btr (st1 _ _) (btr (st1 _ _) (st1 _ _)))
  have HP5 := Sec.mk P5
  have hBx := Below.refl V.heap.size V
  clear hV P5
  go_region_held3 (fun w' => w'.cell? ⟨w.heap.size, 0, none⟩ = some (.int .i64 n1) ∧ w'.cell? ⟨w.heap.size, 1, none⟩ = some (.int .i64 d1) ∧ w'.cell? ⟨w.heap.size + 1, 0, none⟩ = some (.int .i64 n) ∧ w'.cell? ⟨w.heap.size + 1 + 1, 0, none⟩ = some (.int .i64 N))
    (first | assumption | exact ⟨c1, c2, c3, c4⟩ | exact four_later c1 c2 c3 c4 hBx)
    ((first
      | (go_at_call 33; refine (HBo.out _).mono ?_; rintro e w8 ⟨rfl, rfl⟩)
      | (go_at_call 35; refine (HT.out _).mono ?_; rintro e w8 ⟨rfl, rfl⟩)
      | (go_at_call 34; refine (HWi.out _).mono ?_; rintro e w9 ⟨rfl, hb8⟩; have hBx : Below V.heap.size V w9 := btr (by repeat (first | exact hBx | refine Below.drew ?_ | refine below_drewN ?_ _)) hb8)))
  obtain ⟨e1, e2, e3, e4⟩ := four_later c1 c2 c3 c4 hBx
  have HP6 := Sec.mk (HP5.out.later hBx)
  have HB9 := Sec.mk (btr hBV hBx)
  clear c1 c2 c3 c4 hBx hBV HP5 HBo HT HWi
  go_wp2_with fail
  have hBy := Below.refl w9.heap.size w9
  have hyz := hBy.size
  go_region_held3 (fun w' => w'.cell? ⟨w.heap.size, 0, none⟩ = some (.int .i64 n1) ∧ w'.cell? ⟨w.heap.size, 1, none⟩ = some (.int .i64 d1) ∧ w'.cell? ⟨w.heap.size + 1, 0, none⟩ = some (.int .i64 n) ∧ w'.cell? ⟨w.heap.size + 1 + 1, 0, none⟩ = some (.int .i64 N))
    (first | assumption | exact ⟨e1, e2, e3, e4⟩ | exact four_later e1 e2 e3 e4 hBy | exact four_later e1 e2 e3 e4 (hBy.alloc hyz _) | exact four_set (four_later e1 e2 e3 e4 hBy) (by simp; omega) (by simp; omega) (by simp) (by simp))
    ((first
      | (go_at_call 37; refine (ratio_any _ _ _).mono ?_; rintro e w10 ⟨cp, rfl, hb10, hst⟩; have hBy : Below w9.heap.size w9 w10 := btr (by repeat (first | exact hBy | refine Below.drew ?_ | refine below_drewN ?_ _)) hb10; have hyz := hBy.size; have hS1 := HS1.out w10 _ hst)
      | (go_at_call 36; refine (HDo'.out _ _ _ ?_).mono ?_; (exact steps2 hS1 (HS2.out _ _ _ (four_later e1 e2 e3 e4 hBy).2.2.2 (four_later e1 e2 e3 e4 hBy).2.2.1)); rintro e w11 ⟨rfl, hb11⟩; have hBy : Below w9.heap.size w9 w11 := btr (hBy.alloc hyz _) hb11; have hyz := hBy.size; obtain ⟨y1, y2, y3, y4⟩ := HP6.out.later hBy; have yl := HP6.out.lt' hBy)))
  all_goals go_wp2_with fail
  all_goals exact bodyPost_ret (v := .tuple #[.agg #[.int .i64 r.num, .int .i64 (r.den : Int)], .int .i64 0]) (by simp [results, Tryd.results11, go_sem, y1, y2]) rfl ⟨rfl, set2 (btr HB9.out hBy) (by omega)⟩

set_option maxRecDepth 100000 in
set_option maxHeartbeats 2000000 in
theorem Adjust_wrong (mn md n all : Int) (w : World) (hmn : -9223372036854775808 ≤ mn ∧ mn ≤ 9223372036854775807) (hmd : -9223372036854775808 ≤ md ∧ md ≤ 9223372036854775807)
    (h : (1 ≤ all ∧ all ≤ 24 ∧ 1 ≤ n ∧ n ≤ all) → withinB mn md (2 * (n - 1)) = false) :
    Calls Tryd.prog 11 #[.agg #[.int .i64 mn, .int .i64 md], .int .i64 n, .int .i64 all] w fun e w' => e = .returned (.tuple #[.agg #[.int .i64 0, .int .i64 0], .int .i64 2]) ∧ Below w.heap.size w w' := by
  have hBo := fun w' => board_any n all w'
  cases hb : (decide (1 ≤ all) && decide (all ≤ 24) && decide (0 ≤ n) && decide (n ≤ all)) with
  | false =>
    rw [hb] at hBo
    have HBo := Sec.mk hBo
    clear hBo hb h hmn hmd
    go_enter Tryd.func11, Tryd.ntmps11
    go_wp2_with fail
    obtain ⟨V, hV⟩ : ∃ V, V = ((((w.alloc (.cells #[.int .i64 mn, .int .i64 md] 23)).alloc (.cells #[.int .i64 n] 3)).alloc (.cells #[.int .i64 all] 3)).alloc (.cells #[.int .i64 0, .int .i64 0] 23)) := ⟨_, rfl⟩
    rw [← hV]
    have c3 : V.cell? ⟨w.heap.size + 1, 0, none⟩ = some (.int .i64 n) := by rw [hV]; go_simp
    have c4 : V.cell? ⟨w.heap.size + 1 + 1, 0, none⟩ = some (.int .i64 all) := by rw [hV]; go_simp
    obtain ⟨y1, y2, y3, y4⟩ : Pair V (w.heap.size + 1 + 1 + 1) (.int .i64 0) (.int .i64 0) := by
      rw [hV]; refine ⟨?_, ?_, ?_, ?_⟩ <;> go_simp
    have hBV : Below w.heap.size w V := by rw [hV]; exact btr (st1 _ _) (btr (st1 _ _) (btr (st1 _ _) (st1 _ _)))
    have yl := World.block_lt_of_cell? _ _ y1
    clear hV
    go_quiet ((go_at_call 33; exact quiet_left (HBo.out _)))
    go_wp2_with fail
    refine bodyPost_ret (v := .tuple #[.agg #[.int .i64 0, .int .i64 0], .int .i64 2]) (by simp [results, Tryd.results11, go_sem, y1, y2]) rfl ⟨rfl, ?_⟩
    first
      | exact set2 (below_drewN hBV _) (by omega)
      | exact below_drewN hBV _
      | exact below_drewN (set2 hBV (by omega)) _
  | true =>
    have hbb := hb
    simp only [Bool.and_eq_true, decide_eq_true_eq] at hbb
    obtain ⟨⟨⟨b1, b2⟩, b3⟩, b4⟩ := hbb
    rw [hb] at hBo
    have HBo := Sec.mk hBo
    clear hBo hb
    by_cases hn : n < 1
    · have hn1 : decide (n < 1) = true := by simpa using hn
      clear h hmn hmd
      go_enter Tryd.func11, Tryd.ntmps11
      go_wp2_with fail
      obtain ⟨V, hV⟩ : ∃ V, V = ((((w.alloc (.cells #[.int .i64 mn, .int .i64 md] 23)).alloc (.cells #[.int .i64 n] 3)).alloc (.cells #[.int .i64 all] 3)).alloc (.cells #[.int .i64 0, .int .i64 0] 23)) := ⟨_, rfl⟩
      rw [← hV]
      have c3 : V.cell? ⟨w.heap.size + 1, 0, none⟩ = some (.int .i64 n) := by rw [hV]; go_simp
      have c4 : V.cell? ⟨w.heap.size + 1 + 1, 0, none⟩ = some (.int .i64 all) := by rw [hV]; go_simp
      obtain ⟨y1, y2, y3, y4⟩ : Pair V (w.heap.size + 1 + 1 + 1) (.int .i64 0) (.int .i64 0) := by
        rw [hV]; refine ⟨?_, ?_, ?_, ?_⟩ <;> go_simp
      have hBV : Below w.heap.size w V := by rw [hV]; exact btr (st1 _ _) (btr (st1 _ _) (btr (st1 _ _) (st1 _ _)))
      have yl := World.block_lt_of_cell? _ _ y1
      clear hV
      go_quiet ((go_at_call 33; exact quiet_left (HBo.out _)))
      go_wp2_with fail
      refine bodyPost_ret (v := .tuple #[.agg #[.int .i64 0, .int .i64 0], .int .i64 2]) (by simp [results, Tryd.results11, go_sem, y1, y2]) rfl ⟨rfl, ?_⟩
      first
        | exact set2 (below_drewN hBV _) (by omega)
        | exact below_drewN hBV _
        | exact below_drewN (set2 hBV (by omega)) _
    · have hn1 : decide (n < 1) = false := by simp; omega
      have hWi := fun w' => within_any mn md (2 * (n - 1)) w' hmn hmd (by omega)
      rw [h ⟨by omega, by omega, by omega, by omega⟩] at hWi
      have HWi := Sec.mk hWi
      have hT := fun w' => top_any n.toNat w' ⟨by omega, by omega⟩
      rw [show ((n.toNat : Nat) : Int) = n by omega] at hT
      have HT := Sec.mk hT
      clear h hmn hmd hWi hT hn
      go_enter Tryd.func11, Tryd.ntmps11
      go_wp2_with fail
      obtain ⟨V, hV⟩ : ∃ V, V = ((((w.alloc (.cells #[.int .i64 mn, .int .i64 md] 23)).alloc (.cells #[.int .i64 n] 3)).alloc (.cells #[.int .i64 all] 3)).alloc (.cells #[.int .i64 0, .int .i64 0] 23)) := ⟨_, rfl⟩
      rw [← hV]
      have c1 : V.cell? ⟨w.heap.size, 0, none⟩ = some (.int .i64 mn) := by rw [hV]; go_simp
      have c2 : V.cell? ⟨w.heap.size, 1, none⟩ = some (.int .i64 md) := by rw [hV]; go_simp
      have c3 : V.cell? ⟨w.heap.size + 1, 0, none⟩ = some (.int .i64 n) := by rw [hV]; go_simp
      have c4 : V.cell? ⟨w.heap.size + 1 + 1, 0, none⟩ = some (.int .i64 all) := by rw [hV]; go_simp
      have P5 : Pair V (w.heap.size + 1 + 1 + 1) (.int .i64 0) (.int .i64 0) := by
        rw [hV]; refine ⟨?_, ?_, ?_, ?_⟩ <;> go_simp
      have hBV : Below w.heap.size w V := by rw [hV]; exact btr (st1 _ _) (btr (st1 _ _) (btr (st1 _ _) (st1 _ _)))
      have HP5 := Sec.mk P5
      have hBx := Below.refl V.heap.size V
      clear hV P5
      go_region_held3 (fun w' => w'.cell? ⟨w.heap.size, 0, none⟩ = some (.int .i64 mn) ∧ w'.cell? ⟨w.heap.size, 1, none⟩ = some (.int .i64 md) ∧ w'.cell? ⟨w.heap.size + 1, 0, none⟩ = some (.int .i64 n) ∧ w'.cell? ⟨w.heap.size + 1 + 1, 0, none⟩ = some (.int .i64 all))
        (first | assumption | exact ⟨c1, c2, c3, c4⟩ | exact four_later c1 c2 c3 c4 hBx)
        ((first
          | (go_at_call 33; refine (HBo.out _).mono ?_; rintro e w8 ⟨rfl, rfl⟩)
          | (go_at_call 35; refine (HT.out _).mono ?_; rintro e w8 ⟨rfl, rfl⟩)
          | (go_at_call 34; refine (HWi.out _).mono ?_; rintro e w9 ⟨rfl, hb8⟩; have hBx : Below V.heap.size V w9 := btr (by repeat (first | exact hBx | refine Below.drew ?_ | refine below_drewN ?_ _)) hb8)))
      obtain ⟨y1, y2, y3, y4⟩ := HP5.out.later hBx
      have yl := HP5.out.lt' hBx
      go_wp2_with fail
      exact bodyPost_ret (v := .tuple #[.agg #[.int .i64 0, .int .i64 0], .int .i64 2]) (by simp [results, Tryd.results11, go_sem, y1, y2]) rfl ⟨rfl, by first | exact set2 (btr hBV hBx) (by omega) | exact btr hBV hBx⟩
end Go.Proofs.YtkocgknidpmcmaaDoor
