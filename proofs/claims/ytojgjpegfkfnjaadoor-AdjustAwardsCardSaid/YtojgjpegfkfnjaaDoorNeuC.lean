/- Package neuberg: Share, Percent, Sum, Field. -/
import Derived.Test.YtojgjpegfkfnjaaDoorNeuB
namespace Go.Proofs.YtojgjpegfkfnjaaDoor
open Go.RowKit
set_option linter.unusedVariables false
set_option linter.unusedSimpArgs false

def qs4 (q r s t : Rat) : Nat → Rat
  | 0 => q
  | 1 => r
  | 2 => s
  | _ => t
def qs2 (q r : Rat) : Nat → Rat
  | 0 => q
  | _ => r
theorem steps3 {w : World} {v1 v2 v3 : Value} {T : Nat} {qs : Nat → Rat} (h1 : Step w v1 (qs 0) (qs 1)) (h2 : Step w v2 (qs 1) (qs 2)) (h3 : Step w v3 (qs 2) (qs 3)) : Steps (w.alloc (.cells #[v1, v2, v3] T)) (some ⟨w.heap.size, 0, none⟩) 3 qs := by
  intro k hk
  match k, hk with
  | 0, _ => exact ⟨w.heap.size, 0, rfl, v1, by go_simp, h1.later (st1 _ _)⟩
  | 1, _ => exact ⟨w.heap.size, 0, rfl, v2, by go_simp, h2.later (st1 _ _)⟩
  | 2, _ => exact ⟨w.heap.size, 0, rfl, v3, by go_simp, h3.later (st1 _ _)⟩
theorem steps1 {w : World} {v1 : Value} {T : Nat} {qs : Nat → Rat} (h1 : Step w v1 (qs 0) (qs 1)) : Steps (w.alloc (.cells #[v1] T)) (some ⟨w.heap.size, 0, none⟩) 1 qs := by
  intro k hk
  match k, hk with
  | 0, _ => exact ⟨w.heap.size, 0, rfl, v1, by go_simp, h1.later (st1 _ _)⟩

/-- percent of the top. -/
def shareQ (p : Int) (n : Nat) : Rat := (((p * (2 * ((n : Int) - 1)) : Int) : Rat) * (((1 : Int) : Rat) / ((100 : Int) : Rat)))
theorem shareQ_quot (p : Int) (n : Nat) : shareQ p n = (((p * (2 * ((n : Int) - 1)) : Int) : Rat) / ((100 : Int) : Rat)) := by
  unfold shareQ
  generalize ((p * (2 * ((n : Int) - 1)) : Int) : Rat) = x
  have : ((100 : Int) : Rat) ≠ 0 := by decide
  generalize ((100 : Int) : Rat) = t at *
  have e : ((1 : Int) : Rat) = 1 := rfl
  rw [e]
  grind
theorem share_bd (p : Int) (n : Nat) (hp : 0 ≤ p ∧ p ≤ 100) (hn : 1 ≤ n ∧ n ≤ 24) : 0 ≤ p * (2 * ((n : Int) - 1)) ∧ p * (2 * ((n : Int) - 1)) ≤ 100 * 46 :=
  ⟨Int.mul_nonneg hp.1 (by omega), Int.mul_le_mul hp.2 (by omega) (by omega) (by omega)⟩
theorem shareQ_fits (p : Int) (n : Nat) (hp : 0 ≤ p ∧ p ≤ 100) (hn : 1 ≤ n ∧ n ≤ 24) : fits (shareQ p n) := by
  rw [shareQ_quot]
  have := share_bd p n hp hn
  exact div_fits _ 100 (by omega) (by omega)

set_option maxRecDepth 100000 in
set_option maxHeartbeats 2000000 in
theorem Share_right (p : Int) (n : Nat) (w : World) (hp : 0 ≤ p ∧ p ≤ 100) (hn : 1 ≤ n ∧ n ≤ 24) :
    Calls Tryd.prog 37 #[.int .i64 p, .int .i64 n] w fun e w' => e = .returned (.tuple #[.agg #[.int .i64 (shareQ p n).num, .int .i64 (shareQ p n).den], .int .i64 0]) ∧ Below w.heap.size w w' := by
  have hBo := fun w' => board_any 0 n w'
  rw [show (decide (1 ≤ (n : Int)) && decide ((n : Int) ≤ 24) && decide ((0 : Int) ≤ 0) && decide ((0 : Int) ≤ (n : Int))) = true by simp; omega] at hBo
  have HBo := Sec.mk hBo
  have HT := Sec.mk fun w' => top_any n w' ⟨hn.1, by omega⟩
  have hb := share_bd p n hp hn
  have hf := shareQ_fits p n hp hn
  have HDo := Sec.mk fun (w' : World) (A : Option Addr) (c : Nat) (h : Steps w' A 3 (qs4 (p : Rat) ((p * (2 * ((n : Int) - 1)) : Int) : Rat) (shareQ p n) (shareQ p n))) => do_any A 3 c _ w' h (by omega)
  have f0 : fits (p : Rat) := fits_int p (by omega)
  have f1 : fits ((p * (2 * ((n : Int) - 1)) : Int) : Rat) := fits_int _ (by omega)
  have HS1 : Sec (∀ (w' : World) (v : Value), (∀ q' r : Rat, (-1000000000 ≤ 2 * ((n : Int) - 1) ∧ 2 * ((n : Int) - 1) ≤ 1000000000) → fits q' → fits r → q' * ((2 * ((n : Int) - 1) : Int) : Rat) = r → Step w' v q' r) → Step w' v (p : Rat) ((p * (2 * ((n : Int) - 1)) : Int) : Rat)) :=
    ⟨fun w' v h => h _ _ (by omega) f0 f1 (by rw [Rat.intCast_mul p])⟩
  have HS2 : Sec (∀ (w' : World) (v : Value), (∀ q' r : Rat, (-1000000000000 ≤ (1 : Int) ∧ (1 : Int) ≤ 1000000000000) → (0 < (100 : Int) ∧ (100 : Int) ≤ 1000000000) → fits q' → fits r → q' * (((1 : Int) : Rat) / ((100 : Int) : Rat)) = r → Step w' v q' r) → Step w' v ((p * (2 * ((n : Int) - 1)) : Int) : Rat) (shareQ p n)) :=
    ⟨fun w' v h => h _ _ (by omega) (by omega) f1 hf rfl⟩
  have HS3 : Sec (∀ (w' : World) (v : Value), (∀ q' r : Rat, (-1000000000 ≤ (0 : Int) ∧ (0 : Int) ≤ 1000000000) → fits q' → fits r → q' + ((0 : Int) : Rat) = r → Step w' v q' r) → Step w' v (shareQ p n) (shareQ p n)) :=
    ⟨fun w' v h => h _ _ (by omega) hf hf (by have e : ((0 : Int) : Rat) = 0 := rfl; rw [e, Rat.add_zero])⟩
  have HDo' : Sec (∀ (w' : World) (A : Option Addr) (c : Nat), Steps w' A 3 (qs4 (p : Rat) ((p * (2 * ((n : Int) - 1)) : Int) : Rat) (shareQ p n) (shareQ p n)) → Calls Tryd.prog 62 #[.agg #[.int .i64 p, .int .i64 1], .slice A 3 c] w' fun e w'' => e = .returned (.tuple #[.agg #[.int .i64 (shareQ p n).num, .int .i64 (shareQ p n).den], .int .i64 0]) ∧ Below w'.heap.size w' w'') := ⟨fun w' A c h => by
    have := HDo.out w' A c h
    rw [show (qs4 (p : Rat) ((p * (2 * ((n : Int) - 1)) : Int) : Rat) (shareQ p n) (shareQ p n) 0) = (p : Rat) from rfl, show (qs4 (p : Rat) ((p * (2 * ((n : Int) - 1)) : Int) : Rat) (shareQ p n) (shareQ p n) 3) = shareQ p n from rfl, Rat.num_intCast, Rat.den_intCast] at this
    exact this⟩
  clear hBo HDo hf f0 f1 hb
  generalize hr : shareQ p n = r at *
  generalize ((p * (2 * ((n : Int) - 1)) : Int) : Rat) = q1 at *
  generalize hTn : 2 * ((n : Int) - 1) = TN at *
  clear hTn hr
  have hp1 : ¬ p < 0 := by omega
  have hp2 : ¬ 100 < p := by omega
  go_enter Tryd.func37, Tryd.ntmps37
  go_wp2_with (go_at_call 61; refine (HBo.out _).mono ?_; rintro e w8 ⟨rfl, rfl⟩)
  refine (nwhole_any _ _).mono ?_
  rintro e w1 ⟨rfl, hb1⟩
  have P4 := (Pair.new w (.int .i64 0) (.int .i64 0) 40).later hb1
  have hB1 := btr (st1 _ _) hb1
  have HP4 := Sec.mk P4
  have HB1 := Sec.mk hB1
  clear hb1 P4 hB1
  go_wp2_with (go_at_call 65; refine (HT.out _).mono ?_; rintro e w8 ⟨rfl, rfl⟩)
  refine (ntimes_any _ _).mono ?_
  rintro e w2 ⟨cp1, rfl, hb2, hs1⟩
  have HS1' := Sec.mk (HS1.out w2 _ hs1)
  clear hs1 HS1
  go_wp2_with fail
  refine (ratio_any _ _ _).mono ?_
  rintro e w3 ⟨cp2, rfl, hb3, hs2⟩
  have HS2' := Sec.mk (HS2.out w3 _ hs2)
  clear hs2 HS2
  go_wp2_with fail
  refine (nplus_any _ _).mono ?_
  rintro e w4 ⟨cp3, rfl, hb4, hs3⟩
  have HS3' := Sec.mk (HS3.out w4 _ hs3)
  have hB24 := btr hb2 (btr hb3 hb4)
  have HSt := Sec.mk (steps3 (T := 113) (qs := qs4 (p : Rat) q1 r r) ((HS1'.out.later hb3).later hb4) (HS2'.out.later hb4) HS3'.out)
  clear hs3 HS3 hb2 hb3 hb4
  go_wp2_with fail
  refine (HDo'.out _ _ _ HSt.out).mono ?_
  rintro e w5 ⟨rfl, hb5⟩
  have hB5 := btr hB24 (btr (st1 _ _) hb5)
  obtain ⟨y1, y2, y3, y4⟩ := HP4.out.later hB5
  have yl := HP4.out.lt' hB5
  go_wp2_with fail
  exact bodyPost_ret (v := .tuple #[.agg #[.int .i64 r.num, .int .i64 (r.den : Int)], .int .i64 0]) (by simp [results, Tryd.results37, go_sem, y1, y2]) rfl ⟨rfl, set2 (btr HB1.out hB5) (by omega)⟩

set_option maxHeartbeats 1000000 in
theorem Share_wrong (p all : Int) (w : World) (h : (1 ≤ all ∧ all ≤ 24) → p < 0 ∨ 100 < p) :
    Calls Tryd.prog 37 #[.int .i64 p, .int .i64 all] w fun e w' => e = .returned (.tuple #[.agg #[.int .i64 0, .int .i64 0], .int .i64 2]) ∧ Below w.heap.size w w' := by
  have hBo := fun w' => board_any 0 all w'
  cases hb : (decide (1 ≤ all) && decide (all ≤ 24) && decide ((0 : Int) ≤ 0) && decide (0 ≤ all)) with
  | false =>
    rw [hb] at hBo
    have HBo := Sec.mk hBo
    clear hBo hb h
    go_enter Tryd.func37, Tryd.ntmps37
    go_wp2_with (go_at_call 61; refine (HBo.out _).mono ?_; rintro e w8 ⟨rfl, rfl⟩)
    exact bodyPost_ret (v := .tuple #[.agg #[.int .i64 0, .int .i64 0], .int .i64 2]) (by simp [results, Tryd.results37, go_sem]) rfl ⟨rfl, by first | exact st1 _ _ | exact set2 (st1 _ _) (Nat.le_refl _)⟩
  | true =>
    have hbb := hb
    simp only [Bool.and_eq_true, decide_eq_true_eq] at hbb
    rw [hb] at hBo
    have HBo := Sec.mk hBo
    have h' := h ⟨hbb.1.1.1, hbb.1.1.2⟩
    clear hBo hb h hbb
    by_cases hp : p < 0
    · clear h'
      go_enter Tryd.func37, Tryd.ntmps37
      go_wp2_with (go_at_call 61; refine (HBo.out _).mono ?_; rintro e w8 ⟨rfl, rfl⟩)
      exact bodyPost_ret (v := .tuple #[.agg #[.int .i64 0, .int .i64 0], .int .i64 2]) (by simp [results, Tryd.results37, go_sem]) rfl ⟨rfl, by first | exact st1 _ _ | exact set2 (st1 _ _) (Nat.le_refl _)⟩
    · have hp2 : 100 < p := by omega
      clear h'
      go_enter Tryd.func37, Tryd.ntmps37
      go_wp2_with (go_at_call 61; refine (HBo.out _).mono ?_; rintro e w8 ⟨rfl, rfl⟩)
      exact bodyPost_ret (v := .tuple #[.agg #[.int .i64 0, .int .i64 0], .int .i64 2]) (by simp [results, Tryd.results37, go_sem]) rfl ⟨rfl, by first | exact st1 _ _ | exact set2 (st1 _ _) (Nat.le_refl _)⟩
end Go.Proofs.YtojgjpegfkfnjaaDoor
