/- chapter 22: outcome and Made, walked. -/
import Derived.Test.YtojgjpegfkfnjaaDoorMadeE
namespace Go.Proofs.YtojgjpegfkfnjaaDoor
open Go.RowKit
set_option linter.unusedVariables false
set_option linter.unusedSimpArgs false
set_option maxRecDepth 100000

set_option maxHeartbeats 1000000 in
theorem outcome_any (b t : Int) (w : World) (hb : 0 ≤ b ∧ b ≤ 255) (ht : 0 ≤ t ∧ t ≤ 255) : Calls Tryd.prog 23 #[.int .u8 b, .int .u8 t] w fun e w' => e = .returned (ocV (oc22 b t)) ∧ Below w.heap.size w w' := by
  obtain ⟨n, hn⟩ : ∃ n, b % 211 = n := ⟨_, rfl⟩
  have hn2 : 0 ≤ n ∧ n ≤ 210 := by omega
  by_cases h : n = 210
  · have e0 : oc22 b t = zO := by unfold oc22; rw [hn, if_pos h]
    rw [e0]
    have h' : (n == 210) = true := by simp [h]
    clear e0
    subst h
    go_enter Tryd.func23, Tryd.ntmps23
    go_wp2_with fail
    exact bodyPost_ret (v := ocV zO) (by simp [results, Tryd.results23, go_sem, zO]) rfl ⟨rfl, by first | exact sst1 _ _ | exact sbtr (sst1 _ _) (sst1 _ _)⟩
  · have e0 : oc22 b t = ⟨1 + n / 30, n / 6 % 5, n % 3, (b + t) % 256 % 4, t % 14, 0⟩ := by unfold oc22; rw [hn, if_neg h]
    rw [e0]
    have h' : (n == 210) = false := by simp [h]
    have hw : IntKind.u8.wrap (b + t) = (b + t) % 256 := by
      have : IntKind.u8.wrap (b + t) = (b + t) % 256 := by unfold IntKind.wrap; simp [IntKind.signed, IntKind.bits]
      exact this
    clear e0 h
    go_enter Tryd.func23, Tryd.ntmps23
    go_wp2_with fail
    exact bodyPost_ret (v := ocV ⟨1 + n / 30, n / 6 % 5, n % 3, (b + t) % 256 % 4, t % 14, 0⟩) (by simp [results, Tryd.results23, go_sem]) rfl ⟨rfl, by first | exact sst1 _ _ | exact sbtr (sst1 _ _) (sst1 _ _)⟩
/-- Fourteen bytes as a value. -/
def smC (B : Nat → Int) : List Value := [.int .u8 (B 0), .int .u8 (B 1), .int .u8 (B 2), .int .u8 (B 3), .int .u8 (B 4), .int .u8 (B 5), .int .u8 (B 6), .int .u8 (B 7), .int .u8 (B 8), .int .u8 (B 9), .int .u8 (B 10), .int .u8 (B 11), .int .u8 (B 12), .int .u8 (B 13)]
def smV (B : Nat → Int) : Array Value := (smC B).toArray
theorem sm_cell {W : World} {g : Nat} {B : Nat → Int} (h : RowAt W g (smV B)) (k : Nat) (hk : k < 14) : W.cell? ⟨g, k, none⟩ = some (.int .u8 (B k)) := (h k _ (by
  match k, hk with
  | 0, _ | 1, _ | 2, _ | 3, _ | 4, _ | 5, _ | 6, _ | 7, _ | 8, _ | 9, _ | 10, _ | 11, _ | 12, _ | 13, _ => rfl
  | k + 14, h => exact absurd h (by omega))).1
/-- What lies there in Made. -/
structure MkI (w : World) (B : Nat → Int) (g1 g2 g3 : Nat) (e : En) (W : World) : Prop where
  sm : RowAt W g1 (smV B)
  out : RowAt W g2 (enV zE)
  en : RowAt W g3 (enV e)
  below : Below w.heap.size w W
theorem MkI.later {w : World} {B : Nat → Int} {g1 g2 g3 : Nat} {e : En} {W W' : World} (h : MkI w B g1 g2 g3 e W) (hb : Below W.heap.size W W') : MkI w B g1 g2 g3 e W' := ⟨h.sm.later hb, h.out.later hb, h.en.later hb, sbtr h.below hb⟩
theorem mk_start (w : World) (B : Nat → Int) (t t2 : TypeId) : ∃ W g1 g2, W = (w.alloc (.cells (smV B) t)).alloc (.cells (enV zE) t2) ∧ g1 = w.heap.size ∧ g2 = w.heap.size + 1 ∧ RowAt W g1 (smV B) ∧ RowAt W g2 (enV zE) ∧ Below w.heap.size w W := by
  refine ⟨_, _, _, rfl, rfl, rfl, (row_new w (smV B) t).later (sst1 _ _), ?_, sbtr (sst1 _ _) (sst1 _ _)⟩
  have h := row_new (w.alloc (.cells (smV B) t)) (enV zE) t2
  rwa [World.size_alloc] at h
/-- The entry at first. -/
def st0 (k f : Int) : En := ⟨0, 0, 0, 0, k, f, false, zO, zO, zO, zO, 0, 0⟩
theorem en_six0 {W : World} {g : Nat} {e : En} (o : Oc) (h : RowAt W g (enV e)) : RowAt ((((((W.setCell ⟨g, 7, none⟩ (.int .u8 o.l)).setCell ⟨g, 8, none⟩ (.int .u8 o.d)).setCell ⟨g, 9, none⟩ (.int .u8 o.r)).setCell ⟨g, 10, none⟩ (.int .u8 o.s)).setCell ⟨g, 11, none⟩ (.int .i64 o.n)).setCell ⟨g, 12, none⟩ (.int .i64 o.wt)) g (enV { e with o0 := o }) := by
  have h' := ((((((h.put 7 (.int .u8 o.l) (by simp [enV, enC, ocC])).put 8 (.int .u8 o.d) (by simp [enV, enC, ocC])).put 9 (.int .u8 o.r) (by simp [enV, enC, ocC])).put 10 (.int .u8 o.s) (by simp [enV, enC, ocC])).put 11 (.int .i64 o.n) (by simp [enV, enC, ocC])).put 12 (.int .i64 o.wt) (by simp [enV, enC, ocC]))
  exact h'
theorem en_six1 {W : World} {g : Nat} {e : En} (o : Oc) (h : RowAt W g (enV e)) : RowAt ((((((W.setCell ⟨g, 13, none⟩ (.int .u8 o.l)).setCell ⟨g, 14, none⟩ (.int .u8 o.d)).setCell ⟨g, 15, none⟩ (.int .u8 o.r)).setCell ⟨g, 16, none⟩ (.int .u8 o.s)).setCell ⟨g, 17, none⟩ (.int .i64 o.n)).setCell ⟨g, 18, none⟩ (.int .i64 o.wt)) g (enV { e with o1 := o }) := by
  have h' := ((((((h.put 13 (.int .u8 o.l) (by simp [enV, enC, ocC])).put 14 (.int .u8 o.d) (by simp [enV, enC, ocC])).put 15 (.int .u8 o.r) (by simp [enV, enC, ocC])).put 16 (.int .u8 o.s) (by simp [enV, enC, ocC])).put 17 (.int .i64 o.n) (by simp [enV, enC, ocC])).put 18 (.int .i64 o.wt) (by simp [enV, enC, ocC]))
  exact h'
theorem en_six2 {W : World} {g : Nat} {e : En} (o : Oc) (h : RowAt W g (enV e)) : RowAt ((((((W.setCell ⟨g, 19, none⟩ (.int .u8 o.l)).setCell ⟨g, 20, none⟩ (.int .u8 o.d)).setCell ⟨g, 21, none⟩ (.int .u8 o.r)).setCell ⟨g, 22, none⟩ (.int .u8 o.s)).setCell ⟨g, 23, none⟩ (.int .i64 o.n)).setCell ⟨g, 24, none⟩ (.int .i64 o.wt)) g (enV { e with o2 := o }) := by
  have h' := ((((((h.put 19 (.int .u8 o.l) (by simp [enV, enC, ocC])).put 20 (.int .u8 o.d) (by simp [enV, enC, ocC])).put 21 (.int .u8 o.r) (by simp [enV, enC, ocC])).put 22 (.int .u8 o.s) (by simp [enV, enC, ocC])).put 23 (.int .i64 o.n) (by simp [enV, enC, ocC])).put 24 (.int .i64 o.wt) (by simp [enV, enC, ocC]))
  exact h'
theorem en_six3 {W : World} {g : Nat} {e : En} (o : Oc) (h : RowAt W g (enV e)) : RowAt ((((((W.setCell ⟨g, 25, none⟩ (.int .u8 o.l)).setCell ⟨g, 26, none⟩ (.int .u8 o.d)).setCell ⟨g, 27, none⟩ (.int .u8 o.r)).setCell ⟨g, 28, none⟩ (.int .u8 o.s)).setCell ⟨g, 29, none⟩ (.int .i64 o.n)).setCell ⟨g, 30, none⟩ (.int .i64 o.wt)) g (enV { e with o3 := o }) := by
  have h' := ((((((h.put 25 (.int .u8 o.l) (by simp [enV, enC, ocC])).put 26 (.int .u8 o.d) (by simp [enV, enC, ocC])).put 27 (.int .u8 o.r) (by simp [enV, enC, ocC])).put 28 (.int .u8 o.s) (by simp [enV, enC, ocC])).put 29 (.int .i64 o.n) (by simp [enV, enC, ocC])).put 30 (.int .i64 o.wt) (by simp [enV, enC, ocC]))
  exact h'
theorem en_award {W : World} {g : Nat} {e : En} (x y : Int) (h : RowAt W g (enV e)) : RowAt ((W.setCell ⟨g, 31, none⟩ (.int .i64 x)).setCell ⟨g, 32, none⟩ (.int .i64 y)) g (enV { e with a := x, b := y }) := by
  have h' := (h.put 31 (.int .i64 x) (by simp [enV, enC, ocC])).put 32 (.int .i64 y) (by simp [enV, enC, ocC])
  exact h'
/-- An entry for a result. -/
theorem results_en {fn : Func} {t : Tmp} (h : fn.results = #[.cell t 29]) {tmps : Array Value} {g : Nat} (ht : tmps.getD t undef = .pointer (some ⟨g, 0, none⟩)) {w : World} {e : En} (hV : RowAt w g (enV e)) :
    (results fn tmps).run Tryd.prog w = .ok (.agg (enV e)) w := by
  have := run_loadVar_mid (P := Tryd.prog) w g 0 29 (enV e).toList _ hV.range Tryd.underlying29 rfl (en_sz e)
  rw [Array.toArray_toList] at this
  rw [Array.getD_eq_getD_getElem?] at ht
  simp [results, h, ht, this, asAddr]
theorem shAt_cell (W : World) (T : TypeId) (p : Nat) (hp : p < 7) : (W.alloc (.cells #[.int .i64 0, .int .i64 30, .int .i64 40, .int .i64 50, .int .i64 60, .int .i64 70, .int .i64 100] T)).cell? ⟨W.heap.size, p, none⟩ = some (.int .i64 (shAt p)) := by
  refine ((row_new W _ T) p _ ?_).1
  match p, hp with
  | 0, _ | 1, _ | 2, _ | 3, _ | 4, _ | 5, _ | 6, _ => rfl
  | p + 7, h => exact absurd h (by omega)
set_option maxHeartbeats 4000000 in
theorem Made_award (B : Nat → Int) (w : World) (hB : Small22 B) (h4 : B 0 % 5 = 4) : Calls Tryd.prog 22 #[.agg (smV B)] w fun x w' => x = .returned (.agg (enV (madeE B))) ∧ Below w.heap.size w w' := by
  have b0 := hB 0 (by omega)
  have b1 := hB 1 (by omega)
  have hz := zero_en
  have HO := Sec.mk fun i j (hi : i < 14) (hj : j < 14) w' => outcome_any (B i) (B j) w' (hB i hi) (hB j hj)
  obtain ⟨k, hk⟩ : ∃ k, B 0 % 5 = k := ⟨_, rfl⟩
  obtain ⟨f, hf⟩ : ∃ f, B 1 % 4 = f := ⟨_, rfl⟩
  have hk5 : k = 4 := by omega
  clear h4
  subst hk5
  have hsi := en_si (st0 4 f)
  have h1c := enV_one (st0 4 f)
  have hBs := Sec.mk hB
  clear hB
  go_enter Tryd.func22, Tryd.ntmps22
  go_upto_region 1 with fail
  obtain ⟨W0, g1, g2, e0, eg1, eg2, sm0, out0, hB0⟩ := mk_start w B 59 29
  rw [← e0, ← eg2, ← eg1]
  have hg2 : w.heap.size ≤ g2 := by omega
  have c0 := sm_cell sm0 0 (by omega)
  have c1 := sm_cell sm0 1 (by omega)
  have hth := en_there W0 (st0 4 f) zE
  have lt1 : g1 < W0.heap.size := World.block_lt_of_cell? _ _ c0
  have lt2 : g2 < W0.heap.size := out0.lt (by rw [enV_size]; omega)
  clear e0 eg1 eg2
  go_upto_region 2 with (first
    | (refine wpList_build (by rfl) 29 _ (by rfl) #[(4, .int .u8 4), (5, .int .u8 f)] (by rfl) (enV (st0 4 f)) (by kernel_rfl) ?_; simp only [Act.put])
    | (refine wpList_store_mid (by rfl) 29 (.tmp 3) (.tmp 15) ?_ W0.heap.size 0 (enV (st0 4 f)) ?_ ?_ ?_ hsi h1c ?_; rfl; rfl; rfl; exact hth; simp only [Act.put]))
  obtain ⟨W, g3, eW, eg, P3, hb⟩ := en_put W0 (st0 4 f) zE
  rw [← eW, ← eg]
  have I0 : MkI w B g1 g2 g3 (st0 4 f) W := ⟨sm0.later hb, out0.later hb, P3, sbtr hB0 hb⟩
  have hne13 : g1 ≠ g3 := by omega
  have hne23 : g2 ≠ g3 := by omega
  have hg3 : w.heap.size ≤ g3 := by rw [eg]; exact hB0.size
  have I := Sec.mk I0
  have c0 := sm_cell I0.sm 0 (by omega)
  have ck := en_cell I0.en 4 _ rfl
  clear I0 P3 hb eW eg sm0 out0 hB0 hth hsi h1c c1 hz lt1 lt2
  have hks := Sec.mk hk
  have hfs := Sec.mk hf
  clear hk hf
  replace ck : W.cell? ⟨g3, 4, none⟩ = some (.int .u8 4) := ck
  go_upto_region 22 with fail
  obtain ⟨p, hp, hp7⟩ : ∃ p : Nat, B 2 % 7 = (p : Int) ∧ p < 7 := ⟨(B 2 % 7).toNat, by omega, by omega⟩
  have b2 := hBs.out 2 (by omega)
  obtain ⟨q, hq, hq7⟩ : ∃ q : Nat, B 2 / 7 % 7 = (q : Int) ∧ q < 7 := ⟨(B 2 / 7 % 7).toNat, by omega, by omega⟩
  obtain ⟨W1, gt, e1, eg, I1, s1, s2, lt3⟩ : ∃ W1 gt, W1 = W.alloc (.cells #[.int .i64 0, .int .i64 30, .int .i64 40, .int .i64 50, .int .i64 60, .int .i64 70, .int .i64 100] 3) ∧ gt = W.heap.size ∧ MkI w B g1 g2 g3 (st0 4 f) W1 ∧ W1.cell? ⟨gt, p, none⟩ = some (.int .i64 (shAt p)) ∧ W1.cell? ⟨gt, q, none⟩ = some (.int .i64 (shAt q)) ∧ g3 < gt :=
    ⟨_, _, rfl, rfl, I.out.later (sst1 _ _), shAt_cell _ _ p hp7, shAt_cell _ _ q hq7, I.out.en.lt (by rw [enV_size]; omega)⟩
  rw [← e1, ← eg]
  have hgt : gt ≠ g3 := by omega
  have c2 := sm_cell I1.sm 2 (by omega)
  obtain ⟨d0, f0⟩ := I1.en 31 _ rfl
  obtain ⟨d1, f1⟩ := I1.en 32 _ rfl
  have hE : Sec (madeE B = { st0 4 f with a := shAt p, b := shAt q }) := ⟨by unfold madeE; rw [hks.out, hfs.out, hp, hq]; rfl⟩
  have I' := Sec.mk I1
  have p0 : (0 : Int) ≤ (p : Int) := by omega
  have p7 : (p : Int) < 7 := by omega
  have q0 : (0 : Int) ≤ (q : Int) := by omega
  have q7 : (q : Int) < 7 := by omega
  have hw2 : IntKind.i64.wrap (B 2) = B 2 := IntWalk.i64_in _ ⟨by omega, by omega⟩
  have hw3 : IntKind.i64.wrap (B 2 / 7) = B 2 / 7 := IntWalk.i64_in _ ⟨by omega, by omega⟩
  have ht1 : (B 2).tmod 7 = (p : Int) := by rw [Int.tmod_eq_emod_of_nonneg b2.1]; exact hp
  have ht2 : (B 2).tdiv 7 = B 2 / 7 := Int.tdiv_eq_ediv_of_nonneg b2.1
  have ht3 : (B 2 / 7).tmod 7 = (q : Int) := by rw [Int.tmod_eq_emod_of_nonneg (by omega)]; exact hq
  clear e1 eg I c0 ck I1
  refine wp_region_held_drew (S := fun w' => w'.cell? ⟨g1, 2, none⟩ = some (.int .u8 (B 2)) ∧ w'.cell? ⟨gt, p, none⟩ = some (.int .i64 (shAt p)) ∧ w'.cell? ⟨gt, q, none⟩ = some (.int .i64 (shAt q))) (by kernel_rfl) ⟨c2, s1, s2⟩ (fun hHeld => ?_)
  refine wpAnyH_take (i := 0) (oi := ⟨some 103, _, _, _, _, _⟩) (v := ?_) rfl (by kernel_rfl) (by kernel_rfl) (by kernel_rfl) (fun _ _ _ h => h) (Or.inl ⟨rfl, ?_⟩) hHeld ?_
  case refine_2 => (intro w hS; (iterate 14 (try obtain ⟨_, hS⟩ := hS)); go_simp; try with_reducible rfl)
  try simp only [Act.put, List.setIfInBounds_toArray, List.set_cons_zero, List.set_cons_succ]
  refine wpAnyH_take (i := 1) (oi := ⟨some 104, _, _, _, _, _⟩) (v := ?_) rfl (by kernel_rfl) (by kernel_rfl) (by kernel_rfl) (fun _ _ _ h => h) (Or.inl ⟨rfl, ?_⟩) hHeld ?_
  case refine_2 => (intro w hS; (iterate 14 (try obtain ⟨_, hS⟩ := hS)); go_simp; try with_reducible rfl)
  try simp only [Act.put, List.setIfInBounds_toArray, List.set_cons_zero, List.set_cons_succ]
  refine wpAnyH_take (i := 2) (oi := ⟨some 105, _, _, _, _, _⟩) (v := ?_) rfl (by kernel_rfl) (by kernel_rfl) (by kernel_rfl) (fun _ _ _ h => h) (Or.inl ⟨rfl, ?_⟩) hHeld ?_
  case refine_2 => (intro w hS; (iterate 14 (try obtain ⟨_, hS⟩ := hS)); go_simp; try with_reducible rfl)
  try simp only [Act.put, List.setIfInBounds_toArray, List.set_cons_zero, List.set_cons_succ]
  refine wpAnyH_take (i := 3) (oi := ⟨some 106, _, _, _, _, _⟩) (v := ?_) rfl (by kernel_rfl) (by kernel_rfl) (by kernel_rfl) (fun _ _ _ h => h) (Or.inl ⟨rfl, ?_⟩) hHeld ?_
  case refine_2 => (intro w hS; (iterate 14 (try obtain ⟨_, hS⟩ := hS)); go_simp; try with_reducible rfl)
  try simp only [Act.put, List.setIfInBounds_toArray, List.set_cons_zero, List.set_cons_succ]
  refine wpAnyH_take (i := 4) (oi := ⟨some 107, _, _, _, _, _⟩) (v := ?_) rfl (by kernel_rfl) (by kernel_rfl) (by kernel_rfl) (fun _ _ _ h => h) (Or.inl ⟨rfl, ?_⟩) hHeld ?_
  case refine_2 => (intro w hS; (iterate 14 (try obtain ⟨_, hS⟩ := hS)); go_simp; try with_reducible rfl)
  try simp only [Act.put, List.setIfInBounds_toArray, List.set_cons_zero, List.set_cons_succ]
  refine wpAnyH_take (i := 5) (oi := ⟨some 108, _, _, _, _, _⟩) (v := ?_) rfl (by kernel_rfl) (by kernel_rfl) (by kernel_rfl) (fun _ _ _ h => h) (Or.inl ⟨rfl, ?_⟩) hHeld ?_
  case refine_2 => (intro w hS; (iterate 14 (try obtain ⟨_, hS⟩ := hS)); go_simp; try with_reducible rfl)
  try simp only [Act.put, List.setIfInBounds_toArray, List.set_cons_zero, List.set_cons_succ]
  refine wpAnyH_take (i := 6) (oi := ⟨some 109, _, _, _, _, _⟩) (v := ?_) rfl (by kernel_rfl) (by kernel_rfl) (by kernel_rfl) (fun _ _ _ h => h) (Or.inl ⟨rfl, ?_⟩) hHeld ?_
  case refine_2 => (intro w hS; (iterate 14 (try obtain ⟨_, hS⟩ := hS)); go_simp; try with_reducible rfl)
  try simp only [Act.put, List.setIfInBounds_toArray, List.set_cons_zero, List.set_cons_succ]
  refine wpAnyH_take (i := 7) (oi := ⟨some 110, _, _, _, _, _⟩) (v := ?_) rfl (by kernel_rfl) (by kernel_rfl) (by kernel_rfl) (fun _ _ _ h => h) (Or.inl ⟨rfl, ?_⟩) hHeld ?_
  case refine_2 => (intro w hS; (iterate 14 (try obtain ⟨_, hS⟩ := hS)); go_simp; try with_reducible rfl)
  try simp only [Act.put, List.setIfInBounds_toArray, List.set_cons_zero, List.set_cons_succ]
  refine wpAnyH_take (i := 8) (oi := ⟨some 111, _, _, _, _, _⟩) (v := ?_) rfl (by kernel_rfl) (by kernel_rfl) (by kernel_rfl) (fun _ _ _ h => h) (Or.inl ⟨rfl, ?_⟩) hHeld ?_
  case refine_2 => (intro w hS; (iterate 14 (try obtain ⟨_, hS⟩ := hS)); go_simp; try with_reducible rfl)
  try simp only [Act.put, List.setIfInBounds_toArray, List.set_cons_zero, List.set_cons_succ]
  refine wpAnyH_take (i := 9) (oi := ⟨some 112, _, _, _, _, _⟩) (v := ?_) rfl (by kernel_rfl) (by kernel_rfl) (by kernel_rfl) (fun _ _ _ h => h) (Or.inl ⟨rfl, ?_⟩) hHeld ?_
  case refine_2 => (intro w hS; (iterate 14 (try obtain ⟨_, hS⟩ := hS)); go_simp; try with_reducible rfl)
  try simp only [Act.put, List.setIfInBounds_toArray, List.set_cons_zero, List.set_cons_succ]
  refine wpAnyH_take (i := 10) (oi := ⟨some 113, _, _, _, _, _⟩) (v := ?_) rfl (by kernel_rfl) (by kernel_rfl) (by kernel_rfl) (fun _ _ _ h => h) (Or.inl ⟨rfl, ?_⟩) hHeld ?_
  case refine_2 => (intro w hS; (iterate 14 (try obtain ⟨_, hS⟩ := hS)); go_simp; try with_reducible rfl)
  try simp only [Act.put, List.setIfInBounds_toArray, List.set_cons_zero, List.set_cons_succ]
  refine wpAnyH_take (i := 11) (oi := ⟨some 114, _, _, _, _, _⟩) (v := ?_) rfl (by kernel_rfl) (by kernel_rfl) (by kernel_rfl) (fun _ _ _ h => h) (Or.inl ⟨rfl, ?_⟩) hHeld ?_
  case refine_2 => (intro w hS; (iterate 14 (try obtain ⟨_, hS⟩ := hS)); go_simp; try with_reducible rfl)
  try simp only [Act.put, List.setIfInBounds_toArray, List.set_cons_zero, List.set_cons_succ]
  refine wpAnyH_take (i := 12) (oi := ⟨some 115, _, _, _, _, _⟩) (v := ?_) rfl (by kernel_rfl) (by kernel_rfl) (by kernel_rfl) (fun _ _ _ h => h) (Or.inl ⟨rfl, ?_⟩) hHeld ?_
  case refine_2 => (intro w hS; (iterate 14 (try obtain ⟨_, hS⟩ := hS)); go_simp; try with_reducible rfl)
  try simp only [Act.put, List.setIfInBounds_toArray, List.set_cons_zero, List.set_cons_succ]
  refine wpAnyH_take (i := 13) (oi := ⟨some 116, _, _, _, _, _⟩) (v := ?_) rfl (by kernel_rfl) (by kernel_rfl) (by kernel_rfl) (fun _ _ _ h => h) (Or.inl ⟨rfl, ?_⟩) hHeld ?_
  case refine_2 => (intro w hS; (iterate 14 (try obtain ⟨_, hS⟩ := hS)); go_simp; try with_reducible rfl)
  try simp only [Act.put, List.setIfInBounds_toArray, List.set_cons_zero, List.set_cons_succ]
  refine wpAnyH_take (i := 14) (oi := ⟨some 117, _, _, _, _, _⟩) (v := ?_) rfl (by kernel_rfl) (by kernel_rfl) (by kernel_rfl) (fun _ _ _ h => h) (Or.inl ⟨rfl, ?_⟩) hHeld ?_
  case refine_2 => (intro w hS; (iterate 14 (try obtain ⟨_, hS⟩ := hS)); go_simp; try with_reducible rfl)
  try simp only [Act.put, List.setIfInBounds_toArray, List.set_cons_zero, List.set_cons_succ]
  refine wpAnyH_take (i := 15) (oi := ⟨some 118, _, _, _, _, _⟩) (v := ?_) rfl (by kernel_rfl) (by kernel_rfl) (by kernel_rfl) (fun _ _ _ h => h) (Or.inl ⟨rfl, ?_⟩) hHeld ?_
  case refine_2 => (intro w hS; (iterate 14 (try obtain ⟨_, hS⟩ := hS)); go_simp; try with_reducible rfl)
  try simp only [Act.put, List.setIfInBounds_toArray, List.set_cons_zero, List.set_cons_succ]
  refine wpAnyH_take (i := 16) (oi := ⟨some 119, _, _, _, _, _⟩) (v := ?_) rfl (by kernel_rfl) (by kernel_rfl) (by kernel_rfl) (fun _ _ _ h => h) (Or.inl ⟨rfl, ?_⟩) hHeld ?_
  case refine_2 => (intro w hS; (iterate 14 (try obtain ⟨_, hS⟩ := hS)); go_simp; try with_reducible rfl)
  try simp only [Act.put, List.setIfInBounds_toArray, List.set_cons_zero, List.set_cons_succ]
  refine wpAnyH_ready (rs := [17]) (by kernel_rfl) (by simp) ?_
  refine AllReadyH.cons (o := _) rfl (fun K hK => ?_) AllReadyH.nil
  go_simp
  have hEn := en_award (shAt p) (shAt q) I'.out.en
  have hSm := (I'.out.sm.put_far 31 (.int .i64 (shAt p)) hne13.symm).put_far 32 (.int .i64 (shAt q)) hne13.symm
  have hOut := (I'.out.out.put_far 31 (.int .i64 (shAt p)) hne23.symm).put_far 32 (.int .i64 (shAt q)) hne23.symm
  have hBl := (I'.out.below.setCell (p := ⟨g3, 31, none⟩) hg3 (.int .i64 (shAt p))).setCell (p := ⟨g3, 32, none⟩) hg3 (.int .i64 (shAt q))
  have hS2 : ∀ j v, W1.cell? ⟨gt, j, none⟩ = some v → ((W1.setCell ⟨g3, 31, none⟩ (.int .i64 (shAt p))).setCell ⟨g3, 32, none⟩ (.int .i64 (shAt q))).cell? ⟨gt, j, none⟩ = some v := fun j v h => by
    rw [World.cell?_setCell_other _ _ _ _ (by simp only [ne_eq, Addr.mk.injEq]; omega), World.cell?_setCell_other _ _ _ _ (by simp only [ne_eq, Addr.mk.injEq]; omega)]
    exact h
  refine hK.out _ _ ⟨sm_cell hSm 2 (by omega), hS2 _ _ s1, hS2 _ _ s2⟩ (fun _ => ?_)
  clear hK K
  refine wpAnyH_done (by kernel_rfl) ?_ _
  rw [← hE.out] at hEn
  obtain ⟨W2, e2⟩ : ∃ W2, W2 = ((W1.setCell ⟨g3, 31, none⟩ (.int .i64 (shAt p))).setCell ⟨g3, 32, none⟩ (.int .i64 (shAt q))).drew := ⟨_, rfl⟩
  rw [← e2]
  have hEn : RowAt W2 g3 (enV (madeE B)) := by rw [e2]; exact hEn
  have hOut : RowAt W2 g2 (enV zE) := by rw [e2]; exact hOut
  have hBl : Below w.heap.size w W2 := by rw [e2]; exact hBl.drew
  clear e2 hHeld c2 s1 s2 d0 d1 f0 f1 I' hSm hS2 hE
  have hra := hEn.range
  have hth := hOut.there (c' := enV (madeE B)) (by rw [enV_size, enV_size])
  have hsz := en_sz (madeE B)
  have hsi := en_si (madeE B)
  have h1c := enV_one (madeE B)
  have hOs := hOut.stored (c' := enV (madeE B)) (by rw [enV_size, enV_size])
  go_wp2_with (first
    | (refine wpList_load_mid (by rfl) 29 (.tmp 3) (by rfl) g3 0 (by rfl) (enV (madeE B)).toList _ hra Tryd.underlying29 rfl hsz ?_; simp only [Array.toArray_toList])
    | (refine wpList_store_mid (by rfl) 29 (.tmp 2) (.tmp 120) (by rfl) g2 0 (enV (madeE B)) (by rfl) (by rfl) hth hsi h1c ?_))
  exact bodyPost_ret (results_en rfl rfl hOs) rfl ⟨rfl, row_below _ hg2 _ _ _ hBl⟩
end Go.Proofs.YtojgjpegfkfnjaaDoor
