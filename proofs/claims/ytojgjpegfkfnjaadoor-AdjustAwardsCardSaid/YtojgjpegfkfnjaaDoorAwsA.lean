/- AdjustAwards: the walk. -/
import Derived.Test.YtojgjpegfkfnjaaDoorAwkB
import Derived.Test.YtojgjpegfkfnjaaDoorMadeF
namespace Go.Proofs.YtojgjpegfkfnjaaDoor
open Go.RowKit
set_option linter.unusedVariables false
set_option linter.unusedSimpArgs false
set_option maxRecDepth 100000

theorem aw_both (p : Int) (n : Nat) : shareQ p n + shareQ (100 - p) n = ((2 * ((n : Int) - 1) : Int) : Rat) := by
  rw [shareQ_quot, shareQ_quot, qd_add]
  have e : p * (2 * ((n : Int) - 1)) + (100 - p) * (2 * ((n : Int) - 1)) = 100 * (2 * ((n : Int) - 1)) := by rw [← Int.add_mul]; congr 1; omega
  rw [e, qd_int _ _ (by decide)]
theorem aw_half (n : Nat) : shareQ 50 n = (((n : Int) - 1 : Int) : Rat) := by
  rw [shareQ_quot, show (50 : Int) * (2 * ((n : Int) - 1)) = 100 * ((n : Int) - 1) by omega, qd_int _ _ (by decide)]
theorem aw_top (p : Int) (n : Nat) (hp : 0 ≤ p ∧ p ≤ 100) (hn : 1 ≤ n) : ordQ (shareQ p n) ((2 * ((n : Int) - 1) : Int) : Rat) ≤ 0 := by
  have e : ((2 * ((n : Int) - 1) : Int) : Rat) = ((100 * (2 * ((n : Int) - 1)) : Int) : Rat) / ((100 : Int) : Rat) := (qd_int _ _ (by decide)).symm
  rw [shareQ_quot, e, qd_ord 100 (by decide)]
  have h : p * (2 * ((n : Int) - 1)) ≤ 100 * (2 * ((n : Int) - 1)) := Int.mul_le_mul_of_nonneg_right hp.2 (by omega)
  generalize p * (2 * ((n : Int) - 1)) = x at *
  generalize 100 * (2 * ((n : Int) - 1)) = y at *
  unfold ord3
  split
  · omega
  · split <;> omega
theorem aw_num (p : Int) (n : Nat) (hp : 0 ≤ p ∧ p ≤ 100) (hn : 1 ≤ n) : 0 ≤ (shareQ p n).num := by
  have h0 : ordQ (shareQ p n) (((0 : Int) : Rat) / ((100 : Int) : Rat)) = ord3 (p * (2 * ((n : Int) - 1))) 0 := by rw [shareQ_quot, qd_ord 100 (by decide)]
  have h1 : ((0 : Int) : Rat) / ((100 : Int) : Rat) = 0 := by decide +kernel
  rw [h1, ordQ_cross] at h0
  have h2 : 0 ≤ p * (2 * ((n : Int) - 1)) := Int.mul_nonneg hp.1 (by omega)
  have h3 : ((0 : Rat).den : Int) = 1 := rfl
  have h4 : (0 : Rat).num = 0 := rfl
  rw [h3, h4, Int.mul_one, Int.zero_mul] at h0
  generalize p * (2 * ((n : Int) - 1)) = x at *
  generalize (shareQ p n).num = y at *
  unfold ord3 at h0
  split at h0
  · split at h0
    · omega
    · split at h0 <;> omega
  · omega
theorem aw_r (p : Int) (h1 : shareB p = true) (h2 : shareB (100 - p) = true) : rightE (mkE 4 zO zO p (100 - p)) = true := by
  unfold rightE
  rw [show kindB (mkE 4 zO zO p (100 - p)) = true from rfl, show (mkE 4 zO zO p (100 - p)).k = 4 from rfl, show (mkE 4 zO zO p (100 - p)).f = 0 from rfl, show (mkE 4 zO zO p (100 - p)).a = p from rfl, show (mkE 4 zO zO p (100 - p)).b = 100 - p from rfl, h1, h2]
  rfl
theorem aw_call (p : Int) (n : Nat) (h1 : shareB p = true) (h2 : shareB (100 - p) = true) (hn : 1 ≤ n ∧ n ≤ 24) (w : World) (hSh : Shares w) : Calls Tryd.prog 14 #[.agg (enV (mkE 4 zO zO p (100 - p))), .int .i64 n] w fun x w' => x = .returned (.tuple #[frV (shareQ p n), frV (shareQ (100 - p) n), .int .i64 0]) ∧ Below w.heap.size w w' := by
  have hb := shareB_bd h1
  exact Award_right (mkE 4 zO zO p (100 - p)) n w (mkE_ok (by omega) zO_ok zO_ok (by unfold I64; omega) (by unfold I64; omega)) hSh (aw_r p h1 h2) hn rfl
def pL : List Int := [0, 30, 40, 50]
def awB (x : Int) (k : Nat) : Int := if k = 0 then 4 else if k = 2 then x else 0
theorem awB_small {x : Int} (hx : 0 ≤ x ∧ x ≤ 255) : Small22 (awB x) := fun k _ => by unfold awB; split; omega; split <;> omega
theorem shAt_share (x : Int) : shareB (shAt (x % 7)) = true := by
  have h : x % 7 = 0 ∨ x % 7 = 1 ∨ x % 7 = 2 ∨ x % 7 = 3 ∨ x % 7 = 4 ∨ x % 7 = 5 ∨ x % 7 = 6 := by omega
  rcases h with h | h | h | h | h | h | h <;> rw [h] <;> rfl
theorem awE_eq (x : Int) : madeE (awB x) = mkE 4 zO zO (shAt (x % 7)) (shAt (x / 7 % 7)) := rfl
theorem awE_r (x : Int) : rightE (madeE (awB x)) = true := by
  rw [awE_eq]
  unfold rightE
  rw [show kindB (mkE 4 zO zO (shAt (x % 7)) (shAt (x / 7 % 7))) = true from rfl, show (mkE 4 zO zO (shAt (x % 7)) (shAt (x / 7 % 7))).k = 4 from rfl, show (mkE 4 zO zO (shAt (x % 7)) (shAt (x / 7 % 7))).f = 0 from rfl, show (mkE 4 zO zO (shAt (x % 7)) (shAt (x / 7 % 7))).a = shAt (x % 7) from rfl, show (mkE 4 zO zO (shAt (x % 7)) (shAt (x / 7 % 7))).b = shAt (x / 7 % 7) from rfl, shAt_share, shAt_share]
  rfl
theorem awE_ok (x : Int) : (madeE (awB x)).ok := by
  rw [awE_eq]
  have h1 := shareB_bd (shAt_share x)
  have h2 := shareB_bd (shAt_share (x / 7))
  exact mkE_ok (by omega) zO_ok zO_ok (by unfold I64; omega) (by unfold I64; omega)
def Pls (W : World) (g : Nat) : Prop := ∀ j p, pL[j]? = some p → W.cell? ⟨g, j, none⟩ = some (.int .i64 p)
theorem pl_new (w : World) (t : TypeId) : ∃ W g, W = w.alloc (.cells #[.int .i64 0, .int .i64 30, .int .i64 40, .int .i64 50] t) ∧ g = w.heap.size ∧ Pls W g ∧ Below w.heap.size w W := by
  refine ⟨_, _, rfl, rfl, fun j p hj => ?_, sst1 _ _⟩
  match j, hj with
  | 0, h => cases h; go_simp
  | 1, h => cases h; go_simp
  | 2, h => cases h; go_simp
  | 3, h => cases h; go_simp
theorem Pls.later {W W' : World} {g : Nat} (h : Pls W g) (hb : Below W.heap.size W W') : Pls W' g := fun j p hj => sc_later hb (h j p hj)
theorem pl_at (k : Nat) (h : k < 4) : ∃ p, pL[k]? = some p ∧ shareB p = true ∧ shareB (100 - p) = true ∧ 0 ≤ p ∧ p ≤ 50 := by
  match k, h with
  | 0, _ => exact ⟨0, rfl, rfl, rfl, by omega, by omega⟩
  | 1, _ => exact ⟨30, rfl, rfl, rfl, by omega, by omega⟩
  | 2, _ => exact ⟨40, rfl, rfl, rfl, by omega, by omega⟩
  | 3, _ => exact ⟨50, rfl, rfl, rfl, by omega, by omega⟩
def AwRel (w : World) (g7 g8 gl : Nat) (qa qb : Rat) (i : Value) (wr : World) : Prop := ∃ k : Nat, k ≤ 4 ∧ i = .int .i64 k ∧ Pls wr gl ∧ Pair wr g7 (.int .i64 qa.num) (.int .i64 qa.den) ∧ Pair wr g8 (.int .i64 qb.num) (.int .i64 qb.den) ∧ AwI w wr
set_option maxHeartbeats 8000000 in
theorem AdjustAwards_any (aw all : Int) (w : World) (ha : 0 ≤ aw ∧ aw ≤ 255) (hl : 0 ≤ all ∧ all ≤ 255) (hSh : Shares w) : Calls Tryd.prog 8 #[.int .u8 aw, .int .u8 all] w fun e w' => e = .returned (.bool true) ∧ Below w.heap.size w w' := by
  obtain ⟨N, hN, hN1, hN2⟩ : ∃ N : Nat, 1 + all % 24 = (N : Int) ∧ 1 ≤ N ∧ N ≤ 24 := ⟨(1 + all % 24).toNat, by omega, by omega, by omega⟩
  have HM := Sec.mk fun w' => Made_award (awB aw) w' (awB_small ha) rfl
  have hsa := Sec.mk (shareB_bd (shAt_share aw))
  have hsb := Sec.mk (shareB_bd (shAt_share (aw / 7)))
  have HA0 := Sec.mk fun w' (h : Shares w') => Award_right (madeE (awB aw)) N w' (awE_ok aw) h (awE_r aw) ⟨hN1, hN2⟩ rfl
  have HA := Sec.mk fun p h1 h2 w' (h : Shares w') => aw_call p N h1 h2 ⟨hN1, hN2⟩ w' h
  have HQ := Sec.mk q22_any
  have HAw := Sec.mk awake_true22
  have hqa : Sec (0 ≤ (shareQ (madeE (awB aw)).a N).num ∧ ordQ (shareQ (madeE (awB aw)).a N) ((2 * ((N : Int) - 1) : Int) : Rat) ≤ 0 ∧ fits (shareQ (madeE (awB aw)).a N)) := ⟨aw_num _ N hsa.out hN1, aw_top _ N hsa.out hN1, shareQ_fits _ N hsa.out ⟨hN1, hN2⟩⟩
  have hqb : Sec (0 ≤ (shareQ (madeE (awB aw)).b N).num ∧ ordQ (shareQ (madeE (awB aw)).b N) ((2 * ((N : Int) - 1) : Int) : Rat) ≤ 0 ∧ fits (shareQ (madeE (awB aw)).b N)) := ⟨aw_num _ N hsb.out hN1, aw_top _ N hsb.out hN1, shareQ_fits _ N hsb.out ⟨hN1, hN2⟩⟩
  generalize shareQ (madeE (awB aw)).a N = qa at *
  generalize shareQ (madeE (awB aw)).b N = qb at *
  have HSum : Sec (∀ p, (0 ≤ p ∧ p ≤ 100) → ∀ w', Calls Tryd.prog 27 #[.agg #[.int .i64 (shareQ p N).num, .int .i64 (shareQ p N).den], .agg #[.int .i64 (shareQ (100 - p) N).num, .int .i64 (shareQ (100 - p) N).den]] w' fun e w'' => e = .returned (.tuple #[.agg #[.int .i64 (2 * ((N : Int) - 1)), .int .i64 1], .int .i64 0]) ∧ Below w'.heap.size w' w'') := ⟨fun p hp w' => by
    have h := Add_eq (shareQ p N) (shareQ (100 - p) N) _ w' (shareQ_fits p N hp ⟨hN1, hN2⟩) (shareQ_fits (100 - p) N (by omega) ⟨hN1, hN2⟩) (fits_int (2 * ((N : Int) - 1)) (by omega)) (aw_both p N)
    rw [Rat.num_intCast, Rat.den_intCast] at h
    exact h⟩
  have HCa : Sec (∀ w', Calls Tryd.prog 25 #[.agg #[.int .i64 qa.num, .int .i64 qa.den], .agg #[.int .i64 (2 * ((N : Int) - 1)), .int .i64 1]] w' fun e w'' => e = .returned (.tuple #[.int .i64 (ordQ qa ((2 * ((N : Int) - 1) : Int) : Rat)), .int .i64 0]) ∧ Below w'.heap.size w' w'') := ⟨fun w' => Cmp_int qa _ w' hqa.out.2.2 (by omega)⟩
  have HCb : Sec (∀ w', Calls Tryd.prog 25 #[.agg #[.int .i64 qb.num, .int .i64 qb.den], .agg #[.int .i64 (2 * ((N : Int) - 1)), .int .i64 1]] w' fun e w'' => e = .returned (.tuple #[.int .i64 (ordQ qb ((2 * ((N : Int) - 1) : Int) : Rat)), .int .i64 0]) ∧ Below w'.heap.size w' w'') := ⟨fun w' => Cmp_int qb _ w' hqb.out.2.2 (by omega)⟩
  have hob := ordQ_bd qa ((2 * ((N : Int) - 1) : Int) : Rat)
  have hob2 := ordQ_bd qb ((2 * ((N : Int) - 1) : Int) : Rat)
  have hqa1 := hqa.out.1
  have hqa2 := hqa.out.2.1
  have hqb1 := hqb.out.1
  have hqb2 := hqb.out.2.1
  generalize ordQ qa ((2 * ((N : Int) - 1) : Int) : Rat) = oa at *
  generalize ordQ qb ((2 * ((N : Int) - 1) : Int) : Rat) = ob at *
  have hNi1 : (1 : Int) ≤ (N : Int) := by omega
  have hNi2 : (N : Int) ≤ 24 := by omega
  have I0 := Sec.mk hSh
  have h50 : Sec ((shareQ 50 N).num = (N : Int) - 1 ∧ ((shareQ 50 N).den : Int) = 1) := ⟨by rw [aw_half, Rat.num_intCast, Rat.den_intCast]; exact ⟨rfl, rfl⟩⟩
  clear hSh hsa hsb hqa hqb
  have hw0 : IntKind.i64.wrap 0 = 0 := by decide
  have hwN : IntKind.i64.wrap ((N : Int) - 1) = (N : Int) - 1 := IntWalk.i64_in _ (by omega)
  go_enter Tryd.func8, Tryd.ntmps8
  go_wp2_with (refine wpList_build (by rfl) 59 _ (by rfl) #[(0, .int .u8 4), (2, .int .u8 aw)] (by rfl) (smV (awB aw)) (by kernel_rfl) ?_; simp only [Act.put])
  refine ((show ∀ y, y = smV (awB aw) → Calls Tryd.prog 22 #[.agg y] w fun x w' => x = .returned (.agg (enV (madeE (awB aw)))) ∧ Below w.heap.size w w' from fun y hy => by subst hy; exact HM.out _) _ (by kernel_rfl)).mono ?_
  rintro x w1 ⟨rfl, hb1⟩
  go_wp2_with fail
  refine (HA0.out _ (I0.out.later hb1)).mono ?_
  rintro x w2 ⟨rfl, hb2⟩
  go_upto_region 4 with fail
  obtain ⟨W3, g7, g8, eW, eg, eh, Q7, Q8, hb3⟩ := two_pairs w2 (.int .i64 qa.num) (.int .i64 qa.den) (.int .i64 qb.num) (.int .i64 qb.den) 40
  rw [← eW, ← eh, ← eg]
  have hb13 := sbtr (sbtr hb1 hb2) hb3
  have I3 : AwI w W3 := ⟨I0.out.later hb13, hb13⟩
  clear eW eg eh hb1 hb2 hb3 hb13 HM HA0 I0
  go_upto_region 5 with fail
  obtain ⟨W4, gl, e4, el, hL, hb⟩ := pl_new W3 3
  rw [← e4, ← el]
  replace Q7 := Q7.later hb
  replace Q8 := Q8.later hb
  replace I3 := I3.later hb
  clear e4 el hb
  go_loopw [39] (fun i wr => AwRel w g7 g8 gl qa qb i wr) (fun i _ => 4 - (intOf i).toNat)
  case atStart => exact ⟨0, by omega, rfl, hL, Q7, Q8, I3⟩
  case round =>
    clear hL Q7 Q8 I3
    obtain ⟨k, hk, rfl, hL, Q7, Q8, I⟩ := hrel
    by_cases hk4 : k < 4
    · obtain ⟨p, hp, hs1, hs2, hp0, hp1⟩ := pl_at k hk4
      have hc := hL k p hp
      have k0 : (0 : Int) ≤ (k : Int) := by omega
      have k4 : (k : Int) < 4 := by omega
      have HAp := Sec.mk fun w' (h : Shares w') => HA.out p hs1 hs2 w' h
      have HSp := Sec.mk fun w' => HSum.out p ⟨hp0, by omega⟩ w'
      clear HA HSum hs1 hs2 hp
      go_upto_region 7 with fail
      go_wp2_with (refine wpList_build (by rfl) 29 _ (by rfl) #[(4, .int .u8 4), (8, .agg #[.int .i64 p, .int .i64 (100 - p)])] (by rfl) (enV (mkE 4 zO zO p (100 - p))) (by kernel_rfl) ?_; simp only [Act.put])
      refine (HAp.out _ I.sh).mono ?_
      rintro x w5 ⟨rfl, hb⟩
      replace Q7 := Q7.later hb
      replace Q8 := Q8.later hb
      replace hL := hL.later hb
      replace I := I.later hb
      clear hb hc HAp
      go_upto_region 8 with fail
      obtain ⟨W6, g12, g13, eW, eg, eh, Q12, Q13, hb⟩ := two_pairs w5 (.int .i64 (shareQ p N).num) (.int .i64 (shareQ p N).den) (.int .i64 (shareQ (100 - p) N).num) (.int .i64 (shareQ (100 - p) N).den) 40
      rw [← eW, ← eh, ← eg]
      replace Q7 := Q7.later hb
      replace Q8 := Q8.later hb
      replace hL := hL.later hb
      replace I := I.later hb
      clear hb eW eg eh
      obtain ⟨c0, c1, -, -⟩ := Sec.mk Q12 |>.out
      obtain ⟨d0, d1, -, -⟩ := Sec.mk Q13 |>.out
      go_wp2_with fail
      refine (HSp.out _).mono ?_
      rintro x w7 ⟨rfl, hb⟩
      replace Q7 := Q7.later hb
      replace Q8 := Q8.later hb
      replace Q12 := Q12.later hb
      replace hL := hL.later hb
      replace I := I.later hb
      clear hb HSp c0 c1 d0 d1 Q13
      go_upto_region 9 with fail
      obtain ⟨W8, g15, eW, eg, Q15, hb⟩ : ∃ W g, W = w7.alloc (.cells #[.int .i64 (2 * ((N : Int) - 1)), .int .i64 1] 40) ∧ g = w7.heap.size ∧ Pair W g (.int .i64 (2 * ((N : Int) - 1))) (.int .i64 1) ∧ Below w7.heap.size w7 W := ⟨_, _, rfl, rfl, Pair.new _ _ _ _, sst1 _ _⟩
      rw [← eW, ← eg]
      replace Q7 := Q7.later hb
      replace Q8 := Q8.later hb
      replace Q12 := Q12.later hb
      replace hL := hL.later hb
      replace I := I.later hb
      clear eW eg hb
      have HS := Sec.mk (show (∀ w', Below W8.heap.size W8 w' → w'.cell? ⟨g12, 0, none⟩ = some (.int .i64 (shareQ p N).num) ∧ w'.cell? ⟨g12, 1, none⟩ = some (.int .i64 (shareQ p N).den) ∧ w'.cell? ⟨g15, 0, none⟩ = some (.int .i64 (2 * ((N : Int) - 1))) ∧ w'.cell? ⟨g15, 1, none⟩ = some (.int .i64 1)) from fun w' h => ⟨(Q12.later h).c0, (Q12.later h).c1, (Q15.later h).c0, (Q15.later h).c1⟩)
      replace hL := Sec.mk hL
      replace Q7 := Sec.mk Q7
      replace Q8 := Sec.mk Q8
      replace I := Sec.mk I
      have hbx : Below W8.heap.size W8 W8.drew := (Below.refl _ _).drew
      clear Q12 Q15
      by_cases h5 : p = 50
      · subst h5
        have HS : Sec (∀ w', Below W8.heap.size W8 w' → w'.cell? ⟨g12, 0, none⟩ = some (.int .i64 ((N : Int) - 1)) ∧ w'.cell? ⟨g12, 1, none⟩ = some (.int .i64 1) ∧ w'.cell? ⟨g15, 0, none⟩ = some (.int .i64 (2 * ((N : Int) - 1))) ∧ w'.cell? ⟨g15, 1, none⟩ = some (.int .i64 1)) := ⟨fun w' h => by have x := HS.out w' h; rw [h50.out.1, h50.out.2] at x; exact x⟩
        refine wp_region_held_drew (S := fun w' => w'.cell? ⟨g12, 0, none⟩ = some (.int .i64 ((N : Int) - 1)) ∧ w'.cell? ⟨g12, 1, none⟩ = some (.int .i64 1) ∧ w'.cell? ⟨g15, 0, none⟩ = some (.int .i64 (2 * ((N : Int) - 1))) ∧ w'.cell? ⟨g15, 1, none⟩ = some (.int .i64 1)) (by kernel_rfl) (HS.out _ hbx) (fun hHeld0 => ?_)
        refine wpAnyH_take (i := 0) (oi := ⟨some 60, _, _, _, _, _⟩) (v := ?_) rfl (by kernel_rfl) (by kernel_rfl) (by kernel_rfl) (fun _ _ _ h => h) (Or.inl ⟨rfl, ?_⟩) hHeld0 ?_
        case refine_2 => (intro w hS; (iterate 14 (try obtain ⟨_, hS⟩ := hS)); go_simp; try with_reducible rfl)
        try simp only [Act.put, List.setIfInBounds_toArray, List.set_cons_zero, List.set_cons_succ]
        refine wpAnyH_take (i := 1) (oi := ⟨some 61, _, _, _, _, _⟩) (v := ?_) rfl (by kernel_rfl) (by kernel_rfl) (by kernel_rfl) (fun _ _ _ h => h) (Or.inl ⟨rfl, ?_⟩) hHeld0 ?_
        case refine_2 => (intro w hS; (iterate 14 (try obtain ⟨_, hS⟩ := hS)); go_simp; try with_reducible rfl)
        try simp only [Act.put, List.setIfInBounds_toArray, List.set_cons_zero, List.set_cons_succ]
        refine wpAnyH_take (i := 2) (oi := ⟨some 62, _, _, _, _, _⟩) (v := ?_) rfl (by kernel_rfl) (by kernel_rfl) (by kernel_rfl) (fun _ _ _ h => h) (Or.inl ⟨rfl, ?_⟩) hHeld0 ?_
        case refine_2 => (intro w hS; (iterate 14 (try obtain ⟨_, hS⟩ := hS)); go_simp; try with_reducible rfl)
        try simp only [Act.put, List.setIfInBounds_toArray, List.set_cons_zero, List.set_cons_succ]
        refine wpAnyH_take (i := 3) (oi := ⟨some 63, _, _, _, _, _⟩) (v := ?_) rfl (by kernel_rfl) (by kernel_rfl) (by kernel_rfl) (fun _ _ _ h => h) (Or.inl ⟨rfl, ?_⟩) hHeld0 ?_
        case refine_2 => (intro w hS; (iterate 14 (try obtain ⟨_, hS⟩ := hS)); go_simp; try with_reducible rfl)
        try simp only [Act.put, List.setIfInBounds_toArray, List.set_cons_zero, List.set_cons_succ]
        refine wpAnyH_take (i := 4) (oi := ⟨some 64, _, _, _, _, _⟩) (v := ?_) rfl (by kernel_rfl) (by kernel_rfl) (by kernel_rfl) (fun _ _ _ h => h) (Or.inl ⟨rfl, ?_⟩) hHeld0 ?_
        case refine_2 => (intro w hS; (iterate 14 (try obtain ⟨_, hS⟩ := hS)); go_simp; try with_reducible rfl)
        try simp only [Act.put, List.setIfInBounds_toArray, List.set_cons_zero, List.set_cons_succ]
        refine wpAnyH_take (i := 5) (oi := ⟨some 65, _, _, _, _, _⟩) (v := ?_) rfl (by kernel_rfl) (by kernel_rfl) (by kernel_rfl) (fun _ _ _ h => h) (Or.inl ⟨rfl, ?_⟩) hHeld0 ?_
        case refine_2 => (intro w hS; (iterate 14 (try obtain ⟨_, hS⟩ := hS)); go_simp; try with_reducible rfl)
        try simp only [Act.put, List.setIfInBounds_toArray, List.set_cons_zero, List.set_cons_succ]
        refine wpAnyH_take (i := 6) (oi := ⟨some 66, _, _, _, _, _⟩) (v := ?_) rfl (by kernel_rfl) (by kernel_rfl) (by kernel_rfl) (fun _ _ _ h => h) (Or.inl ⟨rfl, ?_⟩) hHeld0 ?_
        case refine_2 => (intro w hS; (iterate 14 (try obtain ⟨_, hS⟩ := hS)); go_simp; try with_reducible rfl)
        try simp only [Act.put, List.setIfInBounds_toArray, List.set_cons_zero, List.set_cons_succ]
        refine wpAnyH_ready (rs := [7]) (by kernel_rfl) (by simp) ?_
        refine AllReadyH.cons (o := _) rfl (fun K hK => ?_) AllReadyH.nil
        go_simp
        with_reducible refine (HQ.out _ _ _).mono ?_
        rintro e y0 ⟨rfl, hb⟩
        have hbx0 := sbtr hbx hb
        refine hK.out _ _ (HS.out _ hbx0) (fun hHeld1 => ?_)
        clear hK K hb
        clear hHeld0
        refine wpAnyH_take (i := 8) (oi := ⟨some 68, _, _, _, _, _⟩) (v := ?_) rfl (by kernel_rfl) (by kernel_rfl) (by kernel_rfl) (fun _ _ _ h => h) (Or.inl ⟨rfl, ?_⟩) hHeld1 ?_
        case refine_2 => (intro w hS; (iterate 14 (try obtain ⟨_, hS⟩ := hS)); go_simp; try with_reducible rfl)
        try simp only [Act.put, List.setIfInBounds_toArray, List.set_cons_zero, List.set_cons_succ]
        refine wpAnyH_take (i := 9) (oi := ⟨some 69, _, _, _, _, _⟩) (v := ?_) rfl (by kernel_rfl) (by kernel_rfl) (by kernel_rfl) (fun _ _ _ h => h) (Or.inl ⟨rfl, ?_⟩) hHeld1 ?_
        case refine_2 => (intro w hS; (iterate 14 (try obtain ⟨_, hS⟩ := hS)); go_simp; try with_reducible rfl)
        try simp only [Act.put, List.setIfInBounds_toArray, List.set_cons_zero, List.set_cons_succ]
        refine wpAnyH_take (i := 10) (oi := ⟨some 70, _, _, _, _, _⟩) (v := ?_) rfl (by kernel_rfl) (by kernel_rfl) (by kernel_rfl) (fun _ _ _ h => h) (Or.inl ⟨rfl, ?_⟩) hHeld1 ?_
        case refine_2 => (intro w hS; (iterate 14 (try obtain ⟨_, hS⟩ := hS)); go_simp; try with_reducible rfl)
        try simp only [Act.put, List.setIfInBounds_toArray, List.set_cons_zero, List.set_cons_succ]
        refine wpAnyH_take (i := 11) (oi := ⟨some 71, _, _, _, _, _⟩) (v := ?_) rfl (by kernel_rfl) (by kernel_rfl) (by kernel_rfl) (fun _ _ _ h => h) (Or.inl ⟨rfl, ?_⟩) hHeld1 ?_
        case refine_2 => (intro w hS; (iterate 14 (try obtain ⟨_, hS⟩ := hS)); go_simp; try with_reducible rfl)
        try simp only [Act.put, List.setIfInBounds_toArray, List.set_cons_zero, List.set_cons_succ]
        refine wpAnyH_take (i := 12) (oi := ⟨some 72, _, _, _, _, _⟩) (v := ?_) rfl (by kernel_rfl) (by kernel_rfl) (by kernel_rfl) (fun _ _ _ h => h) (Or.inl ⟨rfl, ?_⟩) hHeld1 ?_
        case refine_2 => (intro w hS; (iterate 14 (try obtain ⟨_, hS⟩ := hS)); go_simp; try with_reducible rfl)
        try simp only [Act.put, List.setIfInBounds_toArray, List.set_cons_zero, List.set_cons_succ]
        refine wpAnyH_take (i := 13) (oi := ⟨some 73, _, _, _, _, _⟩) (v := ?_) rfl (by kernel_rfl) (by kernel_rfl) (by kernel_rfl) (fun _ _ _ h => h) (Or.inl ⟨rfl, ?_⟩) hHeld1 ?_
        case refine_2 => (intro w hS; (iterate 14 (try obtain ⟨_, hS⟩ := hS)); go_simp; try with_reducible rfl)
        try simp only [Act.put, List.setIfInBounds_toArray, List.set_cons_zero, List.set_cons_succ]
        refine wpAnyH_take (i := 14) (oi := ⟨some 74, _, _, _, _, _⟩) (v := ?_) rfl (by kernel_rfl) (by kernel_rfl) (by kernel_rfl) (fun _ _ _ h => h) (Or.inl ⟨rfl, ?_⟩) hHeld1 ?_
        case refine_2 => (intro w hS; (iterate 14 (try obtain ⟨_, hS⟩ := hS)); go_simp; try with_reducible rfl)
        try simp only [Act.put, List.setIfInBounds_toArray, List.set_cons_zero, List.set_cons_succ]
        refine wpAnyH_take (i := 15) (oi := ⟨some 75, _, _, _, _, _⟩) (v := ?_) rfl (by kernel_rfl) (by kernel_rfl) (by kernel_rfl) (fun _ _ _ h => h) (Or.inl ⟨rfl, ?_⟩) hHeld1 ?_
        case refine_2 => (intro w hS; (iterate 14 (try obtain ⟨_, hS⟩ := hS)); go_simp; try with_reducible rfl)
        try simp only [Act.put, List.setIfInBounds_toArray, List.set_cons_zero, List.set_cons_succ]
        refine wpAnyH_take (i := 16) (oi := ⟨some 76, _, _, _, _, _⟩) (v := ?_) rfl (by kernel_rfl) (by kernel_rfl) (by kernel_rfl) (fun _ _ _ h => h) (Or.inl ⟨rfl, ?_⟩) hHeld1 ?_
        case refine_2 => (intro w hS; (iterate 14 (try obtain ⟨_, hS⟩ := hS)); go_simp; try with_reducible rfl)
        try simp only [Act.put, List.setIfInBounds_toArray, List.set_cons_zero, List.set_cons_succ]
        refine wpAnyH_ready (rs := [17]) (by kernel_rfl) (by simp) ?_
        refine AllReadyH.cons (o := _) rfl (fun K hK => ?_) AllReadyH.nil
        go_simp
        with_reducible refine (HQ.out _ _ _).mono ?_
        rintro e y1 ⟨rfl, hb⟩
        have hbx1 := sbtr hbx0 hb
        refine hK.out _ _ (HS.out _ hbx1) (fun hHeld2 => ?_)
        clear hK K hb
        clear hHeld1
        refine wpAnyH_take (i := 18) (oi := ⟨some 78, _, _, _, _, _⟩) (v := ?_) rfl (by kernel_rfl) (by kernel_rfl) (by kernel_rfl) (fun _ _ _ h => h) (Or.inl ⟨rfl, ?_⟩) hHeld2 ?_
        case refine_2 => (intro w hS; (iterate 14 (try obtain ⟨_, hS⟩ := hS)); go_simp; try with_reducible rfl)
        try simp only [Act.put, List.setIfInBounds_toArray, List.set_cons_zero, List.set_cons_succ]
        refine wpAnyH_take (i := 19) (oi := ⟨some 79, _, _, _, _, _⟩) (v := ?_) rfl (by kernel_rfl) (by kernel_rfl) (by kernel_rfl) (fun _ _ _ h => h) (Or.inl ⟨rfl, ?_⟩) hHeld2 ?_
        case refine_2 => (intro w hS; (iterate 14 (try obtain ⟨_, hS⟩ := hS)); go_simp; try with_reducible rfl)
        try simp only [Act.put, List.setIfInBounds_toArray, List.set_cons_zero, List.set_cons_succ]
        refine wpAnyH_take (i := 20) (oi := ⟨some 80, _, _, _, _, _⟩) (v := ?_) rfl (by kernel_rfl) (by kernel_rfl) (by kernel_rfl) (fun _ _ _ h => h) (Or.inl ⟨rfl, ?_⟩) hHeld2 ?_
        case refine_2 => (intro w hS; (iterate 14 (try obtain ⟨_, hS⟩ := hS)); go_simp; try with_reducible rfl)
        try simp only [Act.put, List.setIfInBounds_toArray, List.set_cons_zero, List.set_cons_succ]
        refine wpAnyH_done (by kernel_rfl) ?_ _
        go_wp2_with fail
        exact ⟨⟨k + 1, by omega, by first | rfl | go_num, hL.out.later hbx1, Q7.out.later hbx1, Q8.out.later hbx1, I.out.later hbx1⟩, by simp only [intOf]; omega⟩
      · have h5d : (p == 50) = false := by simpa using h5
        refine wp_region_held_drew (S := fun w' => w'.cell? ⟨g12, 0, none⟩ = some (.int .i64 (shareQ p N).num) ∧ w'.cell? ⟨g12, 1, none⟩ = some (.int .i64 (shareQ p N).den) ∧ w'.cell? ⟨g15, 0, none⟩ = some (.int .i64 (2 * ((N : Int) - 1))) ∧ w'.cell? ⟨g15, 1, none⟩ = some (.int .i64 1)) (by kernel_rfl) (HS.out _ hbx) (fun hHeld0 => ?_)
        refine wpAnyH_take (i := 0) (oi := ⟨some 60, _, _, _, _, _⟩) (v := ?_) rfl (by kernel_rfl) (by kernel_rfl) (by kernel_rfl) (fun _ _ _ h => h) (Or.inl ⟨rfl, ?_⟩) hHeld0 ?_
        case refine_2 => (intro w hS; (iterate 14 (try obtain ⟨_, hS⟩ := hS)); go_simp; try with_reducible rfl)
        try simp only [Act.put, List.setIfInBounds_toArray, List.set_cons_zero, List.set_cons_succ]
        refine wpAnyH_take (i := 1) (oi := ⟨some 61, _, _, _, _, _⟩) (v := ?_) rfl (by kernel_rfl) (by kernel_rfl) (by kernel_rfl) (fun _ _ _ h => h) (Or.inl ⟨rfl, ?_⟩) hHeld0 ?_
        case refine_2 => (intro w hS; (iterate 14 (try obtain ⟨_, hS⟩ := hS)); go_simp; try with_reducible rfl)
        try simp only [Act.put, List.setIfInBounds_toArray, List.set_cons_zero, List.set_cons_succ]
        refine wpAnyH_take (i := 2) (oi := ⟨some 62, _, _, _, _, _⟩) (v := ?_) rfl (by kernel_rfl) (by kernel_rfl) (by kernel_rfl) (fun _ _ _ h => h) (Or.inl ⟨rfl, ?_⟩) hHeld0 ?_
        case refine_2 => (intro w hS; (iterate 14 (try obtain ⟨_, hS⟩ := hS)); go_simp; try with_reducible rfl)
        try simp only [Act.put, List.setIfInBounds_toArray, List.set_cons_zero, List.set_cons_succ]
        refine wpAnyH_take (i := 3) (oi := ⟨some 63, _, _, _, _, _⟩) (v := ?_) rfl (by kernel_rfl) (by kernel_rfl) (by kernel_rfl) (fun _ _ _ h => h) (Or.inl ⟨rfl, ?_⟩) hHeld0 ?_
        case refine_2 => (intro w hS; (iterate 14 (try obtain ⟨_, hS⟩ := hS)); go_simp; try with_reducible rfl)
        try simp only [Act.put, List.setIfInBounds_toArray, List.set_cons_zero, List.set_cons_succ]
        refine wpAnyH_take (i := 4) (oi := ⟨some 64, _, _, _, _, _⟩) (v := ?_) rfl (by kernel_rfl) (by kernel_rfl) (by kernel_rfl) (fun _ _ _ h => h) (Or.inl ⟨rfl, ?_⟩) hHeld0 ?_
        case refine_2 => (intro w hS; (iterate 14 (try obtain ⟨_, hS⟩ := hS)); go_simp; try with_reducible rfl)
        try simp only [Act.put, List.setIfInBounds_toArray, List.set_cons_zero, List.set_cons_succ]
        refine wpAnyH_take (i := 5) (oi := ⟨some 65, _, _, _, _, _⟩) (v := ?_) rfl (by kernel_rfl) (by kernel_rfl) (by kernel_rfl) (fun _ _ _ h => h) (Or.inl ⟨rfl, ?_⟩) hHeld0 ?_
        case refine_2 => (intro w hS; (iterate 14 (try obtain ⟨_, hS⟩ := hS)); go_simp; try with_reducible rfl)
        try simp only [Act.put, List.setIfInBounds_toArray, List.set_cons_zero, List.set_cons_succ]
        refine wpAnyH_take (i := 6) (oi := ⟨some 66, _, _, _, _, _⟩) (v := ?_) rfl (by kernel_rfl) (by kernel_rfl) (by kernel_rfl) (fun _ _ _ h => h) (Or.inl ⟨rfl, ?_⟩) hHeld0 ?_
        case refine_2 => (intro w hS; (iterate 14 (try obtain ⟨_, hS⟩ := hS)); go_simp; try with_reducible rfl)
        try simp only [Act.put, List.setIfInBounds_toArray, List.set_cons_zero, List.set_cons_succ]
        refine wpAnyH_ready (rs := [7]) (by kernel_rfl) (by simp) ?_
        refine AllReadyH.cons (o := _) rfl (fun K hK => ?_) AllReadyH.nil
        go_simp
        with_reducible refine (HQ.out _ _ _).mono ?_
        rintro e y0 ⟨rfl, hb⟩
        have hbx0 := sbtr hbx hb
        refine hK.out _ _ (HS.out _ hbx0) (fun hHeld1 => ?_)
        clear hK K hb
        clear hHeld0
        refine wpAnyH_take (i := 8) (oi := ⟨some 68, _, _, _, _, _⟩) (v := ?_) rfl (by kernel_rfl) (by kernel_rfl) (by kernel_rfl) (fun _ _ _ h => h) (Or.inl ⟨rfl, ?_⟩) hHeld1 ?_
        case refine_2 => (intro w hS; (iterate 14 (try obtain ⟨_, hS⟩ := hS)); go_simp; try with_reducible rfl)
        try simp only [Act.put, List.setIfInBounds_toArray, List.set_cons_zero, List.set_cons_succ]
        refine wpAnyH_take (i := 9) (oi := ⟨some 69, _, _, _, _, _⟩) (v := ?_) rfl (by kernel_rfl) (by kernel_rfl) (by kernel_rfl) (fun _ _ _ h => h) (Or.inl ⟨rfl, ?_⟩) hHeld1 ?_
        case refine_2 => (intro w hS; (iterate 14 (try obtain ⟨_, hS⟩ := hS)); go_simp; try with_reducible rfl)
        try simp only [Act.put, List.setIfInBounds_toArray, List.set_cons_zero, List.set_cons_succ]
        refine wpAnyH_take (i := 10) (oi := ⟨some 70, _, _, _, _, _⟩) (v := ?_) rfl (by kernel_rfl) (by kernel_rfl) (by kernel_rfl) (fun _ _ _ h => h) (Or.inl ⟨rfl, ?_⟩) hHeld1 ?_
        case refine_2 => (intro w hS; (iterate 14 (try obtain ⟨_, hS⟩ := hS)); go_simp; try with_reducible rfl)
        try simp only [Act.put, List.setIfInBounds_toArray, List.set_cons_zero, List.set_cons_succ]
        refine wpAnyH_take (i := 11) (oi := ⟨some 71, _, _, _, _, _⟩) (v := ?_) rfl (by kernel_rfl) (by kernel_rfl) (by kernel_rfl) (fun _ _ _ h => h) (Or.inl ⟨rfl, ?_⟩) hHeld1 ?_
        case refine_2 => (intro w hS; (iterate 14 (try obtain ⟨_, hS⟩ := hS)); go_simp; try with_reducible rfl)
        try simp only [Act.put, List.setIfInBounds_toArray, List.set_cons_zero, List.set_cons_succ]
        refine wpAnyH_take (i := 12) (oi := ⟨some 72, _, _, _, _, _⟩) (v := ?_) rfl (by kernel_rfl) (by kernel_rfl) (by kernel_rfl) (fun _ _ _ h => h) (Or.inl ⟨rfl, ?_⟩) hHeld1 ?_
        case refine_2 => (intro w hS; (iterate 14 (try obtain ⟨_, hS⟩ := hS)); go_simp; try with_reducible rfl)
        try simp only [Act.put, List.setIfInBounds_toArray, List.set_cons_zero, List.set_cons_succ]
        refine wpAnyH_take (i := 13) (oi := ⟨some 73, _, _, _, _, _⟩) (v := ?_) rfl (by kernel_rfl) (by kernel_rfl) (by kernel_rfl) (fun _ _ _ h => h) (Or.inl ⟨rfl, ?_⟩) hHeld1 ?_
        case refine_2 => (intro w hS; (iterate 14 (try obtain ⟨_, hS⟩ := hS)); go_simp; try with_reducible rfl)
        try simp only [Act.put, List.setIfInBounds_toArray, List.set_cons_zero, List.set_cons_succ]
        refine wpAnyH_take (i := 14) (oi := ⟨some 74, _, _, _, _, _⟩) (v := undef) rfl (by kernel_rfl) (by kernel_rfl) (by kernel_rfl) (fun _ _ _ h => h) (Or.inr ⟨rfl, rfl⟩) hHeld1 ?_
        try simp only [Act.put, List.setIfInBounds_toArray, List.set_cons_zero, List.set_cons_succ]
        refine wpAnyH_take (i := 15) (oi := ⟨some 75, _, _, _, _, _⟩) (v := undef) rfl (by kernel_rfl) (by kernel_rfl) (by kernel_rfl) (fun _ _ _ h => h) (Or.inr ⟨rfl, rfl⟩) hHeld1 ?_
        try simp only [Act.put, List.setIfInBounds_toArray, List.set_cons_zero, List.set_cons_succ]
        refine wpAnyH_take (i := 16) (oi := ⟨some 76, _, _, _, _, _⟩) (v := undef) rfl (by kernel_rfl) (by kernel_rfl) (by kernel_rfl) (fun _ _ _ h => h) (Or.inr ⟨rfl, rfl⟩) hHeld1 ?_
        try simp only [Act.put, List.setIfInBounds_toArray, List.set_cons_zero, List.set_cons_succ]
        refine wpAnyH_take (i := 17) (oi := ⟨some 77, _, _, _, _, _⟩) (v := undef) rfl (by kernel_rfl) (by kernel_rfl) (by kernel_rfl) (fun _ _ _ h => h) (Or.inr ⟨rfl, rfl⟩) hHeld1 ?_
        try simp only [Act.put, List.setIfInBounds_toArray, List.set_cons_zero, List.set_cons_succ]
        refine wpAnyH_take (i := 18) (oi := ⟨some 78, _, _, _, _, _⟩) (v := undef) rfl (by kernel_rfl) (by kernel_rfl) (by kernel_rfl) (fun _ _ _ h => h) (Or.inr ⟨rfl, rfl⟩) hHeld1 ?_
        try simp only [Act.put, List.setIfInBounds_toArray, List.set_cons_zero, List.set_cons_succ]
        refine wpAnyH_take (i := 19) (oi := ⟨some 79, _, _, _, _, _⟩) (v := ?_) rfl (by kernel_rfl) (by kernel_rfl) (by kernel_rfl) (fun _ _ _ h => h) (Or.inl ⟨rfl, ?_⟩) hHeld1 ?_
        case refine_2 => (intro w hS; (iterate 14 (try obtain ⟨_, hS⟩ := hS)); go_simp; try with_reducible rfl)
        try simp only [Act.put, List.setIfInBounds_toArray, List.set_cons_zero, List.set_cons_succ]
        refine wpAnyH_take (i := 20) (oi := ⟨some 80, _, _, _, _, _⟩) (v := ?_) rfl (by kernel_rfl) (by kernel_rfl) (by kernel_rfl) (fun _ _ _ h => h) (Or.inl ⟨rfl, ?_⟩) hHeld1 ?_
        case refine_2 => (intro w hS; (iterate 14 (try obtain ⟨_, hS⟩ := hS)); go_simp; try with_reducible rfl)
        try simp only [Act.put, List.setIfInBounds_toArray, List.set_cons_zero, List.set_cons_succ]
        refine wpAnyH_done (by kernel_rfl) ?_ _
        go_wp2_with fail
        exact ⟨⟨k + 1, by omega, by first | rfl | go_num, hL.out.later hbx0, Q7.out.later hbx0, Q8.out.later hbx0, I.out.later hbx0⟩, by simp only [intOf]; omega⟩
    · obtain rfl : k = 4 := by omega
      clear HA HSum h50 hL
      have HS := Sec.mk (show (∀ w', Below wr.heap.size wr w' → w'.cell? ⟨g7, 0, none⟩ = some (.int .i64 qa.num) ∧ w'.cell? ⟨g7, 1, none⟩ = some (.int .i64 qa.den) ∧ w'.cell? ⟨g8, 0, none⟩ = some (.int .i64 qb.num) ∧ w'.cell? ⟨g8, 1, none⟩ = some (.int .i64 qb.den)) from fun w' h => ⟨(Q7.later h).c0, (Q7.later h).c1, (Q8.later h).c0, (Q8.later h).c1⟩)
      clear Q7 Q8
      replace I := Sec.mk I
      go_upto_region 12 with fail
      have hbx : Below wr.heap.size wr wr.drew := (Below.refl _ _).drew
      refine wp_region_held_drew (S := fun w' => w'.cell? ⟨g7, 0, none⟩ = some (.int .i64 qa.num) ∧ w'.cell? ⟨g7, 1, none⟩ = some (.int .i64 qa.den) ∧ w'.cell? ⟨g8, 0, none⟩ = some (.int .i64 qb.num) ∧ w'.cell? ⟨g8, 1, none⟩ = some (.int .i64 qb.den)) (by kernel_rfl) (HS.out _ hbx) (fun hHeld0 => ?_)
      refine wpAnyH_take (i := 0) (oi := ⟨some 83, _, _, _, _, _⟩) (v := ?_) rfl (by kernel_rfl) (by kernel_rfl) (by kernel_rfl) (fun _ _ _ h => h) (Or.inl ⟨rfl, ?_⟩) hHeld0 ?_
      case refine_2 => (intro w hS; (iterate 14 (try obtain ⟨_, hS⟩ := hS)); go_simp; try with_reducible rfl)
      try simp only [Act.put, List.setIfInBounds_toArray, List.set_cons_zero, List.set_cons_succ]
      refine wpAnyH_take (i := 1) (oi := ⟨some 84, _, _, _, _, _⟩) (v := ?_) rfl (by kernel_rfl) (by kernel_rfl) (by kernel_rfl) (fun _ _ _ h => h) (Or.inl ⟨rfl, ?_⟩) hHeld0 ?_
      case refine_2 => (intro w hS; (iterate 14 (try obtain ⟨_, hS⟩ := hS)); go_simp; try with_reducible rfl)
      try simp only [Act.put, List.setIfInBounds_toArray, List.set_cons_zero, List.set_cons_succ]
      refine wpAnyH_ready (rs := [2]) (by kernel_rfl) (by simp) ?_
      refine AllReadyH.cons (o := _) rfl (fun K hK => ?_) AllReadyH.nil
      go_simp
      with_reducible refine (HQ.out _ _ _).mono ?_
      rintro e y0 ⟨rfl, hb⟩
      have hbx0 := sbtr hbx hb
      refine hK.out _ _ (HS.out _ hbx0) (fun hHeld1 => ?_)
      clear hK K hb
      clear hHeld0
      refine wpAnyH_ready (rs := [3]) (by kernel_rfl) (by simp) ?_
      refine AllReadyH.cons (o := _) rfl (fun K hK => ?_) AllReadyH.nil
      go_simp
      with_reducible refine (HCa.out _).mono ?_
      rintro e y1 ⟨rfl, hb⟩
      have hbx1 := sbtr hbx0 hb
      refine hK.out _ _ (HS.out _ hbx1) (fun hHeld2 => ?_)
      clear hK K hb
      clear hHeld1
      refine wpAnyH_take (i := 4) (oi := ⟨some 82, _, _, _, _, _⟩) (v := ?_) rfl (by kernel_rfl) (by kernel_rfl) (by kernel_rfl) (fun _ _ _ h => h) (Or.inl ⟨rfl, ?_⟩) hHeld2 ?_
      case refine_2 => (intro w hS; (iterate 14 (try obtain ⟨_, hS⟩ := hS)); go_simp; try with_reducible rfl)
      try simp only [Act.put, List.setIfInBounds_toArray, List.set_cons_zero, List.set_cons_succ]
      refine wpAnyH_take (i := 5) (oi := ⟨some 87, _, _, _, _, _⟩) (v := ?_) rfl (by kernel_rfl) (by kernel_rfl) (by kernel_rfl) (fun _ _ _ h => h) (Or.inl ⟨rfl, ?_⟩) hHeld2 ?_
      case refine_2 => (intro w hS; (iterate 14 (try obtain ⟨_, hS⟩ := hS)); go_simp; try with_reducible rfl)
      try simp only [Act.put, List.setIfInBounds_toArray, List.set_cons_zero, List.set_cons_succ]
      refine wpAnyH_take (i := 6) (oi := ⟨some 88, _, _, _, _, _⟩) (v := ?_) rfl (by kernel_rfl) (by kernel_rfl) (by kernel_rfl) (fun _ _ _ h => h) (Or.inl ⟨rfl, ?_⟩) hHeld2 ?_
      case refine_2 => (intro w hS; (iterate 14 (try obtain ⟨_, hS⟩ := hS)); go_simp; try with_reducible rfl)
      try simp only [Act.put, List.setIfInBounds_toArray, List.set_cons_zero, List.set_cons_succ]
      refine wpAnyH_take (i := 7) (oi := ⟨some 17, _, _, _, _, _⟩) (v := ?_) rfl (by kernel_rfl) (by kernel_rfl) (by kernel_rfl) (fun _ _ _ h => h) (Or.inl ⟨rfl, ?_⟩) hHeld2 ?_
      case refine_2 => (intro w hS; (iterate 14 (try obtain ⟨_, hS⟩ := hS)); go_simp; try with_reducible rfl)
      try simp only [Act.put, List.setIfInBounds_toArray, List.set_cons_zero, List.set_cons_succ]
      refine wpAnyH_take (i := 8) (oi := ⟨some 18, _, _, _, _, _⟩) (v := ?_) rfl (by kernel_rfl) (by kernel_rfl) (by kernel_rfl) (fun _ _ _ h => h) (Or.inl ⟨rfl, ?_⟩) hHeld2 ?_
      case refine_2 => (intro w hS; (iterate 14 (try obtain ⟨_, hS⟩ := hS)); go_simp; try with_reducible rfl)
      try simp only [Act.put, List.setIfInBounds_toArray, List.set_cons_zero, List.set_cons_succ]
      refine wpAnyH_done (by kernel_rfl) ?_ _
      go_upto_region 13 with fail
      refine wp_region_held_drew (S := fun w' => w'.cell? ⟨g7, 0, none⟩ = some (.int .i64 qa.num) ∧ w'.cell? ⟨g7, 1, none⟩ = some (.int .i64 qa.den) ∧ w'.cell? ⟨g8, 0, none⟩ = some (.int .i64 qb.num) ∧ w'.cell? ⟨g8, 1, none⟩ = some (.int .i64 qb.den)) (by kernel_rfl) (HS.out _ hbx1.drew) (fun hHeld3 => ?_)
      refine wpAnyH_take (i := 0) (oi := ⟨some 90, _, _, _, _, _⟩) (v := ?_) rfl (by kernel_rfl) (by kernel_rfl) (by kernel_rfl) (fun _ _ _ h => h) (Or.inl ⟨rfl, ?_⟩) hHeld3 ?_
      case refine_2 => (intro w hS; (iterate 14 (try obtain ⟨_, hS⟩ := hS)); go_simp; try with_reducible rfl)
      try simp only [Act.put, List.setIfInBounds_toArray, List.set_cons_zero, List.set_cons_succ]
      refine wpAnyH_take (i := 1) (oi := ⟨some 91, _, _, _, _, _⟩) (v := ?_) rfl (by kernel_rfl) (by kernel_rfl) (by kernel_rfl) (fun _ _ _ h => h) (Or.inl ⟨rfl, ?_⟩) hHeld3 ?_
      case refine_2 => (intro w hS; (iterate 14 (try obtain ⟨_, hS⟩ := hS)); go_simp; try with_reducible rfl)
      try simp only [Act.put, List.setIfInBounds_toArray, List.set_cons_zero, List.set_cons_succ]
      refine wpAnyH_ready (rs := [2]) (by kernel_rfl) (by simp) ?_
      refine AllReadyH.cons (o := _) rfl (fun K hK => ?_) AllReadyH.nil
      go_simp
      with_reducible refine (HQ.out _ _ _).mono ?_
      rintro e y2 ⟨rfl, hb⟩
      have hbx2 := sbtr hbx1.drew hb
      refine hK.out _ _ (HS.out _ hbx2) (fun hHeld4 => ?_)
      clear hK K hb
      clear hHeld3
      refine wpAnyH_ready (rs := [3]) (by kernel_rfl) (by simp) ?_
      refine AllReadyH.cons (o := _) rfl (fun K hK => ?_) AllReadyH.nil
      go_simp
      with_reducible refine (HCb.out _).mono ?_
      rintro e y3 ⟨rfl, hb⟩
      have hbx3 := sbtr hbx2 hb
      refine hK.out _ _ (HS.out _ hbx3) (fun hHeld5 => ?_)
      clear hK K hb
      clear hHeld4
      refine wpAnyH_take (i := 4) (oi := ⟨some 89, _, _, _, _, _⟩) (v := ?_) rfl (by kernel_rfl) (by kernel_rfl) (by kernel_rfl) (fun _ _ _ h => h) (Or.inl ⟨rfl, ?_⟩) hHeld5 ?_
      case refine_2 => (intro w hS; (iterate 14 (try obtain ⟨_, hS⟩ := hS)); go_simp; try with_reducible rfl)
      try simp only [Act.put, List.setIfInBounds_toArray, List.set_cons_zero, List.set_cons_succ]
      refine wpAnyH_take (i := 5) (oi := ⟨some 94, _, _, _, _, _⟩) (v := ?_) rfl (by kernel_rfl) (by kernel_rfl) (by kernel_rfl) (fun _ _ _ h => h) (Or.inl ⟨rfl, ?_⟩) hHeld5 ?_
      case refine_2 => (intro w hS; (iterate 14 (try obtain ⟨_, hS⟩ := hS)); go_simp; try with_reducible rfl)
      try simp only [Act.put, List.setIfInBounds_toArray, List.set_cons_zero, List.set_cons_succ]
      refine wpAnyH_take (i := 6) (oi := ⟨some 95, _, _, _, _, _⟩) (v := ?_) rfl (by kernel_rfl) (by kernel_rfl) (by kernel_rfl) (fun _ _ _ h => h) (Or.inl ⟨rfl, ?_⟩) hHeld5 ?_
      case refine_2 => (intro w hS; (iterate 14 (try obtain ⟨_, hS⟩ := hS)); go_simp; try with_reducible rfl)
      try simp only [Act.put, List.setIfInBounds_toArray, List.set_cons_zero, List.set_cons_succ]
      refine wpAnyH_take (i := 7) (oi := ⟨some 19, _, _, _, _, _⟩) (v := ?_) rfl (by kernel_rfl) (by kernel_rfl) (by kernel_rfl) (fun _ _ _ h => h) (Or.inl ⟨rfl, ?_⟩) hHeld5 ?_
      case refine_2 => (intro w hS; (iterate 14 (try obtain ⟨_, hS⟩ := hS)); go_simp; try with_reducible rfl)
      try simp only [Act.put, List.setIfInBounds_toArray, List.set_cons_zero, List.set_cons_succ]
      refine wpAnyH_take (i := 8) (oi := ⟨some 20, _, _, _, _, _⟩) (v := ?_) rfl (by kernel_rfl) (by kernel_rfl) (by kernel_rfl) (fun _ _ _ h => h) (Or.inl ⟨rfl, ?_⟩) hHeld5 ?_
      case refine_2 => (intro w hS; (iterate 14 (try obtain ⟨_, hS⟩ := hS)); go_simp; try with_reducible rfl)
      try simp only [Act.put, List.setIfInBounds_toArray, List.set_cons_zero, List.set_cons_succ]
      refine wpAnyH_done (by kernel_rfl) ?_ _
      obtain ⟨e0, e1, e2, e3⟩ := HS.out _ hbx3
      go_wp2_with fail
      refine (HAw.out _ (I.out.later hbx3).sh).mono ?_
      rintro e w9 ⟨rfl, hb⟩
      have hend := sbtr (I.out.later hbx3).below hb
      clear hb e0 e1 e2 e3
      go_wp2_with fail
      go_ret
      exact ⟨rfl, hend⟩
end Go.Proofs.YtojgjpegfkfnjaaDoor
