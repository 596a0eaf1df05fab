/- finesseref18: Par. -/
import Derived.Test.YtfacmkelbjfffaaRParE
namespace Go.Proofs.Ytfacmkelbjfffaa
open Go.RowKit
set_option linter.unusedVariables false
set_option linter.unusedSimpArgs false
set_option maxRecDepth 100000

set_option maxHeartbeats 4000000 in
theorem rPar_wrong (T : Nat → Int) (u d : Int) (w : World) (h : rightT T = false ∨ 3 < u ∨ 3 < d) : Calls Try.prog 31 #[.agg (tabV T), .int .i64 u, .int .i64 d] w fun e w' =>
    e = .returned (.tuple #[noneV, .int .i64 0, .int .i64 2]) ∧ Below w.heap.size w w' := by
  have HR := Sec.mk fun w' => rBids_wrong T u d w' h
  have hsz : (Try.prog.info? 63).map (·.size) = some (tabV T).toList.length := by kernel_rfl
  have hra := fun o => rtab_hra2 w T 63 o
  obtain ⟨W, g, g6, eW, eg, eg6, hTW, hS, hB⟩ := rfin_start w T 63 30 (.int .u8 0) (.int .u8 0) (.int .u8 0) (.int .u8 0) (.int .i64 0) (.int .i64 0)
  have hg6 : w.heap.size ≤ g6 := by omega
  replace eW := Sec.mk eW
  replace eg := Sec.mk eg
  replace eg6 := Sec.mk eg6
  unfold noneV
  clear h
  go_enter Try.func31, Try.ntmps31
  go_wp2_with (refine wpList_load_mid (by rfl) 63 (.tmp 3) (by rfl) w.heap.size 0 (by rfl) (tabV T).toList _ (hra _) Try.underlying63 rfl hsz ?_; simp only [Array.toArray_toList])
  rw [← eW.out, ← eg6.out, ← eg.out]
  clear eW eg eg6 hra
  refine (HR.out _).mono ?_
  rintro e w1 ⟨rfl, hb1⟩
  have hB1 := sbtr hB hb1
  have hS1 := hS.later hb1
  obtain ⟨x0, o0, f0⟩ := hS1 0 (by omega)
  obtain ⟨x1, o1, f1⟩ := hS1 1 (by omega)
  obtain ⟨x2, o2, f2⟩ := hS1 2 (by omega)
  obtain ⟨x3, o3, f3⟩ := hS1 3 (by omega)
  obtain ⟨x4, o4, f4⟩ := hS1 4 (by omega)
  obtain ⟨x5, o5, f5⟩ := hS1 5 (by omega)
  clear hS1 hTW hb1 hB HR hS
  go_wp2_with fail
  exact bodyPost_ret (v := .tuple #[.agg #[.int .u8 0, .int .u8 0, .int .u8 0, .int .u8 0, .int .i64 0, .int .i64 0], .int .i64 0, .int .i64 2]) (by simp [results, Try.results31, go_sem, o0, o1, o2, o3, o4, o5]) rfl ⟨rfl, (((((hB1.setCell (p := ⟨g6, 0, none⟩) hg6 _).setCell (p := ⟨g6, 1, none⟩) hg6 _).setCell (p := ⟨g6, 2, none⟩) hg6 _).setCell (p := ⟨g6, 3, none⟩) hg6 _).setCell (p := ⟨g6, 4, none⟩) hg6 _).setCell (p := ⟨g6, 5, none⟩) hg6 _⟩
theorem bytes_of_own2 {w : World} {base : Nat} {e : TypeId} {v : Value} {l : List Nat} (h : w.ownsRow base e 1 v l.length (byteV l)) :
    ∃ A c, v = .slice A l.length c ∧ ∀ (i x : Nat), l[i]? = some x → ∃ b, A = some ⟨b, 0, none⟩ ∧ base ≤ b ∧ w.cell? ⟨b, i, none⟩ = some (.int .u8 (x : Int)) := by
  rcases h.2 with ⟨rfl, h0⟩ | ⟨g, cap, cur, hv, hb, _⟩
  · rw [h0]
    exact ⟨none, 0, rfl, fun i p hp => by
      have : l = [] := List.eq_nil_of_length_eq_zero h0
      subst this; simp at hp⟩
  · refine ⟨_, _, hv, fun i p hp => ⟨g, rfl, hb, ?_⟩⟩
    have hc := h.cells (g := g) (by rw [hv]; rfl) i (.int .u8 (p : Int)) (by unfold byteV; rw [List.getElem?_map, hp]; rfl)
    have e0 : (⟨g, 0, none⟩ : Addr).add i = ⟨g, i, none⟩ := by simp only [Addr.add]; split <;> simp_all
    rwa [e0] at hc
theorem six_far {W : World} {g b k : Nat} {v v0 v1 v2 v3 v4 v5 : Value} (hne : b ≠ g) (h : W.cell? ⟨b, k, none⟩ = some v) :
    ((((((W.setCell ⟨g, 0, none⟩ v0).setCell ⟨g, 1, none⟩ v1).setCell ⟨g, 2, none⟩ v2).setCell ⟨g, 3, none⟩ v3).setCell ⟨g, 4, none⟩ v4).setCell ⟨g, 5, none⟩ v5).cell? ⟨b, k, none⟩ = some v := by
  have hx : ∀ o, (⟨g, o, none⟩ : Addr) ≠ ⟨b, k, none⟩ := fun o => by simp only [ne_eq, Addr.mk.injEq]; omega
  rw [World.cell?_setCell_other _ _ _ _ (hx 5), World.cell?_setCell_other _ _ _ _ (hx 4), World.cell?_setCell_other _ _ _ _ (hx 3), World.cell?_setCell_other _ _ _ _ (hx 2), World.cell?_setCell_other _ _ _ _ (hx 1), World.cell?_setCell_other _ _ _ _ (hx 0)]
  exact h
theorem lastS_le (F : Nat → Nat → Int) (s : Nat) : lastS F s ≤ 1 := by unfold lastS; omega
set_option maxHeartbeats 4000000 in
theorem rPar_ok (T : Nat → Int) (u : Int) (d : Nat) (w : World) (hT : rightT T = true) (hu : 0 ≤ u ∧ u ≤ 3) (hd : d ≤ 3) : Calls Try.prog 31 #[.agg (tabV T), .int .i64 u, .int .i64 d] w fun e w' =>
    e = .returned (.tuple #[parV T u (d % 2), .int .i64 (parZ T u (d % 2)), .int .i64 0]) ∧ Below w.heap.size w w' := by
  have HBi := Sec.mk fun w' => rBids_ok T u d w' hT hu hd
  have HLen := Sec.mk (bidsF_len (finalZ T u) (d % 2))
  have HMem := Sec.mk (bidsF_mem (finalZ T u) (d % 2))
  have HFin := Sec.mk fun w' b s' h1 h2 => rFinal_ok T u b s' w' hT hu h1 h2
  have hsz : (Try.prog.info? 63).map (·.size) = some (tabV T).toList.length := by kernel_rfl
  have hra := fun o => rtab_hra2 w T 63 o
  obtain ⟨W, g, g6, eW, eg, eg6, hTW, hS, hB⟩ := rfin_start w T 63 30 (.int .u8 0) (.int .u8 0) (.int .u8 0) (.int .u8 0) (.int .i64 0) (.int .i64 0)
  have hg6 : w.heap.size ≤ g6 := by omega
  have hgg : g ≠ g6 := by omega
  replace eW := Sec.mk eW
  replace eg := Sec.mk eg
  replace eg6 := Sec.mk eg6
  unfold parV parZ
  generalize d % 2 = s at *
  by_cases hnil : bidsF (finalZ T u) s = []
  · rw [if_pos hnil, if_pos hnil]
    rw [hnil] at HBi
    unfold noneV
    clear HLen HMem HFin hnil
    go_enter Try.func31, Try.ntmps31
    go_wp2_with (refine wpList_load_mid (by rfl) 63 (.tmp 3) (by rfl) w.heap.size 0 (by rfl) (tabV T).toList _ (hra _) Try.underlying63 rfl hsz ?_; simp only [Array.toArray_toList])
    rw [← eW.out, ← eg6.out, ← eg.out]
    clear eW eg eg6 hra
    refine (HBi.out _).mono ?_
    rintro e w1 ⟨⟨v, sd, rfl, hown, hlast⟩, hb1⟩
    have hB1 := sbtr hB hb1
    have hS1 := hS.later hb1
    have hT1 := hTW.later hb1
    obtain ⟨A, c, rfl, hcells⟩ := bytes_of_own hown
    clear hown HBi hb1 hTW hB hS
    obtain ⟨x0, o0, f0⟩ := hS1 0 (by omega)
    obtain ⟨x1, o1, f1⟩ := hS1 1 (by omega)
    obtain ⟨x2, o2, f2⟩ := hS1 2 (by omega)
    obtain ⟨x3, o3, f3⟩ := hS1 3 (by omega)
    obtain ⟨x4, o4, f4⟩ := hS1 4 (by omega)
    obtain ⟨x5, o5, f5⟩ := hS1 5 (by omega)
    clear hS1 hT1 hcells hlast
    simp only [List.length_nil]
    go_wp2_with fail
    exact bodyPost_ret (v := .tuple #[.agg #[.int .u8 0, .int .u8 0, .int .u8 0, .int .u8 0, .int .i64 0, .int .i64 0], .int .i64 0, .int .i64 0]) (by simp [results, Try.results31, go_sem, o0, o1, o2, o3, o4, o5]) rfl ⟨rfl, (((((hB1.setCell (p := ⟨g6, 0, none⟩) hg6 _).setCell (p := ⟨g6, 1, none⟩) hg6 _).setCell (p := ⟨g6, 2, none⟩) hg6 _).setCell (p := ⟨g6, 3, none⟩) hg6 _).setCell (p := ⟨g6, 4, none⟩) hg6 _).setCell (p := ⟨g6, 5, none⟩) hg6 _⟩
  · rw [if_neg hnil, if_neg hnil]
    obtain ⟨m, hm⟩ : ∃ m, (bidsF (finalZ T u) s).length = m + 1 := ⟨(bidsF (finalZ T u) s).length - 1, by have := List.length_pos_iff.2 hnil; omega⟩
    have hlb : (bidsF (finalZ T u) s)[m]? = some (lastB (finalZ T u) s) := by
      unfold lastB
      rw [List.getLastD_eq_getLast?, List.getLast?_eq_getElem?, hm, Nat.add_sub_cancel, List.getElem?_eq_getElem (by omega)]
      rfl
    have hxb := HMem.out _ (List.mem_of_getElem? hlb)
    have hm35 : m ≤ 34 := by have := HLen.out; omega
    have hq1 := lastS_le (finalZ T u) s
    have HF5 := Sec.mk fun w' => HFin.out w' (lastB (finalZ T u) s) (lastS (finalZ T u) s) hxb hq1
    rw [hm] at HBi
    clear HMem HLen HFin
    generalize lastB (finalZ T u) s = x at *
    generalize lastS (finalZ T u) s = q at *
    generalize bidsF (finalZ T u) s = L at *
    unfold outV at HF5 ⊢
    generalize riskZ T x q = z1 at *
    generalize bestS T (den x) q = z2 at *
    generalize bestN T (den x) q = z3 at *
    generalize lev x = z4 at *
    generalize den x = z5 at *
    generalize finalZ T u x q = z6 at *
    have x0 : (0 : Int) ≤ (x : Int) := by omega
    have x1 : (x : Int) ≤ 37 := by omega
    replace hm := Sec.mk hm
    go_enter Try.func31, Try.ntmps31
    go_wp2_with (refine wpList_load_mid (by rfl) 63 (.tmp 3) (by rfl) w.heap.size 0 (by rfl) (tabV T).toList _ (hra _) Try.underlying63 rfl hsz ?_; simp only [Array.toArray_toList])
    rw [← eW.out, ← eg6.out, ← eg.out]
    clear eW eg eg6 hra
    refine (HBi.out _).mono ?_
    rintro e w1 ⟨⟨v, sd, rfl, hown, hlast⟩, hb1⟩
    have hB1 := sbtr hB hb1
    have hS1 := hS.later hb1
    have hT1 := hTW.later hb1
    rw [← hm.out] at hown
    obtain ⟨A, c, rfl, hcells⟩ := bytes_of_own2 hown
    obtain ⟨y0, hy0⟩ := hS 0 (by omega)
    have hg6l := World.block_lt_of_cell? _ _ hy0.1
    clear hown HBi hb1 hTW hB hS hy0
    rw [hm.out]
    obtain ⟨bl, rfl, hblb, hx⟩ := hcells m _ hlb
    have hbl : bl ≠ g6 := Nat.ne_of_gt (Nat.lt_of_lt_of_le hg6l hblb)
    have hsd := hlast hnil
    subst hsd
    have hT1' := Sec.mk hT1
    have hS1' := Sec.mk hS1
    have hxs := Sec.mk hx
    have hra1 := hT1.range
    clear hT1 hS1 hxb hcells hlb hm hlast hnil
    go_upto_region 4 with fail
    have i0 : (0 : Int) ≤ (m : Int) := by omega
    have i1 : (m : Int) < (m : Int) + 1 := by omega
    have i2 : (m : Int) + 1 - 1 = (m : Int) := by omega
    have i4 : IntKind.i64.wrap (x : Int) = (x : Int) := IntWalk.i64_in _ ⟨by omega, by omega⟩
    have i3 : IntKind.i64.wrap (m : Int) = (m : Int) := IntWalk.i64_in _ ⟨by omega, by omega⟩
    refine wp_region_held_drew (S := fun w' => w'.rangeAt g 0 (tabV T).toList ∧ w'.cell? ⟨bl, m, none⟩ = some (.int .u8 (x : Int))) (by kernel_rfl) ⟨hra1, hx⟩ (fun hHeld => ?_)
    refine wpAnyH_take (i := 0) (oi := ⟨some 29, _, _, _, _, _⟩) (v := _) rfl (by kernel_rfl) (by kernel_rfl) (by kernel_rfl) (fun _ _ _ h => h) (yieldsIf_load_mid (by rfl) 63 _ rfl g 0 rfl (tabV T).toList _ ?hS Try.underlying63 rfl hsz) hHeld ?rst
    case hS => exact fun w h => h.1
    simp only [Act.put, List.setIfInBounds_toArray, List.set_cons_zero, List.set_cons_succ, Array.toArray_toList]
    refine wpAnyH_take (i := 1) (oi := ⟨some 30, _, _, _, _, _⟩) (v := ?_) rfl (by kernel_rfl) (by kernel_rfl) (by kernel_rfl) (fun _ _ _ h => h) (Or.inl ⟨rfl, ?_⟩) hHeld ?_
    case refine_2 => (intro w hS; (try obtain ⟨_, hS⟩ := hS); (try obtain ⟨_, hS⟩ := hS); (try obtain ⟨_, hS⟩ := hS); go_simp; try with_reducible rfl)
    try simp only [Act.put, List.setIfInBounds_toArray, List.set_cons_zero, List.set_cons_succ]
    refine wpAnyH_take (i := 2) (oi := ⟨some 31, _, _, _, _, _⟩) (v := ?_) rfl (by kernel_rfl) (by kernel_rfl) (by kernel_rfl) (fun _ _ _ h => h) (Or.inl ⟨rfl, ?_⟩) hHeld ?_
    case refine_2 => (intro w hS; (try obtain ⟨_, hS⟩ := hS); (try obtain ⟨_, hS⟩ := hS); (try obtain ⟨_, hS⟩ := hS); go_simp; try with_reducible rfl)
    try simp only [Act.put, List.setIfInBounds_toArray, List.set_cons_zero, List.set_cons_succ]
    refine wpAnyH_take (i := 3) (oi := ⟨some 32, _, _, _, _, _⟩) (v := ?_) rfl (by kernel_rfl) (by kernel_rfl) (by kernel_rfl) (fun _ _ _ h => h) (Or.inl ⟨rfl, ?_⟩) hHeld ?_
    case refine_2 => (intro w hS; (try obtain ⟨_, hS⟩ := hS); (try obtain ⟨_, hS⟩ := hS); (try obtain ⟨_, hS⟩ := hS); go_simp; try with_reducible rfl)
    try simp only [Act.put, List.setIfInBounds_toArray, List.set_cons_zero, List.set_cons_succ]
    refine wpAnyH_take (i := 4) (oi := ⟨some 33, _, _, _, _, _⟩) (v := ?_) rfl (by kernel_rfl) (by kernel_rfl) (by kernel_rfl) (fun _ _ _ h => h) (Or.inl ⟨rfl, ?_⟩) hHeld ?_
    case refine_2 => (intro w hS; (try obtain ⟨_, hS⟩ := hS); (try obtain ⟨_, hS⟩ := hS); (try obtain ⟨_, hS⟩ := hS); go_simp; try with_reducible rfl)
    try simp only [Act.put, List.setIfInBounds_toArray, List.set_cons_zero, List.set_cons_succ]
    refine wpAnyH_take (i := 5) (oi := ⟨some 34, _, _, _, _, _⟩) (v := ?_) rfl (by kernel_rfl) (by kernel_rfl) (by kernel_rfl) (fun _ _ _ h => h) (Or.inl ⟨rfl, ?_⟩) hHeld ?_
    case refine_2 => (intro w hS; (try obtain ⟨_, hS⟩ := hS); (try obtain ⟨_, hS⟩ := hS); (try obtain ⟨_, hS⟩ := hS); go_simp; try with_reducible rfl)
    try simp only [Act.put, List.setIfInBounds_toArray, List.set_cons_zero, List.set_cons_succ]
    refine wpAnyH_take (i := 6) (oi := ⟨some 35, _, _, _, _, _⟩) (v := ?_) rfl (by kernel_rfl) (by kernel_rfl) (by kernel_rfl) (fun _ _ _ h => h) (Or.inl ⟨rfl, ?_⟩) hHeld ?_
    case refine_2 => (intro w hS; (try obtain ⟨_, hS⟩ := hS); (try obtain ⟨_, hS⟩ := hS); (try obtain ⟨_, hS⟩ := hS); go_simp; try with_reducible rfl)
    try simp only [Act.put, List.setIfInBounds_toArray, List.set_cons_zero, List.set_cons_succ]
    refine wpAnyH_take (i := 7) (oi := ⟨some 36, _, _, _, _, _⟩) (v := ?_) rfl (by kernel_rfl) (by kernel_rfl) (by kernel_rfl) (fun _ _ _ h => h) (Or.inl ⟨rfl, ?_⟩) hHeld ?_
    case refine_2 => (intro w hS; (try obtain ⟨_, hS⟩ := hS); (try obtain ⟨_, hS⟩ := hS); (try obtain ⟨_, hS⟩ := hS); go_simp; try with_reducible rfl)
    try simp only [Act.put, List.setIfInBounds_toArray, List.set_cons_zero, List.set_cons_succ]
    refine wpAnyH_take (i := 8) (oi := ⟨some 37, _, _, _, _, _⟩) (v := ?_) rfl (by kernel_rfl) (by kernel_rfl) (by kernel_rfl) (fun _ _ _ h => h) (Or.inl ⟨rfl, ?_⟩) hHeld ?_
    case refine_2 => (intro w hS; (try obtain ⟨_, hS⟩ := hS); (try obtain ⟨_, hS⟩ := hS); (try obtain ⟨_, hS⟩ := hS); go_simp; try with_reducible rfl)
    try simp only [Act.put, List.setIfInBounds_toArray, List.set_cons_zero, List.set_cons_succ]
    refine wpAnyH_take (i := 9) (oi := ⟨some 38, _, _, _, _, _⟩) (v := ?_) rfl (by kernel_rfl) (by kernel_rfl) (by kernel_rfl) (fun _ _ _ h => h) (Or.inl ⟨rfl, ?_⟩) hHeld ?_
    case refine_2 => (intro w hS; (try obtain ⟨_, hS⟩ := hS); (try obtain ⟨_, hS⟩ := hS); (try obtain ⟨_, hS⟩ := hS); go_simp; try with_reducible rfl)
    try simp only [Act.put, List.setIfInBounds_toArray, List.set_cons_zero, List.set_cons_succ]
    refine wpAnyH_ready (rs := [10]) (by kernel_rfl) (by simp) ?_
    refine AllReadyH.cons (o := _) rfl (fun K hK => ?_) AllReadyH.nil
    go_simp
    with_reducible refine (HF5.out _).mono ?_
    rintro e w2 ⟨rfl, hb2⟩
    have hbx : Below w1.heap.size w1 w2 := sbtr (Below.refl _ _).drew hb2
    have hx2 := sc_later hbx hxs.out
    have hra2 := (hT1'.out.later hbx).range
    refine hK.out _ _ ⟨hra2, hx2⟩ (fun hHeld2 => ?_)
    clear hK K hHeld
    refine wpAnyH_take (i := 11) (oi := ⟨some 40, _, _, _, _, _⟩) (v := ?_) rfl (by kernel_rfl) (by kernel_rfl) (by kernel_rfl) (fun _ _ _ h => h) (Or.inl ⟨rfl, ?_⟩) hHeld2 ?_
    case refine_2 => (intro w hS; (try obtain ⟨_, hS⟩ := hS); (try obtain ⟨_, hS⟩ := hS); (try obtain ⟨_, hS⟩ := hS); go_simp; try with_reducible rfl)
    try simp only [Act.put, List.setIfInBounds_toArray, List.set_cons_zero, List.set_cons_succ]
    refine wpAnyH_take (i := 12) (oi := ⟨some 41, _, _, _, _, _⟩) (v := ?_) rfl (by kernel_rfl) (by kernel_rfl) (by kernel_rfl) (fun _ _ _ h => h) (Or.inl ⟨rfl, ?_⟩) hHeld2 ?_
    case refine_2 => (intro w hS; (try obtain ⟨_, hS⟩ := hS); (try obtain ⟨_, hS⟩ := hS); (try obtain ⟨_, hS⟩ := hS); go_simp; try with_reducible rfl)
    try simp only [Act.put, List.setIfInBounds_toArray, List.set_cons_zero, List.set_cons_succ]
    refine wpAnyH_take (i := 13) (oi := ⟨some 42, _, _, _, _, _⟩) (v := ?_) rfl (by kernel_rfl) (by kernel_rfl) (by kernel_rfl) (fun _ _ _ h => h) (Or.inl ⟨rfl, ?_⟩) hHeld2 ?_
    case refine_2 => (intro w hS; (try obtain ⟨_, hS⟩ := hS); (try obtain ⟨_, hS⟩ := hS); (try obtain ⟨_, hS⟩ := hS); go_simp; try with_reducible rfl)
    try simp only [Act.put, List.setIfInBounds_toArray, List.set_cons_zero, List.set_cons_succ]
    have hS2 := hS1'.out.later hbx
    have hB2 := sbtr hB1 hbx
    obtain ⟨y0, b0, p0⟩ := hS2 0 (by omega)
    obtain ⟨y1, b1, p1⟩ := hS2 1 (by omega)
    obtain ⟨y2, b2, p2⟩ := hS2 2 (by omega)
    obtain ⟨y3, b3, p3⟩ := hS2 3 (by omega)
    obtain ⟨y4, b4, p4⟩ := hS2 4 (by omega)
    obtain ⟨y5, b5, p5⟩ := hS2 5 (by omega)
    clear hHeld2 hra2 hS1' hS2 hB1 hra1 hx
    refine wpAnyH_ready (rs := [14]) (by kernel_rfl) (by simp) ?_
    refine AllReadyH.cons (o := _) rfl (fun K hK => ?_) AllReadyH.nil
    go_simp
    obtain ⟨W7, e7, z0, z1', z2', z3', z4', z5', hfar, hbelow⟩ := six_set (v0 := .int .u8 z4) (v1 := .int .u8 z5) (v2 := .int .u8 z1) (v3 := .int .u8 z2) (v4 := .int .i64 z3) (v5 := .int .i64 0) ⟨b0, p0⟩ ⟨b1, p1⟩ ⟨b2, p2⟩ ⟨b3, p3⟩ ⟨b4, p4⟩ ⟨b5, p5⟩
    have hB7 := hbelow _ _ hg6 hB2
    have hx7 := six_far (v0 := .int .u8 z4) (v1 := .int .u8 z5) (v2 := .int .u8 z1) (v3 := .int .u8 z2) (v4 := .int .i64 z3) (v5 := .int .i64 0) hbl hx2
    rw [← e7] at hx7
    have hra7 : W7.rangeAt g 0 (tabV T).toList := TabAt.range (fun k hk => hfar _ _ _ hgg (hT1'.out.later hbx k hk))
    rw [← e7]
    clear e7 hfar hbelow
    refine hK.out _ _ ⟨hra7, hx7⟩ (fun hHeld4 => ?_)
    clear hK K hra7 hx7
    refine wpAnyH_take (i := 15) (oi := ⟨some 7, _, _, _, _, _⟩) (v := ?_) rfl (by kernel_rfl) (by kernel_rfl) (by kernel_rfl) (fun _ _ _ h => h) (Or.inl ⟨rfl, ?_⟩) hHeld4 ?_
    case refine_2 => (intro w hS; (try obtain ⟨_, hS⟩ := hS); (try obtain ⟨_, hS⟩ := hS); (try obtain ⟨_, hS⟩ := hS); go_simp; try with_reducible rfl)
    try simp only [Act.put, List.setIfInBounds_toArray, List.set_cons_zero, List.set_cons_succ]
    refine wpAnyH_take (i := 16) (oi := ⟨some 8, _, _, _, _, _⟩) (v := ?_) rfl (by kernel_rfl) (by kernel_rfl) (by kernel_rfl) (fun _ _ _ h => h) (Or.inl ⟨rfl, ?_⟩) hHeld4 ?_
    case refine_2 => (intro w hS; (try obtain ⟨_, hS⟩ := hS); (try obtain ⟨_, hS⟩ := hS); (try obtain ⟨_, hS⟩ := hS); go_simp; try with_reducible rfl)
    try simp only [Act.put, List.setIfInBounds_toArray, List.set_cons_zero, List.set_cons_succ]
    refine wpAnyH_done (by kernel_rfl) ?_ _
    clear hHeld4 b0 b1 b2 b3 b4 b5 p0 p1 p2 p3 p4 p5 hT1' hbx hx2 hxs HF5
    obtain ⟨z0, -⟩ := z0
    obtain ⟨z1', -⟩ := z1'
    obtain ⟨z2', -⟩ := z2'
    obtain ⟨z3', -⟩ := z3'
    obtain ⟨z4', -⟩ := z4'
    obtain ⟨z5', -⟩ := z5'
    go_wp2_with fail
    exact bodyPost_ret (v := .tuple #[.agg #[.int .u8 z4, .int .u8 z5, .int .u8 z1, .int .u8 z2, .int .i64 z3, .int .i64 0], .int .i64 z6, .int .i64 0]) (by simp [results, Try.results31, go_sem, z0, z1', z2', z3', z4', z5']) rfl ⟨rfl, hB7⟩
end Go.Proofs.Ytfacmkelbjfffaa
