/- par: Par. -/
import Derived.Test.YtfacmkelbjfffaaParH
import Derived.Deep.RegionHeld3
namespace Go.Proofs.Ytfacmkelbjfffaa
open Go.RowKit
set_option linter.unusedVariables false
set_option linter.unusedSimpArgs false
set_option maxRecDepth 100000

/-- No outcome. -/
def noneV : Value := .agg #[.int .u8 0, .int .u8 0, .int .u8 0, .int .u8 0, .int .i64 0, .int .i64 0]
/-- The side that bids last. -/
def lastS (F : Nat → Nat → Int) (s : Nat) : Nat := ((openA F s).1 + ((bidsF F s).length - 1)) % 2
def lastB (F : Nat → Nat → Int) (s : Nat) : Nat := (bidsF F s).getLastD 0
def parV (T : Nat → Int) (u : Int) (s : Nat) : Value := if bidsF (finalZ T u) s = [] then noneV else outV T (lastB (finalZ T u) s) (lastS (finalZ T u) s)
def parZ (T : Nat → Int) (u : Int) (s : Nat) : Int := if bidsF (finalZ T u) s = [] then 0 else finalZ T u (lastB (finalZ T u) s) (lastS (finalZ T u) s)
theorem bidsL_mem (F : Nat → Nat → Int) : ∀ (n sd : Nat) (nx : Nat × Int), (nx.1 = 0 ∨ 3 ≤ nx.1 ∧ nx.1 ≤ 37) → ∀ x ∈ bidsL F n sd nx, 3 ≤ x ∧ x ≤ 37
  | 0, sd, nx, h => by unfold bidsL; simp
  | n + 1, sd, nx, h => by
    unfold bidsL
    by_cases h0 : nx.1 = 0
    · rw [if_pos h0]; simp
    · rw [if_neg h0]
      intro x hx
      rcases List.mem_cons.1 hx with rfl | hx
      · omega
      · exact bidsL_mem F n (1 - sd) _ (by have := ansZ_bd F nx.1 (1 - sd) (by omega); omega) x hx
theorem bidsF_mem (F : Nat → Nat → Int) (s : Nat) : ∀ x ∈ bidsF F s, 3 ≤ x ∧ x ≤ 37 := bidsL_mem F 38 _ _ (openA_bd F s)
theorem bidsF_len (F : Nat → Nat → Int) (s : Nat) : (bidsF F s).length ≤ 35 := by
  have := bidsL_len F 38 (openA F s).1 (openA F s).2 (openA_bd F s)
  have hb := openA_bd F s
  unfold bidsF
  split at this <;> omega
theorem openA_s (F : Nat → Nat → Int) (s : Nat) (hs : s ≤ 1) : (openA F s).1 ≤ 1 := by unfold openA; split <;> simp <;> omega

theorem six_set {W : World} {g : Nat} {v0 v1 v2 v3 v4 v5 x0 x1 x2 x3 x4 x5 : Value} (h0 : CellIs W ⟨g, 0, none⟩ x0) (h1 : CellIs W ⟨g, 1, none⟩ x1) (h2 : CellIs W ⟨g, 2, none⟩ x2) (h3 : CellIs W ⟨g, 3, none⟩ x3) (h4 : CellIs W ⟨g, 4, none⟩ x4) (h5 : CellIs W ⟨g, 5, none⟩ x5) :
    ∃ W', W' = (((((W.setCell ⟨g, 0, none⟩ v0).setCell ⟨g, 1, none⟩ v1).setCell ⟨g, 2, none⟩ v2).setCell ⟨g, 3, none⟩ v3).setCell ⟨g, 4, none⟩ v4).setCell ⟨g, 5, none⟩ v5 ∧
      CellIs W' ⟨g, 0, none⟩ v0 ∧ CellIs W' ⟨g, 1, none⟩ v1 ∧ CellIs W' ⟨g, 2, none⟩ v2 ∧ CellIs W' ⟨g, 3, none⟩ v3 ∧ CellIs W' ⟨g, 4, none⟩ v4 ∧ CellIs W' ⟨g, 5, none⟩ v5 ∧
      (∀ b k v, b ≠ g → CellIs W ⟨b, k, none⟩ v → CellIs W' ⟨b, k, none⟩ v) ∧ (∀ B w0, B ≤ g → Below B w0 W → Below B w0 W') := by
  refine ⟨_, rfl, ?_, ?_, ?_, ?_, ?_, ?_, ?_, ?_⟩
  · exact cellIs_far (cellIs_far (cellIs_far (cellIs_far (cellIs_far (cellIs_set (h0) _) _ (by simp)) _ (by simp)) _ (by simp)) _ (by simp)) _ (by simp)
  · exact cellIs_far (cellIs_far (cellIs_far (cellIs_far (cellIs_set (cellIs_far (h1) _ (by simp)) _) _ (by simp)) _ (by simp)) _ (by simp)) _ (by simp)
  · exact cellIs_far (cellIs_far (cellIs_far (cellIs_set (cellIs_far (cellIs_far (h2) _ (by simp)) _ (by simp)) _) _ (by simp)) _ (by simp)) _ (by simp)
  · exact cellIs_far (cellIs_far (cellIs_set (cellIs_far (cellIs_far (cellIs_far (h3) _ (by simp)) _ (by simp)) _ (by simp)) _) _ (by simp)) _ (by simp)
  · exact cellIs_far (cellIs_set (cellIs_far (cellIs_far (cellIs_far (cellIs_far (h4) _ (by simp)) _ (by simp)) _ (by simp)) _ (by simp)) _) _ (by simp)
  · exact cellIs_set (cellIs_far (cellIs_far (cellIs_far (cellIs_far (cellIs_far (h5) _ (by simp)) _ (by simp)) _ (by simp)) _ (by simp)) _ (by simp)) _
  · intro b k v hne h
    exact cellIs_far (cellIs_far (cellIs_far (cellIs_far (cellIs_far (cellIs_far (h) _ (by simp only [ne_eq, Addr.mk.injEq]; omega)) _ (by simp only [ne_eq, Addr.mk.injEq]; omega)) _ (by simp only [ne_eq, Addr.mk.injEq]; omega)) _ (by simp only [ne_eq, Addr.mk.injEq]; omega)) _ (by simp only [ne_eq, Addr.mk.injEq]; omega)) _ (by simp only [ne_eq, Addr.mk.injEq]; omega)
  · intro B w0 hB h
    exact ((((((h).setCell (p := ⟨g, 0, none⟩) hB _).setCell (p := ⟨g, 1, none⟩) hB _).setCell (p := ⟨g, 2, none⟩) hB _).setCell (p := ⟨g, 3, none⟩) hB _).setCell (p := ⟨g, 4, none⟩) hB _).setCell (p := ⟨g, 5, none⟩) hB _
theorem field_bid (a b : Value) (w : World) : (Instr.field 57 (.agg #[a, b]) 0).run Try.prog w = .ok a w := by
  simp [Instr.field, asAgg, part, isAgg, sizeOf, typeInfo, run_underlying Try.underlying57, run_underlying Try.underlying5, Sem.run_bind, run_program, Result.andThen, go_sem]
set_option maxHeartbeats 4000000 in
theorem Par_wrong (T : Nat → Int) (u d : Int) (w : World) (h : rightT T = false ∨ 3 < u ∨ 3 < d) : Calls Try.prog 12 #[.agg (tabV T), .int .u8 u, .int .u8 d] w fun e w' =>
    e = .returned (.tuple #[noneV, .int .i64 0, .int .i64 2]) ∧ Below w.heap.size w w' := by
  have HR := Sec.mk fun w' => Bids_wrong T u d w' h
  have hsz : (Try.prog.info? 25).map (·.size) = some (tabV T).toList.length := by kernel_rfl
  have hra := fun X => range_later (tab_hc w T) (sst1 (w.alloc (.cells (tabV T) 25)) X)
  clear h
  unfold noneV
  go_enter Try.func12, Try.ntmps12
  go_wp2_with (refine wpList_load_mid (by rfl) 25 (.tmp 3) (by rfl) w.heap.size 0 (by rfl) (tabV T).toList _ (hra _) Try.underlying25 rfl hsz ?_; simp only [Array.toArray_toList])
  obtain ⟨W, g, eW, eg, hO, hBW⟩ : ∃ W g, W = (w.alloc (.cells (tabV T) 25)).alloc (.cells #[.int .u8 0, .int .u8 0, .int .u8 0, .int .u8 0, .int .i64 0, .int .i64 0] 30) ∧ g = w.heap.size + 1 ∧ (∀ k, k < 6 → ∃ v, CellIs W ⟨g, k, none⟩ v) ∧ Below w.heap.size w W := by
    refine ⟨_, _, rfl, rfl, ?_, sbtr (sst1 _ _) (sst1 _ _)⟩
    intro k hk
    have := cellIs_row (w.alloc (.cells (tabV T) 25)) #[.int .u8 0, .int .u8 0, .int .u8 0, .int .u8 0, .int .i64 0, .int .i64 0] 30 k _ (Array.getElem?_eq_getElem (by simpa using hk))
    rw [World.size_alloc] at this
    exact ⟨_, this⟩
  have hgw : w.heap.size ≤ g := by omega
  rw [← eW, ← eg]
  clear eW eg hra
  refine (HR.out _).mono ?_
  rintro e w1 ⟨rfl, hb1⟩
  have hB := sbtr hBW hb1
  have hO1 := fun k hk => (let ⟨v, hv⟩ := hO k hk; ⟨v, cellIs_later hb1 hv⟩ : ∃ v, CellIs w1 ⟨g, k, none⟩ v)
  obtain ⟨x0, o0, f0⟩ := hO1 0 (by omega)
  obtain ⟨x1, o1, f1⟩ := hO1 1 (by omega)
  obtain ⟨x2, o2, f2⟩ := hO1 2 (by omega)
  obtain ⟨x3, o3, f3⟩ := hO1 3 (by omega)
  obtain ⟨x4, o4, f4⟩ := hO1 4 (by omega)
  obtain ⟨x5, o5, f5⟩ := hO1 5 (by omega)
  clear hO hO1 hb1 HR hBW
  go_wp2_with fail
  exact bodyPost_ret (v := .tuple #[.agg #[.int .u8 0, .int .u8 0, .int .u8 0, .int .u8 0, .int .i64 0, .int .i64 0], .int .i64 0, .int .i64 2]) (by simp [results, Try.results12, go_sem, o0, o1, o2, o3, o4, o5]) rfl ⟨rfl, (((((hB.setCell (p := ⟨g, 0, none⟩) hgw _).setCell (p := ⟨g, 1, none⟩) hgw _).setCell (p := ⟨g, 2, none⟩) hgw _).setCell (p := ⟨g, 3, none⟩) hgw _).setCell (p := ⟨g, 4, none⟩) hgw _).setCell (p := ⟨g, 5, none⟩) hgw _⟩

set_option maxHeartbeats 1000000 in
theorem Par_ok (T : Nat → Int) (u : Int) (d : Nat) (w : World) (hT : rightT T = true) (hu : 0 ≤ u ∧ u ≤ 3) (hd : d ≤ 3) : Calls Try.prog 12 #[.agg (tabV T), .int .u8 u, .int .u8 d] w fun e w' =>
    e = .returned (.tuple #[parV T u (d % 2), .int .i64 (parZ T u (d % 2)), .int .i64 0]) ∧ Below w.heap.size w w' := by
  have HBi := Sec.mk fun w' => Bids_ok T u d w' hT hu hd
  have HS := Sec.mk fun w' => solve_ok T u w' ((rightT_iff T).1 hT) hu
  have hsz : (Try.prog.info? 25).map (·.size) = some (tabV T).toList.length := by kernel_rfl
  have hra := fun X => range_later (tab_hc w T) (sst1 (w.alloc (.cells (tabV T) 25)) X)
  obtain ⟨s, hs, he, hs1⟩ : ∃ s : Nat, d % 2 = s ∧ (d : Int) % 2 = (s : Int) ∧ s ≤ 1 := ⟨d % 2, rfl, by omega, by omega⟩
  rw [hs] at HBi ⊢
  clear hs
  have hws : IntKind.u8.wrap (1 - (s : Int)) = ((1 - s : Nat) : Int) := by rw [IntWalk.u8_in _ ⟨by omega, by omega⟩]; omega
  have HF2 := Sec.mk (show secondA (finalZ T u) s = bestC (finalZ T u) 35 (1 - s) (0, 0) from rfl)
  have HF1 := Sec.mk (show firstA (finalZ T u) s = bestC (finalZ T u) 35 s (0, (secondA (finalZ T u) s).2) from rfl)
  have HOp := Sec.mk (show openA (finalZ T u) s = if (firstA (finalZ T u) s).1 = 0 then (1 - s, secondA (finalZ T u) s) else (s, firstA (finalZ T u) s) from rfl)
  have HOs := Sec.mk (openA_s (finalZ T u) s hs1)
  have HLen := Sec.mk (bidsF_len (finalZ T u) s)
  have HMem := Sec.mk (bidsF_mem (finalZ T u) s)
  have HLS : Sec (lastS (finalZ T u) s = ((openA (finalZ T u) s).1 + ((bidsF (finalZ T u) s).length - 1)) % 2) := ⟨rfl⟩
  have HLB : Sec (lastB (finalZ T u) s = (bidsF (finalZ T u) s).getLastD 0) := ⟨rfl⟩
  have HFin := Sec.mk fun w' b s' h1 h2 => final_ok T u b s' w' ((rightT_iff T).1 hT) hu h1 h2
  unfold parV parZ
  go_enter Try.func12, Try.ntmps12
  go_wp2_with (refine wpList_load_mid (by rfl) 25 (.tmp 3) (by rfl) w.heap.size 0 (by rfl) (tabV T).toList _ (hra _) Try.underlying25 rfl hsz ?_; simp only [Array.toArray_toList])
  obtain ⟨W, g, eW, eg, hO, hBW, hc⟩ : ∃ W g, W = (w.alloc (.cells (tabV T) 25)).alloc (.cells #[.int .u8 0, .int .u8 0, .int .u8 0, .int .u8 0, .int .i64 0, .int .i64 0] 30) ∧ g = w.heap.size + 1 ∧ (∀ k, k < 6 → ∃ v, CellIs W ⟨g, k, none⟩ v) ∧ Below w.heap.size w W ∧ (∀ k, k < 20 → W.cell? ⟨w.heap.size, k, none⟩ = some (.int .i64 (T k))) := by
    refine ⟨_, _, rfl, rfl, ?_, sbtr (sst1 _ _) (sst1 _ _), fun k hk => sc_later (sst1 _ _) (tab_hc w T k hk)⟩
    intro k hk
    have := cellIs_row (w.alloc (.cells (tabV T) 25)) #[.int .u8 0, .int .u8 0, .int .u8 0, .int .u8 0, .int .i64 0, .int .i64 0] 30 k _ (Array.getElem?_eq_getElem (by simpa using hk))
    rw [World.size_alloc] at this
    exact ⟨_, this⟩
  have hgw : w.heap.size ≤ g := by omega
  rw [← eW, ← eg]
  clear eW eg hra
  refine (HBi.out _).mono ?_
  rintro e w1 ⟨v, rfl, hown, hb1⟩
  have hB := sbtr hBW hb1
  have hO1 := fun k hk => (let ⟨v, hv⟩ := hO k hk; ⟨v, cellIs_later hb1 hv⟩ : ∃ v, CellIs w1 ⟨g, k, none⟩ v)
  obtain ⟨A, c, rfl, hcells⟩ := bytes_of_own hown
  have hc1 : ∀ k, k < 20 → w1.cell? ⟨w.heap.size, k, none⟩ = some (.int .i64 (T k)) := fun k hk => sc_later hb1 (hc k hk)
  clear hO hc hown HBi hb1 hBW
  by_cases hnil : bidsF (finalZ T u) s = []
  · rw [hnil]
    obtain ⟨x0, o0, f0⟩ := hO1 0 (by omega)
    obtain ⟨x1, o1, f1⟩ := hO1 1 (by omega)
    obtain ⟨x2, o2, f2⟩ := hO1 2 (by omega)
    obtain ⟨x3, o3, f3⟩ := hO1 3 (by omega)
    obtain ⟨x4, o4, f4⟩ := hO1 4 (by omega)
    obtain ⟨x5, o5, f5⟩ := hO1 5 (by omega)
    clear hO1 hc1 hcells HS HF2 HF1 HOp HOs HLen HMem HFin HLS HLB
    simp only [List.length_nil]
    go_wp2_with fail
    exact bodyPost_ret (v := .tuple #[.agg #[.int .u8 0, .int .u8 0, .int .u8 0, .int .u8 0, .int .i64 0, .int .i64 0], .int .i64 0, .int .i64 0]) (by simp [results, Try.results12, go_sem, o0, o1, o2, o3, o4, o5]) rfl ⟨by simp [noneV], (((((hB.setCell (p := ⟨g, 0, none⟩) hgw _).setCell (p := ⟨g, 1, none⟩) hgw _).setCell (p := ⟨g, 2, none⟩) hgw _).setCell (p := ⟨g, 3, none⟩) hgw _).setCell (p := ⟨g, 4, none⟩) hgw _).setCell (p := ⟨g, 5, none⟩) hgw _⟩
  · obtain ⟨m, hm⟩ : ∃ m, (bidsF (finalZ T u) s).length = m + 1 := ⟨(bidsF (finalZ T u) s).length - 1, by have := List.length_pos_iff.2 hnil; omega⟩
    have hlast : (bidsF (finalZ T u) s)[m]? = some (lastB (finalZ T u) s) := by
      unfold lastB
      rw [List.getLastD_eq_getLast?, List.getLast?_eq_getElem?, hm, Nat.add_sub_cancel, List.getElem?_eq_getElem (by omega)]
      rfl
    obtain ⟨bl, rfl, hx⟩ := hcells m _ hlast
    have hxb := HMem.out _ (List.mem_of_getElem? hlast)
    have hm35 : m ≤ 34 := by have := HLen.out; omega
    have HLS2 : Sec (lastS (finalZ T u) s = ((openA (finalZ T u) s).1 + m) % 2) := ⟨by rw [HLS.out, hm]; rfl⟩
    rw [hm]
    clear hcells hlast HMem HLen HLS HLB hm
    generalize hxe : lastB (finalZ T u) s = x at *
    have hra1 := rangeAt_tab w1 T w.heap.size hc1
    go_wp2_with (refine wpList_load_mid (by rfl) 25 (.tmp 3) (by rfl) w.heap.size 0 (by rfl) (tabV T).toList _ hra1 Try.underlying25 rfl hsz ?_; simp only [Array.toArray_toList])
    clear hra1
    refine (HS.out _).mono ?_
    rintro e w2 ⟨rfl, hI⟩
    have hb2 := hI.below
    have hAns : AnsAt w2 (w1.heap.size + 1) (finalZ T u) := fun b q h1 h2 h3 => hI.ans b q h1 h2 h3 trivial
    generalize w1.heap.size + 1 = ga at *
    clear hI HS
    generalize hFe : finalZ T u = F at *
    have C2 := first_ok F ga (1 - s) 0 w2 (by omega) hAns
    rw [← HF2.out] at C2
    generalize secondA F s = sec at *
    go_wp2_with fail
    refine C2.mono ?_
    rintro e w3 ⟨rfl, hb3⟩
    clear C2
    have hb4 := sbtr hb3 (sst1 w3 (.cells #[.int .u8 sec.1, .int .i64 sec.2] 57))
    have C1 := first_ok F ga s sec.2 _ hs1 (hAns.later hb4)
    rw [← HF1.out] at C1
    generalize firstA F s = fir at *
    have hb14 := sbtr hb2 hb4
    go_wp2_with fail
    refine C1.mono ?_
    rintro e w5 ⟨rfl, hb5⟩
    have hb15 := sbtr hb14 hb5
    have hB5 := sbtr hB hb15
    have hx5 := sc_later hb15 hx
    have hc5 : ∀ k, k < 20 → w5.cell? ⟨w.heap.size, k, none⟩ = some (.int .i64 (T k)) := fun k hk => sc_later hb15 (hc1 k hk)
    have hO5 := fun k hk => (let ⟨v, hv⟩ := hO1 k hk; ⟨v, cellIs_later hb15 hv⟩ : ∃ v, CellIs w5 ⟨g, k, none⟩ v)
    clear C1 HF1 HF2 hb14 hb15 hb2 hb3 hb4 hb5 hB hx hc1 hO1 hAns
    have hfi := field_bid
    go_upto_if 49 with fail
    go_cut [12] (fun v wx => v = .int .u8 ((openA F s).1 : Int) ∧ wx = w5)
    case first =>
      by_cases h0 : fir.1 = 0
      · have h0' : ((fir.1 : Int) == 0) = true := by simp [h0]
        go_wp2_with fail
        go_meet
        exact ⟨by rw [HOp.out, if_pos h0], rfl⟩
      · have h0' : ((fir.1 : Int) == 0) = false := by simp [h0]
        go_wp2_with fail
        go_meet
        exact ⟨by rw [HOp.out, if_neg h0], rfl⟩
    case rest =>
      obtain ⟨rfl, rfl⟩ := hcut
      have hos := HOs.out
      clear HOp HOs
      generalize (openA F s).1 = sd at *
      obtain ⟨q, hq, hq1, hqe⟩ : ∃ q : Nat, (sd + m) % 2 = q ∧ q ≤ 1 ∧ ((sd : Int) + (m : Int)) % 2 = (q : Int) := ⟨_, rfl, by omega, by omega⟩
      rw [hq] at HLS2
      have hra5 := rangeAt_tab wc T w.heap.size hc5
      have hu25 := Try.underlying25
      obtain ⟨q4, q5, q1, q2, q3, q6, hV, hZ, HF5⟩ : ∃ (a b c d e z : Int), outV T x q = .agg #[.int .u8 a, .int .u8 b, .int .u8 c, .int .u8 d, .int .i64 e, .int .i64 0] ∧ F x q = z ∧ Sec (∀ w', Calls Try.prog 24 #[.agg (tabV T), .int .u8 u, .int .u8 x, .int .u8 q] w' fun e' w'' => e' = .returned (.tuple #[.agg #[.int .u8 a, .int .u8 b, .int .u8 c, .int .u8 d, .int .i64 e, .int .i64 0], .int .i64 z]) ∧ Below w'.heap.size w' w'') :=
        ⟨_, _, _, _, _, _, rfl, rfl, ⟨fun w' => HFin.out w' x q hxb hq1⟩⟩
      replace hV := Sec.mk hV
      replace hZ := Sec.mk hZ
      clear HFin
      have hwm : IntKind.u8.wrap (m : Int) = (m : Int) := IntWalk.u8_in _ ⟨by omega, by omega⟩
      have hwsm : IntKind.u8.wrap ((sd : Int) + (m : Int)) = (sd : Int) + (m : Int) := IntWalk.u8_in _ ⟨by omega, by omega⟩
      go_upto_region 8 with fail
      go_cut [14, 15] (fun p v wx => ∃ g14 : Nat, p = .pointer (some ⟨g14, 0, none⟩) ∧ v = .int .i64 q6 ∧ CellIs wx ⟨g14, 0, none⟩ (.int .u8 q4) ∧ CellIs wx ⟨g14, 1, none⟩ (.int .u8 q5) ∧ CellIs wx ⟨g14, 2, none⟩ (.int .u8 q1) ∧ CellIs wx ⟨g14, 3, none⟩ (.int .u8 q2) ∧ CellIs wx ⟨g14, 4, none⟩ (.int .i64 q3) ∧ CellIs wx ⟨g14, 5, none⟩ (.int .i64 0) ∧ (∀ k, k < 6 → ∃ v, CellIs wx ⟨g, k, none⟩ v) ∧ Below w.heap.size w wx)
      case first =>
        have i0 : (0 : Int) ≤ (m : Int) := by omega
        have i1 : (m : Int) < (m : Int) + 1 := by omega
        have i2 : (m : Int) + 1 - 1 = (m : Int) := by omega
        have i3 : IntKind.i64.wrap (m : Int) = (m : Int) := IntWalk.i64_in _ ⟨by omega, by omega⟩
        refine wp_region_held_drew (S := fun w' => w'.rangeAt w.heap.size 0 (tabV T).toList ∧ w'.cell? ⟨bl, m, none⟩ = some (.int .u8 (x : Int))) (by kernel_rfl) ⟨hra5, hx5⟩ (fun hHeld => ?_)
        refine wpAnyH_take (i := 0) (oi := ⟨some 53, _, _, _, _, _⟩) (v := _) rfl (by kernel_rfl) (by kernel_rfl) (by kernel_rfl) (fun _ _ _ h => h) (yieldsIf_load_mid (by rfl) 25 _ rfl w.heap.size 0 rfl (tabV T).toList _ ?hS Try.underlying25 rfl hsz) hHeld ?rst
        case hS => exact fun w h => h.1
        simp only [Act.put, List.setIfInBounds_toArray, List.set_cons_zero, List.set_cons_succ, Array.toArray_toList]
        refine wpAnyH_take (i := 1) (oi := ⟨some 54, _, _, _, _, _⟩) (v := ?_) rfl (by kernel_rfl) (by kernel_rfl) (by kernel_rfl) (fun _ _ _ h => h) (Or.inl ⟨rfl, ?_⟩) hHeld ?_
        case refine_2 => (intro w hS; (try obtain ⟨_, hS⟩ := hS); (try obtain ⟨_, hS⟩ := hS); (try obtain ⟨_, hS⟩ := hS); go_simp; try with_reducible rfl)
        try simp only [Act.put, List.setIfInBounds_toArray, List.set_cons_zero, List.set_cons_succ]
        refine wpAnyH_take (i := 2) (oi := ⟨some 55, _, _, _, _, _⟩) (v := ?_) rfl (by kernel_rfl) (by kernel_rfl) (by kernel_rfl) (fun _ _ _ h => h) (Or.inl ⟨rfl, ?_⟩) hHeld ?_
        case refine_2 => (intro w hS; (try obtain ⟨_, hS⟩ := hS); (try obtain ⟨_, hS⟩ := hS); (try obtain ⟨_, hS⟩ := hS); go_simp; try with_reducible rfl)
        try simp only [Act.put, List.setIfInBounds_toArray, List.set_cons_zero, List.set_cons_succ]
        refine wpAnyH_take (i := 3) (oi := ⟨some 56, _, _, _, _, _⟩) (v := ?_) rfl (by kernel_rfl) (by kernel_rfl) (by kernel_rfl) (fun _ _ _ h => h) (Or.inl ⟨rfl, ?_⟩) hHeld ?_
        case refine_2 => (intro w hS; (try obtain ⟨_, hS⟩ := hS); (try obtain ⟨_, hS⟩ := hS); (try obtain ⟨_, hS⟩ := hS); go_simp; try with_reducible rfl)
        try simp only [Act.put, List.setIfInBounds_toArray, List.set_cons_zero, List.set_cons_succ]
        refine wpAnyH_take (i := 4) (oi := ⟨some 57, _, _, _, _, _⟩) (v := ?_) rfl (by kernel_rfl) (by kernel_rfl) (by kernel_rfl) (fun _ _ _ h => h) (Or.inl ⟨rfl, ?_⟩) hHeld ?_
        case refine_2 => (intro w hS; (try obtain ⟨_, hS⟩ := hS); (try obtain ⟨_, hS⟩ := hS); (try obtain ⟨_, hS⟩ := hS); go_simp; try with_reducible rfl)
        try simp only [Act.put, List.setIfInBounds_toArray, List.set_cons_zero, List.set_cons_succ]
        refine wpAnyH_take (i := 5) (oi := ⟨some 58, _, _, _, _, _⟩) (v := ?_) rfl (by kernel_rfl) (by kernel_rfl) (by kernel_rfl) (fun _ _ _ h => h) (Or.inl ⟨rfl, ?_⟩) hHeld ?_
        case refine_2 => (intro w hS; (try obtain ⟨_, hS⟩ := hS); (try obtain ⟨_, hS⟩ := hS); (try obtain ⟨_, hS⟩ := hS); go_simp; try with_reducible rfl)
        try simp only [Act.put, List.setIfInBounds_toArray, List.set_cons_zero, List.set_cons_succ]
        refine wpAnyH_take (i := 6) (oi := ⟨some 59, _, _, _, _, _⟩) (v := ?_) rfl (by kernel_rfl) (by kernel_rfl) (by kernel_rfl) (fun _ _ _ h => h) (Or.inl ⟨rfl, ?_⟩) hHeld ?_
        case refine_2 => (intro w hS; (try obtain ⟨_, hS⟩ := hS); (try obtain ⟨_, hS⟩ := hS); (try obtain ⟨_, hS⟩ := hS); go_simp; try with_reducible rfl)
        try simp only [Act.put, List.setIfInBounds_toArray, List.set_cons_zero, List.set_cons_succ]
        refine wpAnyH_take (i := 7) (oi := ⟨some 60, _, _, _, _, _⟩) (v := ?_) rfl (by kernel_rfl) (by kernel_rfl) (by kernel_rfl) (fun _ _ _ h => h) (Or.inl ⟨rfl, ?_⟩) hHeld ?_
        case refine_2 => (intro w hS; (try obtain ⟨_, hS⟩ := hS); (try obtain ⟨_, hS⟩ := hS); (try obtain ⟨_, hS⟩ := hS); go_simp; try with_reducible rfl)
        try simp only [Act.put, List.setIfInBounds_toArray, List.set_cons_zero, List.set_cons_succ]
        refine wpAnyH_take (i := 8) (oi := ⟨some 61, _, _, _, _, _⟩) (v := ?_) rfl (by kernel_rfl) (by kernel_rfl) (by kernel_rfl) (fun _ _ _ h => h) (Or.inl ⟨rfl, ?_⟩) hHeld ?_
        case refine_2 => (intro w hS; (try obtain ⟨_, hS⟩ := hS); (try obtain ⟨_, hS⟩ := hS); (try obtain ⟨_, hS⟩ := hS); go_simp; try with_reducible rfl)
        try simp only [Act.put, List.setIfInBounds_toArray, List.set_cons_zero, List.set_cons_succ]
        refine wpAnyH_take (i := 9) (oi := ⟨some 62, _, _, _, _, _⟩) (v := ?_) rfl (by kernel_rfl) (by kernel_rfl) (by kernel_rfl) (fun _ _ _ h => h) (Or.inl ⟨rfl, ?_⟩) hHeld ?_
        case refine_2 => (intro w hS; (try obtain ⟨_, hS⟩ := hS); (try obtain ⟨_, hS⟩ := hS); (try obtain ⟨_, hS⟩ := hS); go_simp; try with_reducible rfl)
        try simp only [Act.put, List.setIfInBounds_toArray, List.set_cons_zero, List.set_cons_succ]
        refine wpAnyH_take (i := 10) (oi := ⟨some 63, _, _, _, _, _⟩) (v := ?_) rfl (by kernel_rfl) (by kernel_rfl) (by kernel_rfl) (fun _ _ _ h => h) (Or.inl ⟨rfl, ?_⟩) hHeld ?_
        case refine_2 => (intro w hS; (try obtain ⟨_, hS⟩ := hS); (try obtain ⟨_, hS⟩ := hS); (try obtain ⟨_, hS⟩ := hS); go_simp; try with_reducible rfl)
        try simp only [Act.put, List.setIfInBounds_toArray, List.set_cons_zero, List.set_cons_succ]
        refine wpAnyH_take (i := 11) (oi := ⟨some 64, _, _, _, _, _⟩) (v := ?_) rfl (by kernel_rfl) (by kernel_rfl) (by kernel_rfl) (fun _ _ _ h => h) (Or.inl ⟨rfl, ?_⟩) hHeld ?_
        case refine_2 => (intro w hS; (try obtain ⟨_, hS⟩ := hS); (try obtain ⟨_, hS⟩ := hS); (try obtain ⟨_, hS⟩ := hS); go_simp; try with_reducible rfl)
        try simp only [Act.put, List.setIfInBounds_toArray, List.set_cons_zero, List.set_cons_succ]
        refine wpAnyH_take (i := 12) (oi := ⟨some 65, _, _, _, _, _⟩) (v := ?_) rfl (by kernel_rfl) (by kernel_rfl) (by kernel_rfl) (fun _ _ _ h => h) (Or.inl ⟨rfl, ?_⟩) hHeld ?_
        case refine_2 => (intro w hS; (try obtain ⟨_, hS⟩ := hS); (try obtain ⟨_, hS⟩ := hS); (try obtain ⟨_, hS⟩ := hS); go_simp; try with_reducible rfl)
        try simp only [Act.put, List.setIfInBounds_toArray, List.set_cons_zero, List.set_cons_succ]
        refine wpAnyH_take (i := 13) (oi := ⟨some 66, _, _, _, _, _⟩) (v := ?_) rfl (by kernel_rfl) (by kernel_rfl) (by kernel_rfl) (fun _ _ _ h => h) (Or.inl ⟨rfl, ?_⟩) hHeld ?_
        case refine_2 => (intro w hS; (try obtain ⟨_, hS⟩ := hS); (try obtain ⟨_, hS⟩ := hS); (try obtain ⟨_, hS⟩ := hS); go_simp; try with_reducible rfl)
        try simp only [Act.put, List.setIfInBounds_toArray, List.set_cons_zero, List.set_cons_succ]
        refine wpAnyH_take (i := 14) (oi := ⟨some 67, _, _, _, _, _⟩) (v := ?_) rfl (by kernel_rfl) (by kernel_rfl) (by kernel_rfl) (fun _ _ _ h => h) (Or.inl ⟨rfl, ?_⟩) hHeld ?_
        case refine_2 => (intro w hS; (try obtain ⟨_, hS⟩ := hS); (try obtain ⟨_, hS⟩ := hS); (try obtain ⟨_, hS⟩ := hS); go_simp; try with_reducible rfl)
        try simp only [Act.put, List.setIfInBounds_toArray, List.set_cons_zero, List.set_cons_succ]
        have HSl : Sec (∀ w', Below wc.heap.size wc w' → w'.rangeAt w.heap.size 0 (tabV T).toList ∧ w'.cell? ⟨bl, m, none⟩ = some (.int .u8 (x : Int))) := ⟨fun w' h => ⟨range_later hc5 h, sc_later h hx5⟩⟩
        refine wpAnyH_ready (rs := [15, 19]) (by kernel_rfl) (by simp) ?_
        refine AllReadyH.cons (o := _) rfl (fun K hK => ?_) (AllReadyH.cons (o := _) rfl (fun K hK => ?_) AllReadyH.nil)
        · go_simp
          rw [show ((sd : Int) + (m : Int)).tmod 2 = (q : Int) by rw [Int.tmod_eq_emod_of_nonneg (by omega)]; exact hqe]
          refine (HF5.out _).mono ?_
          rintro e w6 ⟨rfl, hb6⟩
          have hbx : Below wc.heap.size wc w6 := sbtr (Below.refl _ _).drew hb6
          refine hK.out _ _ (HSl.out _ hbx) (fun hHeld2 => ?_)
          clear hK K
          refine wpAnyH_take (i := 16) (oi := ⟨some 52, _, _, _, _, _⟩) (v := ?_) rfl (by kernel_rfl) (by kernel_rfl) (by kernel_rfl) (fun _ _ _ h => h) (Or.inl ⟨rfl, ?_⟩) hHeld2 ?_
          case refine_2 => (intro w hS; (try obtain ⟨_, hS⟩ := hS); (try obtain ⟨_, hS⟩ := hS); (try obtain ⟨_, hS⟩ := hS); go_simp; try with_reducible rfl)
          try simp only [Act.put, List.setIfInBounds_toArray, List.set_cons_zero, List.set_cons_succ]
          refine wpAnyH_take (i := 17) (oi := ⟨some 69, _, _, _, _, _⟩) (v := ?_) rfl (by kernel_rfl) (by kernel_rfl) (by kernel_rfl) (fun _ _ _ h => h) (Or.inl ⟨rfl, ?_⟩) hHeld2 ?_
          case refine_2 => (intro w hS; (try obtain ⟨_, hS⟩ := hS); (try obtain ⟨_, hS⟩ := hS); (try obtain ⟨_, hS⟩ := hS); go_simp; try with_reducible rfl)
          try simp only [Act.put, List.setIfInBounds_toArray, List.set_cons_zero, List.set_cons_succ]
          refine wpAnyH_take (i := 18) (oi := ⟨some 70, _, _, _, _, _⟩) (v := ?_) rfl (by kernel_rfl) (by kernel_rfl) (by kernel_rfl) (fun _ _ _ h => h) (Or.inl ⟨rfl, ?_⟩) hHeld2 ?_
          case refine_2 => (intro w hS; (try obtain ⟨_, hS⟩ := hS); (try obtain ⟨_, hS⟩ := hS); (try obtain ⟨_, hS⟩ := hS); go_simp; try with_reducible rfl)
          try simp only [Act.put, List.setIfInBounds_toArray, List.set_cons_zero, List.set_cons_succ]
          refine wpAnyH_ready (rs := [19]) (by kernel_rfl) (by simp) ?_
          refine AllReadyH.cons (o := _) rfl (fun K hK => ?_) AllReadyH.nil
          go_simp
          have hba : Below wc.heap.size wc (w6.alloc (.cells #[.int .u8 0, .int .u8 0, .int .u8 0, .int .u8 0, .int .i64 0, .int .i64 0] 30)) := sbtr hbx (sst1 _ _)
          refine hK.out _ _ (HSl.out _ hba) (fun hHeld3 => ?_)
          clear hK K
          refine wpAnyH_ready (rs := [20]) (by kernel_rfl) (by simp) ?_
          refine AllReadyH.cons (o := _) rfl (fun K hK => ?_) AllReadyH.nil
          go_simp
          refine hK.out _ _ (HSl.out _ (sbtr hbx (sst1 _ _))) (fun hHeld4 => ?_)
          clear hK K
          refine wpAnyH_take (i := 21) (oi := ⟨some 15, _, _, _, _, _⟩) (v := ?_) rfl (by kernel_rfl) (by kernel_rfl) (by kernel_rfl) (fun _ _ _ h => h) (Or.inl ⟨rfl, ?_⟩) hHeld4 ?_
          case refine_2 => (intro w hS; (try obtain ⟨_, hS⟩ := hS); (try obtain ⟨_, hS⟩ := hS); (try obtain ⟨_, hS⟩ := hS); go_simp; try with_reducible rfl)
          try simp only [Act.put, List.setIfInBounds_toArray, List.set_cons_zero, List.set_cons_succ]
          refine wpAnyH_done (by kernel_rfl) ?_ _
          obtain ⟨W7, e7, z0, z1, z2, z3, z4, z5, hO7, hB7⟩ : ∃ W7, W7 = w6.alloc (.cells #[.int .u8 q4, .int .u8 q5, .int .u8 q1, .int .u8 q2, .int .i64 q3, .int .i64 0] 30) ∧ CellIs W7 ⟨w6.heap.size, 0, none⟩ (.int .u8 q4) ∧ CellIs W7 ⟨w6.heap.size, 1, none⟩ (.int .u8 q5) ∧ CellIs W7 ⟨w6.heap.size, 2, none⟩ (.int .u8 q1) ∧ CellIs W7 ⟨w6.heap.size, 3, none⟩ (.int .u8 q2) ∧ CellIs W7 ⟨w6.heap.size, 4, none⟩ (.int .i64 q3) ∧ CellIs W7 ⟨w6.heap.size, 5, none⟩ (.int .i64 0) ∧ (∀ k, k < 6 → ∃ v, CellIs W7 ⟨g, k, none⟩ v) ∧ Below w.heap.size w W7 :=
            ⟨_, rfl, cellIs_row _ _ _ 0 _ rfl, cellIs_row _ _ _ 1 _ rfl, cellIs_row _ _ _ 2 _ rfl, cellIs_row _ _ _ 3 _ rfl, cellIs_row _ _ _ 4 _ rfl, cellIs_row _ _ _ 5 _ rfl, fun k hk => let ⟨v, hv⟩ := hO5 k hk; ⟨v, cellIs_later (sbtr hbx (sst1 _ _)) hv⟩, sbtr hB5 (sbtr hbx (sst1 _ _))⟩
          rw [← e7]
          clear e7 hHeld3 hHeld4
          go_wp2_with fail
          go_meet
          exact ⟨_, rfl, rfl, z0, z1, z2, z3, z4, z5, hO7, hB7⟩
        · go_simp
          have hba : Below wc.heap.size wc (wc.drew.alloc (.cells #[.int .u8 0, .int .u8 0, .int .u8 0, .int .u8 0, .int .i64 0, .int .i64 0] 30)) := sbtr (Below.refl _ _).drew (sst1 _ _)
          refine hK.out _ _ (HSl.out _ hba) (fun hHeld3 => ?_)
          clear hK K
          refine wpAnyH_ready (rs := [15]) (by kernel_rfl) (by simp) ?_
          refine AllReadyH.cons (o := _) rfl (fun K hK => ?_) AllReadyH.nil
          go_simp
          rw [show ((sd : Int) + (m : Int)).tmod 2 = (q : Int) by rw [Int.tmod_eq_emod_of_nonneg (by omega)]; exact hqe]
          refine (HF5.out _).mono ?_
          rintro e w6 ⟨rfl, hb6⟩
          have hbx : Below wc.heap.size wc w6 := sbtr hba hb6
          refine hK.out _ _ (HSl.out _ hbx) (fun hHeld2 => ?_)
          clear hK K
          refine wpAnyH_take (i := 16) (oi := ⟨some 52, _, _, _, _, _⟩) (v := ?_) rfl (by kernel_rfl) (by kernel_rfl) (by kernel_rfl) (fun _ _ _ h => h) (Or.inl ⟨rfl, ?_⟩) hHeld2 ?_
          case refine_2 => (intro w hS; (try obtain ⟨_, hS⟩ := hS); (try obtain ⟨_, hS⟩ := hS); (try obtain ⟨_, hS⟩ := hS); go_simp; try with_reducible rfl)
          try simp only [Act.put, List.setIfInBounds_toArray, List.set_cons_zero, List.set_cons_succ]
          refine wpAnyH_take (i := 17) (oi := ⟨some 69, _, _, _, _, _⟩) (v := ?_) rfl (by kernel_rfl) (by kernel_rfl) (by kernel_rfl) (fun _ _ _ h => h) (Or.inl ⟨rfl, ?_⟩) hHeld2 ?_
          case refine_2 => (intro w hS; (try obtain ⟨_, hS⟩ := hS); (try obtain ⟨_, hS⟩ := hS); (try obtain ⟨_, hS⟩ := hS); go_simp; try with_reducible rfl)
          try simp only [Act.put, List.setIfInBounds_toArray, List.set_cons_zero, List.set_cons_succ]
          refine wpAnyH_take (i := 18) (oi := ⟨some 70, _, _, _, _, _⟩) (v := ?_) rfl (by kernel_rfl) (by kernel_rfl) (by kernel_rfl) (fun _ _ _ h => h) (Or.inl ⟨rfl, ?_⟩) hHeld2 ?_
          case refine_2 => (intro w hS; (try obtain ⟨_, hS⟩ := hS); (try obtain ⟨_, hS⟩ := hS); (try obtain ⟨_, hS⟩ := hS); go_simp; try with_reducible rfl)
          try simp only [Act.put, List.setIfInBounds_toArray, List.set_cons_zero, List.set_cons_succ]
          have hZ6 : ∀ k, k < 6 → ∃ v, CellIs w6 ⟨wc.heap.size, k, none⟩ v := fun k hk => ⟨_, cellIs_later hb6 (cellIs_row wc.drew #[.int .u8 0, .int .u8 0, .int .u8 0, .int .u8 0, .int .i64 0, .int .i64 0] 30 k _ (Array.getElem?_eq_getElem (by simpa using hk)))⟩
          obtain ⟨x0, b0, p0⟩ := hZ6 0 (by omega)
          obtain ⟨x1, b1, p1⟩ := hZ6 1 (by omega)
          obtain ⟨x2, b2, p2⟩ := hZ6 2 (by omega)
          obtain ⟨x3, b3, p3⟩ := hZ6 3 (by omega)
          obtain ⟨x4, b4, p4⟩ := hZ6 4 (by omega)
          obtain ⟨x5, b5, p5⟩ := hZ6 5 (by omega)
          refine wpAnyH_ready (rs := [20]) (by kernel_rfl) (by simp) ?_
          refine AllReadyH.cons (o := _) rfl (fun K hK => ?_) AllReadyH.nil
          go_simp
          obtain ⟨W7, e7, z0, z1, z2, z3, z4, z5, hfar, hbelow⟩ := six_set (v0 := .int .u8 q4) (v1 := .int .u8 q5) (v2 := .int .u8 q1) (v3 := .int .u8 q2) (v4 := .int .i64 q3) (v5 := .int .i64 0) ⟨b0, p0⟩ ⟨b1, p1⟩ ⟨b2, p2⟩ ⟨b3, p3⟩ ⟨b4, p4⟩ ⟨b5, p5⟩
          have hO7 : ∀ k, k < 6 → ∃ v, CellIs W7 ⟨g, k, none⟩ v := fun k hk => let ⟨v, hv⟩ := hO5 k hk; ⟨v, hfar _ _ _ (Nat.ne_of_lt (World.block_lt_of_cell? _ _ hv.1)) (cellIs_later hbx hv)⟩
          have hB7 : Below w.heap.size w W7 := hbelow _ _ hB5.size (sbtr hB5 hbx)
          have hS7 := HSl.out W7 (hbelow _ _ (Nat.le_refl _) hbx)
          rw [← e7]
          clear e7 hfar hbelow
          refine hK.out _ _ hS7 (fun hHeld4 => ?_)
          clear hK K
          refine wpAnyH_take (i := 21) (oi := ⟨some 15, _, _, _, _, _⟩) (v := ?_) rfl (by kernel_rfl) (by kernel_rfl) (by kernel_rfl) (fun _ _ _ h => h) (Or.inl ⟨rfl, ?_⟩) hHeld4 ?_
          case refine_2 => (intro w hS; (try obtain ⟨_, hS⟩ := hS); (try obtain ⟨_, hS⟩ := hS); (try obtain ⟨_, hS⟩ := hS); go_simp; try with_reducible rfl)
          try simp only [Act.put, List.setIfInBounds_toArray, List.set_cons_zero, List.set_cons_succ]
          refine wpAnyH_done (by kernel_rfl) ?_ _
          clear hHeld3 hHeld4 hS7 b0 b1 b2 b3 b4 b5 p0 p1 p2 p3 p4 p5 hZ6
          go_wp2_with fail
          go_meet
          exact ⟨_, rfl, rfl, z0, z1, z2, z3, z4, z5, hO7, hB7⟩
      case rest =>
        clear hO5 hc5 hB5 hra5 hu25 hx5 HF5
        obtain ⟨g14, rfl, rfl, z0, z1, z2, z3, z4, z5, hO7, hB7⟩ := hcut
        obtain ⟨y0, o0, f0⟩ := hO7 0 (by omega)
        obtain ⟨y1, o1, f1⟩ := hO7 1 (by omega)
        obtain ⟨y2, o2, f2⟩ := hO7 2 (by omega)
        obtain ⟨y3, o3, f3⟩ := hO7 3 (by omega)
        obtain ⟨y4, o4, f4⟩ := hO7 4 (by omega)
        obtain ⟨y5, o5, f5⟩ := hO7 5 (by omega)
        obtain ⟨z0, -⟩ := z0
        obtain ⟨z1, -⟩ := z1
        obtain ⟨z2, -⟩ := z2
        obtain ⟨z3, -⟩ := z3
        obtain ⟨z4, -⟩ := z4
        obtain ⟨z5, -⟩ := z5
        clear hO7
        iterate 40 (try first | go_step | go_step3)
        refine bodyPost_ret (v := .tuple #[.agg #[.int .u8 q4, .int .u8 q5, .int .u8 q1, .int .u8 q2, .int .i64 q3, .int .i64 0], .int .i64 q6, .int .i64 0]) (by simp [results, Try.results12, go_sem, o0, o1, o2, o3, o4, o5]) rfl ⟨?_, (((((hB7.setCell (p := ⟨g, 0, none⟩) hgw _).setCell (p := ⟨g, 1, none⟩) hgw _).setCell (p := ⟨g, 2, none⟩) hgw _).setCell (p := ⟨g, 3, none⟩) hgw _).setCell (p := ⟨g, 4, none⟩) hgw _).setCell (p := ⟨g, 5, none⟩) hgw _⟩
        rw [hFe, if_neg hnil, if_neg hnil, HLS2.out, hxe, hV.out, hZ.out]
end Go.Proofs.Ytfacmkelbjfffaa
