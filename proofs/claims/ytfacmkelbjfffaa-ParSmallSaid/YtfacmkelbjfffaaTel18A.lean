/- tells: the program's par and the reference's answer alike, for every table and all bytes. -/
import Derived.Test.YtfacmkelbjfffaaRParF
import Derived.Test.YtfacmkelbjfffaaMoreA
import Derived.Laws.BytesArg
namespace Go.Proofs.Ytfacmkelbjfffaa
open Go.RowKit
set_option linter.unusedVariables false
set_option linter.unusedSimpArgs false
set_option maxRecDepth 100000

theorem conv_bytes {W : World} {base : Nat} {v : Value} {L : List Nat} (h : W.ownsRow base 5 1 v L.length (byteV L)) :
    ∃ A c, v = .slice A L.length c ∧ (convert 34 9 (.slice A L.length c)).run Try.prog W = .ok (.string (strOfNums (L.map fun (x : Nat) => (x : Int)))) W := by
  obtain ⟨A, c, rfl, hc⟩ := bytes_of_own h
  refine ⟨A, c, rfl, ?_⟩
  by_cases h0 : L = []
  · subst h0
    rcases h.2 with ⟨e, -⟩ | ⟨g, cap, cur, e, -⟩
    · simp only [Value.slice.injEq] at e
      obtain ⟨rfl, -, rfl⟩ := e
      exact run_convert_bytes_nil W 34 5 Try.underlying34 Try.underlying5 _ _ 9 Try.underlying9
    · simp only [Value.slice.injEq] at e
      obtain ⟨rfl, -, rfl⟩ := e
      exact run_convert_bytes_arg W 34 5 Try.underlying34 Try.underlying5 g 0 0 _ [] rfl (fun i hi => by omega) 9 Try.underlying9
  · obtain ⟨x, hx⟩ : ∃ x, L[0]? = some x := by
      cases L with
      | nil => exact absurd rfl h0
      | cons x L => exact ⟨x, rfl⟩
    obtain ⟨b, rfl, -⟩ := hc 0 x hx
    refine run_convert_bytes_arg W 34 5 Try.underlying34 Try.underlying5 b 0 L.length c (L.map fun (x : Nat) => (x : Int)) (by simp) (fun i hi => ?_) 9 Try.underlying9
    obtain ⟨b', e, hb⟩ := hc i L[i] (List.getElem?_eq_getElem hi)
    cases e
    rw [Nat.zero_add, hb, List.getD_eq_getElem?_getD, List.getElem?_map, List.getElem?_eq_getElem hi]
    rfl
theorem best_pair (T : Nat → Int) (b s : Nat) : ∃ n q er : Int, (0 ≤ q ∧ q ≤ 3) ∧
    Sec (∀ w, Calls Try.prog 20 #[.agg (tabV T), .int .u8 b, .int .u8 s] w fun e w' => e = .returned (.tuple #[.int .i64 n, .int .u8 q, .int .i64 er]) ∧ Below w.heap.size w w') ∧
    Sec (∀ w, Calls Try.prog 26 #[.agg (tabV T), .int .i64 b, .int .i64 s] w fun e w' => e = .returned (.tuple #[.int .i64 n, .int .i64 q, .int .i64 er]) ∧ Below w.heap.size w w') := by
  by_cases h : rightT T = false ∨ (4 : Int) < b ∨ (1 : Int) < s
  · exact ⟨0, 0, 2, by omega, ⟨fun w => Best_wrong T b s w h⟩, ⟨fun w => rBest_wrong T b s w h⟩⟩
  · have h1 : rightT T = true := by cases e : rightT T; (exact absurd (.inl e) h); rfl
    have h2 : b ≤ 4 := by omega
    have h3 : s ≤ 1 := by omega
    exact ⟨_, _, 0, bestS_bd h3, ⟨fun w => Best_ok T b s w h1 h2 h3⟩, ⟨fun w => rBest_ok T b s w h1 h2 h3⟩⟩
theorem not_wrong {T : Nat → Int} {u : Int} {b s : Nat} (hu : 0 ≤ u) (h : wrongT T u b s = false) : rightT T = true ∧ (0 ≤ u ∧ u ≤ 3) ∧ (3 ≤ b ∧ b ≤ 37) ∧ s ≤ 1 := by
  unfold wrongT at h
  simp only [Bool.or_eq_false_iff, Bool.not_eq_false', decide_eq_false_iff_not] at h
  exact ⟨h.1.1.1.1, ⟨hu, by omega⟩, by omega, by omega⟩
theorem final_pair (T : Nat → Int) (u : Int) (b s : Nat) (hu : 0 ≤ u) : ∃ a0 a1 a2 a3 a4 p er : Int,
    Sec (∀ w, Calls Try.prog 16 #[.agg (tabV T), .int .u8 u, .int .u8 b, .int .u8 s] w fun e w' => e = .returned (.tuple #[.agg #[.int .u8 a0, .int .u8 a1, .int .u8 a2, .int .u8 a3, .int .i64 a4, .int .i64 0], .int .i64 p, .int .i64 er]) ∧ Below w.heap.size w w') ∧
    Sec (∀ w, Calls Try.prog 28 #[.agg (tabV T), .int .i64 u, .int .i64 b, .int .i64 s] w fun e w' => e = .returned (.tuple #[.agg #[.int .u8 a0, .int .u8 a1, .int .u8 a2, .int .u8 a3, .int .i64 a4, .int .i64 0], .int .i64 p, .int .i64 er]) ∧ Below w.heap.size w w') := by
  cases h : wrongT T u b s
  · obtain ⟨h1, h2, h3, h4⟩ := not_wrong hu h
    exact ⟨_, _, _, _, _, _, 0, ⟨fun w => Final_ok T u b s w h1 h2 h3 h4⟩, ⟨fun w => rFinal_ok T u b s w h1 h2 h3 h4⟩⟩
  · exact ⟨0, 0, 0, 0, 0, 0, 2, ⟨fun w => Final_wrong T u b s w h⟩, ⟨fun w => rFinal_wrong T u b s w h⟩⟩
theorem value_pair (T : Nat → Int) (u : Int) (b s : Nat) (hu : 0 ≤ u) : ∃ p er : Int,
    Sec (∀ w, Calls Try.prog 19 #[.agg (tabV T), .int .u8 u, .int .u8 b, .int .u8 s] w fun e w' => e = .returned (.tuple #[.int .i64 p, .int .i64 er]) ∧ Below w.heap.size w w') ∧
    Sec (∀ w, Calls Try.prog 29 #[.agg (tabV T), .int .i64 u, .int .i64 b, .int .i64 s] w fun e w' => e = .returned (.tuple #[.int .i64 p, .int .i64 er]) ∧ Below w.heap.size w w') := by
  cases h : wrongT T u b s
  · obtain ⟨h1, h2, h3, h4⟩ := not_wrong hu h
    exact ⟨_, 0, ⟨fun w => Value_ok T u b s w h1 h2 h3 h4⟩, ⟨fun w => rValue_ok T u b s w h1 h2 h3 h4⟩⟩
  · exact ⟨0, 2, ⟨fun w => Value_wrong T u b s w h⟩, ⟨fun w => rValue_wrong T u b s w h⟩⟩
theorem bids_pair (T : Nat → Int) (u : Int) (d : Nat) (hu : 0 ≤ u) : ∃ (L : List Nat) (er : Int),
    Sec (∀ w, Calls Try.prog 13 #[.agg (tabV T), .int .u8 u, .int .u8 d] w fun e w' => ∃ v, e = .returned (.tuple #[v, .int .i64 er]) ∧ w'.ownsRow w.heap.size 5 1 v L.length (byteV L) ∧ Below w.heap.size w w') ∧
    Sec (∀ w, Calls Try.prog 30 #[.agg (tabV T), .int .i64 u, .int .i64 d] w fun e w' => ∃ v sd, e = .returned (.tuple #[v, .int .i64 sd, .int .i64 er]) ∧ w'.ownsRow w.heap.size 5 1 v L.length (byteV L) ∧ Below w.heap.size w w') := by
  by_cases h : rightT T = false ∨ 3 < u ∨ (3 : Int) < d
  · exact ⟨[], 2, ⟨fun w => (Bids_wrong T u d w h).mono fun e w' ⟨he, hb⟩ => ⟨_, he, World.ownsRow_nil _ _ _ _, hb⟩⟩, ⟨fun w => (rBids_wrong T u d w h).mono fun e w' ⟨he, hb⟩ => ⟨_, _, he, World.ownsRow_nil _ _ _ _, hb⟩⟩⟩
  · have h1 : rightT T = true := by cases e : rightT T; (exact absurd (.inl e) h); rfl
    have h2 : 0 ≤ u ∧ u ≤ 3 := by omega
    have h3 : d ≤ 3 := by omega
    exact ⟨_, 0, ⟨fun w => Bids_ok T u d w h1 h2 h3⟩, ⟨fun w => (rBids_ok T u d w h1 h2 h3).mono fun e w' ⟨⟨v, sd, he, ho, _⟩, hb⟩ => ⟨v, sd, he, ho, hb⟩⟩⟩
theorem par_pair (T : Nat → Int) (u : Int) (d : Nat) (hu : 0 ≤ u) : ∃ a0 a1 a2 a3 a4 a5 p er : Int,
    Sec (∀ w, Calls Try.prog 12 #[.agg (tabV T), .int .u8 u, .int .u8 d] w fun e w' => e = .returned (.tuple #[.agg #[.int .u8 a0, .int .u8 a1, .int .u8 a2, .int .u8 a3, .int .i64 a4, .int .i64 a5], .int .i64 p, .int .i64 er]) ∧ Below w.heap.size w w') ∧
    Sec (∀ w, Calls Try.prog 31 #[.agg (tabV T), .int .i64 u, .int .i64 d] w fun e w' => e = .returned (.tuple #[.agg #[.int .u8 a0, .int .u8 a1, .int .u8 a2, .int .u8 a3, .int .i64 a4, .int .i64 a5], .int .i64 p, .int .i64 er]) ∧ Below w.heap.size w w') := by
  by_cases h : rightT T = false ∨ 3 < u ∨ (3 : Int) < d
  · exact ⟨0, 0, 0, 0, 0, 0, 0, 2, ⟨fun w => Par_wrong T u d w h⟩, ⟨fun w => rPar_wrong T u d w h⟩⟩
  · have h1 : rightT T = true := by cases e : rightT T; (exact absurd (.inl e) h); rfl
    have h2 : 0 ≤ u ∧ u ≤ 3 := by omega
    have h3 : d ≤ 3 := by omega
    obtain ⟨a, b, c, d', e, f, hv⟩ := parV_agg T u (d % 2)
    refine ⟨a, b, c, d', e, f, parZ T u (d % 2), 0, ⟨fun w => ?_⟩, ⟨fun w => ?_⟩⟩
    · rw [← hv]; exact Par_ok T u d w h1 h2 h3
    · rw [← hv]; exact rPar_ok T u d w h1 h2 h3
/-- Six cells of an outcome, known. -/
def SixC (W : World) (g : Nat) (v0 v1 v2 v3 v4 v5 : Value) : Prop := CellIs W ⟨g, 0, none⟩ v0 ∧ CellIs W ⟨g, 1, none⟩ v1 ∧ CellIs W ⟨g, 2, none⟩ v2 ∧ CellIs W ⟨g, 3, none⟩ v3 ∧ CellIs W ⟨g, 4, none⟩ v4 ∧ CellIs W ⟨g, 5, none⟩ v5
theorem sixc_later {W W' : World} {g : Nat} {v0 v1 v2 v3 v4 v5 : Value} (h : CellIs W ⟨g, 0, none⟩ v0 ∧ CellIs W ⟨g, 1, none⟩ v1 ∧ CellIs W ⟨g, 2, none⟩ v2 ∧ CellIs W ⟨g, 3, none⟩ v3 ∧ CellIs W ⟨g, 4, none⟩ v4 ∧ CellIs W ⟨g, 5, none⟩ v5) (hb : Below W.heap.size W W') :
    CellIs W' ⟨g, 0, none⟩ v0 ∧ CellIs W' ⟨g, 1, none⟩ v1 ∧ CellIs W' ⟨g, 2, none⟩ v2 ∧ CellIs W' ⟨g, 3, none⟩ v3 ∧ CellIs W' ⟨g, 4, none⟩ v4 ∧ CellIs W' ⟨g, 5, none⟩ v5 :=
  ⟨cellIs_later hb h.1, cellIs_later hb h.2.1, cellIs_later hb h.2.2.1, cellIs_later hb h.2.2.2.1, cellIs_later hb h.2.2.2.2.1, cellIs_later hb h.2.2.2.2.2⟩
theorem rtab_new (w : World) (T : Nat → Int) (t : TypeId) : TabAt (w.alloc (.cells (tabV T) t)) w.heap.size T := fun k hk => cellIs_row w (tabV T) t k _ (tab_cells T k hk)
/-- Both tables lie there. -/
structure TwoT (w : World) (T : Nat → Int) (g g2 : Nat) (W : World) : Prop where
  a : TabAt W g T
  b : TabAt W g2 T
  below : Below w.heap.size w W
theorem TwoT.later {w : World} {T : Nat → Int} {g g2 : Nat} {W W' : World} (h : TwoT w T g g2 W) (hb : Below W.heap.size W W') : TwoT w T g g2 W' := ⟨h.a.later hb, h.b.later hb, sbtr h.below hb⟩
theorem tells_start (w : World) (T : Nat → Int) (t t2 : TypeId) : ∃ W g g2, W = ((w.alloc (.cells (tabV T) t)).alloc (.cells (tabV fun _ => 0) t2)).setCells (w.heap.size + 1) 0 (tabV T).toList ∧ g = w.heap.size ∧ g2 = w.heap.size + 1 ∧ TwoT w T g g2 W := by
  have h := rtab_new (w.alloc (.cells (tabV T) t)) (fun _ => 0) t2
  rw [World.size_alloc] at h
  exact ⟨_, _, _, rfl, rfl, rfl, ((rtab_new w T t).later (sst1 _ _)).stored_far _ (by omega), h.stored T, below_setCells _ (by omega) _ _ _ (sbtr (sst1 _ _) (sst1 _ _))⟩
set_option maxHeartbeats 4000000 in
theorem tells_true (T : Nat → Int) (u : Int) (b s d : Nat) (w : World) (hu : 0 ≤ u ∧ u ≤ 255) (hb : b ≤ 255) (hs : s ≤ 255) (hd : d ≤ 255) : Calls Try.prog 17 #[.agg (tabV T), .int .u8 u, .int .u8 b, .int .u8 s, .int .u8 d] w fun e w' => e = .returned (.bool true) ∧ Below w.heap.size w w' := by
  obtain ⟨n, q, er, hq, HB1, HB2⟩ := best_pair T b s
  obtain ⟨x0, x1, x2, x3, x4, xp, xe, HF1, HF2⟩ := final_pair T u b s hu.1
  obtain ⟨y, ye, HV1, HV2⟩ := value_pair T u b s hu.1
  obtain ⟨L, le, HL1, HL2⟩ := bids_pair T u d hu.1
  obtain ⟨p0, p1, p2, p3, p4, p5, pp, pe, HP1, HP2⟩ := par_pair T u d hu.1
  have HR1 := Sec.mk fun w' => Right_ok T w'
  have HR2 := Sec.mk fun w' => rRight_ok T w'
  generalize rightT T = r at *
  have hsz1 : (Try.prog.info? 25).map (·.size) = some (tabV T).toList.length := by kernel_rfl
  have hsz2 : (Try.prog.info? 63).map (·.size) = some (tabV T).toList.length := by kernel_rfl
  have hsi2 : (Try.prog.info? 63).map (·.size) = some (tabV T).size := by kernel_rfl
  have h1c := tab_one T
  have hra := rtab_hra w T 25
  have hth : ((w.alloc (.cells (tabV T) 25)).alloc (.cells (tabV fun _ => 0) 63)).there (w.heap.size + 1) 0 (tabV T).size := by
    have h := (rtab_new (w.alloc (.cells (tabV T) 25)) (fun _ => 0) 63).there T
    rwa [World.size_alloc] at h
  go_enter Try.func17, Try.ntmps17
  go_upto_region 2 with (first
    | (refine wpList_load_mid (by rfl) 25 (.tmp 5) (by rfl) w.heap.size 0 (by rfl) (tabV T).toList _ hra Try.underlying25 rfl hsz1 ?_; simp only [Array.toArray_toList])
    | (refine wpList_store_mid (by rfl) 63 (.tmp 11) (.tmp 35) ?_ (w.heap.size + 1) 0 (tabV T) ?_ ?_ ?_ hsi2 h1c ?_; rfl; rfl; rfl; exact hth; simp only [Act.put]))
  rw [← zeros20]
  obtain ⟨W, g, g2, eW, eg, eg2, I0⟩ := tells_start w T 25 63
  rw [← eW, ← eg2, ← eg]
  clear eW eg eg2 hra hth h1c hsi2
  have I := Sec.mk I0
  clear I0
  obtain ⟨u0, u1⟩ := hu
  have b0 : (0 : Int) ≤ (b : Int) := by omega
  have b1 : (b : Int) ≤ 255 := by omega
  have s0 : (0 : Int) ≤ (s : Int) := by omega
  have s1 : (s : Int) ≤ 255 := by omega
  have d0 : (0 : Int) ≤ (d : Int) := by omega
  have d1 : (d : Int) ≤ 255 := by omega
  obtain ⟨q0, q1⟩ := hq
  have hra := (I.out).a.range
  go_wp2_with (refine wpList_load_mid (by rfl) 25 (.tmp 5) (by rfl) g 0 (by rfl) (tabV T).toList _ hra Try.underlying25 rfl hsz1 ?_; simp only [Array.toArray_toList])
  clear hra
  refine (HB1.out _).mono ?_
  rintro e w1 ⟨rfl, hb⟩
  replace I := Sec.mk (I.out.later hb)
  clear HB1
  clear hb
  have hra := (I.out).b.range
  go_wp2_with (refine wpList_load_mid (by rfl) 63 (.tmp 11) (by rfl) g2 0 (by rfl) (tabV T).toList _ hra Try.underlying63 rfl hsz2 ?_; simp only [Array.toArray_toList])
  clear hra
  refine (HB2.out _).mono ?_
  rintro e w1 ⟨rfl, hb⟩
  replace I := Sec.mk (I.out.later hb)
  clear HB2
  clear hb
  go_upto_region 5 with fail
  go_cut [80] (fun x wx => x = .bool false ∧ TwoT w T g g2 wx)
  case first =>
    have hqw : IntKind.i64.wrap q = q := IntWalk.i64_in _ ⟨by omega, by omega⟩
    refine wp_region_held_drew (S := fun w' => w'.rangeAt g 0 (tabV T).toList ∧ w'.rangeAt g2 0 (tabV T).toList) (by kernel_rfl) ⟨I.out.a.range, I.out.b.range⟩ (fun hHeld => ?_)
    refine wpAnyH_take (i := 0) (oi := ⟨some 60, _, _, _, _, _⟩) (v := _) rfl (by kernel_rfl) (by kernel_rfl) (by kernel_rfl) (fun _ _ _ h => h) (yieldsIf_load_mid (by rfl) 25 _ rfl g 0 rfl (tabV T).toList _ ?hS Try.underlying25 rfl hsz1) hHeld ?rst
    case hS => exact fun w h => h.1
    simp only [Act.put, List.setIfInBounds_toArray, List.set_cons_zero, List.set_cons_succ, Array.toArray_toList]
    refine wpAnyH_take (i := 2) (oi := ⟨some 62, _, _, _, _, _⟩) (v := _) rfl (by kernel_rfl) (by kernel_rfl) (by kernel_rfl) (fun _ _ _ h => h) (yieldsIf_load_mid (by rfl) 63 _ rfl g2 0 rfl (tabV T).toList _ ?hS2 Try.underlying63 rfl hsz2) hHeld ?rst2
    case hS2 => exact fun w h => h.2
    simp only [Act.put, List.setIfInBounds_toArray, List.set_cons_zero, List.set_cons_succ, Array.toArray_toList]
    refine wpAnyH_ready (rs := [1]) (by kernel_rfl) (by simp) ?_
    refine AllReadyH.cons (o := _) rfl (fun K hK => ?_) AllReadyH.nil
    go_simp
    with_reducible refine (HR1.out _).mono ?_
    rintro e w3 ⟨rfl, hb⟩
    have I3 := Sec.mk (I.out.later (sbtr (Below.refl _ _).drew hb))
    refine hK.out _ _ ⟨I3.out.a.range, I3.out.b.range⟩ (fun hHeld2 => ?_)
    clear hK K hHeld I hb
    refine wpAnyH_ready (rs := [3]) (by kernel_rfl) (by simp) ?_
    refine AllReadyH.cons (o := _) rfl (fun K hK => ?_) AllReadyH.nil
    go_simp
    with_reducible refine (HR2.out _).mono ?_
    rintro e w4 ⟨rfl, hb⟩
    have I4 := Sec.mk (I3.out.later hb)
    refine hK.out _ _ ⟨I4.out.a.range, I4.out.b.range⟩ (fun hHeld3 => ?_)
    clear hK K hHeld2 I3 hb
    refine wpAnyH_take (i := 4) (oi := ⟨some 64, _, _, _, _, _⟩) (v := ?_) rfl (by kernel_rfl) (by kernel_rfl) (by kernel_rfl) (fun _ _ _ h => h) (Or.inl ⟨rfl, ?_⟩) hHeld3 ?_
    case refine_2 => (intro w hS; (try obtain ⟨_, hS⟩ := hS); (try obtain ⟨_, hS⟩ := hS); (try obtain ⟨_, hS⟩ := hS); go_simp; try with_reducible rfl)
    try simp only [Act.put, List.setIfInBounds_toArray, List.set_cons_zero, List.set_cons_succ]
    refine wpAnyH_take (i := 5) (oi := ⟨some 65, _, _, _, _, _⟩) (v := ?_) rfl (by kernel_rfl) (by kernel_rfl) (by kernel_rfl) (fun _ _ _ h => h) (Or.inl ⟨rfl, ?_⟩) hHeld3 ?_
    case refine_2 => (intro w hS; (try obtain ⟨_, hS⟩ := hS); (try obtain ⟨_, hS⟩ := hS); (try obtain ⟨_, hS⟩ := hS); go_simp; try with_reducible rfl)
    try simp only [Act.put, List.setIfInBounds_toArray, List.set_cons_zero, List.set_cons_succ]
    refine wpAnyH_take (i := 6) (oi := ⟨some 66, _, _, _, _, _⟩) (v := ?_) rfl (by kernel_rfl) (by kernel_rfl) (by kernel_rfl) (fun _ _ _ h => h) (Or.inl ⟨rfl, ?_⟩) hHeld3 ?_
    case refine_2 => (intro w hS; (try obtain ⟨_, hS⟩ := hS); (try obtain ⟨_, hS⟩ := hS); (try obtain ⟨_, hS⟩ := hS); go_simp; try with_reducible rfl)
    try simp only [Act.put, List.setIfInBounds_toArray, List.set_cons_zero, List.set_cons_succ]
    refine wpAnyH_take (i := 7) (oi := ⟨some 67, _, _, _, _, _⟩) (v := ?_) rfl (by kernel_rfl) (by kernel_rfl) (by kernel_rfl) (fun _ _ _ h => h) (Or.inl ⟨rfl, ?_⟩) hHeld3 ?_
    case refine_2 => (intro w hS; (try obtain ⟨_, hS⟩ := hS); (try obtain ⟨_, hS⟩ := hS); (try obtain ⟨_, hS⟩ := hS); go_simp; try with_reducible rfl)
    try simp only [Act.put, List.setIfInBounds_toArray, List.set_cons_zero, List.set_cons_succ]
    refine wpAnyH_take (i := 8) (oi := ⟨some 68, _, _, _, _, _⟩) (v := ?_) rfl (by kernel_rfl) (by kernel_rfl) (by kernel_rfl) (fun _ _ _ h => h) (Or.inl ⟨rfl, ?_⟩) hHeld3 ?_
    case refine_2 => (intro w hS; (try obtain ⟨_, hS⟩ := hS); (try obtain ⟨_, hS⟩ := hS); (try obtain ⟨_, hS⟩ := hS); go_simp; try with_reducible rfl)
    try simp only [Act.put, List.setIfInBounds_toArray, List.set_cons_zero, List.set_cons_succ]
    refine wpAnyH_take (i := 9) (oi := ⟨some 69, _, _, _, _, _⟩) (v := ?_) rfl (by kernel_rfl) (by kernel_rfl) (by kernel_rfl) (fun _ _ _ h => h) (Or.inl ⟨rfl, ?_⟩) hHeld3 ?_
    case refine_2 => (intro w hS; (try obtain ⟨_, hS⟩ := hS); (try obtain ⟨_, hS⟩ := hS); (try obtain ⟨_, hS⟩ := hS); go_simp; try with_reducible rfl)
    try simp only [Act.put, List.setIfInBounds_toArray, List.set_cons_zero, List.set_cons_succ]
    refine wpAnyH_take (i := 10) (oi := ⟨some 70, _, _, _, _, _⟩) (v := ?_) rfl (by kernel_rfl) (by kernel_rfl) (by kernel_rfl) (fun _ _ _ h => h) (Or.inl ⟨rfl, ?_⟩) hHeld3 ?_
    case refine_2 => (intro w hS; (try obtain ⟨_, hS⟩ := hS); (try obtain ⟨_, hS⟩ := hS); (try obtain ⟨_, hS⟩ := hS); go_simp; try with_reducible rfl)
    try simp only [Act.put, List.setIfInBounds_toArray, List.set_cons_zero, List.set_cons_succ]
    refine wpAnyH_take (i := 11) (oi := ⟨some 71, _, _, _, _, _⟩) (v := ?_) rfl (by kernel_rfl) (by kernel_rfl) (by kernel_rfl) (fun _ _ _ h => h) (Or.inl ⟨rfl, ?_⟩) hHeld3 ?_
    case refine_2 => (intro w hS; (try obtain ⟨_, hS⟩ := hS); (try obtain ⟨_, hS⟩ := hS); (try obtain ⟨_, hS⟩ := hS); go_simp; try with_reducible rfl)
    try simp only [Act.put, List.setIfInBounds_toArray, List.set_cons_zero, List.set_cons_succ]
    refine wpAnyH_take (i := 12) (oi := ⟨some 72, _, _, _, _, _⟩) (v := ?_) rfl (by kernel_rfl) (by kernel_rfl) (by kernel_rfl) (fun _ _ _ h => h) (Or.inl ⟨rfl, ?_⟩) hHeld3 ?_
    case refine_2 => (intro w hS; (try obtain ⟨_, hS⟩ := hS); (try obtain ⟨_, hS⟩ := hS); (try obtain ⟨_, hS⟩ := hS); go_simp; try with_reducible rfl)
    try simp only [Act.put, List.setIfInBounds_toArray, List.set_cons_zero, List.set_cons_succ]
    refine wpAnyH_take (i := 13) (oi := ⟨some 73, _, _, _, _, _⟩) (v := ?_) rfl (by kernel_rfl) (by kernel_rfl) (by kernel_rfl) (fun _ _ _ h => h) (Or.inl ⟨rfl, ?_⟩) hHeld3 ?_
    case refine_2 => (intro w hS; (try obtain ⟨_, hS⟩ := hS); (try obtain ⟨_, hS⟩ := hS); (try obtain ⟨_, hS⟩ := hS); go_simp; try with_reducible rfl)
    try simp only [Act.put, List.setIfInBounds_toArray, List.set_cons_zero, List.set_cons_succ]
    refine wpAnyH_take (i := 14) (oi := ⟨some 74, _, _, _, _, _⟩) (v := ?_) rfl (by kernel_rfl) (by kernel_rfl) (by kernel_rfl) (fun _ _ _ h => h) (Or.inl ⟨rfl, ?_⟩) hHeld3 ?_
    case refine_2 => (intro w hS; (try obtain ⟨_, hS⟩ := hS); (try obtain ⟨_, hS⟩ := hS); (try obtain ⟨_, hS⟩ := hS); go_simp; try with_reducible rfl)
    try simp only [Act.put, List.setIfInBounds_toArray, List.set_cons_zero, List.set_cons_succ]
    refine wpAnyH_take (i := 15) (oi := ⟨some 75, _, _, _, _, _⟩) (v := ?_) rfl (by kernel_rfl) (by kernel_rfl) (by kernel_rfl) (fun _ _ _ h => h) (Or.inl ⟨rfl, ?_⟩) hHeld3 ?_
    case refine_2 => (intro w hS; (try obtain ⟨_, hS⟩ := hS); (try obtain ⟨_, hS⟩ := hS); (try obtain ⟨_, hS⟩ := hS); go_simp; try with_reducible rfl)
    try simp only [Act.put, List.setIfInBounds_toArray, List.set_cons_zero, List.set_cons_succ]
    refine wpAnyH_take (i := 16) (oi := ⟨some 76, _, _, _, _, _⟩) (v := ?_) rfl (by kernel_rfl) (by kernel_rfl) (by kernel_rfl) (fun _ _ _ h => h) (Or.inl ⟨rfl, ?_⟩) hHeld3 ?_
    case refine_2 => (intro w hS; (try obtain ⟨_, hS⟩ := hS); (try obtain ⟨_, hS⟩ := hS); (try obtain ⟨_, hS⟩ := hS); go_simp; try with_reducible rfl)
    try simp only [Act.put, List.setIfInBounds_toArray, List.set_cons_zero, List.set_cons_succ]
    refine wpAnyH_take (i := 17) (oi := ⟨some 77, _, _, _, _, _⟩) (v := ?_) rfl (by kernel_rfl) (by kernel_rfl) (by kernel_rfl) (fun _ _ _ h => h) (Or.inl ⟨rfl, ?_⟩) hHeld3 ?_
    case refine_2 => (intro w hS; (try obtain ⟨_, hS⟩ := hS); (try obtain ⟨_, hS⟩ := hS); (try obtain ⟨_, hS⟩ := hS); go_simp; try with_reducible rfl)
    try simp only [Act.put, List.setIfInBounds_toArray, List.set_cons_zero, List.set_cons_succ]
    refine wpAnyH_take (i := 18) (oi := ⟨some 78, _, _, _, _, _⟩) (v := ?_) rfl (by kernel_rfl) (by kernel_rfl) (by kernel_rfl) (fun _ _ _ h => h) (Or.inl ⟨rfl, ?_⟩) hHeld3 ?_
    case refine_2 => (intro w hS; (try obtain ⟨_, hS⟩ := hS); (try obtain ⟨_, hS⟩ := hS); (try obtain ⟨_, hS⟩ := hS); go_simp; try with_reducible rfl)
    try simp only [Act.put, List.setIfInBounds_toArray, List.set_cons_zero, List.set_cons_succ]
    refine wpAnyH_take (i := 19) (oi := ⟨some 79, _, _, _, _, _⟩) (v := ?_) rfl (by kernel_rfl) (by kernel_rfl) (by kernel_rfl) (fun _ _ _ h => h) (Or.inl ⟨rfl, ?_⟩) hHeld3 ?_
    case refine_2 => (intro w hS; (try obtain ⟨_, hS⟩ := hS); (try obtain ⟨_, hS⟩ := hS); (try obtain ⟨_, hS⟩ := hS); go_simp; try with_reducible rfl)
    try simp only [Act.put, List.setIfInBounds_toArray, List.set_cons_zero, List.set_cons_succ]
    refine wpAnyH_take (i := 20) (oi := ⟨some 80, _, _, _, _, _⟩) (v := ?_) rfl (by kernel_rfl) (by kernel_rfl) (by kernel_rfl) (fun _ _ _ h => h) (Or.inl ⟨rfl, ?_⟩) hHeld3 ?_
    case refine_2 => (intro w hS; (try obtain ⟨_, hS⟩ := hS); (try obtain ⟨_, hS⟩ := hS); (try obtain ⟨_, hS⟩ := hS); go_simp; try with_reducible rfl)
    try simp only [Act.put, List.setIfInBounds_toArray, List.set_cons_zero, List.set_cons_succ]
    refine wpAnyH_done (by kernel_rfl) ?_ _
    clear hHeld3
    go_wp2_with fail
    go_meet
    exact ⟨by simp, I4.out⟩
  case rest =>
    obtain ⟨rfl, I0⟩ := hcut
    clear I HR1 HR2
    have I := Sec.mk I0
    clear I0
    have hra := (I.out).a.range
    go_wp2_with (refine wpList_load_mid (by rfl) 25 (.tmp 5) (by rfl) g 0 (by rfl) (tabV T).toList _ hra Try.underlying25 rfl hsz1 ?_; simp only [Array.toArray_toList])
    clear hra
    refine (HF1.out _).mono ?_
    rintro e w1 ⟨rfl, hb⟩
    clear HF1
    go_upto_region 8 with fail
    obtain ⟨W1, h1, e1, eg, ch1, hb1⟩ := six_box w1 (.int .u8 x0) (.int .u8 x1) (.int .u8 x2) (.int .u8 x3) (.int .i64 x4) (.int .i64 0) 30
    rw [← e1, ← eg]
    have hb := sbtr hb hb1
    clear e1 eg hb1
    replace I := Sec.mk (I.out.later hb)
    clear hb
    have hra := (I.out).b.range
    go_wp2_with (refine wpList_load_mid (by rfl) 63 (.tmp 11) (by rfl) g2 0 (by rfl) (tabV T).toList _ hra Try.underlying63 rfl hsz2 ?_; simp only [Array.toArray_toList])
    clear hra
    refine (HF2.out _).mono ?_
    rintro e w2 ⟨rfl, hb⟩
    clear HF2
    go_upto_region 9 with fail
    obtain ⟨W2, h2, e2, eg, ch2, hb2⟩ := six_box w2 (.int .u8 x0) (.int .u8 x1) (.int .u8 x2) (.int .u8 x3) (.int .i64 x4) (.int .i64 0) 30
    rw [← e2, ← eg]
    have hb := sbtr hb hb2
    clear e2 eg hb2
    replace I := Sec.mk (I.out.later hb)
    have ch1 := sixc_later ch1 hb
    clear hb
    have hra := (I.out).a.range
    go_wp2_with (refine wpList_load_mid (by rfl) 25 (.tmp 5) (by rfl) g 0 (by rfl) (tabV T).toList _ hra Try.underlying25 rfl hsz1 ?_; simp only [Array.toArray_toList])
    clear hra
    refine (HV1.out _).mono ?_
    rintro e w3 ⟨rfl, hb⟩
    clear HV1
    replace I := Sec.mk (I.out.later hb)
    have ch1 := sixc_later ch1 hb
    have ch2 := sixc_later ch2 hb
    clear hb
    have hra := (I.out).b.range
    go_wp2_with (refine wpList_load_mid (by rfl) 63 (.tmp 11) (by rfl) g2 0 (by rfl) (tabV T).toList _ hra Try.underlying63 rfl hsz2 ?_; simp only [Array.toArray_toList])
    clear hra
    refine (HV2.out _).mono ?_
    rintro e w4 ⟨rfl, hb⟩
    clear HV2
    replace I := Sec.mk (I.out.later hb)
    have ch1 := sixc_later ch1 hb
    have ch2 := sixc_later ch2 hb
    clear hb
    obtain ⟨⟨a0, -⟩, ⟨a1, -⟩, ⟨a2, -⟩, ⟨a3, -⟩, ⟨a4, -⟩, ⟨a5, -⟩⟩ := ch1
    obtain ⟨⟨k0, -⟩, ⟨k1, -⟩, ⟨k2, -⟩, ⟨k3, -⟩, ⟨k4, -⟩, ⟨k5, -⟩⟩ := ch2
    go_upto_region 13 with fail
    clear a0 a1 a2 a3 a4 a5 k0 k1 k2 k3 k4 k5
    have hra := (I.out).a.range
    go_wp2_with (refine wpList_load_mid (by rfl) 25 (.tmp 5) (by rfl) g 0 (by rfl) (tabV T).toList _ hra Try.underlying25 rfl hsz1 ?_; simp only [Array.toArray_toList])
    clear hra
    refine (HL1.out _).mono ?_
    rintro e w5 ⟨va, rfl, hoa, hb⟩
    clear HL1
    replace I := Sec.mk (I.out.later hb)
    clear hb
    have hra := (I.out).b.range
    go_wp2_with (refine wpList_load_mid (by rfl) 63 (.tmp 11) (by rfl) g2 0 (by rfl) (tabV T).toList _ hra Try.underlying63 rfl hsz2 ?_; simp only [Array.toArray_toList])
    clear hra
    refine (HL2.out _).mono ?_
    rintro e w6 ⟨vb, sd, rfl, hob, hb⟩
    clear HL2
    replace I := Sec.mk (I.out.later hb)
    have hoa := p_own_below hoa hb
    clear hb
    have hra := (I.out).a.range
    go_wp2_with (refine wpList_load_mid (by rfl) 25 (.tmp 5) (by rfl) g 0 (by rfl) (tabV T).toList _ hra Try.underlying25 rfl hsz1 ?_; simp only [Array.toArray_toList])
    clear hra
    refine (HP1.out _).mono ?_
    rintro e w7 ⟨rfl, hb⟩
    clear HP1
    go_upto_region 16 with fail
    obtain ⟨W7, h3, e7, eg, ch3, hb7⟩ := six_box w7 (.int .u8 p0) (.int .u8 p1) (.int .u8 p2) (.int .u8 p3) (.int .i64 p4) (.int .i64 p5) 30
    rw [← e7, ← eg]
    have hb := sbtr hb hb7
    clear e7 eg hb7
    replace I := Sec.mk (I.out.later hb)
    have hoa := p_own_below hoa hb
    have hob := p_own_below hob hb
    clear hb
    have hra := (I.out).b.range
    go_wp2_with (refine wpList_load_mid (by rfl) 63 (.tmp 11) (by rfl) g2 0 (by rfl) (tabV T).toList _ hra Try.underlying63 rfl hsz2 ?_; simp only [Array.toArray_toList])
    clear hra
    refine (HP2.out _).mono ?_
    rintro e w8 ⟨rfl, hb⟩
    clear HP2
    go_upto_region 17 with fail
    obtain ⟨W8, h4, e8, eg, ch4, hb8⟩ := six_box w8 (.int .u8 p0) (.int .u8 p1) (.int .u8 p2) (.int .u8 p3) (.int .i64 p4) (.int .i64 p5) 30
    rw [← e8, ← eg]
    have hb := sbtr hb hb8
    clear e8 eg hb8
    replace I := Sec.mk (I.out.later hb)
    have hoa := p_own_below hoa hb
    have hob := p_own_below hob hb
    have ch3 := sixc_later ch3 hb
    clear hb
    obtain ⟨A1, c1, rfl, hcv1⟩ := conv_bytes hoa
    obtain ⟨A2, c2, rfl, hcv2⟩ := conv_bytes hob
    obtain ⟨⟨a0, -⟩, ⟨a1, -⟩, ⟨a2, -⟩, ⟨a3, -⟩, ⟨a4, -⟩, ⟨a5, -⟩⟩ := ch3
    obtain ⟨⟨k0, -⟩, ⟨k1, -⟩, ⟨k2, -⟩, ⟨k3, -⟩, ⟨k4, -⟩, ⟨k5, -⟩⟩ := ch4
    clear hoa hob
    go_wp2_with fail
    go_ret
    exact ⟨by simp, I.out.below⟩
end Go.Proofs.Ytfacmkelbjfffaa
