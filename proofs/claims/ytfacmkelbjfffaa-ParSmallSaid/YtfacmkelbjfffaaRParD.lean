/- finesseref18: Values and Value. -/
import Derived.Test.YtfacmkelbjfffaaRParC
import Derived.Test.YtfacmkelbjfffaaPlainC
import Derived.Deep.RegionHeld3
namespace Go.Proofs.Ytfacmkelbjfffaa
open Go.RowKit
set_option linter.unusedVariables false
set_option linter.unusedSimpArgs false
set_option maxRecDepth 100000

theorem rv_bestW_bd (F : Nat → Nat → Int) (c : Int) (hF : ∀ b, 3 ≤ b → b ≤ 37 → ∀ q, q ≤ 1 → -c ≤ F b q ∧ F b q ≤ c) : ∀ (n : Nat), n ≤ 35 → ∀ q, q ≤ 1 → ∀ p, -c ≤ p ∧ p ≤ c → -c ≤ bestW F n q p ∧ bestW F n q p ≤ c
  | 0, _, q, _, p, hp => hp
  | n + 1, hn, q, hq, p, hp => by
    unfold bestW
    refine rv_bestW_bd F c hF n (by omega) q hq _ ?_
    have := rv_bestW_bd F c hF n (by omega) (1 - q) (by omega) _ (hF (37 - n) (by omega) (by omega) q hq)
    unfold optZ; split <;> omega
theorem rv_finalZ_bd (T : Nat → Int) (u : Int) (b s : Nat) (hT : rightT T = true) (hb : 3 ≤ b ∧ b ≤ 37) (hs : s ≤ 1) : -100000 ≤ finalZ T u b s ∧ finalZ T u b s ≤ 100000 := by
  rw [finalZ_eq _ _ _ _ hs]
  have := pZ_sign (l := lev b) (d := den b) (n := bestN T (den b) s) (vulB u s) (by unfold lev; omega) (by unfold den; omega) (bestN_bd ((rightT_iff _).1 hT) (by unfold den; omega) hs)
  split <;> omega
theorem rv_ansZ_bd (T : Nat → Int) (u : Int) (b s : Nat) (hT : rightT T = true) (hb : 3 ≤ b ∧ b ≤ 37) (hs : s ≤ 1) : -100000 ≤ (ansZ (finalZ T u) b s).2 ∧ (ansZ (finalZ T u) b s).2 ≤ 100000 := by
  rw [ansZ_W]
  exact rv_bestW_bd _ 100000 (fun b h1 h2 q hq => rv_finalZ_bd T u b q hT ⟨h1, h2⟩ hq) (37 - b) (by omega) s hs _ (rv_finalZ_bd T u b (1 - s) hT hb (by omega))
theorem zero_val (w : World) : (zeroValue 84).run Try.prog w = .ok (.agg (valV fun _ => 0)) w := by
  have h : (Try.prog.info? 84).map (·.zero) = some (some (.agg (valV fun _ => 0))) := by kernel_rfl
  obtain ⟨i, hi, hz⟩ := Option.map_eq_some_iff.1 h
  simp [zeroValue, typeInfo, Sem.run_bind, run_program, Result.andThen, hi, hz]
theorem field_ans0 (a b : Value) (w : World) : (Instr.field 87 (.agg #[a, b]) 0).run Try.prog w = .ok a w := by
  simp [Instr.field, asAgg, part, isAgg, sizeOf, typeInfo, run_underlying Try.underlying87, run_underlying Try.underlying3, Sem.run_bind, run_program, Result.andThen, go_sem]
theorem field_ans1 (a b : Value) (w : World) : (Instr.field 87 (.agg #[a, b]) 1).run Try.prog w = .ok b w := by
  simp [Instr.field, asAgg, part, isAgg, sizeOf, typeInfo, run_underlying Try.underlying87, run_underlying Try.underlying3, Sem.run_bind, run_program, Result.andThen, go_sem]
def ValBd (V : Nat → Int) : Prop := ∀ k, k < 76 → -1000000 ≤ V k ∧ V k ≤ 1000000
theorem ValAt.there {W : World} {g : Nat} {V : Nat → Int} (h : ValAt W g V) (U : Nat → Int) : W.there g 0 (valV U).size := fun j hj => by
  rw [val_size] at hj
  rw [Nat.zero_add]
  exact ⟨by rw [(h j hj).1]; rfl, (h j hj).2⟩
theorem ValAt.stored {W : World} {g : Nat} {V : Nat → Int} (h : ValAt W g V) (U : Nat → Int) : ValAt (W.setCells g 0 (valV U).toList) g U := fun k hk => by
  have hr := World.rangeAt_setCells_same W g 0 (valV U).toList (by simpa using h.there U)
  have hc := hr k (.int .i64 (U k)) (by rw [Array.getElem?_toList]; exact val_cells U k hk)
  rw [Nat.zero_add] at hc
  exact ⟨hc, by rw [World.frozen?_setCells]; exact (h k hk).2⟩
theorem ValAt.put {W : World} {g : Nat} {V : Nat → Int} (h : ValAt W g V) (k : Nat) (hk : k < 76) (x : Int) : ValAt (W.setCell ⟨g, k, none⟩ (.int .i64 x)) g (putT V k x) := fun j hj => by
  unfold putT
  by_cases e : j = k
  · rw [if_pos e, e]; exact cellIs_set (h k hk) _
  · rw [if_neg e]; exact cellIs_far (h j hj) _ (by simp only [ne_eq, Addr.mk.injEq]; omega)
theorem ValAt.put_far {W : World} {g g' : Nat} {V : Nat → Int} (h : ValAt W g' V) (k : Nat) (v : Value) (hne : g ≠ g') : ValAt (W.setCell ⟨g, k, none⟩ v) g' V := fun j hj => cellIs_far (h j hj) _ (by simp only [ne_eq, Addr.mk.injEq]; omega)
theorem results_val {fn : Func} {t : Tmp} (h : fn.results = #[.cell t 84]) {tmps : Array Value} {g : Nat} (ht : tmps.getD t undef = .pointer (some ⟨g, 0, none⟩)) {w : World} {V : Nat → Int} (hV : ValAt w g V) :
    (results fn tmps).run Try.prog w = .ok (.agg (valV V)) w := by
  have := run_loadVar_mid (P := Try.prog) w g 0 84 (valV V).toList _ hV.range Try.underlying84 rfl (by rw [val_len]; exact info_val)
  rw [Array.toArray_toList] at this
  rw [Array.getD_eq_getD_getElem?] at ht
  simp [results, h, ht, this, asAddr]
structure VlI (w : World) (T : Nat → Int) (u : Int) (done : Nat → Nat → Prop) (W : World) : Prop where
  tab : TabAt W w.heap.size T
  out : ValAt W (w.heap.size + 1) (fun _ => 0)
  val : ∃ U, ValAt W (w.heap.size + 1 + 1) U ∧ ValBd U ∧ ∀ b q, 3 ≤ b → b ≤ 37 → q ≤ 1 → done b q → U (b * 2 + q) = (ansZ (finalZ T u) b q).2
  below : Below w.heap.size w W
theorem VlI.weak {w : World} {T : Nat → Int} {u : Int} {d d' : Nat → Nat → Prop} {W : World} (h : VlI w T u d W) (hd : ∀ b q, 3 ≤ b → b ≤ 37 → q ≤ 1 → d' b q → d b q) : VlI w T u d' W :=
  ⟨h.tab, h.out, let ⟨U, a, b, c⟩ := h.val; ⟨U, a, b, fun x q h1 h2 h3 h4 => c x q h1 h2 h3 (hd x q h1 h2 h3 h4)⟩, h.below⟩
theorem vl_start (w : World) (T : Nat → Int) (u : Int) (t t2 t3 : TypeId) : ∃ W g, W = ((w.alloc (.cells (tabV T) t)).alloc (.cells (valV fun _ => 0) t2)).alloc (.cells (valV fun _ => 0) t3) ∧ g = w.heap.size ∧ VlI w T u (fun b _ => 37 < b) W := by
  refine ⟨_, _, rfl, rfl, ?_, ?_, ⟨fun _ => 0, ?_, fun k _ => ⟨by simp, by simp⟩, fun b q h1 h2 h3 h4 => by omega⟩, sbtr (sbtr (sst1 _ _) (sst1 _ _)) (sst1 _ _)⟩
  · exact TabAt.later (TabAt.later (fun k hk => cellIs_row w (tabV T) t k _ (tab_cells T k hk)) (sst1 _ _)) (sst1 _ _)
  · have h := val_new (w.alloc (.cells (tabV T) t)) (fun _ => 0) t2
    rw [World.size_alloc] at h
    exact h.later (sst1 _ _)
  · have h := val_new ((w.alloc (.cells (tabV T) t)).alloc (.cells (valV fun _ => 0) t2)) (fun _ => 0) t3
    rwa [World.size_alloc, World.size_alloc] at h
def VlRel (w : World) (T : Nat → Int) (u : Int) (i : Value) (wr : World) : Prop := ∃ c : Nat, i = .int .i64 c ∧ 2 ≤ c ∧ c ≤ 37 ∧ VlI w T u (fun b _ => c < b) wr
def VlRel2 (w : World) (T : Nat → Int) (u : Int) (c : Nat) (i : Value) (wr : World) : Prop := ∃ q : Nat, i = .int .i64 q ∧ q ≤ 2 ∧ VlI w T u (fun b y => c < b ∨ (b = c ∧ y < q)) wr
theorem choose_vals (T : Nat → Int) (u : Int) (U : Nat → Int) (c q : Nat) (hc : 3 ≤ c ∧ c ≤ 37) (hq : q ≤ 1) (hU : ∀ b y, 3 ≤ b → b ≤ 37 → y ≤ 1 → c < b → U (b * 2 + y) = (ansZ (finalZ T u) b y).2) :
    chooseC (valA U) q c (finalZ T u c (1 - q)) = ansZ (finalZ T u) c q := by
  rw [chooseC_same (valA U) (fun x y => (ansZ (finalZ T u) x y).2) q c _ hq (fun x h1 h2 h3 y h4 => hU x y h2 h3 h4 h1), chooseC_ans _ _ _ _ hq hc]
  rfl
set_option maxHeartbeats 4000000 in
theorem rValues_ok (T : Nat → Int) (u : Int) (w : World) (hT : rightT T = true) (hu : 0 ≤ u ∧ u ≤ 3) : Calls Try.prog 38 #[.agg (tabV T), .int .i64 u] w fun e w' =>
    (∃ V, e = .returned (.agg (valV V)) ∧ ValBd V ∧ ∀ b q, 3 ≤ b → b ≤ 37 → q ≤ 1 → V (b * 2 + q) = (ansZ (finalZ T u) b q).2) ∧ Below w.heap.size w w' := by
  have HF := Sec.mk fun c q w' h1 h2 => rFinal_ok T u c q w' hT hu h1 h2
  have hz := zero_val
  have hsz : (Try.prog.info? 63).map (·.size) = some (tabV T).toList.length := by kernel_rfl
  have hszv : ∀ U, (Try.prog.info? 84).map (·.size) = some (valV U).toList.length := fun U => by rw [val_len]; exact info_val
  have HBd := Sec.mk fun b s h1 h2 => rv_ansZ_bd T u b s hT h1 h2
  have HFb := Sec.mk fun b s h1 h2 => rv_finalZ_bd T u b s hT h1 h2
  go_enter Try.func38, Try.ntmps38
  go_wp2_with fail
  obtain ⟨W0, g, eW, eg, I0⟩ := vl_start w T u 63 84 84
  rw [← eW]
  clear eW hz eg g hu
  go_loopw [6] (fun i wr => VlRel w T u i wr) (fun i _ => (intOf i).toNat)
  case atStart => exact ⟨37, rfl, by omega, by omega, I0⟩
  case round =>
    obtain ⟨c, rfl, hc1, hc2, hI⟩ := hrel
    by_cases hlt : 3 ≤ c
    · have hwc : IntKind.i64.wrap ((c : Int) - 1) = ((c - 1 : Nat) : Int) := by rw [IntWalk.i64_in _ ⟨by omega, by omega⟩]; omega
      go_wp2_with fail
      simp only [decide_eq_true (show (3 : Int) ≤ (c : Int) by omega)]
      go_loopw [7] (fun i wx => VlRel2 w T u c i wx) (fun i _ => 2 - (intOf i).toNat)
      case atStart => exact ⟨0, rfl, by omega, hI.weak (fun b q _ _ _ h => by omega)⟩
      case round =>
        clear hI I0
        obtain ⟨q, rfl, hq1, hJ⟩ := hrel
        by_cases hlq : q < 2
        · have hwq : IntKind.i64.wrap (1 - (q : Int)) = ((1 - q : Nat) : Int) := by rw [IntWalk.i64_in _ ⟨by omega, by omega⟩]; omega
          obtain ⟨hTab, hOut, ⟨U, hU, hUb, hUv⟩, hB⟩ := hJ
          have hra := hTab.range
          have HF1 := Sec.mk fun w' => HF.out c (1 - q) w' ⟨hlt, hc2⟩ (by omega)
          have HC := Sec.mk (choose_vals T u U c q ⟨hlt, hc2⟩ (by omega) (fun b y h1 h2 h3 h4 => hUv b y h1 h2 h3 (.inl h4)))
          have hzb := HBd.out c q ⟨hlt, hc2⟩ (by omega)
          have hfb := HFb.out c (1 - q) ⟨hlt, hc2⟩ (by omega)
          have q0 : (0 : Int) ≤ (q : Int) := by omega
          have q1 : (q : Int) < 2 := by omega
          have c0 : (0 : Int) ≤ (c : Int) := by omega
          have c1 : (c : Int) < 38 := by omega
          have HCh : Sec (∀ w', Calls Try.prog 39 #[.agg (valV U), .int .i64 q, .int .i64 c, .int .i64 (finalZ T u c (1 - q))] w' fun e w'' => e = .returned (.agg #[.int .i64 (ansZ (finalZ T u) c q).1, .int .i64 (ansZ (finalZ T u) c q).2]) ∧ Below w'.heap.size w' w'') := ⟨fun w' => by
            have h := rChoose_ok U q c (finalZ T u c (1 - q)) w' (by omega) hc2 (by omega) hUb
            rwa [HC.out] at h⟩
          have HR : Sec (∀ W', TabAt W' w.heap.size T → ValAt W' (w.heap.size + 1) (fun _ => 0) → ValAt W' (w.heap.size + 1 + 1) U → Below w.heap.size w W' → VlI w T u (fun b y => c < b ∨ (b = c ∧ y < q + 1)) (W'.setCell ⟨w.heap.size + 1 + 1, c * 2 + q, none⟩ (.int .i64 (ansZ (finalZ T u) c q).2))) := ⟨fun W' h1 h2 h3 h4 => by
            refine ⟨h1.put_far _ _ (by omega), h2.put_far _ _ (by omega), ⟨_, h3.put _ (by omega) _, ?_, ?_⟩, h4.setCell (p := ⟨w.heap.size + 1 + 1, c * 2 + q, none⟩) (by simp; omega) _⟩
            · intro k hk
              unfold putT
              split
              · omega
              · exact hUb k hk
            · intro b y h1 h2 h3 h4
              unfold putT
              split
              · rename_i e
                obtain ⟨rfl, rfl⟩ : b = c ∧ y = q := by omega
                rfl
              · exact hUv b y h1 h2 h3 (by omega)⟩
          have hT' := Sec.mk hTab
          have hO' := Sec.mk hOut
          have hU' := Sec.mk hU
          clear HC hUb hUv hzb hfb HF HBd HFb hTab hOut hU
          unfold outV at HF1
          generalize ansZ (finalZ T u) c q = Z at *
          generalize finalZ T u c (1 - q) = V at *
          generalize riskZ T c (1 - q) = z1 at *
          generalize bestS T (den c) (1 - q) = z2 at *
          generalize bestN T (den c) (1 - q) = z3 at *
          generalize lev c = z4 at *
          generalize den c = z5 at *
          go_wp2_with (refine wpList_load_mid (by rfl) 63 (.tmp 2) (by rfl) w.heap.size 0 (by rfl) (tabV T).toList _ hra Try.underlying63 rfl hsz ?_; simp only [Array.toArray_toList])
          clear hra
          refine (HF1.out _).mono ?_
          rintro e w1 ⟨rfl, hb1⟩
          clear HF1
          go_upto_region 9 with fail
          have hfi := field_ans1
          obtain ⟨W2, e2, hb2⟩ : ∃ W2, W2 = w1.alloc (.cells #[.int .u8 z4, .int .u8 z5, .int .u8 z1, .int .u8 z2, .int .i64 z3, .int .i64 0] 30) ∧ Below w1.heap.size w1 W2 := ⟨_, rfl, sst1 _ _⟩
          rw [← e2]
          clear e2
          have hb12 := sbtr hb1 hb2
          have hra2 : W2.drew.rangeAt (w.heap.size + 1 + 1) 0 (valV U).toList := (hU'.out.later hb12).range
          refine wp_region_held_drew (S := fun _ => True) (by kernel_rfl) trivial (fun _ => ?_)
          refine wpAnyH_take (i := 0) (oi := ⟨some 29, _, _, _, _, _⟩) (v := ?_) rfl (by kernel_rfl) (by kernel_rfl) (by kernel_rfl) (fun _ _ _ h => h) (Or.inl ⟨rfl, ?_⟩) trivial ?_
          case refine_2 => (intro w _; go_simp; try with_reducible rfl)
          try simp only [Act.put, List.setIfInBounds_toArray, List.set_cons_zero, List.set_cons_succ]
          refine wpAnyH_take (i := 1) (oi := ⟨some 30, _, _, _, _, _⟩) (v := ?_) rfl (by kernel_rfl) (by kernel_rfl) (by kernel_rfl) (fun _ _ _ h => h) (Or.inl ⟨rfl, ?_⟩) trivial ?_
          case refine_2 => (intro w _; go_simp; try with_reducible rfl)
          try simp only [Act.put, List.setIfInBounds_toArray, List.set_cons_zero, List.set_cons_succ]
          refine wpAnyH_take (i := 3) (oi := ⟨some 32, _, _, _, _, _⟩) (v := ?_) rfl (by kernel_rfl) (by kernel_rfl) (by kernel_rfl) (fun _ _ _ h => h) (Or.inl ⟨rfl, ?_⟩) trivial ?_
          case refine_2 => (intro w _; go_simp; try with_reducible rfl)
          try simp only [Act.put, List.setIfInBounds_toArray, List.set_cons_zero, List.set_cons_succ]
          refine wpAnyH_take (i := 4) (oi := ⟨some 33, _, _, _, _, _⟩) (v := ?_) rfl (by kernel_rfl) (by kernel_rfl) (by kernel_rfl) (fun _ _ _ h => h) (Or.inl ⟨rfl, ?_⟩) trivial ?_
          case refine_2 => (intro w _; go_simp; try with_reducible rfl)
          try simp only [Act.put, List.setIfInBounds_toArray, List.set_cons_zero, List.set_cons_succ]
          refine wpAnyH_take (i := 5) (oi := ⟨some 34, _, _, _, _, _⟩) (v := ?_) rfl (by kernel_rfl) (by kernel_rfl) (by kernel_rfl) (fun _ _ _ h => h) (Or.inl ⟨rfl, ?_⟩) trivial ?_
          case refine_2 => (intro w _; go_simp; try with_reducible rfl)
          try simp only [Act.put, List.setIfInBounds_toArray, List.set_cons_zero, List.set_cons_succ]
          refine wpAnyH_take (i := 8) (oi := ⟨some 37, _, _, _, _, _⟩) (v := ?_) rfl (by kernel_rfl) (by kernel_rfl) (by kernel_rfl) (fun _ _ _ h => h) (Or.inl ⟨rfl, ?_⟩) trivial ?_
          case refine_2 => (intro w _; go_simp; try with_reducible rfl)
          try simp only [Act.put, List.setIfInBounds_toArray, List.set_cons_zero, List.set_cons_succ]
          refine wpAnyH_ready (rs := [2]) (by kernel_rfl) (by simp) ?_
          refine AllReadyH.cons (o := _) rfl (fun K hK => ?_) AllReadyH.nil
          rw [if_pos (by kernel_rfl)]
          refine wp_load_mid 84 _ rfl (w.heap.size + 1 + 1) 0 rfl (valV U).toList _ hra2 Try.underlying84 rfl (hszv U) ?_
          simp only [Array.toArray_toList]
          refine hK.out _ _ trivial (fun _ => ?_)
          clear hK K hra2
          simp only [Act.put, List.setIfInBounds_toArray, List.set_cons_zero, List.set_cons_succ]
          refine wpAnyH_ready (rs := [6]) (by kernel_rfl) (by simp) ?_
          refine AllReadyH.cons (o := _) rfl (fun K hK => ?_) AllReadyH.nil
          go_simp
          refine (HCh.out _).mono ?_
          rintro e w3 ⟨rfl, hb3⟩
          have hb13 : Below wr.heap.size wr w3 := sbtr (by exact (hb12.drew)) hb3
          refine hK.out _ _ trivial (fun _ => ?_)
          clear hK K hb12 hb2 hb1 hb3 HCh
          refine wpAnyH_take (i := 7) (oi := ⟨some 36, _, _, _, _, _⟩) (v := ?_) rfl (by kernel_rfl) (by kernel_rfl) (by kernel_rfl) (fun _ _ _ h => h) (Or.inl ⟨rfl, ?_⟩) trivial ?_
          case refine_2 => (intro w _; go_simp; try with_reducible rfl)
          try simp only [Act.put, List.setIfInBounds_toArray, List.set_cons_zero, List.set_cons_succ]
          refine wpAnyH_take (i := 9) (oi := ⟨some 38, _, _, _, _, _⟩) (v := ?_) rfl (by kernel_rfl) (by kernel_rfl) (by kernel_rfl) (fun _ _ _ h => h) (Or.inl ⟨rfl, ?_⟩) trivial ?_
          case refine_2 => (intro w _; go_simp; try with_reducible rfl)
          try simp only [Act.put, List.setIfInBounds_toArray, List.set_cons_zero, List.set_cons_succ]
          have hU3 := hU'.out.later hb13
          obtain ⟨v0, l0⟩ : ∃ v, CellIs w3 ⟨w.heap.size + 1 + 1, c * 2 + q, none⟩ v := ⟨_, hU3 (c * 2 + q) (by omega)⟩
          obtain ⟨l0, f0⟩ := l0
          have hend := HR.out w3 (hT'.out.later hb13) (hO'.out.later hb13) hU3 (sbtr hB hb13)
          replace hend := Sec.mk hend
          clear HR hT' hO' hU' hU3 hb13 hB hszv
          refine wpAnyH_ready (rs := [10]) (by kernel_rfl) (by simp) ?_
          refine AllReadyH.cons (o := _) rfl (fun K hK => ?_) AllReadyH.nil
          go_simp
          refine hK.out _ _ trivial (fun _ => ?_)
          clear hK K
          refine wpAnyH_done (by kernel_rfl) ?_ _
          go_wp2_with fail
          exact ⟨⟨q + 1, by first | rfl | go_num, by omega, hend.out⟩, by simp only [intOf]; omega⟩
        · go_wp2_with fail
          exact ⟨⟨c - 1, rfl, by omega, by omega, hJ.weak (fun b y _ _ hy h => by omega)⟩, by simp only [intOf]; omega⟩
    · obtain ⟨hTab, hOut, ⟨U, hU, hUb, hUv⟩, hB⟩ := hI
      have hra := hU.range
      have hth := hOut.there U
      have h1c := val_one U
      have hsu := hszv U
      have hsi : (Try.prog.info? 84).map (·.size) = some (valV U).size := by rw [val_size]; exact info_val
      have hend := Sec.mk hUv
      have hUb' := Sec.mk hUb
      clear hUv hUb hszv HF HBd HFb
      go_wp2_with (first
        | (refine wpList_load_mid (by rfl) 84 (.tmp 5) (by rfl) (w.heap.size + 1 + 1) 0 (by rfl) (valV U).toList _ hra Try.underlying84 rfl hsu ?_; simp only [Array.toArray_toList])
        | (refine wpList_store_mid (by rfl) 84 (.tmp 4) (.tmp 39) (by rfl) (w.heap.size + 1) 0 (valV U) (by rfl) (by rfl) hth hsi h1c ?_))
      exact bodyPost_ret (results_val rfl rfl (hOut.stored U)) rfl ⟨⟨U, rfl, hUb'.out, fun b q h1 h2 h3 => hend.out b q h1 h2 h3 (by omega)⟩, below_setCells _ (by omega) _ _ _ hB⟩
/-- A row of a row of values. -/
theorem index_val38 (V : Nat → Int) (b : Nat) (w : World) (h : b < 38) : (Instr.index 84 (.agg (valV V)) (.int .i64 (b : Int))).run Try.prog w = .ok (.agg #[.int .i64 (V (b * 2)), .int .i64 (V (b * 2 + 1))]) w := by
  have hb : (b : Int) < 38 := by omega
  have e1 : ∀ k, k < 76 → (valV V).toList[k]? = some (Value.int .i64 (V k)) := fun k hk => by rw [Array.getElem?_toList]; exact val_cells V k hk
  simp [Instr.index, asIntOf, run_underlying Try.underlying84, go_sem]
  rw [if_pos h]
  congr 2
  apply Array.ext_getElem?
  intro i
  rw [Array.getElem?_extract]
  have hsz := val_size V
  match i with
  | 0 => rw [if_pos (by omega), Nat.add_zero, val_cells V _ (by omega)]; rfl
  | 1 => rw [if_pos (by omega), val_cells V _ (by omega)]; rfl
  | i + 2 => rw [if_neg (by omega)]; rfl
theorem index_val20 (x y : Value) (w : World) : (Instr.index 83 (.agg #[x, y]) (.int .i64 0)).run Try.prog w = .ok x w := by
  simp [Instr.index, asIntOf, run_underlying Try.underlying83, go_sem]
theorem index_val21 (x y : Value) (w : World) : (Instr.index 83 (.agg #[x, y]) (.int .i64 1)).run Try.prog w = .ok y w := by
  simp [Instr.index, asIntOf, run_underlying Try.underlying83, go_sem]
set_option maxHeartbeats 2000000 in
theorem rValue_wrong (T : Nat → Int) (u b s : Int) (w : World) (h : wrongT T u b s = true) : Calls Try.prog 29 #[.agg (tabV T), .int .i64 u, .int .i64 b, .int .i64 s] w fun e w' =>
    e = .returned (.tuple #[.int .i64 0, .int .i64 2]) ∧ Below w.heap.size w w' := by
  have HR := Sec.mk fun w' => rFinal_wrong T u b s w' h
  have hsz : (Try.prog.info? 63).map (·.size) = some (tabV T).toList.length := by kernel_rfl
  have hra := rtab_hra w T 63
  unfold noneV at HR
  clear h
  go_enter Try.func29, Try.ntmps29
  go_wp2_with (refine wpList_load_mid (by rfl) 63 (.tmp 4) (by rfl) w.heap.size 0 (by rfl) (tabV T).toList _ hra Try.underlying63 rfl hsz ?_; simp only [Array.toArray_toList])
  refine (HR.out _).mono ?_
  rintro e w1 ⟨rfl, hb1⟩
  have hB := sbtr (sst1 _ _) hb1
  clear hra hb1 HR
  go_wp2_with fail
  go_ret2
  exact ⟨rfl, sbtr hB (sst1 _ _)⟩
set_option maxHeartbeats 2000000 in
theorem rValue_ok (T : Nat → Int) (u : Int) (b s : Nat) (w : World) (hT : rightT T = true) (hu : 0 ≤ u ∧ u ≤ 3) (hb : 3 ≤ b ∧ b ≤ 37) (hs : s ≤ 1) : Calls Try.prog 29 #[.agg (tabV T), .int .i64 u, .int .i64 b, .int .i64 s] w fun e w' =>
    e = .returned (.tuple #[.int .i64 (ansZ (finalZ T u) b s).2, .int .i64 0]) ∧ Below w.heap.size w w' := by
  have HR := Sec.mk fun w' => rFinal_ok T u b s w' hT hu hb hs
  have HV := Sec.mk fun w' => rValues_ok T u w' hT hu
  have hsz : (Try.prog.info? 63).map (·.size) = some (tabV T).toList.length := by kernel_rfl
  have hra := rtab_hra w T 63
  unfold outV at HR
  generalize riskZ T b s = z1 at *
  generalize bestS T (den b) s = z2 at *
  generalize bestN T (den b) s = z3 at *
  generalize lev b = z4 at *
  generalize den b = z5 at *
  generalize finalZ T u b s = z6 at *
  go_enter Try.func29, Try.ntmps29
  go_wp2_with (refine wpList_load_mid (by rfl) 63 (.tmp 4) (by rfl) w.heap.size 0 (by rfl) (tabV T).toList _ hra Try.underlying63 rfl hsz ?_; simp only [Array.toArray_toList])
  obtain ⟨W, g, eW, eg, hTW, hB⟩ := rtab_box w T 63
  rw [← eW, ← eg]
  clear eW eg hra
  refine (HR.out _).mono ?_
  rintro e w1 ⟨rfl, hb1⟩
  obtain ⟨W2, e2, hb2⟩ : ∃ W2, W2 = w1.alloc (.cells #[.int .u8 z4, .int .u8 z5, .int .u8 z1, .int .u8 z2, .int .i64 z3, .int .i64 0] 30) ∧ Below w1.heap.size w1 W2 := ⟨_, rfl, sst1 _ _⟩
  have hb12 := sbtr hb1 hb2
  have hra2 := (hTW.later hb12).range
  rw [e2] at hra2
  have hB2 := sbtr hB hb12
  clear HR hTW hb1 hb2 hb12 hB
  go_wp2_with (refine wpList_load_mid (by rfl) 63 (.tmp 4) (by rfl) g 0 (by rfl) (tabV T).toList _ hra2 Try.underlying63 rfl hsz ?_; simp only [Array.toArray_toList])
  clear hra2
  rw [← e2]
  clear e2
  refine (HV.out _).mono ?_
  rintro e w3 ⟨⟨V, rfl, -, hv⟩, hb3⟩
  have hB3 := sbtr hB2 hb3
  have hi1 := fun w => index_val38 V b w (by omega)
  have hi2 := index_val20
  have hi3 := index_val21
  have hvv := hv b s hb.1 hb.2 hs
  replace hvv := Sec.mk hvv
  clear HV hv hb3 hB2 hb
  have hs2 : s = 0 ∨ s = 1 := by omega
  rcases hs2 with rfl | rfl
  · go_wp2_with fail
    go_ret2
    exact ⟨by rw [← hvv.out]; rfl, hB3⟩
  · go_wp2_with fail
    go_ret2
    exact ⟨by rw [← hvv.out]; rfl, hB3⟩
end Go.Proofs.Ytfacmkelbjfffaa
