/- par: solve. -/
import Derived.Test.YtfacmkelbjfffaaParE
namespace Go.Proofs.Ytfacmkelbjfffaa
open Go.RowKit
set_option linter.unusedVariables false
set_option linter.unusedSimpArgs false

/-- The best of the last n bids for side q, over o. -/
def bestC (F : Nat → Nat → Int) : Nat → Nat → Nat × Int → Nat × Int
  | 0, _, o => o
  | n + 1, q, o => bestC F n q (if betB q (bestC F n (1 - q) (0, F (37 - n) q)).2 o.2 then (37 - n, (bestC F n (1 - q) (0, F (37 - n) q)).2) else o)
/-- What side q does after the bid b of the other one. -/
def ansZ (F : Nat → Nat → Int) (b q : Nat) : Nat × Int := bestC F (37 - b) q (0, F b (1 - q))
theorem fold_bestC (F : Nat → Nat → Int) (q : Nat) (hq : q ≤ 1) : ∀ (n : Nat), n ≤ 35 → ∀ o, (List.range' (38 - n) n).foldl (chStep (fun x y => (ansZ F x y).2) q) o = bestC F n q o
  | 0, _, o => rfl
  | n + 1, h, o => by
    rw [List.range'_succ, List.foldl_cons, show 38 - (n + 1) + 1 = 38 - n by omega, fold_bestC F q hq n (by omega)]
    have e1 : 38 - (n + 1) = 37 - n := by omega
    have e2 : 37 - (37 - n) = n := by omega
    have e3 : 1 - (1 - q) = q := by omega
    unfold chStep ansZ
    simp only [e1, e2, e3]
    rfl
theorem chooseC_ans (F : Nat → Nat → Int) (q b : Nat) (p : Int) (hq : q ≤ 1) (hb : 3 ≤ b ∧ b ≤ 37) : chooseC (fun x y => (ansZ F x y).2) q b p = bestC F (37 - b) q (0, p) := by
  unfold chooseC aboveL
  rw [← fold_bestC F q hq (37 - b) (by omega), show max (b + 1) 3 = 38 - (37 - b) by omega, show 38 - (38 - (37 - b)) = 37 - b by omega]
theorem chooseC_first (F : Nat → Nat → Int) (q : Nat) (p : Int) (hq : q ≤ 1) : chooseC (fun x y => (ansZ F x y).2) q 0 p = bestC F 35 q (0, p) := by
  unfold chooseC aboveL
  rw [← fold_bestC F q hq 35 (by omega)]
  rfl
theorem chooseC_same (A B : Nat → Nat → Int) (q b : Nat) (p : Int) (hq : q ≤ 1) (h : ∀ x, b < x → 3 ≤ x → x ≤ 37 → ∀ y, y ≤ 1 → A x y = B x y) : chooseC A q b p = chooseC B q b p := by
  unfold chooseC
  have hm : ∀ x ∈ aboveL b, b < x ∧ 3 ≤ x ∧ x ≤ 37 := fun x hx => by
    unfold aboveL at hx
    have := List.mem_range'_1.1 hx
    omega
  generalize aboveL b = l at *
  generalize ((0, p) : Nat × Int) = o
  induction l generalizing o with
  | nil => rfl
  | cons x l ih =>
    rw [List.foldl_cons, List.foldl_cons, ih (fun y hy => hm y (List.mem_cons_of_mem _ hy))]
    have hx := hm x (List.mem_cons_self ..)
    unfold chStep
    rw [h x hx.1 hx.2.1 hx.2.2 (1 - q) (by omega)]

set_option maxRecDepth 100000
/-- The cells of no answers. -/
def zer : Array Value := (List.replicate 76 [Value.int .u8 0, Value.int .i64 0]).flatten.toArray
theorem zero_ans (w : World) : (zeroValue 75).run Try.prog w = .ok (.agg zer) w := by
  have h : (Try.prog.info? 75).map (·.zero) = some (some (.agg zer)) := by kernel_rfl
  obtain ⟨i, hi, hz⟩ := Option.map_eq_some_iff.1 h
  simp [zeroValue, typeInfo, Sem.run_bind, run_program, Result.andThen, hi, hz]
theorem zer_size : zer.size = 152 := by kernel_rfl
theorem zer_at (k : Nat) (h : k < 152) : ∃ v, zer[k]? = some v := ⟨_, Array.getElem?_eq_getElem (by rw [zer_size]; exact h)⟩
theorem cellIs_later {W W' : World} {a : Addr} {v : Value} (hb : Below W.heap.size W W') (h : CellIs W a v) : CellIs W' a v :=
  ⟨sc_later hb h.1, (World.frozen?_of_block (hb.block _ (World.block_lt_of_cell? _ _ h.1))).trans h.2⟩
theorem cellIs_row (W : World) (c : Array Value) (t : TypeId) (k : Nat) (v : Value) (h : c[k]? = some v) : CellIs (W.alloc (.cells c t)) ⟨W.heap.size, k, none⟩ v :=
  ⟨(cell_of_row _ _ _ _ _ _ (heap_alloc_new W _)).trans h, by have e := heap_alloc_new W (.cells c t); simp only [World.frozen?, e]; simp⟩
structure SolI (w : World) (T : Nat → Int) (u : Int) (done : Nat → Nat → Prop) (W : World) : Prop where
  tab : ∀ k, k < 20 → W.cell? ⟨w.heap.size, k, none⟩ = some (.int .i64 (T k))
  lie : ∀ k, k < 152 → ∃ v, CellIs W ⟨w.heap.size + 1, k, none⟩ v
  ans : ∀ b q, 3 ≤ b → b ≤ 37 → q ≤ 1 → done b q → CellIs W ⟨w.heap.size + 1, b * 4 + q * 2, none⟩ (.int .u8 (ansZ (finalZ T u) b q).1) ∧ CellIs W ⟨w.heap.size + 1, b * 4 + q * 2 + 1, none⟩ (.int .i64 (ansZ (finalZ T u) b q).2)
  below : Below w.heap.size w W
theorem SolI.later {w : World} {T : Nat → Int} {u : Int} {done : Nat → Nat → Prop} {W W' : World} (h : SolI w T u done W) (hb : Below W.heap.size W W') : SolI w T u done W' :=
  ⟨fun k hk => sc_later hb (h.tab k hk), fun k hk => let ⟨v, hv⟩ := h.lie k hk; ⟨v, cellIs_later hb hv⟩, fun b q h1 h2 h3 h4 => ⟨cellIs_later hb (h.ans b q h1 h2 h3 h4).1, cellIs_later hb (h.ans b q h1 h2 h3 h4).2⟩, sbtr h.below hb⟩
theorem SolI.weak {w : World} {T : Nat → Int} {u : Int} {d d' : Nat → Nat → Prop} {W : World} (h : SolI w T u d W) (hd : ∀ b q, 3 ≤ b → b ≤ 37 → q ≤ 1 → d' b q → d b q) : SolI w T u d' W :=
  ⟨h.tab, h.lie, fun b q h1 h2 h3 h4 => h.ans b q h1 h2 h3 (hd b q h1 h2 h3 h4), h.below⟩
theorem cellIs_put {W : World} {g k j : Nat} {v x y : Value} (h : CellIs W ⟨g, j, none⟩ v) (h1 : j ≠ k) (h2 : j ≠ k + 1) : CellIs ((W.setCell ⟨g, k, none⟩ x).setCell ⟨g, k + 1, none⟩ y) ⟨g, j, none⟩ v :=
  cellIs_far (cellIs_far h _ (by simp only [ne_eq, Addr.mk.injEq]; omega)) _ (by simp only [ne_eq, Addr.mk.injEq]; omega)
theorem SolI.put {w : World} {T : Nat → Int} {u : Int} {done : Nat → Nat → Prop} {W : World} (h : SolI w T u done W) (c q : Nat) (hc : 3 ≤ c ∧ c ≤ 37) (hq : q ≤ 1) :
    SolI w T u (fun b y => done b y ∨ (b = c ∧ y = q)) ((W.setCell ⟨w.heap.size + 1, c * 4 + q * 2, none⟩ (.int .u8 (ansZ (finalZ T u) c q).1)).setCell ⟨w.heap.size + 1, c * 4 + q * 2 + 1, none⟩ (.int .i64 (ansZ (finalZ T u) c q).2)) := by
  obtain ⟨v0, l0⟩ := h.lie (c * 4 + q * 2) (by omega)
  obtain ⟨v1, l1⟩ := h.lie (c * 4 + q * 2 + 1) (by omega)
  constructor
  · intro k hk
    rw [World.cell?_setCell_other _ _ _ _ (by simp), World.cell?_setCell_other _ _ _ _ (by simp)]
    exact h.tab k hk
  · intro k hk
    obtain ⟨v, hv⟩ := h.lie k hk
    by_cases e0 : k = c * 4 + q * 2
    · rw [e0]; exact ⟨_, cellIs_far (cellIs_set l0 _) _ (by simp)⟩
    · by_cases e1 : k = c * 4 + q * 2 + 1
      · rw [e1]; exact ⟨_, cellIs_set (cellIs_far l1 _ (by simp)) _⟩
      · exact ⟨v, cellIs_put hv e0 e1⟩
  · intro b y h1 h2 h3 h4
    by_cases e : b = c ∧ y = q
    · obtain ⟨rfl, rfl⟩ := e
      exact ⟨cellIs_far (cellIs_set l0 _) _ (by simp), cellIs_set (cellIs_far l1 _ (by simp)) _⟩
    · obtain ⟨a0, a1⟩ := h.ans b y h1 h2 h3 (h4.resolve_right e)
      exact ⟨cellIs_put a0 (by omega) (by omega), cellIs_put a1 (by omega) (by omega)⟩
  · exact (h.below.setCell (p := ⟨w.heap.size + 1, c * 4 + q * 2, none⟩) (by simp) _).setCell (p := ⟨w.heap.size + 1, c * 4 + q * 2 + 1, none⟩) (by simp) _
def SolRel (w : World) (T : Nat → Int) (u : Int) (i : Value) (wr : World) : Prop := ∃ c : Nat, i = .int .u8 c ∧ 2 ≤ c ∧ c ≤ 37 ∧ SolI w T u (fun b _ => c < b) wr
def SolRel2 (w : World) (T : Nat → Int) (u : Int) (c : Nat) (i : Value) (wr : World) : Prop := ∃ q : Nat, i = .int .u8 q ∧ q ≤ 2 ∧ SolI w T u (fun b y => c < b ∨ (b = c ∧ y < q)) wr
set_option maxHeartbeats 4000000 in
theorem solve_ok (T : Nat → Int) (u : Int) (w : World) (hT : ∀ k, k < 20 → 0 ≤ T k ∧ T k ≤ 13) (hu : 0 ≤ u ∧ u ≤ 3) : Calls Try.prog 22 #[.agg (tabV T), .int .u8 u] w fun e w' =>
    e = .returned (.pointer (some ⟨w.heap.size + 1, 0, none⟩)) ∧ SolI w T u (fun _ _ => True) w' := by
  have hz := zero_ans
  have hsz : (Try.prog.info? 25).map (·.size) = some (tabV T).toList.length := by kernel_rfl
  go_enter Try.func22, Try.ntmps22
  go_wp2_with fail
  obtain ⟨W0, eW, I0⟩ : ∃ W0, W0 = (w.alloc (.cells (tabV T) 25)).alloc (.cells zer 75) ∧ SolI w T u (fun b _ => 37 < b) W0 := by
    refine ⟨_, rfl, ?_, ?_, ?_, sbtr (sst1 _ _) (sst1 _ _)⟩
    · exact fun k hk => sc_later (sst1 _ _) ((cell_of_row _ _ _ _ _ _ (heap_alloc_new w _)).trans (tab_cells T k hk))
    · intro k hk
      obtain ⟨v, hv⟩ := zer_at k hk
      have := cellIs_row (w.alloc (.cells (tabV T) 25)) zer 75 k v hv
      rw [World.size_alloc] at this
      exact ⟨v, this⟩
    · intro b q h1 h2 h3 h4; omega
  rw [← eW]
  clear eW hz
  go_loopw [6] (fun i wr => SolRel w T u i wr) (fun i _ => (intOf i).toNat)
  case atStart => exact ⟨37, rfl, by omega, by omega, I0⟩
  case round =>
    obtain ⟨c, rfl, hc1, hc2, hI⟩ := hrel
    by_cases hlt : 3 ≤ c
    · have hwc : IntKind.u8.wrap ((c : Int) - 1) = ((c - 1 : Nat) : Int) := by rw [IntWalk.u8_in _ ⟨by omega, by omega⟩]; omega
      go_wp2_with fail
      simp only [decide_eq_true (show (3 : Int) ≤ (c : Int) by omega)]
      go_loopw [14] (fun i wx => SolRel2 w T u c i wx) (fun i _ => 2 - (intOf i).toNat)
      case atStart => exact ⟨0, rfl, by omega, hI.weak (fun b q _ _ _ h => by omega)⟩
      case round =>
        obtain ⟨q, rfl, hq1, hJ⟩ := hrel
        by_cases hlq : q < 2
        · have hwq : IntKind.u8.wrap (1 - (q : Int)) = ((1 - q : Nat) : Int) := by rw [IntWalk.u8_in _ ⟨by omega, by omega⟩]; omega
          have hra := rangeAt_tab wr T w.heap.size hJ.tab
          have HF := Sec.mk fun w' => final_ok T u c (1 - q) w' hT hu ⟨hlt, hc2⟩ (by omega)
          have HP := Sec.mk fun W' (h : Below wr.heap.size wr W') => hJ.later h
          have q0 : (0 : Int) ≤ (q : Int) := by omega
          have q1 : (q : Int) < 2 := by omega
          have c0 : (0 : Int) ≤ (c : Int) := by omega
          have c1 : (c : Int) < 38 := by omega
          go_wp2_with (refine wpList_load_mid (by rfl) 25 (.tmp 2) (by rfl) w.heap.size 0 (by rfl) (tabV T).toList _ hra Try.underlying25 rfl hsz ?_; simp only [Array.toArray_toList])
          clear hra
          refine (HF.out _).mono ?_
          rintro e w1 ⟨rfl, hb1⟩
          clear HF
          have HA : Sec (chooseC (fun x y => (ansZ (finalZ T u) x y).2) q c (finalZ T u c (1 - q)) = ansZ (finalZ T u) c q) := ⟨by rw [chooseC_ans _ _ _ _ (by omega) ⟨hlt, hc2⟩]; rfl⟩
          have HC : Sec (∀ W', Below w1.heap.size w1 W' → Calls Try.prog 23 #[.pointer (some ⟨w.heap.size + 1, 0, none⟩), .int .u8 q, .int .u8 c, .agg #[.int .u8 0, .int .i64 (finalZ T u c (1 - q))]] W' fun e w' =>
              e = .returned (.agg #[.int .u8 (ansZ (finalZ T u) c q).1, .int .i64 (ansZ (finalZ T u) c q).2]) ∧ Below W'.heap.size W' w') := ⟨fun W' hW => by
            have hI' := HP.out W' (sbtr hb1 hW)
            have := choose_ok (fun x y => (ansZ (finalZ T u) x y).2) (w.heap.size + 1) q c (finalZ T u c (1 - q)) W' (by omega) (by omega) (fun x h1 h2 h3 y h4 => (hI'.ans x y h2 h3 h4 (.inl h1)).2.1)
            rw [HA.out] at this
            exact this⟩
          have HS : Sec (∀ W', Below w1.heap.size w1 W' → SolI w T u (fun b y => c < b ∨ (b = c ∧ y < q)) W') := ⟨fun W' hW => HP.out W' (sbtr hb1 hW)⟩
          have HR : Sec (∀ W', SolI w T u (fun b y => c < b ∨ (b = c ∧ y < q)) W' → SolI w T u (fun b y => c < b ∨ (b = c ∧ y < q + 1)) ((W'.setCell ⟨w.heap.size + 1, c * 4 + q * 2, none⟩ (.int .u8 (ansZ (finalZ T u) c q).1)).setCell ⟨w.heap.size + 1, c * 4 + q * 2 + 1, none⟩ (.int .i64 (ansZ (finalZ T u) c q).2))) := ⟨fun W' h => (h.put c q ⟨hlt, hc2⟩ (by omega)).weak (fun b y _ _ _ h => by omega)⟩
          clear HA HP hJ hI I0 hT hu hsz
          generalize ansZ (finalZ T u) c q = Z at *
          generalize finalZ T u c (1 - q) = V at *
          go_wp2_with fail
          obtain ⟨W2, e2, hB2⟩ : ∃ W2, W2 = w1.alloc (.cells #[.int .u8 (lev c), .int .u8 (den c), .int .u8 (riskZ T c (1 - q)), .int .u8 (bestS T (den c) (1 - q)), .int .i64 (bestN T (den c) (1 - q)), .int .i64 0] 30) ∧ Below w1.heap.size w1 W2 := ⟨_, rfl, sst1 _ _⟩
          rw [← e2]
          clear e2
          have HX : Sec (∀ w3, Below W2.heap.size W2 w3 → SolI w T u (fun b y => c < b ∨ (b = c ∧ y < q)) w3) := ⟨fun w3 h => HS.out w3 (sbtr hB2 h)⟩
          have HCX : Sec (∀ W', Below W2.heap.size W2 W' → Calls Try.prog 23 #[.pointer (some ⟨w.heap.size + 1, 0, none⟩), .int .u8 q, .int .u8 c, .agg #[.int .u8 0, .int .i64 V]] W' fun e w' =>
              e = .returned (.agg #[.int .u8 Z.1, .int .i64 Z.2]) ∧ Below W'.heap.size W' w') := ⟨fun W' h => HC.out W' (sbtr hB2 h)⟩
          clear HS HC hB2 hb1
          go_region_held3 (fun _ => True) (trivial)
            ((go_at_call 23; refine (HCX.out _ (by repeat (first | exact Below.refl _ _ | refine Below.drew ?_ | refine sc_drewN ?_ _))).mono ?_; rintro e w3 ⟨rfl, hb3⟩; have hB3 : Below W2.heap.size W2 w3 := sbtr (by repeat (first | exact Below.refl _ _ | refine Below.drew ?_ | refine sc_drewN ?_ _)) hb3; have hS3 := HX.out w3 hB3; obtain ⟨v0, l0, f0⟩ := hS3.lie (c * 4 + q * 2) (by omega); obtain ⟨v1, l1, f1⟩ := hS3.lie (c * 4 + q * 2 + 1) (by omega)))
          clear HX HCX
          have hend := HR.out _ hS3
          clear HR hS3 l0 f0 l1 f1
          go_wp2_with fail
          exact ⟨⟨q + 1, rfl, by omega, hend⟩, by simp only [intOf]; omega⟩
        · go_wp2_with fail
          exact ⟨⟨c - 1, rfl, by omega, by omega, hJ.weak (fun b y _ _ hy h => by omega)⟩, by simp only [intOf]; omega⟩
    · go_wp2_with fail
      go_ret
      exact ⟨rfl, hI.weak (fun b y h1 _ _ _ => by omega)⟩
end Go.Proofs.Ytfacmkelbjfffaa
