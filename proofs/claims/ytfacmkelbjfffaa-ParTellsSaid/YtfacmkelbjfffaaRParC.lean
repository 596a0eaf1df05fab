/- finesseref18: choose. -/
import Derived.Test.YtfacmkelbjfffaaRParB
namespace Go.Proofs.Ytfacmkelbjfffaa
open Go.RowKit
set_option linter.unusedVariables false
set_option linter.unusedSimpArgs false
set_option maxRecDepth 100000

/-- The cells of 38 pairs of values. -/
def valV (V : Nat → Int) : Array Value := ((List.range 76).map fun k => Value.int .i64 (V k)).toArray
theorem val_size (V : Nat → Int) : (valV V).size = 76 := by simp [valV]
theorem val_cells (V : Nat → Int) (k : Nat) (h : k < 76) : (valV V)[k]? = some (.int .i64 (V k)) := by simp [valV, h]
theorem val_len (V : Nat → Int) : (valV V).toList.length = 76 := by simp [valV]
theorem val_one (V : Nat → Int) : (valV V).all (·.oneCell') = true := by simp [valV, Value.oneCell']
theorem info_val : (Try.prog.info? 84).map (·.size) = some 76 := by kernel_rfl
/-- Values lie in block g. -/
def ValAt (W : World) (g : Nat) (V : Nat → Int) : Prop := ∀ k, k < 76 → CellIs W ⟨g, k, none⟩ (.int .i64 (V k))
theorem ValAt.later {W W' : World} {g : Nat} {V : Nat → Int} (h : ValAt W g V) (hb : Below W.heap.size W W') : ValAt W' g V := fun k hk => cellIs_later hb (h k hk)
theorem ValAt.range {W : World} {g : Nat} {V : Nat → Int} (h : ValAt W g V) : W.rangeAt g 0 (valV V).toList := fun j v hv => by
  have hj : j < 76 := by have := (List.getElem?_eq_some_iff.1 hv).1; rwa [val_len] at this
  have e := val_cells V j hj
  rw [Array.getElem?_toList] at hv
  rw [e] at hv
  cases hv
  rw [Nat.zero_add]; exact (h j hj).1
theorem val_new (W : World) (V : Nat → Int) (t : TypeId) : ValAt (W.alloc (.cells (valV V) t)) W.heap.size V := fun k hk => cellIs_row W (valV V) t k _ (val_cells V k hk)
theorem val_box (W : World) (V : Nat → Int) (t : TypeId) : ∃ W' g, W' = W.alloc (.cells (valV V) t) ∧ g = W.heap.size ∧ ValAt W' g V ∧ Below W.heap.size W W' := ⟨_, _, rfl, rfl, val_new W V t, sst1 _ _⟩
theorem val_same {U V : Nat → Int} (e : ∀ k, k < 76 → U k = V k) : valV U = valV V := by
  unfold valV
  congr 1
  exact List.map_congr_left fun k hk => by rw [e k (List.mem_range.1 hk)]
/-- The bids above one and below c. -/
def aboveTo (b c : Nat) : List Nat := List.range' (max (b + 1) 3) (c - max (b + 1) 3)
theorem aboveTo_end (b : Nat) : aboveTo b 38 = aboveL b := rfl
theorem aboveTo_start (b : Nat) : aboveTo b 3 = [] := by unfold aboveTo; rw [show 3 - max (b + 1) 3 = 0 by omega]; rfl
theorem aboveTo_keep (b c : Nat) (h : c ≤ b) : aboveTo b (c + 1) = aboveTo b c := by unfold aboveTo; rw [show c + 1 - max (b + 1) 3 = 0 by omega, show c - max (b + 1) 3 = 0 by omega]
theorem aboveTo_snoc (b c : Nat) (h : b < c) (h3 : 3 ≤ c) : aboveTo b (c + 1) = aboveTo b c ++ [c] := by
  unfold aboveTo
  rw [show c + 1 - max (b + 1) 3 = (c - max (b + 1) 3) + 1 by omega, List.range'_concat]
  congr 2
  omega
/-- The values that lie in a row of cells. -/
def valA (V : Nat → Int) (x q : Nat) : Int := V (x * 2 + q)
def foldTo (V : Nat → Int) (s b c : Nat) (p : Int) : Nat × Int := (aboveTo b c).foldl (chStep (valA V) s) (0, p)
theorem foldTo_bd (V : Nat → Int) (s b c : Nat) (p : Int) (hs : s ≤ 1) (hc : c ≤ 38) (hp : -1000000 ≤ p ∧ p ≤ 1000000) (hV : ∀ k, k < 76 → -1000000 ≤ V k ∧ V k ≤ 1000000) : -1000000 ≤ (foldTo V s b c p).2 ∧ (foldTo V s b c p).2 ≤ 1000000 := by
  unfold foldTo
  have hm : ∀ x ∈ aboveTo b c, x ≤ 37 := fun x hx => by
    unfold aboveTo at hx
    have := List.mem_range'_1.1 hx
    omega
  generalize aboveTo b c = l at *
  have : ∀ (l : List Nat) (o : Nat × Int), (∀ x ∈ l, x ≤ 37) → (-1000000 ≤ o.2 ∧ o.2 ≤ 1000000) → -1000000 ≤ (l.foldl (chStep (valA V) s) o).2 ∧ (l.foldl (chStep (valA V) s) o).2 ≤ 1000000 := by
    intro l
    induction l with
    | nil => exact fun o _ h => h
    | cons x l ih =>
      intro o hl ho
      refine ih _ (fun y hy => hl y (List.mem_cons_of_mem _ hy)) ?_
      have hx := hl x (List.mem_cons_self ..)
      have := hV (x * 2 + (1 - s)) (by omega)
      unfold chStep
      split
      · exact this
      · exact ho
  exact this l (0, p) hm hp
theorem foldTo_start (V : Nat → Int) (s b : Nat) (p : Int) : foldTo V s b 3 p = (0, p) := by unfold foldTo; rw [aboveTo_start]; rfl
theorem foldTo_keep (V : Nat → Int) (s b c : Nat) (p : Int) (h : c ≤ b) : foldTo V s b (c + 1) p = foldTo V s b c p := by unfold foldTo; rw [aboveTo_keep _ _ h]
theorem foldTo_snoc (V : Nat → Int) (s b c : Nat) (p : Int) (h : b < c) (h3 : 3 ≤ c) : foldTo V s b (c + 1) p = chStep (valA V) s (foldTo V s b c p) c := by unfold foldTo; rw [aboveTo_snoc _ _ h h3]; simp
theorem foldTo_end (V : Nat → Int) (s b : Nat) (p : Int) : foldTo V s b 38 p = chooseC (valA V) s b p := rfl
theorem cho_start (w : World) (V : Nat → Int) (p : Int) (t t2 t3 : TypeId) : ∃ W g, W = ((w.alloc (.cells (valV V) t)).alloc (.cells #[.int .i64 0, .int .i64 0] t2)).alloc (.cells #[.int .i64 0, .int .i64 p] t3) ∧ g = w.heap.size ∧ ValAt W g V ∧
    (∃ x y, CellIs W ⟨g + 1, 0, none⟩ x ∧ CellIs W ⟨g + 1, 1, none⟩ y) ∧ (CellIs W ⟨g + 1 + 1, 0, none⟩ (.int .i64 0) ∧ CellIs W ⟨g + 1 + 1, 1, none⟩ (.int .i64 p)) ∧ Below w.heap.size w W := by
  refine ⟨_, _, rfl, rfl, ((val_new w V t).later (sst1 _ _)).later (sst1 _ _), ⟨.int .i64 0, .int .i64 0, ?_, ?_⟩, ⟨?_, ?_⟩, sbtr (sbtr (sst1 _ _) (sst1 _ _)) (sst1 _ _)⟩
  · have h := cellIs_row (w.alloc (.cells (valV V) t)) #[.int .i64 0, .int .i64 0] t2 0 _ rfl
    rw [World.size_alloc] at h
    exact cellIs_later (sst1 _ _) h
  · have h := cellIs_row (w.alloc (.cells (valV V) t)) #[.int .i64 0, .int .i64 0] t2 1 _ rfl
    rw [World.size_alloc] at h
    exact cellIs_later (sst1 _ _) h
  · have h := cellIs_row ((w.alloc (.cells (valV V) t)).alloc (.cells #[.int .i64 0, .int .i64 0] t2)) #[.int .i64 0, .int .i64 p] t3 0 _ rfl
    rw [World.size_alloc, World.size_alloc] at h
    exact h
  · have h := cellIs_row ((w.alloc (.cells (valV V) t)).alloc (.cells #[.int .i64 0, .int .i64 0] t2)) #[.int .i64 0, .int .i64 p] t3 1 _ rfl
    rw [World.size_alloc, World.size_alloc] at h
    exact h
def ChoRel (w : World) (g : Nat) (V : Nat → Int) (s b : Nat) (p : Int) (i : Value) (wr : World) : Prop :=
  ∃ c : Nat, i = .int .i64 c ∧ 3 ≤ c ∧ c ≤ 38 ∧ ValAt wr g V ∧ (∃ x y, CellIs wr ⟨g + 1, 0, none⟩ x ∧ CellIs wr ⟨g + 1, 1, none⟩ y) ∧ CellIs wr ⟨g + 1 + 1, 0, none⟩ (.int .i64 (foldTo V s b c p).1) ∧ CellIs wr ⟨g + 1 + 1, 1, none⟩ (.int .i64 (foldTo V s b c p).2) ∧ Below w.heap.size w wr
set_option maxHeartbeats 2000000 in
theorem rChoose_ok (V : Nat → Int) (s b : Nat) (p : Int) (w : World) (hs : s ≤ 1) (hb : b ≤ 37) (hp : -1000000 ≤ p ∧ p ≤ 1000000) (hV : ∀ k, k < 76 → -1000000 ≤ V k ∧ V k ≤ 1000000) :
    Calls Try.prog 39 #[.agg (valV V), .int .i64 s, .int .i64 b, .int .i64 p] w fun e w' => e = .returned (.agg #[.int .i64 (chooseC (valA V) s b p).1, .int .i64 (chooseC (valA V) s b p).2]) ∧ Below w.heap.size w w' := by
  have HW := Sec.mk fun p w' hp => rWorth_ok p s w' hs hp
  have HV := Sec.mk hV
  have HP := Sec.mk hp
  clear hV hp
  rcases (by omega : s = 0 ∨ s = 1) with rfl | rfl
  · go_enter Try.func39, Try.ntmps39
    go_wp2_with fail
    obtain ⟨W, g, eW, eg, hV0, h8, h9, hB0⟩ := cho_start w V p 84 87 87
    rw [← eW, ← eg]
    have hgw : w.heap.size ≤ g := by omega
    clear eW eg
    go_loopw [10] (fun i wr => ChoRel w g V 0 b p i wr) (fun i _ => 38 - (intOf i).toNat)
    case atStart => exact ⟨3, rfl, by omega, by omega, hV0, h8, by rw [foldTo_start]; exact h9.1, by rw [foldTo_start]; exact h9.2, hB0⟩
    case round =>
      obtain ⟨c, rfl, hc3, hc8, hVr, h8, h9, h9', hB⟩ := hrel
      have hfb := foldTo_bd V 0 b c p (by omega) hc8 HP.out HV.out
      have c0 : (0 : Int) ≤ (c : Int) := by omega
      by_cases hlt : c ≤ 37
      · have c1 : (c : Int) < 38 := by omega
        have hv := HV.out (c * 2 + 1) (by omega)
        have hvc := (hVr (c * 2 + 1) (by omega)).1
        have hA : valA V c 1 = V (c * 2 + 1) := rfl
        by_cases hbc : b < c
        · have hst := foldTo_snoc V 0 b c p hbc hc3
          have hbc' : decide (b < c) = true := by simp; omega
          generalize foldTo V 0 b c p = o at *
          generalize hX : V (c * 2 + 1) = x at *
          have HW1 := Sec.mk fun w' => HW.out x w' hv
          have HW2 := Sec.mk fun w' => HW.out o.2 w' hfb
          replace hst := Sec.mk hst
          replace hVr := Sec.mk hVr
          replace hX := Sec.mk hX
          replace hA := Sec.mk hA
          have h9s := Sec.mk h9
          have h9s' := Sec.mk h9'
          obtain ⟨j9, f9⟩ := h9
          obtain ⟨j9', f9'⟩ := h9'
          simp only [Nat.zero_ne_one, if_false] at HW1 HW2
          clear HW hfb hv hbc
          go_wp2_with fail
          go_quiet (first | (go_at_call 46; first | exact Calls.quiet_of_same (HW1.out _) | exact Calls.quiet_of_same (HW2.out _)))
          by_cases hbet : o.2 < x
          · have hs2 : chStep (valA V) 0 o c = (c, x) := by unfold chStep betB; rw [show 1 - 0 = 1 from rfl, hA.out]; simp [hbet]
            go_wp2_with fail
            exact ⟨⟨c + 1, by first | rfl | go_num, by omega, by omega, fun k hk => cellIs_far (cellIs_far (hVr.out k hk) _ (by simp only [ne_eq, Addr.mk.injEq]; omega)) _ (by simp only [ne_eq, Addr.mk.injEq]; omega), (let ⟨y0, y1, z0, z1⟩ := h8; ⟨y0, y1, cellIs_far (cellIs_far z0 _ (by simp)) _ (by simp), cellIs_far (cellIs_far z1 _ (by simp)) _ (by simp)⟩), by rw [hst.out, hs2]; exact cellIs_far (cellIs_set h9s.out _) _ (by simp), by rw [hst.out, hs2]; exact cellIs_set (cellIs_far h9s'.out _ (by simp)) _, ((sc_drewN hB _).setCell (p := ⟨g + 1 + 1, 0, none⟩) (by simp; omega) _).setCell (p := ⟨g + 1 + 1, 1, none⟩) (by simp; omega) _⟩, by simp only [intOf]; omega⟩
          · have hs2 : chStep (valA V) 0 o c = o := by unfold chStep betB; rw [show 1 - 0 = 1 from rfl, hA.out]; simp [hbet]
            go_wp2_with fail
            exact ⟨⟨c + 1, by first | rfl | go_num, by omega, by omega, fun k hk => hVr.out k hk, h8, by rw [hst.out, hs2]; exact h9s.out, by rw [hst.out, hs2]; exact h9s'.out, sc_drewN hB _⟩, by simp only [intOf]; omega⟩
        · have hst := foldTo_keep V 0 b c p (by omega)
          have hbc' : decide (b < c) = false := by simp; omega
          replace hst := Sec.mk hst
          replace hVr := Sec.mk hVr
          have h9s := Sec.mk h9
          have h9s' := Sec.mk h9'
          clear HW hfb hv hA h9 h9' hvc
          go_wp2_with fail
          go_quiet (fail)
          go_wp2_with fail
          exact ⟨⟨c + 1, by first | rfl | go_num, by omega, by omega, fun k hk => hVr.out k hk, h8, by rw [hst.out]; exact h9s.out, by rw [hst.out]; exact h9s'.out, sc_drewN hB _⟩, by simp only [intOf]; omega⟩
      · have hc : c = 38 := by omega
        subst hc
        rw [foldTo_end] at h9 h9'
        clear hfb HW hlt c0 hVr
        obtain ⟨y0, y1, ⟨z0, e0⟩, z1, e1⟩ := h8
        obtain ⟨j9, f9⟩ := h9
        obtain ⟨j9', f9'⟩ := h9'
        generalize hO : chooseC (valA V) _ b p = o at *
        replace hO := Sec.mk hO
        go_wp2_with fail
        exact bodyPost_ret (v := .agg #[.int .i64 o.1, .int .i64 o.2]) (by simp [results, Try.results39, go_sem, z0, z1]) rfl ⟨by rw [hO.out], (hB.setCell (p := ⟨g + 1, 0, none⟩) (by simp; omega) _).setCell (p := ⟨g + 1, 1, none⟩) (by simp; omega) _⟩
  · go_enter Try.func39, Try.ntmps39
    go_wp2_with fail
    obtain ⟨W, g, eW, eg, hV0, h8, h9, hB0⟩ := cho_start w V p 84 87 87
    rw [← eW, ← eg]
    have hgw : w.heap.size ≤ g := by omega
    clear eW eg
    go_loopw [10] (fun i wr => ChoRel w g V 1 b p i wr) (fun i _ => 38 - (intOf i).toNat)
    case atStart => exact ⟨3, rfl, by omega, by omega, hV0, h8, by rw [foldTo_start]; exact h9.1, by rw [foldTo_start]; exact h9.2, hB0⟩
    case round =>
      obtain ⟨c, rfl, hc3, hc8, hVr, h8, h9, h9', hB⟩ := hrel
      have hfb := foldTo_bd V 1 b c p (by omega) hc8 HP.out HV.out
      have c0 : (0 : Int) ≤ (c : Int) := by omega
      by_cases hlt : c ≤ 37
      · have c1 : (c : Int) < 38 := by omega
        have hv := HV.out (c * 2) (by omega)
        have hvc := (hVr (c * 2) (by omega)).1
        have hA : valA V c 0 = V (c * 2) := rfl
        by_cases hbc : b < c
        · have hst := foldTo_snoc V 1 b c p hbc hc3
          have hbc' : decide (b < c) = true := by simp; omega
          generalize foldTo V 1 b c p = o at *
          generalize hX : V (c * 2) = x at *
          have HW1 := Sec.mk fun w' => HW.out x w' hv
          have HW2 := Sec.mk fun w' => HW.out o.2 w' hfb
          replace hst := Sec.mk hst
          replace hVr := Sec.mk hVr
          replace hX := Sec.mk hX
          replace hA := Sec.mk hA
          have h9s := Sec.mk h9
          have h9s' := Sec.mk h9'
          obtain ⟨j9, f9⟩ := h9
          obtain ⟨j9', f9'⟩ := h9'
          simp only [if_true] at HW1 HW2
          clear HW hfb hv hbc
          go_wp2_with fail
          go_quiet (first | (go_at_call 46; first | exact Calls.quiet_of_same (HW1.out _) | exact Calls.quiet_of_same (HW2.out _)))
          by_cases hbet : x < o.2
          · have hs2 : chStep (valA V) 1 o c = (c, x) := by unfold chStep betB; rw [show 1 - 1 = 0 from rfl, hA.out]; simp [hbet]
            go_wp2_with fail
            exact ⟨⟨c + 1, by first | rfl | go_num, by omega, by omega, fun k hk => cellIs_far (cellIs_far (hVr.out k hk) _ (by simp only [ne_eq, Addr.mk.injEq]; omega)) _ (by simp only [ne_eq, Addr.mk.injEq]; omega), (let ⟨y0, y1, z0, z1⟩ := h8; ⟨y0, y1, cellIs_far (cellIs_far z0 _ (by simp)) _ (by simp), cellIs_far (cellIs_far z1 _ (by simp)) _ (by simp)⟩), by rw [hst.out, hs2]; exact cellIs_far (cellIs_set h9s.out _) _ (by simp), by rw [hst.out, hs2]; exact cellIs_set (cellIs_far h9s'.out _ (by simp)) _, ((sc_drewN hB _).setCell (p := ⟨g + 1 + 1, 0, none⟩) (by simp; omega) _).setCell (p := ⟨g + 1 + 1, 1, none⟩) (by simp; omega) _⟩, by simp only [intOf]; omega⟩
          · have hs2 : chStep (valA V) 1 o c = o := by unfold chStep betB; rw [show 1 - 1 = 0 from rfl, hA.out]; simp [hbet]
            go_wp2_with fail
            exact ⟨⟨c + 1, by first | rfl | go_num, by omega, by omega, fun k hk => hVr.out k hk, h8, by rw [hst.out, hs2]; exact h9s.out, by rw [hst.out, hs2]; exact h9s'.out, sc_drewN hB _⟩, by simp only [intOf]; omega⟩
        · have hst := foldTo_keep V 1 b c p (by omega)
          have hbc' : decide (b < c) = false := by simp; omega
          replace hst := Sec.mk hst
          replace hVr := Sec.mk hVr
          have h9s := Sec.mk h9
          have h9s' := Sec.mk h9'
          clear HW hfb hv hA h9 h9' hvc
          go_wp2_with fail
          go_quiet (fail)
          go_wp2_with fail
          exact ⟨⟨c + 1, by first | rfl | go_num, by omega, by omega, fun k hk => hVr.out k hk, h8, by rw [hst.out]; exact h9s.out, by rw [hst.out]; exact h9s'.out, sc_drewN hB _⟩, by simp only [intOf]; omega⟩
      · have hc : c = 38 := by omega
        subst hc
        rw [foldTo_end] at h9 h9'
        clear hfb HW hlt c0 hVr
        obtain ⟨y0, y1, ⟨z0, e0⟩, z1, e1⟩ := h8
        obtain ⟨j9, f9⟩ := h9
        obtain ⟨j9', f9'⟩ := h9'
        generalize hO : chooseC (valA V) _ b p = o at *
        replace hO := Sec.mk hO
        go_wp2_with fail
        exact bodyPost_ret (v := .agg #[.int .i64 o.1, .int .i64 o.2]) (by simp [results, Try.results39, go_sem, z0, z1]) rfl ⟨by rw [hO.out], (hB.setCell (p := ⟨g + 1, 0, none⟩) (by simp; omega) _).setCell (p := ⟨g + 1, 1, none⟩) (by simp; omega) _⟩
end Go.Proofs.Ytfacmkelbjfffaa
