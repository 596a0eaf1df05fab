/- adjust: Award, mean, Mean. -/
import Derived.Test.YtojgjpegfkfnjaaDoorAdjG
import Derived.Test.YtojgjpegfkfnjaaDoorNeuC
namespace Go.Proofs.YtojgjpegfkfnjaaDoor
open Go.RowKit
set_option linter.unusedVariables false
set_option linter.unusedSimpArgs false
set_option maxRecDepth 100000

/-- An entry in block g, two pairs for the results behind it. -/
theorem aw_start (w : World) (e : En) (T : TypeId) : ∃ W g g4 g5, W = ((w.alloc (.cells (enV e) 29)).alloc (.cells #[.int .i64 0, .int .i64 0] T)).alloc (.cells #[.int .i64 0, .int .i64 0] T) ∧ g = w.heap.size ∧ g4 = w.heap.size + 1 ∧ g5 = w.heap.size + 1 + 1 ∧ RowAt W g (enV e) ∧ Pair W g4 (.int .i64 0) (.int .i64 0) ∧ Pair W g5 (.int .i64 0) (.int .i64 0) ∧ Below w.heap.size w W := by
  refine ⟨_, _, _, _, rfl, rfl, rfl, rfl, ((row_new w _ _).later (sst1 _ _)).later (sst1 _ _), ?_, ?_, sbtr (sbtr (sst1 _ _) (sst1 _ _)) (sst1 _ _)⟩
  · have h := (Pair.new (w.alloc (.cells (enV e) 29)) (.int .i64 0) (.int .i64 0) T).later (sst1 _ (.cells #[.int .i64 0, .int .i64 0] T))
    rwa [World.size_alloc] at h
  · have h := Pair.new ((w.alloc (.cells (enV e) 29)).alloc (.cells #[.int .i64 0, .int .i64 0] T)) (.int .i64 0) (.int .i64 0) T
    rwa [World.size_alloc, World.size_alloc] at h
theorem en_hra3 (w : World) (e : En) (o o2 : Obj) : (((w.alloc (.cells (enV e) 29)).alloc o).alloc o2).rangeAt w.heap.size 0 (enV e).toList := (((row_new w (enV e) 29).later (sst1 _ _)).later (sst1 _ _)).range
theorem set4 {B : Nat} {a w : World} {g h : Nat} {x y z t : Value} (hb : Below B a w) (hg : B ≤ g) (hh : B ≤ h) : Below B a ((((w.setCell ⟨g, 0, none⟩ x).setCell ⟨g, 1, none⟩ y).setCell ⟨h, 0, none⟩ z).setCell ⟨h, 1, none⟩ t) := set2 (set2 hb hg) hh
abbrev frV (q : Rat) : Value := .agg #[.int .i64 q.num, .int .i64 q.den]
set_option maxHeartbeats 2000000 in
theorem Award_wrong (e : En) (all : Int) (w : World) (he : e.ok) (hSh : Shares w) (h : rightE e = false ∨ all < 1 ∨ 24 < all) : Calls Tryd.prog 14 #[.agg (enV e), .int .i64 all] w fun x w' => x = .returned (.tuple #[.agg #[.int .i64 0, .int .i64 0], .agg #[.int .i64 0, .int .i64 0], .int .i64 2]) ∧ Below w.heap.size w w' := by
  have HR := Sec.mk fun w' h => Right_en e w' he h
  have hra := fun o o2 => en_hra3 w e o o2
  have hsz := en_sz e
  clear he
  generalize rightE e = R at *
  go_enter Tryd.func14, Tryd.ntmps14
  go_wp2_with (refine wpList_load_mid (by rfl) 29 (.tmp 2) (by rfl) w.heap.size 0 (by rfl) (enV e).toList _ (hra _ _) Tryd.underlying29 rfl hsz ?_; simp only [Array.toArray_toList])
  obtain ⟨W, g, g4, g5, e1, e2, e4, e5, P, Q4, Q5, hB0⟩ := aw_start w e 40
  rw [← e1, ← e5, ← e4, ← e2]
  have hl4 : w.heap.size ≤ g4 := by omega
  have hl5 : w.heap.size ≤ g5 := by omega
  have hne : g4 ≠ g5 := by omega
  clear e1 e2 e4 e5 hra
  refine (HR.out _ (hSh.later hB0)).mono ?_
  rintro x w1 ⟨rfl, hb1⟩
  have hB1 := sbtr hB0 hb1
  obtain ⟨a0, a1, f0, f1⟩ := Q4.later hb1
  obtain ⟨b0, b1, k0, k1⟩ := Q5.later hb1
  clear P hB0 hb1 HR hSh Q4 Q5
  have hcase : R = false ∨ (R = true ∧ decide (all < 1) = true) ∨ (R = true ∧ decide (all < 1) = false ∧ decide (24 < all) = true) := by
    cases R
    · exact .inl rfl
    · by_cases h1 : all < 1
      · exact .inr (.inl ⟨rfl, by simpa using h1⟩)
      · have : 24 < all := by simpa [h1] using h
        exact .inr (.inr ⟨rfl, by simpa using h1, by simpa using this⟩)
  clear h
  rcases hcase with rfl | ⟨rfl, h1⟩ | ⟨rfl, h1, h2⟩
  all_goals
    go_wp2_with fail
    exact bodyPost_ret (v := .tuple #[.agg #[.int .i64 0, .int .i64 0], .agg #[.int .i64 0, .int .i64 0], .int .i64 2]) (by simp [results, Tryd.results14, go_sem, a0, a1, b0, b1, hne]) rfl ⟨rfl, by first | exact set4 hB1 hl4 hl5 | exact hB1⟩
set_option maxHeartbeats 2000000 in
theorem Award_none (e : En) (all : Int) (w : World) (he : e.ok) (hSh : Shares w) (h : rightE e = true) (ha : 1 ≤ all ∧ all ≤ 24) (hk : e.k ≠ 4) : Calls Tryd.prog 14 #[.agg (enV e), .int .i64 all] w fun x w' => x = .returned (.tuple #[.agg #[.int .i64 0, .int .i64 0], .agg #[.int .i64 0, .int .i64 0], .int .i64 6]) ∧ Below w.heap.size w w' := by
  have HR := Sec.mk fun w' h => Right_en e w' he h
  have hra := fun o o2 => en_hra3 w e o o2
  have hsz := en_sz e
  rw [h] at HR
  clear he h
  obtain ⟨h1, h2⟩ := ha
  have hc4 : (enC e)[4]? = some (.int .u8 e.k) := rfl
  generalize e.k = y at *
  have hk1 : (y == 4) = false := by simpa using hk
  have hk2 : (y != 4) = true := by simpa using hk
  clear hk
  go_enter Tryd.func14, Tryd.ntmps14
  go_wp2_with (refine wpList_load_mid (by rfl) 29 (.tmp 2) (by rfl) w.heap.size 0 (by rfl) (enV e).toList _ (hra _ _) Tryd.underlying29 rfl hsz ?_; simp only [Array.toArray_toList])
  obtain ⟨W, g, g4, g5, e1, e2, e4, e5, P, Q4, Q5, hB0⟩ := aw_start w e 40
  rw [← e1, ← e5, ← e4, ← e2]
  have hl4 : w.heap.size ≤ g4 := by omega
  have hl5 : w.heap.size ≤ g5 := by omega
  have hne : g4 ≠ g5 := by omega
  clear e1 e2 e4 e5 hra
  refine (HR.out _ (hSh.later hB0)).mono ?_
  rintro x w1 ⟨rfl, hb1⟩
  have hB1 := sbtr hB0 hb1
  have c4 := en_cell (P.later hb1) _ _ hc4
  obtain ⟨a0, a1, f0, f1⟩ := Q4.later hb1
  obtain ⟨b0, b1, k0, k1⟩ := Q5.later hb1
  clear P hB0 hb1 HR hSh Q4 Q5 hc4
  go_wp2_with fail
  exact bodyPost_ret (v := .tuple #[.agg #[.int .i64 0, .int .i64 0], .agg #[.int .i64 0, .int .i64 0], .int .i64 6]) (by simp [results, Tryd.results14, go_sem, a0, a1, b0, b1, hne]) rfl ⟨rfl, by first | exact set4 hB1 hl4 hl5 | exact hB1⟩
theorem shareB_bd {x : Int} (h : shareB x = true) : 0 ≤ x ∧ x ≤ 100 := by
  unfold shareB at h
  obtain ⟨y, hy, hxy⟩ := List.any_eq_true.1 h
  have : x = y := by simpa using hxy
  subst this
  simp [shL] at hy
  omega
set_option maxHeartbeats 2000000 in
theorem Award_right (e : En) (n : Nat) (w : World) (he : e.ok) (hSh : Shares w) (h : rightE e = true) (hn : 1 ≤ n ∧ n ≤ 24) (hk : e.k = 4) : Calls Tryd.prog 14 #[.agg (enV e), .int .i64 n] w fun x w' => x = .returned (.tuple #[frV (shareQ e.a n), frV (shareQ e.b n), .int .i64 0]) ∧ Below w.heap.size w w' := by
  have HR := Sec.mk fun w' h => Right_en e w' he h
  have hra := fun o o2 => en_hra3 w e o o2
  have hsz := en_sz e
  have hsh : shareB e.a = true ∧ shareB e.b = true := by
    unfold rightE at h
    simp only [Bool.and_eq_true] at h
    have := h.2
    rw [if_pos hk] at this
    simpa using this
  have HSa := Sec.mk fun w' => Share_right e.a n w' (shareB_bd hsh.1) hn
  have HSb := Sec.mk fun w' => Share_right e.b n w' (shareB_bd hsh.2) hn
  rw [h] at HR
  clear he h hsh
  have h1 : (1 : Int) ≤ n := by omega
  have h2 : (n : Int) ≤ 24 := by omega
  have hc4 : (enC e)[4]? = some (.int .u8 4) := by rw [← hk]; rfl
  have hca : (enC e)[31]? = some (.int .i64 e.a) := rfl
  have hcb : (enC e)[32]? = some (.int .i64 e.b) := rfl
  unfold frV
  generalize shareQ e.a n = qa at *
  generalize shareQ e.b n = qb at *
  generalize e.a = za at *
  generalize e.b = zb at *
  clear hk
  go_enter Tryd.func14, Tryd.ntmps14
  go_wp2_with (refine wpList_load_mid (by rfl) 29 (.tmp 2) (by rfl) w.heap.size 0 (by rfl) (enV e).toList _ (hra _ _) Tryd.underlying29 rfl hsz ?_; simp only [Array.toArray_toList])
  obtain ⟨W, g, g4, g5, e1, e2, e4, e5, P, Q4, Q5, hB0⟩ := aw_start w e 40
  rw [← e1, ← e5, ← e4, ← e2]
  have hl4 : w.heap.size ≤ g4 := by omega
  have hl5 : w.heap.size ≤ g5 := by omega
  have hne : g4 ≠ g5 := by omega
  clear e1 e2 e4 e5 hra
  refine (HR.out _ (hSh.later hB0)).mono ?_
  rintro x w1 ⟨rfl, hb1⟩
  have hB1 := sbtr hB0 hb1
  have P1 := P.later hb1
  have c4 := en_cell P1 _ _ hc4
  have ca := en_cell P1 _ _ hca
  have cb := en_cell P1 _ _ hcb
  replace Q4 := Sec.mk (Q4.later hb1)
  replace Q5 := Sec.mk (Q5.later hb1)
  clear P P1 hB0 hb1 HR hSh hc4 hca hcb
  go_wp2_with fail
  refine (HSa.out _).mono ?_
  rintro x w2 ⟨rfl, hb2⟩
  have cb := sc_later hb2 cb
  clear ca c4
  go_upto_region 6 with fail
  obtain ⟨W3, g7, e3, eg, Q7, hb3⟩ : ∃ W3 g7, W3 = w2.alloc (.cells #[.int .i64 qa.num, .int .i64 qa.den] 40) ∧ g7 = w2.heap.size ∧ Pair W3 g7 (.int .i64 qa.num) (.int .i64 qa.den) ∧ Below w2.heap.size w2 W3 := ⟨_, _, rfl, rfl, Pair.new _ _ _ _, sst1 _ _⟩
  rw [← e3, ← eg]
  have hb13 := sbtr hb2 hb3
  have n47 : g4 < g7 := by rw [eg]; exact (Q4.out.later hb2).lt
  have n57 : g5 < g7 := by rw [eg]; exact (Q5.out.later hb2).lt
  have cb := sc_later hb3 cb
  replace Q4 := Sec.mk (Q4.out.later hb13)
  replace Q5 := Sec.mk (Q5.out.later hb13)
  replace Q7 := Sec.mk Q7
  have hB3 := sbtr hB1 hb13
  clear e3 eg hb2 hb3 hb13 hB1
  go_wp2_with fail
  refine (HSb.out _).mono ?_
  rintro x w4 ⟨rfl, hb4⟩
  clear cb
  go_upto_region 7 with fail
  obtain ⟨W5, g9, e5, eg, Q9, hb5⟩ : ∃ W5 g9, W5 = w4.alloc (.cells #[.int .i64 qb.num, .int .i64 qb.den] 40) ∧ g9 = w4.heap.size ∧ Pair W5 g9 (.int .i64 qb.num) (.int .i64 qb.den) ∧ Below w4.heap.size w4 W5 := ⟨_, _, rfl, rfl, Pair.new _ _ _ _, sst1 _ _⟩
  rw [← e5, ← eg]
  have hb35 := sbtr hb4 hb5
  have n49 : g4 < g9 := by rw [eg]; exact (Q4.out.later hb4).lt
  have n59 : g5 < g9 := by rw [eg]; exact (Q5.out.later hb4).lt
  obtain ⟨a0, a1, f0, f1⟩ := Q4.out.later hb35
  obtain ⟨b0, b1, k0, k1⟩ := Q5.out.later hb35
  obtain ⟨c0, c1, l0, l1⟩ := Q7.out.later hb35
  obtain ⟨d0, d1, m0, m1⟩ := Q9
  have hB5 := sbtr hB3 hb35
  have m47 : g4 ≠ g7 := by omega
  have m57 : g5 ≠ g7 := by omega
  have m49 : g4 ≠ g9 := by omega
  have m59 : g5 ≠ g9 := by omega
  clear e5 eg hb4 hb5 hb35 hB3 Q4 Q5 Q7 n47 n57 n49 n59
  go_wp2_with fail
  go_region
  go_wp2_with fail
  exact bodyPost_ret (v := .tuple #[.agg #[.int .i64 qa.num, .int .i64 qa.den], .agg #[.int .i64 qb.num, .int .i64 qb.den], .int .i64 0]) (by simp [results, Tryd.results14, go_sem, a0, a1, b0, b1, hne]) rfl ⟨rfl, set4 hB5.drew hl4 hl5⟩
/-- The sum of points times weights. -/
def meanN (r : List (Int × Int)) : Int := (r.map fun p => p.1 * p.2).sum
def meanQ (r : List (Int × Int)) : Rat := (meanN r : Rat) / ((100 : Int) : Rat)
theorem meanTo_bd {r : List (Int × Int)} (h : rightR r = true) (k : Nat) : -10000000 ≤ sumTo (fun p => p.1 * p.2) r k ∧ sumTo (fun p => p.1 * p.2) r k ≤ 10000000 := by
  have hr := h
  unfold rightR at hr
  simp only [Bool.and_eq_true, Bool.not_eq_true', Bool.or_eq_false_iff, decide_eq_false_iff_not, decide_eq_true_eq] at hr
  have hl : (r.take k).length ≤ 4 := by rw [List.length_take]; omega
  have hb : ∀ p ∈ r.take k, -1000000 ≤ p.1 * p.2 ∧ p.1 * p.2 ≤ 1000000 := fun p hp => by
    have := List.any_eq_false.1 hr.1.2 p (List.mem_of_mem_take hp)
    simp only [badPart, Bool.or_eq_true, decide_eq_true_eq, not_or] at this
    obtain ⟨⟨⟨h1, h2⟩, h3⟩, h4⟩ := this
    constructor
    · have : -10000 * p.2 ≤ p.1 * p.2 := Int.mul_le_mul_of_nonneg_right (by omega) (by omega)
      omega
    · have : p.1 * p.2 ≤ 10000 * p.2 := Int.mul_le_mul_of_nonneg_right (by omega) (by omega)
      omega
  unfold sumTo
  generalize r.take k = l at *
  have : ∀ l : List (Int × Int), (∀ p ∈ l, -1000000 ≤ p.1 * p.2 ∧ p.1 * p.2 ≤ 1000000) → -1000000 * l.length ≤ (l.map fun p => p.1 * p.2).sum ∧ (l.map fun p => p.1 * p.2).sum ≤ 1000000 * l.length := by
    intro l
    induction l with
    | nil => intro _; simp
    | cons x l ih =>
      intro h
      have h1 := ih (fun o ho => h o (List.mem_cons_of_mem _ ho))
      have h2 := h x (List.mem_cons_self ..)
      simp only [List.map_cons, List.sum_cons, List.length_cons] at *
      omega
  have := this l hb
  omega
theorem right_prod {r : List (Int × Int)} (h : rightR r = true) (k : Nat) (p : Int × Int) (hp : r[k]? = some p) : (-10000 ≤ p.1 ∧ p.1 ≤ 10000) ∧ (1 ≤ p.2 ∧ p.2 ≤ 100) ∧ -1000000 ≤ p.1 * p.2 ∧ p.1 * p.2 ≤ 1000000 := by
  unfold rightR at h
  simp only [Bool.and_eq_true, Bool.not_eq_true', Bool.or_eq_false_iff, decide_eq_false_iff_not, decide_eq_true_eq] at h
  have := List.any_eq_false.1 h.1.2 p (List.mem_of_getElem? hp)
  simp only [badPart, Bool.or_eq_true, decide_eq_true_eq, not_or] at this
  obtain ⟨⟨⟨h1, h2⟩, h3⟩, h4⟩ := this
  have h5 : -10000 * p.2 ≤ p.1 * p.2 := Int.mul_le_mul_of_nonneg_right (by omega) (by omega)
  have h6 : p.1 * p.2 ≤ 10000 * p.2 := Int.mul_le_mul_of_nonneg_right (by omega) (by omega)
  omega
def MeanRel (w : World) (r : List (Int × Int)) (n i : Value) (wr : World) : Prop := ∃ k : Nat, k ≤ r.length ∧ i = .int .i64 k ∧ n = .int .i64 (sumTo (fun p => p.1 * p.2) r k) ∧ Pair wr w.heap.size (.int .i64 0) (.int .i64 0) ∧ Below w.heap.size w wr
set_option maxHeartbeats 2000000 in
theorem mean_any (A : Option Addr) (c : Nat) (r : List (Int × Int)) (w : World) (hA : Parts w A r) (hr : rightR r = true) : Calls Tryd.prog 35 #[.slice A r.length c] w fun x w' => x = .returned (frV (meanQ r)) ∧ Below w.heap.size w w' := by
  have HA := Sec.mk hA
  have HB := Sec.mk fun k => meanTo_bd hr k
  have HP := Sec.mk fun k p hp => right_prod hr k p hp
  have hl : r.length ≤ 4 := (right_weights hr).1
  clear hA hr
  go_enter Tryd.func35, Tryd.ntmps35
  go_wp2_with fail
  obtain ⟨W, eW, Q, hB0⟩ : ∃ W, W = w.alloc (.cells #[.int .i64 0, .int .i64 0] 40) ∧ Pair W w.heap.size (.int .i64 0) (.int .i64 0) ∧ Below w.heap.size w W := ⟨_, rfl, Pair.new _ _ _ _, sst1 _ _⟩
  rw [← eW]
  clear eW
  go_loopw [3, 10] (fun n i wr => MeanRel w r n i wr) (fun _ i _ => r.length - (intOf i).toNat)
  case atStart => exact ⟨0, by omega, rfl, rfl, Q, hB0⟩
  case round =>
    clear Q hB0
    obtain ⟨k, hk, rfl, rfl, Q, hB⟩ := hrel
    by_cases hlt : k < r.length
    · obtain ⟨p, hp⟩ : ∃ p, r[k]? = some p := ⟨_, List.getElem?_eq_getElem hlt⟩
      obtain ⟨b, o, rfl, h1, h2⟩ := HA.out.later hB k p hp
      have hs := Sec.mk (sumTo_succ (fun p => p.1 * p.2) r k p hp)
      have hbk := HB.out k
      have hpp := HP.out k p hp
      have hkk : (k : Int) < (r.length : Int) := by omega
      obtain ⟨p1, p2⟩ := p
      dsimp only at h1 h2 hs hpp
      clear hp
      generalize sumTo (fun p => p.1 * p.2) r k = S at *
      obtain ⟨M, hM⟩ : ∃ M, p1 * p2 = M := ⟨_, rfl⟩
      rw [hM] at hpp
      have hs' : Sec (sumTo (fun p => p.1 * p.2) r (k + 1) = S + M) := ⟨by rw [← hM]; exact hs.out⟩
      have hw : IntKind.i64.wrap (p1 * p2) = p1 * p2 := IntWalk.i64_in _ ⟨by omega, by omega⟩
      have Q' := Sec.mk Q
      clear Q hs
      go_wp2_with fail
      refine ⟨⟨k + 1, hlt, by first | rfl | go_num, by rw [hs'.out], Q'.out.later (sst1 _ _), hB.alloc hB.size _⟩, by simp only [intOf]; omega⟩
    · have hk0 : k = r.length := by omega
      have hbk := HB.out k
      have hsa : Sec (sumTo (fun p => p.1 * p.2) r k = meanN r) := ⟨by rw [hk0]; exact sumTo_all _ r⟩
      rw [hsa.out] at hbk ⊢
      have HMk := Sec.mk fun w' => make_q (meanN r) 100 w' (by omega) (by omega)
      have hq : Sec ((meanN r : Rat) / ((100 : Int) : Rat) = meanQ r) := ⟨rfl⟩
      rw [hq.out] at HMk
      have hls := Sec.mk hk0
      obtain ⟨q, hqe⟩ : ∃ q, meanQ r = q := ⟨_, rfl⟩
      rw [hqe] at HMk
      replace hqe := Sec.mk hqe
      obtain ⟨N, hNe⟩ : ∃ N, meanN r = N := ⟨_, rfl⟩
      rw [hNe] at HMk hbk ⊢
      clear hsa hk0 HA HB HP hq hNe
      have Q' := Sec.mk Q
      clear Q
      go_wp2_with fail
      refine (HMk.out _).mono ?_
      rintro x w2 ⟨rfl, hb2⟩
      have hB2 := sbtr hB hb2
      go_upto_region 8 with fail
      obtain ⟨W3, g6, e3, eg, Q6, hb3⟩ : ∃ W3 g6, W3 = w2.alloc (.cells #[.int .i64 q.num, .int .i64 q.den] 40) ∧ g6 = w2.heap.size ∧ Pair W3 g6 (.int .i64 q.num) (.int .i64 q.den) ∧ Below w2.heap.size w2 W3 := ⟨_, _, rfl, rfl, Pair.new _ _ _ _, sst1 _ _⟩
      rw [← e3, ← eg]
      obtain ⟨a0, a1, f0, f1⟩ := Q'.out.later (sbtr hb2 hb3)
      obtain ⟨b0, b1, k0, k1⟩ := Q6
      have hB3 := sbtr hB2 hb3
      clear e3 eg HMk hb2 hB Q' hb3 hB2
      go_wp2_with fail
      exact bodyPost_ret (v := .agg #[.int .i64 q.num, .int .i64 q.den]) (by simp [results, Tryd.results35, go_sem, a0, a1]) rfl ⟨by rw [hqe.out], set2 hB3 (Nat.le_refl _)⟩
set_option maxHeartbeats 2000000 in
theorem Mean_err (e : En) (u er : Int) (w : World) (her : er = 2 ∨ er = 6) (HS : ∀ w', Shares w' → Calls Tryd.prog 10 #[.agg (enV e), .int .u8 u] w' fun x w'' => x = .returned (.tuple #[.slice none 0 0, .slice none 0 0, .int .i64 er]) ∧ Below w'.heap.size w' w'') (hSh : Shares w) : Calls Tryd.prog 12 #[.agg (enV e), .int .u8 u] w fun x w' => x = .returned (.tuple #[.agg #[.int .i64 0, .int .i64 0], .agg #[.int .i64 0, .int .i64 0], .int .i64 er]) ∧ Below w.heap.size w w' := by
  replace HS := Sec.mk HS
  have hra := fun o o2 => en_hra3 w e o o2
  have hsz := en_sz e
  rcases her with rfl | rfl
  all_goals
    go_enter Tryd.func12, Tryd.ntmps12
    go_wp2_with (refine wpList_load_mid (by rfl) 29 (.tmp 2) (by rfl) w.heap.size 0 (by rfl) (enV e).toList _ (hra _ _) Tryd.underlying29 rfl hsz ?_; simp only [Array.toArray_toList])
    obtain ⟨W, g, g4, g5, e1, e2, e4, e5, P, Q4, Q5, hB0⟩ := aw_start w e 40
    rw [← e1, ← e5, ← e4, ← e2]
    have hl4 : w.heap.size ≤ g4 := by omega
    have hl5 : w.heap.size ≤ g5 := by omega
    have hne : g4 ≠ g5 := by omega
    clear e1 e2 e4 e5 hra
    refine (HS.out _ (hSh.later hB0)).mono ?_
    rintro x w1 ⟨rfl, hb1⟩
    have hB1 := sbtr hB0 hb1
    obtain ⟨a0, a1, f0, f1⟩ := Q4.later hb1
    obtain ⟨b0, b1, k0, k1⟩ := Q5.later hb1
    clear P hB0 hb1 HS hSh Q4 Q5
    go_wp2_with fail
    exact bodyPost_ret (v := .tuple #[.agg #[.int .i64 0, .int .i64 0], .agg #[.int .i64 0, .int .i64 0], .int .i64 _]) (by simp [results, Tryd.results12, go_sem, a0, a1, b0, b1, hne]) rfl ⟨rfl, by first | exact set4 hB1 hl4 hl5 | exact hB1⟩
theorem turn_right1 {r : List (Int × Int)} (h : rightR r = true) : rightR (r.map turnP) = true := by
  unfold rightR at *
  simp only [Bool.and_eq_true, Bool.not_eq_true', Bool.or_eq_false_iff, decide_eq_false_iff_not, decide_eq_true_eq] at *
  refine ⟨⟨⟨by simpa using h.1.1.1, by simpa using h.1.1.2⟩, ?_⟩, ?_⟩
  · refine List.any_eq_false.2 fun p hp => ?_
    obtain ⟨q, hq, rfl⟩ := List.mem_map.1 hp
    have h1 := List.any_eq_false.1 h.1.2 q hq
    show ¬ badPart (-q.1, q.2) = true
    clear h hp hq
    simp only [badPart, Bool.or_eq_true, decide_eq_true_eq, not_or] at h1 ⊢
    omega
  · rw [List.map_map]
    exact h.2
theorem sideN_right {e : En} {u : Int} (he : e.ok) (h : rightE e = true) (hu : 0 ≤ u ∧ u ≤ 3) : rightR (sideN e u) = true := by
  have hkB : kindB e = true := by unfold rightE at h; simp only [Bool.and_eq_true] at h; exact h.1.2
  unfold sideN
  split
  · rename_i hk
    have hwt : wtdB e = true := by unfold kindB at hkB; rw [hk] at hkB; simpa using hkB
    have := wtd_right he hu hwt
    unfold okW at this
    simp only [Bool.and_eq_true] at this
    exact this.2
  · exact one_right (oneZ_small u he.2.2.2.2.2.2.1)
theorem sideO_right {e : En} {u : Int} (he : e.ok) (h : rightE e = true) (hu : 0 ≤ u ∧ u ≤ 3) : rightR (sideO e u) = true := by
  unfold sideO
  split
  · exact one_right (oneZ_small u he.2.2.2.2.2.2.2.1)
  · exact sideN_right he h hu
set_option maxHeartbeats 2000000 in
theorem Mean_right (e : En) (u : Int) (w : World) (he : e.ok) (hSh : Shares w) (h : rightE e = true) (hu : 0 ≤ u ∧ u ≤ 3) (hk : e.k = 1 ∨ e.k = 2 ∨ e.k = 3) : Calls Tryd.prog 12 #[.agg (enV e), .int .u8 u] w fun x w' => x = .returned (.tuple #[frV (meanQ (sideN e u)), frV (meanQ ((sideO e u).map turnP)), .int .i64 0]) ∧ Below w.heap.size w w' := by
  have HS := Sec.mk fun w' h' => Sides_right e u w' he h' h hu hk
  have hrN := Sec.mk (sideN_right he h hu)
  have hrO := Sec.mk (turn_right1 (sideO_right he h hu))
  have hra := fun o o2 => en_hra3 w e o o2
  have hsz := en_sz e
  clear he h hk
  unfold SidesPost at HS
  generalize sideN e u = N at *
  generalize (sideO e u).map turnP = O at *
  obtain ⟨qa, hqa⟩ : ∃ q, meanQ N = q := ⟨_, rfl⟩
  obtain ⟨qb, hqb⟩ : ∃ q, meanQ O = q := ⟨_, rfl⟩
  rw [hqa, hqb]
  replace hqa := Sec.mk hqa
  replace hqb := Sec.mk hqb
  obtain ⟨u0, u3⟩ := hu
  go_enter Tryd.func12, Tryd.ntmps12
  go_wp2_with (refine wpList_load_mid (by rfl) 29 (.tmp 2) (by rfl) w.heap.size 0 (by rfl) (enV e).toList _ (hra _ _) Tryd.underlying29 rfl hsz ?_; simp only [Array.toArray_toList])
  obtain ⟨W, g, g4, g5, e1, e2, e4, e5, P, Q4, Q5, hB0⟩ := aw_start w e 40
  rw [← e1, ← e5, ← e4, ← e2]
  have hl4 : w.heap.size ≤ g4 := by omega
  have hl5 : w.heap.size ≤ g5 := by omega
  have hne : g4 ≠ g5 := by omega
  clear e1 e2 e4 e5 hra
  refine (HS.out _ (hSh.later hB0)).mono ?_
  rintro x w1 ⟨hb1, A, c, v, base, rfl, hPa, -, -, hown⟩
  obtain ⟨B, c2, rfl, hPb, -⟩ := parts_of_own hown
  have hB1 := sbtr hB0 hb1
  have HM1 := Sec.mk (mean_any A c N w1 hPa hrN.out)
  have HM2 := Sec.mk fun w' (hb : Below w1.heap.size w1 w') => mean_any B c2 O w' (hPb.later hb) hrO.out
  rw [hqa.out] at HM1
  rw [hqb.out] at HM2
  replace Q4 := Sec.mk (Q4.later hb1)
  replace Q5 := Sec.mk (Q5.later hb1)
  clear P hB0 hb1 HS hSh hPa hPb hown
  go_wp2_with fail
  refine HM1.out.mono ?_
  rintro x w2 ⟨rfl, hb2⟩
  clear HM1
  go_wp2_with fail
  refine (HM2.out _ hb2).mono ?_
  rintro x w3 ⟨rfl, hb3⟩
  have hb23 := sbtr hb2 hb3
  obtain ⟨a0, a1, f0, f1⟩ := Q4.out.later hb23
  obtain ⟨b0, b1, k0, k1⟩ := Q5.out.later hb23
  have hB3 := sbtr hB1 hb23
  clear HM2 hb2 hb3 hb23 hB1 Q4 Q5
  go_wp2_with fail
  exact bodyPost_ret (v := .tuple #[.agg #[.int .i64 qa.num, .int .i64 qa.den], .agg #[.int .i64 qb.num, .int .i64 qb.den], .int .i64 0]) (by simp [results, Tryd.results12, go_sem, a0, a1, b0, b1, hne]) rfl ⟨rfl, set4 hB3 hl4 hl5⟩
end Go.Proofs.YtojgjpegfkfnjaaDoor
