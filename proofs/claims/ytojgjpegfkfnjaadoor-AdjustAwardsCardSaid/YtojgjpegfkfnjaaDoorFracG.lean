/- The contracts of package frac, in rational numbers. -/
import Derived.Test.YtojgjpegfkfnjaaDoorFracF
namespace Go.Proofs.YtojgjpegfkfnjaaDoor
open Go.RowKit
set_option linter.unusedVariables false
set_option linter.unusedSimpArgs false

theorem fit_q (neg : Bool) (N D : Int) (hN : 0 ≤ N) (hD : 0 < D) (hc : Nat.gcd N.natAbs D.natAbs = 1) (h0 : N = 0 → neg = false) (q : Rat) (h : q = ((if neg then -N else N : Int) : Rat) / (D : Rat)) :
    fitN neg N D = qN q ∧ fitD neg N D = qD q ∧ fitE neg N D = qE q := by
  have hc' : Nat.gcd (if neg then -N else N).natAbs D.natAbs = 1 := by cases neg <;> simpa using hc
  obtain ⟨h1, h2⟩ := fits_of _ D hD hc' q h
  have hok : fitOk neg N D = true ↔ fits q := by
    unfold fitOk fits
    rw [h1, h2]
    cases neg <;> simp <;> omega
  by_cases hf : fits q
  · have hk := hok.2 hf
    refine ⟨?_, ?_, ?_⟩ <;> simp [fitN, fitD, fitE, qN, qD, qE, hk, hf, h1, h2]
  · have hk : fitOk neg N D = false := by
      rw [← Bool.not_eq_true]; exact fun h => hf (hok.1 h)
    refine ⟨?_, ?_, ?_⟩ <;> simp [fitN, fitD, fitE, qN, qD, qE, hk, hf]

theorem right_q {q : Rat} : rightB q.num q.den = true := by
  have := q.den_pos
  unfold rightB
  simp only [decide_eq_true_eq]
  exact ⟨by omega, by simpa using q.reduced⟩
/-- A right fraction is a rational number. -/
theorem right_rat {n d : Int} (h : rightB n d = true) : ∃ q : Rat, q.num = n ∧ (q.den : Int) = d := by
  unfold rightB at h
  simp only [decide_eq_true_eq] at h
  exact ⟨(n : Rat) / (d : Rat), fits_of n d h.1 h.2 _ rfl⟩

theorem add_q (p q : Rat) (m : Bool) (w : World) (hp : fits p) (hq : fits q) :
    Calls Tryd.prog 50 #[.agg #[.int .i64 p.num, .int .i64 p.den], .agg #[.int .i64 q.num, .int .i64 q.den], .bool m] w fun e w' =>
      e = .returned (.tuple #[.agg #[.int .i64 (qN (if m then p - q else p + q)), .int .i64 (qD (if m then p - q else p + q))], .int .i64 (qE (if m then p - q else p + q))]) ∧ Below w.heap.size w w' := by
  have p0 := p.den_pos
  have q0 := q.den_pos
  refine (add_walk p.num p.den q.num q.den m w ⟨hp.1, hp.2.1⟩ ⟨by omega, hp.2.2⟩ ⟨hq.1, hq.2.1⟩ ⟨by omega, hq.2.2⟩).mono ?_
  rintro e w' ⟨N, D, neg, rfl, ⟨h⟩, hB⟩
  refine ⟨?_, hB⟩
  obtain ⟨a1, a2, a3, a4, a5⟩ := add_rat _ _ _ _ m neg N D (by omega) (by omega) (by simpa using p.reduced) (by simpa using q.reduced) h
  obtain ⟨b1, b2, b3⟩ := fit_q neg N D a1 a2 a3 a4 (if m then p - q else p + q) (by
    rw [a5]
    have e1 := rat_of p
    have e2 := rat_of q
    cases m
    · simp only [if_false, Bool.false_eq_true]
      rw [← e1, ← e2]
    · simp only [if_true]
      rw [← e1, Rat.intCast_neg]
      generalize hx : (q.num : Rat) = x at *
      generalize hy : ((q.den : Int) : Rat) = y at *
      rw [e2]
      grind)
  rw [b1, b2, b3]

theorem make_q (n d : Int) (w : World) (hn : -9223372036854775808 ≤ n ∧ n ≤ 9223372036854775807) (hd : 0 < d ∧ d ≤ 9223372036854775807) :
    Calls Tryd.prog 55 #[.int .i64 n, .int .i64 d] w fun e w' => e = .returned (.tuple #[.agg #[.int .i64 ((n : Rat) / (d : Rat)).num, .int .i64 ((n : Rat) / (d : Rat)).den], .int .i64 0]) ∧ Below w.heap.size w w' := by
  have key : ∀ (A B : Nat) (s : Int), Nat.gcd A B = 1 → n.natAbs * B = d.natAbs * A → 0 < B → s.natAbs = A → (0 ≤ n → s = A) → (n < 0 → s = -(A : Int)) → ((n : Rat) / (d : Rat)).num = s ∧ (((n : Rat) / (d : Rat)).den : Int) = B := by
    intro A B s h1 h2 h3 h4 h5 h6
    refine fits_of s B (by omega) (by rw [h4]; simpa using h1) _ ?_
    refine div_eq_div _ _ _ _ (by omega) (by omega) ?_
    have h2' : (n.natAbs : Int) * B = d * A := by
      have : ((n.natAbs * B : Nat) : Int) = ((d.natAbs * A : Nat) : Int) := by rw [h2]
      simp only [Int.natCast_mul] at this
      rw [this, show ((d.natAbs : Nat) : Int) = d by omega]
    by_cases hs : 0 ≤ n
    · rw [h5 hs, Int.mul_comm (A : Int) d, ← h2', show ((n.natAbs : Nat) : Int) = n by omega]
    · rw [h6 (by omega), Int.neg_mul, Int.mul_comm (A : Int) d, ← h2', show ((n.natAbs : Nat) : Int) = -n by omega, Int.neg_mul, Int.neg_neg]
  rcases Int.lt_trichotomy n 0 with h | h | h
  · refine (make_neg n d w hn hd h).mono ?_
    rintro e w' ⟨A, B, rfl, ⟨h1, h2, h3⟩, hB⟩
    obtain ⟨k1, k2⟩ := key A B (-(A : Int)) h1 h2 h3 (by omega) (by omega) (fun _ => rfl)
    exact ⟨by rw [k1, k2], hB⟩
  · refine (make_nul n d w hn hd h).mono ?_
    rintro e w' ⟨A, B, rfl, ⟨h1, h2, h3⟩, hB⟩
    obtain ⟨k1, k2⟩ := key A B A h1 h2 h3 (by omega) (fun _ => rfl) (by omega)
    exact ⟨by rw [k1, k2], hB⟩
  · refine (make_pos n d w hn hd h).mono ?_
    rintro e w' ⟨A, B, rfl, ⟨h1, h2, h3⟩, hB⟩
    obtain ⟨k1, k2⟩ := key A B A h1 h2 h3 (by omega) (fun _ => rfl) (by omega)
    exact ⟨by rw [k1, k2], hB⟩

set_option maxRecDepth 100000 in
set_option maxHeartbeats 1000000 in
theorem Add_q (p q : Rat) (w : World) (hp : fits p) (hq : fits q) :
    Calls Tryd.prog 27 #[.agg #[.int .i64 p.num, .int .i64 p.den], .agg #[.int .i64 q.num, .int .i64 q.den]] w fun e w' =>
      e = .returned (.tuple #[.agg #[.int .i64 (qN (p + q)), .int .i64 (qD (p + q))], .int .i64 (qE (p + q))]) ∧ Below w.heap.size w w' := by
  have hr1 := right_q (q := p)
  have hr2 := right_q (q := q)
  have ha := fun w => add_q p q false w hp hq
  have hs := fun w => right_exact p.num p.den w ⟨hp.1, hp.2.1⟩ ⟨by omega, hp.2.2⟩
  have ht := fun w => right_exact q.num q.den w ⟨hq.1, hq.2.1⟩ ⟨by omega, hq.2.2⟩
  rw [hr1] at hs
  rw [hr2] at ht
  have HA := Sec.mk ha
  have HS := Sec.mk hs
  have HT := Sec.mk ht
  clear ha hs ht hr1 hr2
  generalize p.num = n1 at *
  generalize (p.den : Int) = d1 at *
  generalize q.num = n2 at *
  generalize (q.den : Int) = d2 at *
  go_enter Tryd.func27, Tryd.ntmps27
  go_wp2_with fail
  refine (HS.out _).mono ?_; rintro e w1 ⟨rfl, k, rfl⟩
  go_wp2_with fail
  refine (HT.out _).mono ?_; rintro e w1 ⟨rfl, k2, rfl⟩
  go_wp2_with fail
  refine (HA.out _).mono ?_; rintro e w6 ⟨rfl, hb⟩
  simp only [Bool.false_eq_true, if_false]
  have y3 : w6.cell? ⟨w.heap.size + 1 + 1, 0, none⟩ = some (.int .i64 0) := cell_later hb (by go_simp)
  have y4 : w6.cell? ⟨w.heap.size + 1 + 1, 1, none⟩ = some (.int .i64 0) := cell_later hb (by go_simp)
  have y5 : w6.frozen? ⟨w.heap.size + 1 + 1, 0, none⟩ = false := (hb.frozen (p := ⟨w.heap.size + 1 + 1, 0, none⟩) (by simp <;> omega)).trans (by go_simp)
  have y6 : w6.frozen? ⟨w.heap.size + 1 + 1, 1, none⟩ = false := (hb.frozen (p := ⟨w.heap.size + 1 + 1, 1, none⟩) (by simp <;> omega)).trans (by go_simp)
  have hB : Below w.heap.size w w6 := Below.trans (by repeat (first | exact Below.refl _ _ | refine below_drewN ?_ _ | refine Below.alloc ?_ (by simp <;> omega) _)) (hb.mono (by simp <;> omega))
  clear hb
  go_wp2_with fail
  refine bodyPost_ret (v := .tuple #[.agg #[.int .i64 (qN (p + q)), .int .i64 (qD (p + q))], .int .i64 (qE (p + q))]) (by simp [results, Tryd.results27, go_sem, y3, y4]) rfl ⟨rfl, ?_⟩
  exact (hB.setCell (by simp; omega) _).setCell (by simp; omega) _

theorem four_later {V w' : World} {p1 p2 p3 p4 : Addr} {u1 u2 u3 u4 : Value} (h1 : V.cell? p1 = some u1) (h2 : V.cell? p2 = some u2) (h3 : V.cell? p3 = some u3) (h4 : V.cell? p4 = some u4) (h : Below V.heap.size V w') :
    w'.cell? p1 = some u1 ∧ w'.cell? p2 = some u2 ∧ w'.cell? p3 = some u3 ∧ w'.cell? p4 = some u4 := ⟨cell_later h h1, cell_later h h2, cell_later h h3, cell_later h h4⟩

/-- -1, 0, 1 of rational numbers. -/
def ordQ (p q : Rat) : Int := if p < q then -1 else if q < p then 1 else 0
theorem ordQ_cross (p q : Rat) : ordQ p q = ord3 (p.num * q.den) (q.num * p.den) := by
  unfold ordQ ord3
  simp only [Rat.lt_iff]

set_option maxRecDepth 100000 in
set_option maxHeartbeats 1000000 in
theorem Cmp_q (p q : Rat) (w : World) (hp : fits p) (hq : fits q) :
    Calls Tryd.prog 25 #[.agg #[.int .i64 p.num, .int .i64 p.den], .agg #[.int .i64 q.num, .int .i64 q.den]] w fun e w' =>
      e = .returned (.tuple #[.int .i64 (ordQ p q), .int .i64 0]) ∧ Below w.heap.size w w' := by
  have hr1 := right_q (q := p)
  have hr2 := right_q (q := q)
  have hs := fun w => right_exact p.num p.den w ⟨hp.1, hp.2.1⟩ ⟨by omega, hp.2.2⟩
  have ht := fun w => right_exact q.num q.den w ⟨hq.1, hq.2.1⟩ ⟨by omega, hq.2.2⟩
  rw [hr1] at hs
  rw [hr2] at ht
  have HS := Sec.mk hs
  have HT := Sec.mk ht
  have HO := Sec.mk (ordQ_cross p q)
  have bn1 : -9223372036854775808 ≤ p.num ∧ p.num ≤ 9223372036854775807 := ⟨hp.1, hp.2.1⟩
  have bd1 : 0 < (p.den : Int) ∧ (p.den : Int) ≤ 9223372036854775807 := ⟨by have := p.den_pos; omega, hp.2.2⟩
  have bn2 : -9223372036854775808 ≤ q.num ∧ q.num ≤ 9223372036854775807 := ⟨hq.1, hq.2.1⟩
  have bd2 : 0 < (q.den : Int) ∧ (q.den : Int) ≤ 9223372036854775807 := ⟨by have := q.den_pos; omega, hq.2.2⟩
  clear hs ht hr1 hr2 hp hq
  generalize hO : ordQ p q = O at *
  clear hO
  generalize p.num = n1 at *
  generalize (p.den : Int) = d1 at *
  generalize q.num = n2 at *
  generalize (q.den : Int) = d2 at *
  by_cases h1 : n1 < 0 <;> by_cases h2 : n2 < 0
  · have e1 : decide (n1 < 0) = true := by simpa using h1
    have e2 : decide (n2 < 0) = true := by simpa using h2
    go_enter Tryd.func25, Tryd.ntmps25
    go_wp2_with fail
    refine (HS.out _).mono ?_; rintro e w1 ⟨rfl, k, rfl⟩
    go_wp2_with fail
    refine (HT.out _).mono ?_; rintro e w1 ⟨rfl, k2, rfl⟩
    go_wp2_with fail
    obtain ⟨V, hV⟩ : ∃ V, V = ((((((w.alloc (Obj.cells #[Value.int IntKind.i64 n1, Value.int IntKind.i64 d1] 40)).alloc (Obj.cells #[Value.int IntKind.i64 n2, Value.int IntKind.i64 d2] 40)).alloc (Obj.cells #[Value.int IntKind.i64 n1, Value.int IntKind.i64 d1] 40)).drewN k).alloc (Obj.cells #[Value.int IntKind.i64 n2, Value.int IntKind.i64 d2] 40)).drewN k2) := ⟨_, rfl⟩
    rw [← hV]
    have c1 : V.cell? ⟨w.heap.size, 0, none⟩ = some (.int .i64 n1) := by rw [hV]; go_simp
    have c2 : V.cell? ⟨w.heap.size, 1, none⟩ = some (.int .i64 d1) := by rw [hV]; go_simp
    have c3 : V.cell? ⟨w.heap.size + 1, 0, none⟩ = some (.int .i64 n2) := by rw [hV]; go_simp
    have c4 : V.cell? ⟨w.heap.size + 1, 1, none⟩ = some (.int .i64 d2) := by rw [hV]; go_simp
    have hBV : Below w.heap.size w V := by rw [hV]; repeat (first | exact Below.refl _ _ | refine below_drewN ?_ _ | refine Below.alloc ?_ (by simp <;> omega) _)
    have hVs : w.heap.size ≤ V.heap.size := hBV.size
    have bX : 0 ≤ (n1.natAbs : Int) * d2 ∧ (n1.natAbs : Int) * d2 ≤ 85070591730234615847396907784232501249 * 2 := mul_bound _ _ (by omega) (by omega) (by omega) (by omega)
    have bY : 0 ≤ (n2.natAbs : Int) * d1 ∧ (n2.natAbs : Int) * d1 ≤ 85070591730234615847396907784232501249 * 2 := mul_bound _ _ (by omega) (by omega) (by omega) (by omega)
    obtain ⟨X, hX⟩ : ∃ X, (n1.natAbs : Int) * d2 = X := ⟨_, rfl⟩
    obtain ⟨Y, hY⟩ : ∃ Y, (n2.natAbs : Int) * d1 = Y := ⟨_, rfl⟩
    rw [hX] at bX
    rw [hY] at bY
    have HX := Sec.mk hX
    have HY := Sec.mk hY
    have M1 : Sec (X % 18446744073709551616 + X / 18446744073709551616 * 18446744073709551616 = X) := ⟨by omega⟩
    have M2 : Sec (Y % 18446744073709551616 + Y / 18446744073709551616 * 18446744073709551616 = Y) := ⟨by omega⟩
    have wd1 : IntKind.u64.wrap d1 = d1 := wraps_u64 _ (by omega) (by omega)
    have wd2 : IntKind.u64.wrap d2 = d2 := wraps_u64 _ (by omega) (by omega)
    clear hV hX hY HS HT
    go_region_held3 (fun w' => w'.cell? ⟨w.heap.size, 0, none⟩ = some (.int .i64 n1) ∧ w'.cell? ⟨w.heap.size, 1, none⟩ = some (.int .i64 d1) ∧ w'.cell? ⟨w.heap.size + 1, 0, none⟩ = some (.int .i64 n2) ∧ w'.cell? ⟨w.heap.size + 1, 1, none⟩ = some (.int .i64 d2))
      ((refine four_later c1 c2 c3 c4 ?_; (first | exact hV6 | (repeat (first | exact Below.refl _ _ | refine Below.drew ?_ | refine Below.alloc ?_ (by simp <;> omega) _)))))
      ((first | (go_at_call 48; refine (size_any _ _ ?_ ?_).mono ?_; omega; omega; rintro e w' ⟨rfl, rfl⟩) | (go_at_call_of 47 d2; refine (times_exact _ _ _ ?_ ?_ ?_ ?_).mono ?_; omega; omega; omega; omega; rw [HX.out]; rintro e wx ⟨rfl, rfl⟩) | (go_at_call_of 47 d1; refine (times_exact _ _ _ ?_ ?_ ?_ ?_).mono ?_; omega; omega; omega; omega; rw [HY.out]; rintro e wx ⟨rfl, rfl⟩) | (go_at_call 49; refine (cmpw_any _ _ _ _ _ ⟨?_, ?_⟩ ⟨?_, ?_⟩ ⟨?_, ?_⟩ ⟨?_, ?_⟩).mono ?_; omega; omega; omega; omega; omega; omega; omega; omega; rw [M1.out, M2.out]; rintro e w6 ⟨rfl, hb6⟩; have hV6 : Below V.heap.size V w6 := Below.trans (by repeat (first | exact Below.refl _ _ | refine Below.drew ?_ | refine Below.alloc ?_ (by simp <;> omega) _)) (hb6.mono (by simp <;> omega)); obtain ⟨y1, y2, y3, y4⟩ := four_later c1 c2 c3 c4 hV6)))
    have hord : -4 ≤ ord3 X Y ∧ ord3 X Y ≤ 4 := by unfold ord3; split <;> (try split) <;> omega
    have HN : Sec (-ord3 X Y = O) := ⟨by
      rw [HO.out, ← HX.out, ← HY.out, show ((n1.natAbs : Nat) : Int) = -n1 by omega, show ((n2.natAbs : Nat) : Int) = -n2 by omega, Int.neg_mul, Int.neg_mul]
      unfold ord3
      generalize n1 * d2 = x
      generalize n2 * d1 = y
      split <;> split <;> (try split) <;> (try split) <;> omega⟩
    generalize ord3 X Y = o3 at *
    go_wp2_with fail
    go_ret2
    exact ⟨by rw [← HN.out]; rfl, hBV.trans (hV6.mono hVs)⟩
  · have e1 : decide (n1 < 0) = true := by simpa using h1
    have e2 : decide (n2 < 0) = false := by simpa using h2
    have hneg : n1 * d2 < 0 := Int.mul_neg_of_neg_of_pos h1 bd2.1
    have hpos : 0 ≤ n2 * d1 := Int.mul_nonneg (by omega) (by omega)
    have hO : O = -1 := by rw [HO.out]; unfold ord3; rw [if_pos (by omega)]
    subst hO
    clear hneg hpos
    go_enter Tryd.func25, Tryd.ntmps25
    go_wp2_with fail
    refine (HS.out _).mono ?_; rintro e w1 ⟨rfl, k, rfl⟩
    go_wp2_with fail
    refine (HT.out _).mono ?_; rintro e w1 ⟨rfl, k2, rfl⟩
    go_wp2_with fail
    go_ret2
    exact ⟨rfl, by repeat (first | exact Below.refl _ _ | refine below_drewN ?_ _ | refine Below.alloc ?_ (by simp <;> omega) _)⟩
  · have e1 : decide (n1 < 0) = false := by simpa using h1
    have e2 : decide (n2 < 0) = true := by simpa using h2
    have hneg : n2 * d1 < 0 := Int.mul_neg_of_neg_of_pos h2 bd1.1
    have hpos : 0 ≤ n1 * d2 := Int.mul_nonneg (by omega) (by omega)
    have hO : O = 1 := by rw [HO.out]; unfold ord3; rw [if_neg (by omega), if_pos (by omega)]
    subst hO
    clear hneg hpos
    go_enter Tryd.func25, Tryd.ntmps25
    go_wp2_with fail
    refine (HS.out _).mono ?_; rintro e w1 ⟨rfl, k, rfl⟩
    go_wp2_with fail
    refine (HT.out _).mono ?_; rintro e w1 ⟨rfl, k2, rfl⟩
    go_wp2_with fail
    go_ret2
    exact ⟨rfl, by repeat (first | exact Below.refl _ _ | refine below_drewN ?_ _ | refine Below.alloc ?_ (by simp <;> omega) _)⟩
  · have e1 : decide (n1 < 0) = false := by simpa using h1
    have e2 : decide (n2 < 0) = false := by simpa using h2
    go_enter Tryd.func25, Tryd.ntmps25
    go_wp2_with fail
    refine (HS.out _).mono ?_; rintro e w1 ⟨rfl, k, rfl⟩
    go_wp2_with fail
    refine (HT.out _).mono ?_; rintro e w1 ⟨rfl, k2, rfl⟩
    go_wp2_with fail
    obtain ⟨V, hV⟩ : ∃ V, V = ((((((w.alloc (Obj.cells #[Value.int IntKind.i64 n1, Value.int IntKind.i64 d1] 40)).alloc (Obj.cells #[Value.int IntKind.i64 n2, Value.int IntKind.i64 d2] 40)).alloc (Obj.cells #[Value.int IntKind.i64 n1, Value.int IntKind.i64 d1] 40)).drewN k).alloc (Obj.cells #[Value.int IntKind.i64 n2, Value.int IntKind.i64 d2] 40)).drewN k2) := ⟨_, rfl⟩
    rw [← hV]
    have c1 : V.cell? ⟨w.heap.size, 0, none⟩ = some (.int .i64 n1) := by rw [hV]; go_simp
    have c2 : V.cell? ⟨w.heap.size, 1, none⟩ = some (.int .i64 d1) := by rw [hV]; go_simp
    have c3 : V.cell? ⟨w.heap.size + 1, 0, none⟩ = some (.int .i64 n2) := by rw [hV]; go_simp
    have c4 : V.cell? ⟨w.heap.size + 1, 1, none⟩ = some (.int .i64 d2) := by rw [hV]; go_simp
    have hBV : Below w.heap.size w V := by rw [hV]; repeat (first | exact Below.refl _ _ | refine below_drewN ?_ _ | refine Below.alloc ?_ (by simp <;> omega) _)
    have hVs : w.heap.size ≤ V.heap.size := hBV.size
    have bX : 0 ≤ (n1.natAbs : Int) * d2 ∧ (n1.natAbs : Int) * d2 ≤ 85070591730234615847396907784232501249 * 2 := mul_bound _ _ (by omega) (by omega) (by omega) (by omega)
    have bY : 0 ≤ (n2.natAbs : Int) * d1 ∧ (n2.natAbs : Int) * d1 ≤ 85070591730234615847396907784232501249 * 2 := mul_bound _ _ (by omega) (by omega) (by omega) (by omega)
    obtain ⟨X, hX⟩ : ∃ X, (n1.natAbs : Int) * d2 = X := ⟨_, rfl⟩
    obtain ⟨Y, hY⟩ : ∃ Y, (n2.natAbs : Int) * d1 = Y := ⟨_, rfl⟩
    rw [hX] at bX
    rw [hY] at bY
    have HX := Sec.mk hX
    have HY := Sec.mk hY
    have M1 : Sec (X % 18446744073709551616 + X / 18446744073709551616 * 18446744073709551616 = X) := ⟨by omega⟩
    have M2 : Sec (Y % 18446744073709551616 + Y / 18446744073709551616 * 18446744073709551616 = Y) := ⟨by omega⟩
    have wd1 : IntKind.u64.wrap d1 = d1 := wraps_u64 _ (by omega) (by omega)
    have wd2 : IntKind.u64.wrap d2 = d2 := wraps_u64 _ (by omega) (by omega)
    clear hV hX hY HS HT
    go_region_held3 (fun w' => w'.cell? ⟨w.heap.size, 0, none⟩ = some (.int .i64 n1) ∧ w'.cell? ⟨w.heap.size, 1, none⟩ = some (.int .i64 d1) ∧ w'.cell? ⟨w.heap.size + 1, 0, none⟩ = some (.int .i64 n2) ∧ w'.cell? ⟨w.heap.size + 1, 1, none⟩ = some (.int .i64 d2))
      ((refine four_later c1 c2 c3 c4 ?_; (first | exact hV6 | (repeat (first | exact Below.refl _ _ | refine Below.drew ?_ | refine Below.alloc ?_ (by simp <;> omega) _)))))
      ((first | (go_at_call 48; refine (size_any _ _ ?_ ?_).mono ?_; omega; omega; rintro e w' ⟨rfl, rfl⟩) | (go_at_call_of 47 d2; refine (times_exact _ _ _ ?_ ?_ ?_ ?_).mono ?_; omega; omega; omega; omega; rw [HX.out]; rintro e wx ⟨rfl, rfl⟩) | (go_at_call_of 47 d1; refine (times_exact _ _ _ ?_ ?_ ?_ ?_).mono ?_; omega; omega; omega; omega; rw [HY.out]; rintro e wx ⟨rfl, rfl⟩) | (go_at_call 49; refine (cmpw_any _ _ _ _ _ ⟨?_, ?_⟩ ⟨?_, ?_⟩ ⟨?_, ?_⟩ ⟨?_, ?_⟩).mono ?_; omega; omega; omega; omega; omega; omega; omega; omega; rw [M1.out, M2.out]; rintro e w6 ⟨rfl, hb6⟩; have hV6 : Below V.heap.size V w6 := Below.trans (by repeat (first | exact Below.refl _ _ | refine Below.drew ?_ | refine Below.alloc ?_ (by simp <;> omega) _)) (hb6.mono (by simp <;> omega)); obtain ⟨y1, y2, y3, y4⟩ := four_later c1 c2 c3 c4 hV6)))
    have HN : Sec (ord3 X Y = O) := ⟨by rw [HO.out, ← HX.out, ← HY.out, show ((n1.natAbs : Nat) : Int) = n1 by omega, show ((n2.natAbs : Nat) : Int) = n2 by omega]⟩
    generalize ord3 X Y = o3 at *
    go_wp2_with fail
    go_ret2
    exact ⟨by rw [← HN.out]; rfl, hBV.trans (hV6.mono hVs)⟩
end Go.Proofs.YtojgjpegfkfnjaaDoor
