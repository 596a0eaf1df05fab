/- frac.Mul as a product of rational numbers. -/
import Derived.Test.YtojgjpegfkfnjaaDoorFracG
namespace Go.Proofs.YtojgjpegfkfnjaaDoor
open Go.RowKit
set_option linter.unusedVariables false
set_option linter.unusedSimpArgs false

theorem common2 (a d : Int) (g : Nat) (h1 : 0 < a ∧ a ≤ 9223372036854775808) (h2 : 0 < d ∧ d ≤ 9223372036854775807) (Hg : Sec (g = Nat.gcd a.natAbs d.natAbs)) :
    ∃ p q : Nat, (1 : Int) ≤ g ∧ (g : Int) ≤ 9223372036854775807 ∧ a / (g : Int) = p ∧ d / (g : Int) = q ∧ (0 < (p : Int) ∧ (p : Int) ≤ 9223372036854775808) ∧ (0 < (q : Int) ∧ (q : Int) ≤ 9223372036854775807) ∧ Sec (a = g * p ∧ d = g * q ∧ Nat.gcd p q = 1) := by
  have hg := Hg.out
  have hgp : 0 < g := by rw [hg]; exact Nat.gcd_pos_of_pos_right _ (by omega)
  obtain ⟨A, hA⟩ : g ∣ a.natAbs := hg ▸ Nat.gcd_dvd_left _ _
  obtain ⟨B, hB⟩ : g ∣ d.natAbs := hg ▸ Nat.gcd_dvd_right _ _
  have hA0 : 0 < A := Nat.pos_of_ne_zero fun h => by subst h; simp at hA; omega
  have hB0 : 0 < B := Nat.pos_of_ne_zero fun h => by subst h; simp at hB; omega
  have e1 : a = (g : Int) * A := by rw [show a = (a.natAbs : Int) by omega, hA]; simp
  have e2 : d = (g : Int) * B := by rw [show d = (d.natAbs : Int) by omega, hB]; simp
  have l1 := Nat.le_mul_of_pos_left A hgp
  have l2 := Nat.le_mul_of_pos_left B hgp
  have l3 := Nat.le_mul_of_pos_right g hB0
  have hc : Nat.gcd A B = 1 := by
    have : g * Nat.gcd A B = g * 1 := by rw [← Nat.gcd_mul_left, ← hA, ← hB, Nat.mul_one]; exact hg.symm
    exact Nat.eq_of_mul_eq_mul_left hgp this
  refine ⟨A, B, by omega, by omega, ?_, ?_, ⟨by omega, by omega⟩, ⟨by omega, by omega⟩, ⟨e1, e2, hc⟩⟩
  · rw [e1, Int.mul_ediv_cancel_left _ (by omega)]
  · rw [e2, Int.mul_ediv_cancel_left _ (by omega)]

theorem mul_bd2 (a b A B : Int) (h1 : 0 ≤ a) (h2 : a ≤ A) (h3 : 0 ≤ b) (h4 : b ≤ B) : 0 ≤ a * b ∧ a * b ≤ A * B :=
  ⟨Int.mul_nonneg h1 h3, Int.mul_le_mul h2 h4 h3 (by omega)⟩
theorem set2' {B : Nat} {a w : World} {g : Nat} {x y : Value} (h : Below B a w) (hg : B ≤ g) : Below B a ((w.setCell ⟨g, 0, none⟩ x).setCell ⟨g, 1, none⟩ y) := (h.setCell (p := ⟨g, 0, none⟩) hg _).setCell (p := ⟨g, 1, none⟩) hg _
theorem four_set {V : World} {p1 p2 p3 p4 : Addr} {u1 u2 u3 u4 x y : Value} {g : Nat} (h : V.cell? p1 = some u1 ∧ V.cell? p2 = some u2 ∧ V.cell? p3 = some u3 ∧ V.cell? p4 = some u4)
    (h1 : p1.block ≠ g) (h2 : p2.block ≠ g) (h3 : p3.block ≠ g) (h4 : p4.block ≠ g) :
    ((V.setCell ⟨g, 0, none⟩ x).setCell ⟨g, 1, none⟩ y).cell? p1 = some u1 ∧ ((V.setCell ⟨g, 0, none⟩ x).setCell ⟨g, 1, none⟩ y).cell? p2 = some u2 ∧ ((V.setCell ⟨g, 0, none⟩ x).setCell ⟨g, 1, none⟩ y).cell? p3 = some u3 ∧ ((V.setCell ⟨g, 0, none⟩ x).setCell ⟨g, 1, none⟩ y).cell? p4 = some u4 := by
  have key : ∀ (p : Addr) (u : Value), p.block ≠ g → V.cell? p = some u → ((V.setCell ⟨g, 0, none⟩ x).setCell ⟨g, 1, none⟩ y).cell? p = some u := by
    intro p u hp hu
    rw [World.cell?_setCell_other _ _ _ _ (fun e => hp (by subst e; rfl)), World.cell?_setCell_other _ _ _ _ (fun e => hp (by subst e; rfl))]
    exact hu
  exact ⟨key _ _ h1 h.1, key _ _ h2 h.2.1, key _ _ h3 h.2.2.1, key _ _ h4 h.2.2.2⟩
/-- What product computes. -/
def ProdWalk (a b c d N D : Int) : Prop :=
  ∃ (g h a' d' c' b' : Nat), a = g * a' ∧ d = g * d' ∧ c = h * c' ∧ b = h * b' ∧ Nat.gcd a' d' = 1 ∧ Nat.gcd c' b' = 1 ∧ N = a' * c' ∧ D = b' * d' ∧ 0 < N ∧ 0 < D

set_option maxRecDepth 100000 in
set_option maxHeartbeats 2000000 in
theorem product_walk (neg : Bool) (a b c d : Int) (w : World) (ha : 0 < a ∧ a ≤ 9223372036854775808) (hb : 0 < b ∧ b ≤ 9223372036854775807) (hc : 0 < c ∧ c ≤ 9223372036854775808) (hd : 0 < d ∧ d ≤ 9223372036854775807) :
    Calls Tryd.prog 106 #[.bool neg, .int .u64 a, .int .u64 b, .int .u64 c, .int .u64 d] w fun e w' => ∃ (N D : Int), e = .returned (.tuple #[.agg #[.int .i64 (fitN neg N D), .int .i64 (fitD neg N D)], .int .i64 (fitE neg N D)]) ∧ Sec (ProdWalk a b c d N D) ∧ Below w.heap.size w w' := by
  have ea : (a == 0) = false := beq_eq_false_iff_ne.2 (by omega)
  have ec : (c == 0) = false := beq_eq_false_iff_ne.2 (by omega)
  have ea' : ¬ a = 0 := by omega
  have ec' : ¬ c = 0 := by omega
  go_enter Tryd.func106, Tryd.ntmps106
  go_wp2_with fail
  refine (gcd_name _ _ _ ⟨by omega, by omega⟩ ⟨by omega, by omega⟩).mono ?_
  rintro e w' ⟨g, k, rfl, Hg, rfl⟩
  go_wp2_with fail
  refine (gcd_name _ _ _ ⟨by omega, by omega⟩ ⟨by omega, by omega⟩).mono ?_
  rintro e w' ⟨h, k2, rfl, Hh, rfl⟩
  obtain ⟨a', d', hg1, hg2, ha', hd', ba, bd, HP⟩ := common2 a d g ha hd Hg
  obtain ⟨c', b', hh1, hh2, hc', hb', bc, bb, HQ⟩ := common2 c b h hc hb Hh
  have hg3 : ¬ g = 0 := by omega
  have hh3 : ¬ h = 0 := by omega
  have ta : IntKind.u64.wrap (a.tdiv (g : Int)) = a' := (IntWalk.u64_quo a g ⟨by omega, by omega, hg1⟩).trans ha'
  have td : IntKind.u64.wrap (d.tdiv (g : Int)) = d' := (IntWalk.u64_quo d g ⟨by omega, by omega, hg1⟩).trans hd'
  have tc : IntKind.u64.wrap (c.tdiv (h : Int)) = c' := (IntWalk.u64_quo c h ⟨by omega, by omega, hh1⟩).trans hc'
  have tb : IntKind.u64.wrap (b.tdiv (h : Int)) = b' := (IntWalk.u64_quo b h ⟨by omega, by omega, hh1⟩).trans hb'
  have bX := mul_bd2 (a' : Int) (c' : Int) 9223372036854775808 9223372036854775808 (by omega) (by omega) (by omega) (by omega)
  have bY := mul_bd2 (b' : Int) (d' : Int) 9223372036854775808 9223372036854775808 (by omega) (by omega) (by omega) (by omega)
  have pX : 0 < (a' : Int) * (c' : Int) := Int.mul_pos (by omega) (by omega)
  have pY : 0 < (b' : Int) * (d' : Int) := Int.mul_pos (by omega) (by omega)
  obtain ⟨X, hX⟩ : ∃ X, (a' : Int) * (c' : Int) = X := ⟨_, rfl⟩
  obtain ⟨Y, hY⟩ : ∃ Y, (b' : Int) * (d' : Int) = Y := ⟨_, rfl⟩
  rw [hX] at bX pX
  rw [hY] at bY pY
  have HX := Sec.mk hX
  have HY := Sec.mk hY
  have M1 : Sec (X % 18446744073709551616 + X / 18446744073709551616 * 18446744073709551616 = X) := ⟨by omega⟩
  have M2 : Sec (Y % 18446744073709551616 + Y / 18446744073709551616 * 18446744073709551616 = Y) := ⟨by omega⟩
  have HW : Sec (ProdWalk a b c d X Y) := ⟨⟨g, h, a', d', c', b', HP.out.1, HP.out.2.1, HQ.out.1, HQ.out.2.1, HP.out.2.2, HQ.out.2.2, hX.symm, hY.symm, pX, pY⟩⟩
  clear hX hY
  go_wp2_with fail
  obtain ⟨V, hV⟩ : ∃ V, V = (w.alloc (Obj.cells #[Value.int IntKind.i64 0, Value.int IntKind.i64 0] 40)).drewN (k + k2) := ⟨_, rfl⟩
  rw [← hV]
  have hBV : Below w.heap.size w V := by rw [hV]; exact below_drewN ((Below.refl _ _).alloc (Nat.le_refl _) _) _
  have c1 : V.cell? ⟨w.heap.size, 0, none⟩ = some (.int .i64 0) := by rw [hV]; go_simp
  have c2 : V.cell? ⟨w.heap.size, 1, none⟩ = some (.int .i64 0) := by rw [hV]; go_simp
  have c3 : V.frozen? ⟨w.heap.size, 0, none⟩ = false := by rw [hV]; go_simp
  have c4 : V.frozen? ⟨w.heap.size, 1, none⟩ = false := by rw [hV]; go_simp
  have cl : w.heap.size < V.heap.size := by rw [hV]; simp
  clear hV
  go_region_held3 (fun _ => True) (trivial)
    ((first
      | (go_at_call_of 47 (a' : Int); refine (times_exact _ _ _ ?_ ?_ ?_ ?_).mono ?_; omega; omega; omega; omega; rw [HX.out]; rintro e wx ⟨rfl, rfl⟩)
      | (go_at_call_of 47 (b' : Int); refine (times_exact _ _ _ ?_ ?_ ?_ ?_).mono ?_; omega; omega; omega; omega; rw [HY.out]; rintro e wx ⟨rfl, rfl⟩)
      | (go_at_call 83; refine (fit_any _ _ _ _ _ _ ⟨?_, ?_⟩ ⟨?_, ?_⟩ ⟨?_, ?_⟩ ⟨?_, ?_⟩).mono ?_; omega; omega; omega; omega; omega; omega; omega; omega; rw [M1.out, M2.out]; rintro e w6 ⟨rfl, hb6⟩; have hV6 : Below V.heap.size V w6 := Below.trans (by repeat (first | exact Below.refl _ _ | refine Below.drew ?_ | refine Below.alloc ?_ (by simp <;> omega) _)) (hb6.mono (by simp <;> omega)); have y1 := cell_later hV6 c1; have y2 := cell_later hV6 c2; have y3 := (hV6.frozen (p := ⟨w.heap.size, 0, none⟩) cl).trans c3; have y4 := (hV6.frozen (p := ⟨w.heap.size, 1, none⟩) cl).trans c4; have yl := Nat.lt_of_lt_of_le cl hV6.size)))
  all_goals go_wp2_with fail
  all_goals refine bodyPost_ret (v := .tuple #[.agg #[.int .i64 (fitN neg X Y), .int .i64 (fitD neg X Y)], .int .i64 (fitE neg X Y)]) (by simp [results, Tryd.results106, go_sem, y1, y2]) rfl ⟨X, Y, rfl, HW, ?_⟩
  all_goals exact ((hBV.trans (hV6.mono hBV.size)).setCell (p := ⟨w.heap.size, 0, none⟩) (Nat.le_refl _) _).setCell (p := ⟨w.heap.size, 1, none⟩) (Nat.le_refl _) _

theorem product_zero (neg : Bool) (a b c d : Int) (w : World) (h : a = 0 ∨ c = 0) :
    Calls Tryd.prog 106 #[.bool neg, .int .u64 a, .int .u64 b, .int .u64 c, .int .u64 d] w fun e w' => e = .returned (.tuple #[.agg #[.int .i64 0, .int .i64 1], .int .i64 0]) ∧ Below w.heap.size w w' := by
  by_cases ha : a = 0
  · subst ha
    go_enter Tryd.func106, Tryd.ntmps106
    go_wp2_with fail
    exact bodyPost_ret (v := .tuple #[.agg #[.int .i64 0, .int .i64 1], .int .i64 0]) (by simp [results, Tryd.results106, go_sem]) rfl ⟨rfl, by first | exact (Below.refl _ _).alloc (Nat.le_refl _) _ | exact set2' ((Below.refl _ _).alloc (Nat.le_refl _) _) (Nat.le_refl _)⟩
  · have hc : c = 0 := by omega
    subst hc
    have ea : (a == 0) = false := beq_eq_false_iff_ne.2 ha
    go_enter Tryd.func106, Tryd.ntmps106
    go_wp2_with fail
    exact bodyPost_ret (v := .tuple #[.agg #[.int .i64 0, .int .i64 1], .int .i64 0]) (by simp [results, Tryd.results106, go_sem]) rfl ⟨rfl, by first | exact (Below.refl _ _).alloc (Nat.le_refl _) _ | exact set2' ((Below.refl _ _).alloc (Nat.le_refl _) _) (Nat.le_refl _)⟩

theorem prod_rat (n1 d1 n2 d2 N D : Int) (h1 : Nat.gcd n1.natAbs d1.natAbs = 1) (h2 : Nat.gcd n2.natAbs d2.natAbs = 1) (hd1 : 0 < d1) (hd2 : 0 < d2) (H : ProdWalk (n1.natAbs : Int) d1 (n2.natAbs : Int) d2 N D) :
    Nat.gcd N.natAbs D.natAbs = 1 ∧ (((if (decide (n1 < 0) != decide (n2 < 0)) = true then -N else N : Int) : Rat) / (D : Rat)) = ((n1 : Rat) / (d1 : Rat)) * ((n2 : Rat) / (d2 : Rat)) := by
  obtain ⟨g, h, a', d', c', b', e1, e2, e3, e4, g1, g2, eN, eD, hN, hD⟩ := H
  have f1 : n1.natAbs = g * a' := by have : ((n1.natAbs : Nat) : Int) = ((g * a' : Nat) : Int) := by rw [e1]; push_cast; rfl
                                     omega
  have f2 : d2.natAbs = g * d' := by rw [e2]; rw [Int.natAbs_mul]; simp
  have f3 : n2.natAbs = h * c' := by have : ((n2.natAbs : Nat) : Int) = ((h * c' : Nat) : Int) := by rw [e3]; push_cast; rfl
                                     omega
  have f4 : d1.natAbs = h * b' := by rw [e4]; rw [Int.natAbs_mul]; simp
  have k1 : Nat.gcd a' b' = 1 := by
    rw [f1, f4] at h1
    exact Nat.Coprime.coprime_mul_left (Nat.Coprime.coprime_mul_left_right h1)
  have k2 : Nat.gcd c' d' = 1 := by
    rw [f3, f2] at h2
    exact Nat.Coprime.coprime_mul_left (Nat.Coprime.coprime_mul_left_right h2)
  have hcop : Nat.gcd (a' * c') (b' * d') = 1 :=
    Nat.Coprime.mul_left (Nat.Coprime.mul_right k1 g1) (Nat.Coprime.mul_right g2 k2)
  refine ⟨?_, ?_⟩
  · rw [eN, eD, Int.natAbs_mul, Int.natAbs_mul]; simpa using hcop
  · have p1 := intCast_ne d1 (by omega)
    have p2 := intCast_ne d2 (by omega)
    have e : ((n1 : Rat) / (d1 : Rat)) * ((n2 : Rat) / (d2 : Rat)) = ((n1 * n2 : Int) : Rat) / ((d1 * d2 : Int) : Rat) := by
      rw [Rat.intCast_mul, Rat.intCast_mul]; grind
    rw [e]
    refine div_eq_div _ _ _ _ (by omega) (by have := Int.mul_pos hd1 hd2; omega) ?_
    have hS : n1 * n2 = if (decide (n1 < 0) != decide (n2 < 0)) = true then -((n1.natAbs : Int) * (n2.natAbs : Int)) else (n1.natAbs : Int) * (n2.natAbs : Int) := by
      by_cases s1 : n1 < 0 <;> by_cases s2 : n2 < 0
      · simp only [s1, s2]; rw [show ((n1.natAbs : Nat) : Int) = -n1 by omega, show ((n2.natAbs : Nat) : Int) = -n2 by omega]; first | (simp; done) | (simp; grind)
      · simp only [s1, s2]; rw [show ((n1.natAbs : Nat) : Int) = -n1 by omega, show ((n2.natAbs : Nat) : Int) = n2 by omega]; first | (simp; done) | (simp; grind)
      · simp only [s1, s2]; rw [show ((n1.natAbs : Nat) : Int) = n1 by omega, show ((n2.natAbs : Nat) : Int) = -n2 by omega]; first | (simp; done) | (simp; grind)
      · simp only [s1, s2]; rw [show ((n1.natAbs : Nat) : Int) = n1 by omega, show ((n2.natAbs : Nat) : Int) = n2 by omega]; first | (simp; done) | (simp; grind)
    rw [hS, eN, eD, e1, e2, e3, e4]
    split <;> grind

set_option maxRecDepth 100000 in
set_option maxHeartbeats 2000000 in
theorem Mul_q (p q : Rat) (w : World) (hp : fits p) (hq : fits q) :
    Calls Tryd.prog 93 #[.agg #[.int .i64 p.num, .int .i64 p.den], .agg #[.int .i64 q.num, .int .i64 q.den]] w fun e w' =>
      e = .returned (.tuple #[.agg #[.int .i64 (qN (p * q)), .int .i64 (qD (p * q))], .int .i64 (qE (p * q))]) ∧ Below w.heap.size w w' := by
  have p0 := p.den_pos
  have q0 := q.den_pos
  have key : ∀ w' : World, Calls Tryd.prog 106 #[.bool (decide (p.num < 0) != decide (q.num < 0)), .int .u64 (p.num.natAbs : Int), .int .u64 (p.den : Int), .int .u64 (q.num.natAbs : Int), .int .u64 (q.den : Int)] w' fun e w'' =>
      e = .returned (.tuple #[.agg #[.int .i64 (qN (p * q)), .int .i64 (qD (p * q))], .int .i64 (qE (p * q))]) ∧ Below w'.heap.size w' w'' := by
    intro w'
    by_cases hz : p.num = 0 ∨ q.num = 0
    · have hpq : p * q = ((0 : Int) : Rat) := by
        rcases hz with h | h
        · have : p = 0 := Rat.num_eq_zero.1 h
          rw [this, Rat.zero_mul]; rfl
        · have : q = 0 := Rat.num_eq_zero.1 h
          rw [this, Rat.mul_zero]; rfl
      have hf : fits (p * q) := by rw [hpq]; unfold fits; rw [Rat.num_intCast, Rat.den_intCast]; omega
      rw [qN_fits hf, qD_fits hf, qE_fits hf, hpq, Rat.num_intCast, Rat.den_intCast]
      exact product_zero _ _ _ _ _ w' (by omega)
    · refine (product_walk _ (p.num.natAbs : Int) (p.den : Int) (q.num.natAbs : Int) (q.den : Int) w' ⟨by omega, by have := hp.1; have := hp.2.1; omega⟩ ⟨by omega, hp.2.2⟩ ⟨by omega, by have := hq.1; have := hq.2.1; omega⟩ ⟨by omega, hq.2.2⟩).mono ?_
      rintro e w'' ⟨N, D, rfl, ⟨H⟩, hB⟩
      have hr := prod_rat p.num p.den q.num q.den N D (by simpa using p.reduced) (by simpa using q.reduced) (by omega) (by omega) H
      have hND : 0 < N ∧ 0 < D := by obtain ⟨_, _, _, _, _, _, _, _, _, _, _, _, _, _, h1, h2⟩ := H; exact ⟨h1, h2⟩
      rw [← rat_of p, ← rat_of q] at hr
      obtain ⟨f1, f2, f3⟩ := fit_q (decide (p.num < 0) != decide (q.num < 0)) N D (by omega) hND.2 hr.1 (fun h => by omega) (p * q) hr.2.symm
      rw [f1, f2, f3]
      exact ⟨rfl, hB⟩
  have hs := fun w => right_exact p.num p.den w ⟨hp.1, hp.2.1⟩ ⟨by omega, hp.2.2⟩
  have ht := fun w => right_exact q.num q.den w ⟨hq.1, hq.2.1⟩ ⟨by omega, hq.2.2⟩
  rw [right_q] at hs ht
  have b1 := hp.1
  have b2 := hp.2.1
  have b3 := hp.2.2
  have b4 := hq.1
  have b5 := hq.2.1
  have b6 := hq.2.2
  have HK := Sec.mk key
  have HS := Sec.mk hs
  have HT := Sec.mk ht
  obtain ⟨d1, hd1⟩ : ∃ d : Int, (p.den : Int) = d := ⟨_, rfl⟩
  obtain ⟨d2, hd2⟩ : ∃ d : Int, (q.den : Int) = d := ⟨_, rfl⟩
  have hd10 : 0 < d1 := by omega
  have hd20 : 0 < d2 := by omega
  rw [hd1] at HK HS b3
  rw [hd2] at HK HT b6
  rw [hd1, hd2]
  clear key hs ht hd1 hd2 p0 q0 hp hq
  generalize qN (p * q) = rN at *
  generalize qD (p * q) = rD at *
  generalize qE (p * q) = rE at *
  generalize p.num = n1 at *
  generalize q.num = n2 at *
  obtain ⟨s1, hs1⟩ : ∃ s, decide (n1 < 0) = s := ⟨_, rfl⟩
  obtain ⟨s2, hs2⟩ : ∃ s, decide (n2 < 0) = s := ⟨_, rfl⟩
  rw [hs1, hs2] at HK
  go_enter Tryd.func93, Tryd.ntmps93
  go_wp2_with fail
  refine (HS.out _).mono ?_; rintro e w1 ⟨rfl, k, rfl⟩
  go_wp2_with fail
  refine (HT.out _).mono ?_; rintro e w1 ⟨rfl, k2, rfl⟩
  go_wp2_with fail
  obtain ⟨V, hV⟩ : ∃ V, V = ((((((w.alloc (Obj.cells #[Value.int IntKind.i64 n1, Value.int IntKind.i64 d1] 40)).alloc (Obj.cells #[Value.int IntKind.i64 n2, Value.int IntKind.i64 d2] 40)).alloc (Obj.cells #[Value.int IntKind.i64 0, Value.int IntKind.i64 0] 40)).alloc (Obj.cells #[Value.int IntKind.i64 n1, Value.int IntKind.i64 d1] 40)).drewN k).alloc (Obj.cells #[Value.int IntKind.i64 n2, Value.int IntKind.i64 d2] 40)).drewN k2 := ⟨_, rfl⟩
  rw [← hV]
  have c1 : V.cell? ⟨w.heap.size, 0, none⟩ = some (.int .i64 n1) := by rw [hV]; go_simp
  have c2 : V.cell? ⟨w.heap.size, 1, none⟩ = some (.int .i64 d1) := by rw [hV]; go_simp
  have c3 : V.cell? ⟨w.heap.size + 1, 0, none⟩ = some (.int .i64 n2) := by rw [hV]; go_simp
  have c4 : V.cell? ⟨w.heap.size + 1, 1, none⟩ = some (.int .i64 d2) := by rw [hV]; go_simp
  have c5 : V.cell? ⟨w.heap.size + 1 + 1, 0, none⟩ = some (.int .i64 0) := by rw [hV]; go_simp
  have c6 : V.cell? ⟨w.heap.size + 1 + 1, 1, none⟩ = some (.int .i64 0) := by rw [hV]; go_simp
  have c7 : V.frozen? ⟨w.heap.size + 1 + 1, 0, none⟩ = false := by rw [hV]; go_simp
  have c8 : V.frozen? ⟨w.heap.size + 1 + 1, 1, none⟩ = false := by rw [hV]; go_simp
  have cl : w.heap.size + 1 + 1 < V.heap.size := by rw [hV]; simp <;> omega
  have hBV : Below w.heap.size w V := by rw [hV]; repeat (first | exact Below.refl _ _ | refine below_drewN ?_ _ | refine Below.alloc ?_ (by simp <;> omega) _)
  have wd1 : IntKind.u64.wrap d1 = d1 := wraps_u64 _ (by omega) (by omega)
  have wd2 : IntKind.u64.wrap d2 = d2 := wraps_u64 _ (by omega) (by omega)
  clear hV HS HT
  go_region_held3 (fun w' => w'.cell? ⟨w.heap.size, 0, none⟩ = some (.int .i64 n1) ∧ w'.cell? ⟨w.heap.size, 1, none⟩ = some (.int .i64 d1) ∧ w'.cell? ⟨w.heap.size + 1, 0, none⟩ = some (.int .i64 n2) ∧ w'.cell? ⟨w.heap.size + 1, 1, none⟩ = some (.int .i64 d2))
    (first | exact four_set (four_later c1 c2 c3 c4 hV6) (by simp; omega) (by simp; omega) (by simp) (by simp) | (refine four_later c1 c2 c3 c4 ?_; (first | exact hV6 | (repeat (first | exact Below.refl _ _ | refine Below.drew ?_ | refine Below.alloc ?_ (by simp <;> omega) _)))))
    ((first
      | (go_at_call 48; refine (size_any _ _ ?_ ?_).mono ?_; omega; omega; rintro e w' ⟨rfl, rfl⟩)
      | (go_at_call 106; refine (HK.out _).mono ?_; rintro e w6 ⟨rfl, hb6⟩; have hV6 : Below V.heap.size V w6 := Below.trans (by repeat (first | exact Below.refl _ _ | refine Below.drew ?_ | refine Below.alloc ?_ (by simp <;> omega) _)) (hb6.mono (by simp <;> omega)); have y1 := cell_later hV6 c5; have y2 := cell_later hV6 c6; have y3 := (hV6.frozen (p := ⟨w.heap.size + 1 + 1, 0, none⟩) cl).trans c7; have y4 := (hV6.frozen (p := ⟨w.heap.size + 1 + 1, 1, none⟩) cl).trans c8; have yl := Nat.lt_of_lt_of_le cl hV6.size)))
  all_goals go_wp2_with fail
  all_goals exact bodyPost_ret (v := .tuple #[.agg #[.int .i64 rN, .int .i64 rD], .int .i64 rE]) (by simp [results, Tryd.results93, go_sem, y1, y2]) rfl ⟨rfl, set2' (hBV.trans (hV6.mono hBV.size)) (by omega)⟩
end Go.Proofs.YtojgjpegfkfnjaaDoor
