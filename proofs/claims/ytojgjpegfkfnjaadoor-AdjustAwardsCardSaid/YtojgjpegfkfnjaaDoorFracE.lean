/- The contract of add. -/
import Derived.Test.YtojgjpegfkfnjaaDoorFracD
import Derived.Deep.DeepCutAuto
namespace Go.Proofs.YtojgjpegfkfnjaaDoor
open Go.RowKit
set_option linter.unusedVariables false
set_option linter.unusedSimpArgs false

/-- What the first statement of add leaves: two new words. -/
def AddCut (W : World) (x y : Int) (s11 s12 : Value) (wx : World) : Prop :=
  ∃ gx gy : Nat, s11 = .pointer (some ⟨gx, 0, none⟩) ∧ s12 = .pointer (some ⟨gy, 0, none⟩) ∧ gx ≠ gy ∧ W.heap.size ≤ gx ∧ W.heap.size ≤ gy ∧ gx < wx.heap.size ∧ gy < wx.heap.size ∧
    (wx.cell? ⟨gx, 0, none⟩ = some (.int .u64 (x % 18446744073709551616)) ∧ wx.cell? ⟨gx, 1, none⟩ = some (.int .u64 (x / 18446744073709551616)) ∧ wx.frozen? ⟨gx, 0, none⟩ = false ∧ wx.frozen? ⟨gx, 1, none⟩ = false) ∧
    (wx.cell? ⟨gy, 0, none⟩ = some (.int .u64 (y % 18446744073709551616)) ∧ wx.cell? ⟨gy, 1, none⟩ = some (.int .u64 (y / 18446744073709551616)) ∧ wx.frozen? ⟨gy, 0, none⟩ = false ∧ wx.frozen? ⟨gy, 1, none⟩ = false) ∧ Below W.heap.size W wx

theorem eq_u64 (d : Nat) (a b : Int) (w : World) : (Op.equalIn (d + 1) 94 (.int .u64 a) (.int .u64 b)).run Tryd.prog w = .ok (a == b) w := by
  simp [Op.equalIn, Sem.run_bind, run_underlying Tryd.underlying94]
theorem eq_wide (a b c d : Int) (w : World) : (Op.equalIn 10000 96 (.agg #[.int .u64 a, .int .u64 b]) (.agg #[.int .u64 c, .int .u64 d])).run Tryd.prog w = .ok (a == c && b == d) w := by
  have hs : (sizeOf 94).run Tryd.prog w = .ok 1 w := by kernel_rfl
  have h0 : ∀ x y : Value, (part 94 #[x, y] 0).run Tryd.prog w = .ok x w := fun _ _ => by kernel_rfl
  have h1 : ∀ x y : Value, (part 94 #[x, y] 1).run Tryd.prog w = .ok y w := fun _ _ => by kernel_rfl
  unfold Op.equalIn
  simp only [Sem.run_bind, run_underlying Tryd.underlying96, Result.andThen_ok, hs]
  simp [Std.Legacy.Range.forIn_eq_forIn_range', List.range', h0, h1, eq_u64]
  by_cases h : a = c <;> by_cases h' : b = d <;> simp [h, h']

theorem common (d1 d2 : Int) (g : Nat) (h1 : 0 < d1 ∧ d1 ≤ 9223372036854775807) (h2 : 0 < d2 ∧ d2 ≤ 9223372036854775807) (Hg : Sec (g = Nat.gcd d1.natAbs d2.natAbs)) :
    ∃ p q : Nat, (1 : Int) ≤ g ∧ (g : Int) ≤ 9223372036854775807 ∧ d1 / (g : Int) = p ∧ d2 / (g : Int) = q ∧ (0 < (p : Int) ∧ (p : Int) ≤ 9223372036854775807) ∧ (0 < (q : Int) ∧ (q : Int) ≤ 9223372036854775807) ∧ Sec (d1 = g * p ∧ d2 = g * q) := by
  have hg := Hg.out
  have hgp : 0 < g := by rw [hg]; exact Nat.gcd_pos_of_pos_right _ (by omega)
  obtain ⟨A, hA⟩ : g ∣ d1.natAbs := hg ▸ Nat.gcd_dvd_left _ _
  obtain ⟨B, hB⟩ : g ∣ d2.natAbs := hg ▸ Nat.gcd_dvd_right _ _
  have hA0 : 0 < A := by
    rcases Nat.eq_zero_or_pos A with h | h
    · subst h; simp at hA; omega
    · exact h
  have hB0 : 0 < B := by
    rcases Nat.eq_zero_or_pos B with h | h
    · subst h; simp at hB; omega
    · exact h
  have e1 : d1 = (g : Int) * A := by rw [show d1 = (d1.natAbs : Int) by omega, hA]; simp
  have e2 : d2 = (g : Int) * B := by rw [show d2 = (d2.natAbs : Int) by omega, hB]; simp
  have l1 := Nat.le_mul_of_pos_left A hgp
  have l2 := Nat.le_mul_of_pos_left B hgp
  have l3 := Nat.le_mul_of_pos_right g hA0
  refine ⟨A, B, by omega, by omega, ?_, ?_, ⟨by omega, by omega⟩, ⟨by omega, by omega⟩, ⟨e1, e2⟩⟩
  · rw [e1, Int.mul_ediv_cancel_left _ (by omega)]
  · rw [e2, Int.mul_ediv_cancel_left _ (by omega)]

theorem again (d2 : Int) (g t : Nat) (R : Int) (h2 : 0 < d2 ∧ d2 ≤ 9223372036854775807) (hg : (1 : Int) ≤ g) {p q : Nat} {d1 : Int} (HP : Sec (d1 = g * p ∧ d2 = g * q)) (Ht : Sec (t = Nat.gcd g R.natAbs)) :
    ∃ r : Nat, (1 : Int) ≤ t ∧ (t : Int) ≤ 9223372036854775807 ∧ d2 / (t : Int) = r ∧ (0 < (r : Int) ∧ (r : Int) ≤ 9223372036854775807) ∧ Sec (d2 = t * r) := by
  have ht := Ht.out
  have htp : 0 < t := by rw [ht]; exact Nat.gcd_pos_of_pos_left _ (by omega)
  obtain ⟨c, hc⟩ : t ∣ g := ht ▸ Nat.gcd_dvd_left _ _
  have e : d2 = (t : Int) * (c * q : Nat) := by rw [HP.out.2, hc]; simp [Int.mul_assoc]
  have hr : 0 < c * q := by
    rcases Nat.eq_zero_or_pos (c * q) with h | h
    · rw [h] at e; simp at e; omega
    · exact h
  have l1 := Nat.le_mul_of_pos_left (c * q) htp
  have l2 := Nat.le_mul_of_pos_right t hr
  have e' : d2 = ((t * (c * q) : Nat) : Int) := by rw [e]; simp
  refine ⟨c * q, by omega, by omega, ?_, ⟨by omega, by omega⟩, ⟨e⟩⟩
  rw [e, Int.mul_ediv_cancel_left _ (by omega)]

def addS (s1 s2 : Bool) (X Y : Int) : Int := if s1 = s2 then X + Y else if X < Y then Y - X else X - Y
def addN (s1 s2 : Bool) (X Y : Int) : Bool := if s1 = s2 then s1 else if X < Y then s2 else s1
def AddCut2 (W : World) (S : Int) (sgn : Bool) (s13 s15 : Value) (wx : World) : Prop :=
  ∃ gs : Nat, s13 = .bool sgn ∧ s15 = .pointer (some ⟨gs, 0, none⟩) ∧ W.heap.size ≤ gs ∧ gs < wx.heap.size ∧
    (wx.cell? ⟨gs, 0, none⟩ = some (.int .u64 (S % 18446744073709551616)) ∧ wx.cell? ⟨gs, 1, none⟩ = some (.int .u64 (S / 18446744073709551616))) ∧ Below W.heap.size W wx

theorem thru {w w2 : World} {o : Obj} {p : Addr} {u : Value} (hb : Below (w.alloc o).heap.size (w.alloc o) w2) (h : w.cell? p = some u) : w2.cell? p = some u :=
  cell_later hb (cell_later ((Below.refl _ _).alloc (Nat.le_refl _) _) h)
theorem thruF {w w2 : World} {o : Obj} {b i : Nat} {u : Bool} (hb : Below (w.alloc o).heap.size (w.alloc o) w2) (hp : b < w.heap.size) (h : w.frozen? ⟨b, i, none⟩ = u) : w2.frozen? ⟨b, i, none⟩ = u :=
  ((hb.mono (Nat.le_of_lt (by simp : w.heap.size < (w.alloc o).heap.size))).frozen (p := ⟨b, i, none⟩) hp).trans ((((Below.refl _ _).alloc (Nat.le_refl _) o).frozen (p := ⟨b, i, none⟩) hp).trans h)
theorem new2 {w w2 : World} {u v : Value} {T : Nat} (hb : Below (w.alloc (.cells #[u, v] T)).heap.size (w.alloc (.cells #[u, v] T)) w2) :
    w2.cell? ⟨w.heap.size, 0, none⟩ = some u ∧ w2.cell? ⟨w.heap.size, 1, none⟩ = some v ∧ w2.frozen? ⟨w.heap.size, 0, none⟩ = false ∧ w2.frozen? ⟨w.heap.size, 1, none⟩ = false ∧ w.heap.size < w2.heap.size :=
  kept2 (n := 0) hb
theorem four2 {w2 w3 : World} {b gx gy : Nat} {u v x0 x1 y0 y1 : Value} (hx : gx ≠ b) (hy : gy ≠ b) (h0 : w2.cell? ⟨b, 0, none⟩ = some u) (h1 : w2.cell? ⟨b, 1, none⟩ = some v) (h2 : w2.frozen? ⟨b, 0, none⟩ = false) (h3 : w2.frozen? ⟨b, 1, none⟩ = false) (h4 : b < w2.heap.size)
    (hb : Below ((((w2.setCell ⟨gx, 0, none⟩ x0).setCell ⟨gx, 1, none⟩ x1).setCell ⟨gy, 0, none⟩ y0).setCell ⟨gy, 1, none⟩ y1).drew.heap.size ((((w2.setCell ⟨gx, 0, none⟩ x0).setCell ⟨gx, 1, none⟩ x1).setCell ⟨gy, 0, none⟩ y0).setCell ⟨gy, 1, none⟩ y1).drew w3) :
    w3.cell? ⟨b, 0, none⟩ = some u ∧ w3.cell? ⟨b, 1, none⟩ = some v ∧ w3.frozen? ⟨b, 0, none⟩ = false ∧ w3.frozen? ⟨b, 1, none⟩ = false ∧ b < w3.heap.size := by
  have hl : b < ((((w2.setCell ⟨gx, 0, none⟩ x0).setCell ⟨gx, 1, none⟩ x1).setCell ⟨gy, 0, none⟩ y0).setCell ⟨gy, 1, none⟩ y1).drew.heap.size := by simpa using h4
  refine ⟨(hb.cell (p := ⟨b, 0, none⟩) hl).trans ?_, (hb.cell (p := ⟨b, 1, none⟩) hl).trans ?_, (hb.frozen (p := ⟨b, 0, none⟩) hl).trans ?_, (hb.frozen (p := ⟨b, 1, none⟩) hl).trans ?_, Nat.lt_of_lt_of_le hl hb.size⟩
  · go_simp
  · go_simp
  · go_simp
  · go_simp
theorem addS_of {W w' : World} {B : Nat} {u v : Value} (h1 : W.cell? ⟨B, 0, none⟩ = some u) (h2 : W.cell? ⟨B + 1, 0, none⟩ = some v) (hB : B + 1 < W.heap.size) (h : Below W.heap.size W w') :
    w'.cell? ⟨B, 0, none⟩ = some u ∧ w'.cell? ⟨B + 1, 0, none⟩ = some v ∧ Below W.heap.size W w' :=
  ⟨(h.cell (p := ⟨B, 0, none⟩) (by simp; omega)).trans h1, (h.cell (p := ⟨B + 1, 0, none⟩) (by simp; omega)).trans h2, h⟩
section
variable {W w' w1 : World} {B : Nat} {u v : Value}
theorem addS_below (hB : B + 1 < W.heap.size) (hb : Below w'.heap.size w' w1) (h : w'.cell? ⟨B, 0, none⟩ = some u ∧ w'.cell? ⟨B + 1, 0, none⟩ = some v ∧ Below W.heap.size W w') :
    w1.cell? ⟨B, 0, none⟩ = some u ∧ w1.cell? ⟨B + 1, 0, none⟩ = some v ∧ Below W.heap.size W w1 := by
  have := h.2.2.size
  exact ⟨(hb.cell (p := ⟨B, 0, none⟩) (by simp; omega)).trans h.1, (hb.cell (p := ⟨B + 1, 0, none⟩) (by simp; omega)).trans h.2.1, h.2.2.trans (hb.mono this)⟩
theorem addS_set (hB : B + 1 < W.heap.size) (h : w'.cell? ⟨B, 0, none⟩ = some u ∧ w'.cell? ⟨B + 1, 0, none⟩ = some v ∧ Below W.heap.size W w') {p : Addr} (hp : W.heap.size ≤ p.block) (x : Value) :
    (w'.setCell p x).cell? ⟨B, 0, none⟩ = some u ∧ (w'.setCell p x).cell? ⟨B + 1, 0, none⟩ = some v ∧ Below W.heap.size W (w'.setCell p x) :=
  ⟨(World.cell?_setCell_other _ _ _ _ (fun e => by subst e; simp at hp; omega)).trans h.1, (World.cell?_setCell_other _ _ _ _ (fun e => by subst e; simp at hp; omega)).trans h.2.1, h.2.2.setCell hp _⟩
theorem addS_alloc (hB : B + 1 < W.heap.size) (h : w'.cell? ⟨B, 0, none⟩ = some u ∧ w'.cell? ⟨B + 1, 0, none⟩ = some v ∧ Below W.heap.size W w') (o : Obj) :
    (w'.alloc o).cell? ⟨B, 0, none⟩ = some u ∧ (w'.alloc o).cell? ⟨B + 1, 0, none⟩ = some v ∧ Below W.heap.size W (w'.alloc o) :=
  ⟨(World.cell?_alloc_lt _ _ _ (by have := h.2.2.size; simp; omega)).trans h.1, (World.cell?_alloc_lt _ _ _ (by have := h.2.2.size; simp; omega)).trans h.2.1, h.2.2.alloc h.2.2.size _⟩
end

/-- What add computes: the numbers that it goes through. -/
def AddWalk (n1 d1 n2 d2 : Int) (m neg : Bool) (N D : Int) : Prop :=
  ∃ (g p q : Nat) (S : Int), g = Nat.gcd d1.natAbs d2.natAbs ∧ d1 = g * p ∧ d2 = g * q ∧ S = addS (decide (n1 < 0)) (!(decide (n2 < 0) == m)) (n1.natAbs * q) (n2.natAbs * p) ∧
    ((S = 0 ∧ N = 0 ∧ D = 1 ∧ neg = false) ∨
     (0 < S ∧ neg = addN (decide (n1 < 0)) (!(decide (n2 < 0) == m)) (n1.natAbs * q) (n2.natAbs * p) ∧ ∃ t r : Nat, t = Nat.gcd g (S % g).natAbs ∧ d2 = t * r ∧ N = S / t ∧ D = p * r))

set_option maxRecDepth 100000 in
set_option maxHeartbeats 2000000 in
theorem add_walk (n1 d1 n2 d2 : Int) (m : Bool) (w : World) (hn1 : -9223372036854775808 ≤ n1 ∧ n1 ≤ 9223372036854775807) (hd1 : 0 < d1 ∧ d1 ≤ 9223372036854775807) (hn2 : -9223372036854775808 ≤ n2 ∧ n2 ≤ 9223372036854775807) (hd2 : 0 < d2 ∧ d2 ≤ 9223372036854775807) :
    Calls Tryd.prog 50 #[.agg #[.int .i64 n1, .int .i64 d1], .agg #[.int .i64 n2, .int .i64 d2], .bool m] w fun e w' => ∃ (N D : Int) (neg : Bool), e = .returned (.tuple #[.agg #[.int .i64 (fitN neg N D), .int .i64 (fitD neg N D)], .int .i64 (fitE neg N D)]) ∧ Sec (AddWalk n1 d1 n2 d2 m neg N D) ∧ Below w.heap.size w w' := by
  go_enter Tryd.func50, Tryd.ntmps50
  go_wp2
  go_quiet (fail)
  go_wp2_with (go_at_call 79; refine (gcd_name _ _ _ (by omega) (by omega)).mono ?_; rintro e w' ⟨g, k, rfl, Hg, rfl⟩)
  obtain ⟨p, q, hg1, hg3, hp, hq, bp, bq, HP⟩ := common d1 d2 g hd1 hd2 Hg
  have hg2 : ¬ g = 0 := by omega
  have wp : IntKind.u64.wrap (p : Int) = p := wraps_u64 _ (by omega) (by omega)
  have wq : IntKind.u64.wrap (q : Int) = q := wraps_u64 _ (by omega) (by omega)
  have tp : IntKind.u64.wrap (d1.tdiv (g : Int)) = p := (IntWalk.u64_quo d1 g ⟨by omega, by omega, hg1⟩).trans hp
  have tq : IntKind.u64.wrap (d2.tdiv (g : Int)) = q := (IntWalk.u64_quo d2 g ⟨by omega, by omega, hg1⟩).trans hq
  obtain ⟨W, hW⟩ : ∃ W, W = (((w.alloc (Obj.cells #[Value.int IntKind.i64 n1, Value.int IntKind.i64 d1] 40)).alloc (Obj.cells #[Value.int IntKind.i64 n2, Value.int IntKind.i64 d2] 40)).alloc (Obj.cells #[Value.int IntKind.i64 0, Value.int IntKind.i64 0] 40)).drewN (nq + k) := ⟨_, rfl⟩
  rw [← hW]
  have c1 : W.cell? ⟨w.heap.size, 0, none⟩ = some (.int .i64 n1) := by rw [hW]; go_simp
  have c2 : W.cell? ⟨w.heap.size + 1, 0, none⟩ = some (.int .i64 n2) := by rw [hW]; go_simp
  have c0 : w.heap.size + 1 < W.heap.size := by rw [hW]; simp
  have c5 : W.cell? ⟨w.heap.size + 1 + 1, 0, none⟩ = some (.int .i64 0) := by rw [hW]; go_simp
  have c6 : W.cell? ⟨w.heap.size + 1 + 1, 1, none⟩ = some (.int .i64 0) := by rw [hW]; go_simp
  have c7 : W.frozen? ⟨w.heap.size + 1 + 1, 0, none⟩ = false := by rw [hW]; go_simp
  have c8 : W.frozen? ⟨w.heap.size + 1 + 1, 1, none⟩ = false := by rw [hW]; go_simp
  have c9 : w.heap.size + 1 + 1 < W.heap.size := by rw [hW]; simp
  have C5 := Sec.mk c5
  have C6 := Sec.mk c6
  have C7 := Sec.mk c7
  have C8 := Sec.mk c8
  clear c5 c6 c7 c8
  have HW := Sec.mk hW
  clear hW
  go_cut [11, 12] (fun s11 s12 wx => AddCut W (n1.natAbs * q) (n2.natAbs * p) s11 s12 wx)
  case first =>
    go_region_held3 (fun w' => w'.cell? ⟨w.heap.size, 0, none⟩ = some (.int .i64 n1) ∧ w'.cell? ⟨w.heap.size + 1, 0, none⟩ = some (.int .i64 n2) ∧ Below W.heap.size W w')
      ((refine addS_of c1 c2 c0 ?_; repeat (first | exact Below.refl _ _ | refine Below.drew ?_ | refine Below.alloc ?_ (by simp <;> omega) _)))
      ((first | (go_at_call 48; refine (size_any _ _ ?_ ?_).mono ?_; omega; omega; rintro e w' ⟨rfl, rfl⟩) | (go_at_call 47; refine (times_exact _ _ _ ?_ ?_ ?_ ?_).mono ?_; omega; omega; omega; omega; rintro e wx ⟨rfl, rfl⟩)))
    all_goals (go_wp2_with fail; go_meet; refine ⟨_, _, rfl, rfl, ?_, ?_, ?_, ?_, ?_, ⟨?_, ?_, ?_, ?_⟩, ⟨?_, ?_, ?_, ?_⟩, ?_⟩)
    all_goals first
      | omega
      | (simp only [World.heap_size_alloc, World.heap_drew]; omega)
      | (go_simp; done)
      | (simp <;> omega)
      | (repeat (first | exact Below.refl _ _ | refine Below.drew ?_ | refine Below.alloc ?_ (by simp <;> omega) _))
  case rest =>
    obtain ⟨gx, gy, rfl, rfl, gne, gx0, gy0, gx1, gy1, ⟨x1, x2, x3, x4⟩, ⟨y1, y2, y3, y4⟩, hB⟩ := hcut
    have c3 := cell_later hB c1
    have c4 := cell_later hB c2
    obtain ⟨s1, hs1⟩ : ∃ b, decide (n1 < 0) = b := ⟨_, rfl⟩
    obtain ⟨s2, hs2⟩ : ∃ b, (!(decide (n2 < 0) == m)) = b := ⟨_, rfl⟩
    have bX : 0 ≤ (n1.natAbs : Int) * q ∧ (n1.natAbs : Int) * q ≤ 85070591730234615847396907784232501249 * 2 := mul_bound _ _ (by omega) (by omega) (by omega) (by omega)
    have bY : 0 ≤ (n2.natAbs : Int) * p ∧ (n2.natAbs : Int) * p ≤ 85070591730234615847396907784232501249 * 2 := mul_bound _ _ (by omega) (by omega) (by omega) (by omega)
    obtain ⟨X, hX⟩ : ∃ X, (n1.natAbs : Int) * q = X := ⟨_, rfl⟩
    obtain ⟨Y, hY⟩ : ∃ Y, (n2.natAbs : Int) * p = Y := ⟨_, rfl⟩
    rw [hX] at bX x1 x2
    rw [hY] at bY y1 y2
    have HX := Sec.mk hX
    have HY := Sec.mk hY
    clear hX hY
    have m1 : X % 18446744073709551616 + X / 18446744073709551616 * 18446744073709551616 = X := by omega
    have m2 : Y % 18446744073709551616 + Y / 18446744073709551616 * 18446744073709551616 = Y := by omega
    have M1 := Sec.mk m1
    have M2 := Sec.mk m2
    clear m1 m2
    go_wp2_with fail
    go_quiet (fail)
    obtain ⟨s3, hs3⟩ : ∃ b, (!(s1 == s2)) = b := ⟨_, rfl⟩
    go_upto_if 57 with (go_at_call 80; refine (plus_any _ _ _ _ _ ⟨?_, ?_⟩ ⟨?_, ?_⟩ ⟨?_, ?_⟩ ⟨?_, ?_⟩ ?_).mono ?_; omega; omega; omega; omega; omega; omega; omega; omega; omega; rintro e w1 ⟨rfl, hb1⟩)
    rw [M1.out, M2.out]
    have hB1 : Below W.heap.size W w1 := (below_drewN hB nq).trans (hb1.mono hB.size)
    have k1 := (hb1.cell (p := ⟨gx, 0, none⟩) gx1).trans x1
    have k2 := (hb1.cell (p := ⟨gx, 1, none⟩) gx1).trans x2
    have k3 := (hb1.cell (p := ⟨gy, 0, none⟩) gy1).trans y1
    have k4 := (hb1.cell (p := ⟨gy, 1, none⟩) gy1).trans y2
    have k5 := (hb1.frozen (p := ⟨gx, 0, none⟩) gx1).trans x3
    have k6 := (hb1.frozen (p := ⟨gx, 1, none⟩) gx1).trans x4
    have k7 := (hb1.frozen (p := ⟨gy, 0, none⟩) gy1).trans y3
    have k8 := (hb1.frozen (p := ⟨gy, 1, none⟩) gy1).trans y4
    have k9 := hb1.size
    have k10 : gx < w1.heap.size := Nat.lt_of_lt_of_le gx1 k9
    have k11 : gy < w1.heap.size := Nat.lt_of_lt_of_le gy1 k9
    clear x1 x2 x3 x4 y1 y2 y3 y4 c3 c4 hb1 k9
    go_cut [13, 15] (fun s13 s15 wx => AddCut2 W (addS s1 s2 X Y) (addN s1 s2 X Y) s13 s15 wx)
    case first =>
      have HS1 := Sec.mk hs1
      have HS2 := Sec.mk hs2
      have HS3 := Sec.mk hs3
      clear hs1 hs2 hs3
      have hBs := hB1.size
      cases s3
      · have hs : s1 = s2 := by have := HS3.out; simpa using this
        subst hs
        have e1 : Sec (addS s1 s1 X Y = X + Y) := ⟨by simp [addS]⟩
        have e2 : Sec (addN s1 s1 X Y = s1) := ⟨by simp [addN]⟩
        go_wp2_with fail
        go_meet
        rw [e1.out, e2.out]
        exact ⟨w1.heap.size, rfl, rfl, hBs, by simp, ⟨by go_simp, by go_simp⟩, hB1.alloc hBs _⟩
      · have hs : ¬ s1 = s2 := by have := HS3.out; simpa using this
        have hsne := Sec.mk hs
        clear hs
        by_cases hlt : X < Y
        · have e1 : Sec (addS s1 s2 X Y = Y - X) := ⟨by simp [addS, hlt, hsne.out]⟩
          have e2 : Sec (addN s1 s2 X Y = s2) := ⟨by simp [addN, hlt, hsne.out]⟩
          have e3 : ord3 X Y = -1 := by simp [ord3, hlt]
          go_wp2_with (go_at_call 49; refine (cmpw_any _ _ _ _ _ ⟨?_, ?_⟩ ⟨?_, ?_⟩ ⟨?_, ?_⟩ ⟨?_, ?_⟩).mono ?_; omega; omega; omega; omega; omega; omega; omega; omega; rw [M1.out, M2.out, e3]; rintro e w2 ⟨rfl, hb2⟩)
          have g1 := thru hb2 k1
          have g2 := thru hb2 k2
          have g3 := thru hb2 k3
          have g4 := thru hb2 k4
          have g5 := thruF hb2 k10 k5
          have g6 := thruF hb2 k10 k6
          have g7 := thruF hb2 k11 k7
          have g8 := thruF hb2 k11 k8
          obtain ⟨n3, n4, n5, n6, n7⟩ := new2 hb2
          have hB2 : Below W.heap.size W w2 := (hB1.alloc hBs _).trans (hb2.mono (by simp; omega))
          clear k1 k2 k3 k4 k5 k6 k7 k8 hb2 c1 c2
          go_region
          go_wp2_with fail
          refine (minus_any _ _ _ _ _ ⟨?_, ?_⟩ ⟨?_, ?_⟩ ⟨?_, ?_⟩ ⟨?_, ?_⟩ ?_).mono ?_; omega; omega; omega; omega; omega; omega; omega; omega; omega
          rw [M1.out, M2.out]
          rintro e w3 ⟨rfl, hb3⟩
          obtain ⟨r3, r4, r5, r6, r7⟩ := four2 (by omega) (by omega) n3 n4 n5 n6 n7 hb3
          have hB3 : Below W.heap.size W w3 := (((((hB2.setCell gx0 _).setCell gx0 _).setCell gy0 _).setCell gy0 _).drew).trans (hb3.mono (by simp; omega))
          clear g1 g2 g3 g4 g5 g6 g7 g8 hb3
          go_wp2_with fail
          go_meet
          rw [e1.out, e2.out]
          exact ⟨w1.heap.size, rfl, rfl, hBs, by simp; omega, ⟨by go_simp, by go_simp⟩, (hB3.setCell hBs _).setCell hBs _⟩
        · have e1 : Sec (addS s1 s2 X Y = X - Y) := ⟨by simp [addS, hlt, hsne.out]⟩
          have e2 : Sec (addN s1 s2 X Y = s1) := ⟨by simp [addN, hlt, hsne.out]⟩
          have e3 : 0 ≤ ord3 X Y := by simp only [ord3, hlt, if_false]; split <;> omega
          go_wp2_with (go_at_call 49; refine (cmpw_any _ _ _ _ _ ⟨?_, ?_⟩ ⟨?_, ?_⟩ ⟨?_, ?_⟩ ⟨?_, ?_⟩).mono ?_; omega; omega; omega; omega; omega; omega; omega; omega; rw [M1.out, M2.out]; rintro e w2 ⟨rfl, hb2⟩; have g1 := thru hb2 k1; have g2 := thru hb2 k2; have g3 := thru hb2 k3; have g4 := thru hb2 k4; obtain ⟨n3, n4, n5, n6, n7⟩ := new2 hb2; have hB2 : Below W.heap.size W w2 := (hB1.alloc hBs _).trans (hb2.mono (by simp; omega)); clear k1 k2 k3 k4 k5 k6 k7 k8 hb2 c1 c2)
          refine (minus_any _ _ _ _ _ ⟨?_, ?_⟩ ⟨?_, ?_⟩ ⟨?_, ?_⟩ ⟨?_, ?_⟩ ?_).mono ?_; omega; omega; omega; omega; omega; omega; omega; omega; omega
          rw [M1.out, M2.out]
          rintro e w3 ⟨rfl, hb3⟩
          have r3 := cell_later hb3 n3
          have r4 := cell_later hb3 n4
          have r5 := (hb3.frozen (p := ⟨w1.heap.size, 0, none⟩) n7).trans n5
          have r6 := (hb3.frozen (p := ⟨w1.heap.size, 1, none⟩) n7).trans n6
          have r7 := Nat.lt_of_lt_of_le n7 hb3.size
          have hB3 : Below W.heap.size W w3 := hB2.trans (hb3.mono (by omega))
          clear g1 g2 g3 g4 hb3
          go_wp2_with fail
          go_meet
          rw [e1.out, e2.out]
          exact ⟨w1.heap.size, rfl, rfl, hBs, by simp; omega, ⟨by go_simp, by go_simp⟩, (hB3.setCell hBs _).setCell hBs _⟩
    case rest =>
      obtain ⟨gs, rfl, rfl, gs0, gs1, ⟨z1, z2⟩, hB2⟩ := hcut
      have HS1 := Sec.mk hs1
      have HS2 := Sec.mk hs2
      clear hs1 hs2 hs3 k1 k2 k3 k4 k5 k6 k7 k8 k10 k11 hB1 c1 c2 M1 M2 gne gx0 gy0 gx1 gy1 hB
      have bS : 0 ≤ addS s1 s2 X Y ∧ addS s1 s2 X Y ≤ 85070591730234615847396907784232501249 * 4 := by unfold addS; split <;> (try split) <;> omega
      generalize hSm : addS s1 s2 X Y = Sm at *
      generalize hNm : addN s1 s2 X Y = Nm at *
      have HSm := Sec.mk hSm
      have HNm := Sec.mk hNm
      clear hSm hNm
      have m3 : Sec (Sm % 18446744073709551616 + Sm / 18446744073709551616 * 18446744073709551616 = Sm) := ⟨by omega⟩
      have d5 := cell_later hB2 C5.out
      have d6 := cell_later hB2 C6.out
      have d7 := (hB2.frozen (p := ⟨w.heap.size + 1 + 1, 0, none⟩) c9).trans C7.out
      have d8 := (hB2.frozen (p := ⟨w.heap.size + 1 + 1, 1, none⟩) c9).trans C8.out
      have hEW := eq_wide
      have z3 := trivial
      by_cases h0 : Sm = 0
      · subst h0
        go_wp2_with fail
        refine bodyPost_ret (v := .tuple #[.agg #[.int .i64 0, .int .i64 1], .int .i64 0]) (by simp [results, Tryd.results50, go_sem, d5, d6]) rfl ⟨0, 1, false, rfl, ⟨g, p, q, 0, ?_, HP.out.1, HP.out.2, ?_, .inl ⟨rfl, rfl, rfl, rfl⟩⟩, ?_⟩
        · simpa using Hg.out
        · rw [HS1.out, HS2.out, HX.out, HY.out, HSm.out]
        · have hW := HW.out
          have hBw : Below w.heap.size w W := by rw [hW]; exact below_drewN ((((Below.refl _ _).alloc (Nat.le_refl _) _).alloc (by simp) _).alloc (by simp; omega) _) _
          exact ((hBw.trans (hB2.mono (by omega))).setCell (by simp; omega) _).setCell (by simp; omega) _
      · have h00 : (Sm % 18446744073709551616 == 0 && Sm / 18446744073709551616 == 0) = false := by
          rw [Bool.and_eq_false_iff]; simp; omega
        have H0 := Sec.mk h0
        clear h0 z3
        go_wp2_with (go_at_call 82; refine (over_name _ _ _ _ ⟨?_, ?_⟩ ⟨?_, ?_⟩ ⟨?_, ?_⟩).mono ?_; omega; omega; omega; omega; omega; omega; rw [m3.out]; rintro e w3 ⟨Q1, R1, rfl, HQ1, bQ1, bR1, hb3⟩)
        have hB3 := hB2.trans (hb3.mono hB2.size)
        have zz1 := cell_later hb3 z1
        have zz2 := cell_later hb3 z2
        have gs3 : gs < w3.heap.size := Nat.lt_of_lt_of_le gs1 hb3.size
        have hW3 : w.heap.size + 1 + 1 < w3.heap.size := Nat.lt_of_lt_of_le c9 hB3.size
        have D5 := Sec.mk (cell_later hb3 d5)
        have D6 := Sec.mk (cell_later hb3 d6)
        have D7 := Sec.mk ((hB3.frozen (p := ⟨w.heap.size + 1 + 1, 0, none⟩) c9).trans C7.out)
        have D8 := Sec.mk ((hB3.frozen (p := ⟨w.heap.size + 1 + 1, 1, none⟩) c9).trans C8.out)
        clear z1 z2 h00 hEW d5 d6 d7 d8
        refine (gcd_name _ _ _ ⟨?_, ?_⟩ ⟨?_, ?_⟩).mono ?_; omega; omega; omega; omega; rintro e w' ⟨t, k2, rfl, Ht, rfl⟩
        obtain ⟨r, ht1, ht2, hr, br, HR⟩ := again d2 g t R1 hd2 hg1 HP Ht
        have ht3 : ¬ t = 0 := by omega
        go_wp2_with (go_at_call 82; refine (over_name _ _ _ _ ⟨?_, ?_⟩ ⟨?_, ?_⟩ ⟨?_, ?_⟩).mono ?_; omega; omega; omega; omega; omega; omega; rw [m3.out]; rintro e w4 ⟨Q2, R2, rfl, HQ2, bQ2, bR2, hb4⟩)
        have hB4 : Below W.heap.size W w4 := (below_drewN (hB3.alloc hB3.size _) k2).trans (hb4.mono (by have := hB3.size; simp; omega))
        have hw34 : w3.heap.size < w4.heap.size := Nat.lt_of_lt_of_le (by simp) hb4.size
        have hBV : Below W.heap.size W (w4.alloc (.cells #[.int .u64 (Q2 % 18446744073709551616), .int .u64 (Q2 / 18446744073709551616)] 96)) := hB4.alloc hB4.size _
        obtain ⟨V, hV⟩ : ∃ V, V = w4.alloc (.cells #[.int .u64 (Q2 % 18446744073709551616), .int .u64 (Q2 / 18446744073709551616)] 96) := ⟨_, rfl⟩
        rw [← hV] at hBV ⊢
        have v1 : V.cell? ⟨w4.heap.size, 0, none⟩ = some (.int .u64 (Q2 % 18446744073709551616)) := by rw [hV]; go_simp
        have v2 : V.cell? ⟨w4.heap.size, 1, none⟩ = some (.int .u64 (Q2 / 18446744073709551616)) := by rw [hV]; go_simp
        have v3 := cell_later hBV C5.out
        have v4 := cell_later hBV C6.out
        have v5 := (hBV.frozen (p := ⟨w.heap.size + 1 + 1, 0, none⟩) c9).trans C7.out
        have v6 := (hBV.frozen (p := ⟨w.heap.size + 1 + 1, 1, none⟩) c9).trans C8.out
        have hlt2 : w.heap.size + 1 + 1 < w4.heap.size := by omega
        have hlt3 : w.heap.size + 1 + 1 < V.heap.size := Nat.lt_of_lt_of_le c9 hBV.size
        have ws : IntKind.u64.wrap (r : Int) = r := wraps_u64 _ (by omega) (by omega)
        have ts : IntKind.u64.wrap (d2.tdiv (t : Int)) = r := (IntWalk.u64_quo d2 t ⟨by omega, by omega, ht1⟩).trans hr
        have bPR : 0 ≤ (p : Int) * r ∧ (p : Int) * r ≤ 85070591730234615847396907784232501249 * 2 := mul_bound _ _ (by omega) (by omega) (by omega) (by omega)
        obtain ⟨PR, hPR⟩ : ∃ PR, (p : Int) * r = PR := ⟨_, rfl⟩
        rw [hPR] at bPR
        have HPR := Sec.mk hPR
        have hm4 : PR % 18446744073709551616 + PR / 18446744073709551616 * 18446744073709551616 = PR := by omega
        have hm5 : Q2 % 18446744073709551616 + Q2 / 18446744073709551616 * 18446744073709551616 = Q2 := by omega
        have Hm4 := Sec.mk hm4
        have Hm5 := Sec.mk hm5
        clear hV hPR hm4 hm5 hb4 hb3 zz1 zz2 D5 D6 D7 D8 hw34
        go_region_held3 (fun w' => w'.cell? ⟨w4.heap.size, 0, none⟩ = some (.int .u64 (Q2 % 18446744073709551616)) ∧ w'.cell? ⟨w4.heap.size, 1, none⟩ = some (.int .u64 (Q2 / 18446744073709551616)))
          (first | exact ⟨v1, v2⟩ | exact ⟨cell_later ((Below.refl _ _).alloc (Nat.le_refl _) _).drew v1, cell_later ((Below.refl _ _).alloc (Nat.le_refl _) _).drew v2⟩ | exact ⟨cell_later hV6 v1, cell_later hV6 v2⟩ | (go_simp; done))
          ((first | (go_at_call 47; refine (times_exact _ _ _ ?_ ?_ ?_ ?_).mono ?_; omega; omega; omega; omega; rw [HPR.out]; rintro e wx ⟨rfl, rfl⟩) | (go_at_call 83; refine (fit_any _ _ _ _ _ _ ⟨?_, ?_⟩ ⟨?_, ?_⟩ ⟨?_, ?_⟩ ⟨?_, ?_⟩).mono ?_; omega; omega; omega; omega; omega; omega; omega; omega; rw [Hm4.out, Hm5.out]; rintro e w6 ⟨rfl, hb6⟩; have hV6 : Below V.heap.size V w6 := Below.trans ((Below.refl _ _).alloc (Nat.le_refl _) _).drew (hb6.mono (by simp)); have y3 := cell_later hV6 v3; have y4 := cell_later hV6 v4; have y5 := (hV6.frozen (p := ⟨w.heap.size + 1 + 1, 0, none⟩) hlt3).trans v5; have y6 := (hV6.frozen (p := ⟨w.heap.size + 1 + 1, 1, none⟩) hlt3).trans v6)))
        all_goals (go_wp2_with fail)
        refine bodyPost_ret (v := .tuple #[.agg #[.int .i64 (fitN Nm Q2 PR), .int .i64 (fitD Nm Q2 PR)], .int .i64 (fitE Nm Q2 PR)]) (by simp [results, Tryd.results50, go_sem, y3, y4]) rfl ⟨Q2, PR, Nm, rfl, ⟨g, p, q, Sm, ?_, HP.out.1, HP.out.2, ?_, .inr ⟨?_, ?_, t, r, ?_, HR.out, HQ2.out.1, HPR.out.symm⟩⟩, ?_⟩
        · simpa using Hg.out
        · rw [HS1.out, HS2.out, HX.out, HY.out, HSm.out]
        · have := H0.out; omega
        · rw [HS1.out, HS2.out, HX.out, HY.out, HNm.out]
        · rw [← HQ1.out.2]; simpa using Ht.out
        · have hW := HW.out
          have hBw : Below w.heap.size w W := by rw [hW]; exact below_drewN ((((Below.refl _ _).alloc (Nat.le_refl _) _).alloc (by simp) _).alloc (by simp; omega) _) _
          exact (((hBw.trans (hBV.mono (by omega))).trans (hV6.mono (by omega))).setCell (by simp; omega) _).setCell (by simp; omega) _
end Go.Proofs.YtojgjpegfkfnjaaDoor
