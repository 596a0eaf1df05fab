/- Package neuberg: steps, and what is done with them. -/
import Derived.Test.YtojgjpegfkfnjaaDoorNeuLaw
import Derived.Test.YtojgjpegfkfnjaaDoorFracH
namespace Go.Proofs.YtojgjpegfkfnjaaDoor
open Go.RowKit
set_option linter.unusedVariables false
set_option linter.unusedSimpArgs false

theorem btr {w w1 w2 : World} (h1 : Below w.heap.size w w1) (h2 : Below w1.heap.size w1 w2) : Below w.heap.size w w2 := h1.trans (h2.mono h1.size)
/-- A new pair of cells; the world under one name. -/
theorem pack2 {w0 w : World} (u v : Value) (T : Nat) (hB : Below w0.heap.size w0 w) :
    ∃ w' g, w' = w.alloc (.cells #[u, v] T) ∧ g = w.heap.size ∧ Pair w' g u v ∧ Below w0.heap.size w0 w' ∧ Below w.heap.size w w' :=
  ⟨_, _, rfl, rfl, Pair.new w u v T, hB.alloc hB.size _, (Below.refl _ _).alloc (Nat.le_refl _) _⟩
theorem st1 (w : World) (o : Obj) : Below w.heap.size w (w.alloc o) := (Below.refl _ _).alloc (Nat.le_refl _) _
theorem Add_eq (p q r : Rat) (w : World) (hp : fits p) (hq : fits q) (hr : fits r) (h : p + q = r) :
    Calls Tryd.prog 27 #[.agg #[.int .i64 p.num, .int .i64 p.den], .agg #[.int .i64 q.num, .int .i64 q.den]] w fun e w' => e = .returned (.tuple #[.agg #[.int .i64 r.num, .int .i64 r.den], .int .i64 0]) ∧ Below w.heap.size w w' := by
  have h1 := Add_q p q w hp hq
  rw [h, qN_fits hr, qD_fits hr, qE_fits hr] at h1
  exact h1
theorem Mul_eq (p q r : Rat) (w : World) (hp : fits p) (hq : fits q) (hr : fits r) (h : p * q = r) :
    Calls Tryd.prog 93 #[.agg #[.int .i64 p.num, .int .i64 p.den], .agg #[.int .i64 q.num, .int .i64 q.den]] w fun e w' => e = .returned (.tuple #[.agg #[.int .i64 r.num, .int .i64 r.den], .int .i64 0]) ∧ Below w.heap.size w w' := by
  have h1 := Mul_q p q w hp hq
  rw [h, qN_fits hr, qD_fits hr, qE_fits hr] at h1
  exact h1
theorem Cmp_int (p : Rat) (n : Int) (w : World) (hp : fits p) (hn : -9223372036854775808 ≤ n ∧ n ≤ 9223372036854775807) :
    Calls Tryd.prog 25 #[.agg #[.int .i64 p.num, .int .i64 p.den], .agg #[.int .i64 n, .int .i64 1]] w fun e w' => e = .returned (.tuple #[.int .i64 (ordQ p (n : Rat)), .int .i64 0]) ∧ Below w.heap.size w w' := by
  have h := Cmp_q p (n : Rat) w hp (fits_int n hn)
  rw [Rat.num_intCast, Rat.den_intCast] at h
  exact h
theorem ordQ_bd (p q : Rat) : -1 ≤ ordQ p q ∧ ordQ p q ≤ 1 := by unfold ordQ; split <;> (try split) <;> omega
theorem div_fits (n d : Int) (hn : -1000000000000 ≤ n ∧ n ≤ 1000000000000) (hd : 0 < d ∧ d ≤ 1000000000) : fits ((n : Rat) / (d : Rat)) := by
  have := qd_fits n d.toNat (by omega) (by omega) hn
  rw [show ((d.toNat : Nat) : Int) = d by omega] at this
  exact this

theorem board_any (n all : Int) (w : World) : Calls Tryd.prog 61 #[.int .i64 n, .int .i64 all] w fun e w' => e = .returned (.bool (decide (1 ≤ all) && decide (all ≤ 24) && decide (0 ≤ n) && decide (n ≤ all))) ∧ w = w' := by
  by_cases h1 : 1 ≤ all
  · by_cases h2 : all ≤ 24
    · by_cases h3 : 0 ≤ n
      · go_enter Tryd.func61, Tryd.ntmps61
        go_wp2
        go_ret
        exact ⟨ret_b (by first | (simp [h1, h2, h3]; done) | (simp [h1, h2, h3]; omega)), rfl⟩
      · go_enter Tryd.func61, Tryd.ntmps61
        go_wp2
        go_ret
        exact ⟨ret_b (by first | (simp [h1, h2, h3]; done) | (simp [h1, h2, h3]; omega)), rfl⟩
    · go_enter Tryd.func61, Tryd.ntmps61
      go_wp2
      go_ret
      exact ⟨ret_b (by first | (simp [h1, h2]; done) | (simp [h1, h2]; omega)), rfl⟩
  · go_enter Tryd.func61, Tryd.ntmps61
    go_wp2
    go_ret
    exact ⟨ret_b (by first | (simp [h1]; done) | (simp [h1]; omega)), rfl⟩
theorem nwhole_any (n : Int) (w : World) : Calls Tryd.prog 63 #[.int .i64 n] w fun e w' => e = .returned (.agg #[.int .i64 n, .int .i64 1]) ∧ Below w.heap.size w w' := by
  go_enter Tryd.func63, Tryd.ntmps63
  go_wp2_with fail
  exact bodyPost_ret (v := .agg #[.int .i64 n, .int .i64 1]) (by simp [results, Tryd.results63, go_sem]) rfl ⟨rfl, by first | exact (Below.refl _ _).alloc (Nat.le_refl _) _ | exact set2 ((Below.refl _ _).alloc (Nat.le_refl _) _) (Nat.le_refl _)⟩

theorem two_box {w w' : World} {u v x y : Value} {T : Nat} (hb : Below ((w.alloc (.cells #[u, v] T)).alloc (.cells #[x, y] T)).heap.size ((w.alloc (.cells #[u, v] T)).alloc (.cells #[x, y] T)) w') :
    Pair w' w.heap.size u v ∧ Pair w' (w.heap.size + 1) x y ∧ Below w.heap.size w w' := by
  have p1 := (Pair.new w u v T).later (st1 _ (.cells #[x, y] T))
  have p2 := Pair.new (w.alloc (.cells #[u, v] T)) x y T
  rw [World.size_alloc] at p2
  exact ⟨p1.later hb, p2.later hb, btr (st1 _ _) (btr (st1 _ _) hb)⟩
/-- A function value that is a step from one number to another one. -/
def Step (w : World) (v : Value) (q r : Rat) : Prop :=
  ∃ k caps, v = .func (.func k) #[] caps ∧ (∀ (args : Array Value) (w : World), (callFunc k args).run Tryd.prog w = .ok (.enter k args) w) ∧
    ∀ w', Below w.heap.size w w' → Calls Tryd.prog k (#[.agg #[.int .i64 q.num, .int .i64 q.den]] ++ caps) w' fun e w'' => e = .returned (.tuple #[.agg #[.int .i64 r.num, .int .i64 r.den], .int .i64 0]) ∧ Below w'.heap.size w' w''
theorem Step.later {w w' : World} {v : Value} {q r : Rat} (h : Step w v q r) (hb : Below w.heap.size w w') : Step w' v q r :=
  let ⟨k, caps, e, h1, h2⟩ := h
  ⟨k, caps, e, h1, fun w2 hb2 => h2 w2 (btr hb hb2)⟩
theorem cfRatio : ∀ (args : Array Value) (w : World), (callFunc 94 args).run Tryd.prog w = .ok (.enter 94 args) w := fun _ _ => by kernel_rfl
theorem cfTimes : ∀ (args : Array Value) (w : World), (callFunc 92 args).run Tryd.prog w = .ok (.enter 92 args) w := fun _ _ => by kernel_rfl
theorem cfPlus : ∀ (args : Array Value) (w : World), (callFunc 95 args).run Tryd.prog w = .ok (.enter 95 args) w := fun _ _ => by kernel_rfl

set_option maxRecDepth 100000 in
set_option maxHeartbeats 1000000 in
theorem ratio1_any (n d : Int) (q r : Rat) (b1 b2 : Nat) (w : World) (h1 : w.cell? ⟨b1, 0, none⟩ = some (.int .i64 n)) (h2 : w.cell? ⟨b2, 0, none⟩ = some (.int .i64 d)) (hn : -1000000000000 ≤ n ∧ n ≤ 1000000000000) (hd : 0 < d ∧ d ≤ 1000000000)
    (hq : fits q) (hr : fits r) (hqr : q * ((n : Rat) / (d : Rat)) = r) :
    Calls Tryd.prog 94 #[.agg #[.int .i64 q.num, .int .i64 q.den], .pointer (some ⟨b1, 0, none⟩), .pointer (some ⟨b2, 0, none⟩)] w fun e w' => e = .returned (.tuple #[.agg #[.int .i64 r.num, .int .i64 r.den], .int .i64 0]) ∧ Below w.heap.size w w' := by
  have HM := Sec.mk fun w' => make_q n d w' (by omega) (by omega)
  have HX := Sec.mk fun w' => Mul_eq q ((n : Rat) / (d : Rat)) r w' hq (div_fits n d hn hd) hr hqr
  have l1 := World.block_lt_of_cell? _ _ h1
  have l2 := World.block_lt_of_cell? _ _ h2
  simp only at l1 l2
  clear hq hr hqr hn hd
  generalize ((n : Rat) / (d : Rat)).num = n2 at *
  generalize (((n : Rat) / (d : Rat)).den : Int) = d2 at *
  go_enter Tryd.func94, Tryd.ntmps94
  go_wp2_with fail
  refine (HM.out _).mono ?_
  rintro e w1 ⟨rfl, hb1⟩
  obtain ⟨P3, P4, hB1⟩ := two_box hb1
  obtain ⟨c1, c2, -, -⟩ := P3
  have l3 := World.block_lt_of_cell? _ _ c1
  have l4 := P4.lt
  have HP4 := Sec.mk P4
  have HB1 := Sec.mk hB1
  have l0 := hB1.size
  clear hb1 P4 hB1 h1 h2 HM
  go_wp2_with fail
  refine (HX.out _).mono ?_
  rintro e w2 ⟨rfl, hb2⟩
  have hb2' := btr (st1 _ _) hb2
  obtain ⟨d1, d2, d3, d4⟩ := HP4.out.later hb2'
  have l5 := HP4.out.lt' hb2'
  have HB2 := Sec.mk (btr HB1.out hb2')
  clear hb2 hb2' HP4 HB1 c1 c2 HX
  go_wp2_with fail
  refine bodyPost_ret (v := .tuple #[.agg #[.int .i64 r.num, .int .i64 r.den], .int .i64 0]) (by simp [results, Tryd.results94, go_sem, d1, d2]) rfl ⟨rfl, ?_⟩
  exact set2 HB2.out (by omega)

set_option maxRecDepth 100000 in
set_option maxHeartbeats 1000000 in
theorem plus1_any (n : Int) (q r : Rat) (b1 : Nat) (w : World) (h1 : w.cell? ⟨b1, 0, none⟩ = some (.int .i64 n)) (hn : -1000000000 ≤ n ∧ n ≤ 1000000000)
    (hq : fits q) (hr : fits r) (hqr : q + (n : Rat) = r) :
    Calls Tryd.prog 95 #[.agg #[.int .i64 q.num, .int .i64 q.den], .pointer (some ⟨b1, 0, none⟩)] w fun e w' => e = .returned (.tuple #[.agg #[.int .i64 r.num, .int .i64 r.den], .int .i64 0]) ∧ Below w.heap.size w w' := by
  have HX := fun w' => Add_eq q (n : Rat) r w' hq (fits_int n (by omega)) hr hqr
  rw [Rat.num_intCast, Rat.den_intCast, show ((1 : Nat) : Int) = 1 from rfl] at HX
  have HX' := Sec.mk HX
  have l1 := World.block_lt_of_cell? _ _ h1
  simp only at l1
  clear hq hr hqr HX
  generalize q.num = n2 at *
  generalize (q.den : Int) = d2 at *
  go_enter Tryd.func95, Tryd.ntmps95
  go_wp2_with fail
  obtain ⟨V, hV⟩ : ∃ V, V = (w.alloc (.cells #[.int .i64 n2, .int .i64 d2] 40)).alloc (.cells #[.int .i64 0, .int .i64 0] 40) := ⟨_, rfl⟩
  obtain ⟨P3, P4, hBV⟩ := two_box (Below.refl ((w.alloc (.cells #[.int .i64 n2, .int .i64 d2] 40)).alloc (.cells #[.int .i64 0, .int .i64 0] 40)).heap.size _)
  rw [← hV] at P3 P4 hBV ⊢
  obtain ⟨c1, c2, -, -⟩ := P3
  have c3 := cell_later hBV h1
  have HP4 := Sec.mk P4
  have hBx := Below.refl V.heap.size V
  clear hV P4
  go_region_held3 (fun w' => w'.cell? ⟨w.heap.size, 0, none⟩ = some (.int .i64 n2) ∧ w'.cell? ⟨w.heap.size, 1, none⟩ = some (.int .i64 d2) ∧ w'.cell? ⟨b1, 0, none⟩ = some (.int .i64 n) ∧ w'.cell? ⟨b1, 0, none⟩ = some (.int .i64 n))
    (first | assumption | exact ⟨c1, c2, c3, c3⟩ | exact four_later c1 c2 c3 c3 hBx | exact four_set (four_later c1 c2 c3 c3 hBx) (by simp) (by simp) (by simp; omega) (by simp; omega))
    ((first
      | (go_at_call 63; refine (nwhole_any _ _).mono ?_; rintro e w8 ⟨rfl, hb8⟩; have hBx : Below V.heap.size V w8 := btr (by repeat (first | exact hBx | refine Below.drew ?_ | refine below_drewN ?_ _)) hb8)
      | (go_at_call 27; refine (HX'.out _).mono ?_; rintro e w9 ⟨rfl, hb8⟩; have hBx : Below V.heap.size V w9 := btr (by repeat (first | exact hBx | refine Below.drew ?_ | refine below_drewN ?_ _)) hb8; obtain ⟨y1, y2, y3, y4⟩ := HP4.out.later hBx; have yl := HP4.out.lt' hBx)))
  go_wp2_with fail
  refine bodyPost_ret (v := .tuple #[.agg #[.int .i64 r.num, .int .i64 r.den], .int .i64 0]) (by simp [results, Tryd.results95, go_sem, y1, y2]) rfl ⟨rfl, ?_⟩
  exact set2 (btr hBV hBx) (by omega)

set_option maxRecDepth 100000 in
set_option maxHeartbeats 1000000 in
theorem times1_any (n : Int) (q r : Rat) (b1 : Nat) (w : World) (h1 : w.cell? ⟨b1, 0, none⟩ = some (.int .i64 n)) (hn : -1000000000 ≤ n ∧ n ≤ 1000000000)
    (hq : fits q) (hr : fits r) (hqr : q * (n : Rat) = r) :
    Calls Tryd.prog 92 #[.agg #[.int .i64 q.num, .int .i64 q.den], .pointer (some ⟨b1, 0, none⟩)] w fun e w' => e = .returned (.tuple #[.agg #[.int .i64 r.num, .int .i64 r.den], .int .i64 0]) ∧ Below w.heap.size w w' := by
  have HX := fun w' => Mul_eq q (n : Rat) r w' hq (fits_int n (by omega)) hr hqr
  rw [Rat.num_intCast, Rat.den_intCast, show ((1 : Nat) : Int) = 1 from rfl] at HX
  have HX' := Sec.mk HX
  have l1 := World.block_lt_of_cell? _ _ h1
  simp only at l1
  clear hq hr hqr HX
  generalize q.num = n2 at *
  generalize (q.den : Int) = d2 at *
  go_enter Tryd.func92, Tryd.ntmps92
  go_wp2_with fail
  obtain ⟨V, hV⟩ : ∃ V, V = (w.alloc (.cells #[.int .i64 n2, .int .i64 d2] 40)).alloc (.cells #[.int .i64 0, .int .i64 0] 40) := ⟨_, rfl⟩
  obtain ⟨P3, P4, hBV⟩ := two_box (Below.refl ((w.alloc (.cells #[.int .i64 n2, .int .i64 d2] 40)).alloc (.cells #[.int .i64 0, .int .i64 0] 40)).heap.size _)
  rw [← hV] at P3 P4 hBV ⊢
  obtain ⟨c1, c2, -, -⟩ := P3
  have c3 := cell_later hBV h1
  have HP4 := Sec.mk P4
  have hBx := Below.refl V.heap.size V
  clear hV P4
  go_region_held3 (fun w' => w'.cell? ⟨w.heap.size, 0, none⟩ = some (.int .i64 n2) ∧ w'.cell? ⟨w.heap.size, 1, none⟩ = some (.int .i64 d2) ∧ w'.cell? ⟨b1, 0, none⟩ = some (.int .i64 n) ∧ w'.cell? ⟨b1, 0, none⟩ = some (.int .i64 n))
    (first | assumption | exact ⟨c1, c2, c3, c3⟩ | exact four_later c1 c2 c3 c3 hBx | exact four_set (four_later c1 c2 c3 c3 hBx) (by simp) (by simp) (by simp; omega) (by simp; omega))
    ((first
      | (go_at_call 63; refine (nwhole_any _ _).mono ?_; rintro e w8 ⟨rfl, hb8⟩; have hBx : Below V.heap.size V w8 := btr (by repeat (first | exact hBx | refine Below.drew ?_ | refine below_drewN ?_ _)) hb8)
      | (go_at_call 93; refine (HX'.out _).mono ?_; rintro e w9 ⟨rfl, hb8⟩; have hBx : Below V.heap.size V w9 := btr (by repeat (first | exact hBx | refine Below.drew ?_ | refine below_drewN ?_ _)) hb8; obtain ⟨y1, y2, y3, y4⟩ := HP4.out.later hBx; have yl := HP4.out.lt' hBx)))
  go_wp2_with fail
  refine bodyPost_ret (v := .tuple #[.agg #[.int .i64 r.num, .int .i64 r.den], .int .i64 0]) (by simp [results, Tryd.results92, go_sem, y1, y2]) rfl ⟨rfl, ?_⟩
  exact set2 (btr hBV hBx) (by omega)

/-- What the makers of steps make. -/
theorem ratio_any (n d : Int) (w : World) : Calls Tryd.prog 66 #[.int .i64 n, .int .i64 d] w fun e w' => ∃ caps, e = .returned (.func (.func 94) #[] caps) ∧ Below w.heap.size w w' ∧
    ∀ q r : Rat, (-1000000000000 ≤ n ∧ n ≤ 1000000000000) → (0 < d ∧ d ≤ 1000000000) → fits q → fits r → q * ((n : Rat) / (d : Rat)) = r → Step w' (.func (.func 94) #[] caps) q r := by
  go_enter Tryd.func66, Tryd.ntmps66
  go_wp2_with fail
  go_ret
  refine ⟨_, rfl, btr (st1 _ _) (st1 _ _), fun q r hn hd hq hr hqr => ⟨_, _, rfl, cfRatio, fun w' hb => ?_⟩⟩
  have h1 : ((w.alloc (.cells #[.int .i64 n] 3)).alloc (.cells #[.int .i64 d] 3)).cell? ⟨w.heap.size, 0, none⟩ = some (.int .i64 n) := by go_simp
  have h2 : ((w.alloc (.cells #[.int .i64 n] 3)).alloc (.cells #[.int .i64 d] 3)).cell? ⟨w.heap.size + 1, 0, none⟩ = some (.int .i64 d) := by go_simp
  exact ratio1_any n d q r _ _ w' (cell_later hb h1) (cell_later hb h2) hn hd hq hr hqr
theorem ntimes_any (n : Int) (w : World) : Calls Tryd.prog 64 #[.int .i64 n] w fun e w' => ∃ caps, e = .returned (.func (.func 92) #[] caps) ∧ Below w.heap.size w w' ∧
    ∀ q r : Rat, (-1000000000 ≤ n ∧ n ≤ 1000000000) → fits q → fits r → q * (n : Rat) = r → Step w' (.func (.func 92) #[] caps) q r := by
  go_enter Tryd.func64, Tryd.ntmps64
  go_wp2_with fail
  go_ret
  refine ⟨_, rfl, st1 _ _, fun q r hn hq hr hqr => ⟨_, _, rfl, cfTimes, fun w' hb => ?_⟩⟩
  have h1 : (w.alloc (.cells #[.int .i64 n] 3)).cell? ⟨w.heap.size, 0, none⟩ = some (.int .i64 n) := by go_simp
  exact times1_any n q r _ w' (cell_later hb h1) hn hq hr hqr
theorem nplus_any (n : Int) (w : World) : Calls Tryd.prog 67 #[.int .i64 n] w fun e w' => ∃ caps, e = .returned (.func (.func 95) #[] caps) ∧ Below w.heap.size w w' ∧
    ∀ q r : Rat, (-1000000000 ≤ n ∧ n ≤ 1000000000) → fits q → fits r → q + (n : Rat) = r → Step w' (.func (.func 95) #[] caps) q r := by
  go_enter Tryd.func67, Tryd.ntmps67
  go_wp2_with fail
  go_ret
  refine ⟨_, rfl, st1 _ _, fun q r hn hq hr hqr => ⟨_, _, rfl, cfPlus, fun w' hb => ?_⟩⟩
  have h1 : (w.alloc (.cells #[.int .i64 n] 3)).cell? ⟨w.heap.size, 0, none⟩ = some (.int .i64 n) := by go_simp
  exact plus1_any n q r _ w' (cell_later hb h1) hn hq hr hqr

/-- Steps that lie in a row. -/
def Steps (w : World) (A : Option Addr) (n : Nat) (qs : Nat → Rat) : Prop :=
  ∀ k, k < n → ∃ b o : Nat, A = some ⟨b, o, none⟩ ∧ ∃ v, w.cell? ⟨b, o + k, none⟩ = some v ∧ Step w v (qs k) (qs (k + 1))
def DoRel (w : World) (n : Nat) (qs : Nat → Rat) (i : Value) (wr : World) : Prop :=
  ∃ k : Nat, k ≤ n ∧ i = .int .i64 k ∧ Pair wr w.heap.size (.int .i64 (qs k).num) (.int .i64 ((qs k).den : Int)) ∧ Pair wr (w.heap.size + 1) (.int .i64 0) (.int .i64 0) ∧ Below w.heap.size w wr

set_option maxRecDepth 100000 in
set_option maxHeartbeats 1000000 in
theorem do_any (A : Option Addr) (n c : Nat) (qs : Nat → Rat) (w : World) (hA : Steps w A n qs) (hn : n ≤ 1000) :
    Calls Tryd.prog 62 #[.agg #[.int .i64 (qs 0).num, .int .i64 (qs 0).den], .slice A n c] w fun e w' => e = .returned (.tuple #[.agg #[.int .i64 (qs n).num, .int .i64 (qs n).den], .int .i64 0]) ∧ Below w.heap.size w w' := by
  have HA := Sec.mk hA
  clear hA
  go_enter Tryd.func62, Tryd.ntmps62
  go_wp2_with fail
  obtain ⟨P3, P4, hBV⟩ := two_box (T := 40) (w := w) (u := .int .i64 (qs 0).num) (v := .int .i64 ((qs 0).den : Int)) (x := .int .i64 0) (y := .int .i64 0) (Below.refl _ _)
  go_loopw [12] (fun i wr => DoRel w n qs i wr) (fun i _ => n - (intOf i).toNat)
  case atStart => exact ⟨0, Nat.zero_le _, rfl, P3, P4, hBV⟩
  case round =>
    clear P3 P4 hBV
    obtain ⟨k, hk, rfl, hP3, hP4, hB⟩ := hrel
    by_cases hlt : k < n
    · obtain ⟨b, o, rfl, v, hv, k0, caps, rfl, hcf, hC⟩ := HA.out k hlt
      have hv' := cell_later hB hv
      have HC := Sec.mk (hC wr hB)
      have HP4 := Sec.mk hP4
      have HP3 := Sec.mk hP3
      have HB := Sec.mk hB
      obtain ⟨c1, c2, c3, c4⟩ := hP3
      have l1 := World.block_lt_of_cell? _ _ c1
      have l2 := hP4.lt
      simp only at l1
      clear hv hC hP4 hB
      go_wp2_with fail
      refine HC.out.mono ?_
      rintro e w1 ⟨rfl, hb1⟩
      obtain ⟨d1, d2, d3, d4⟩ := HP3.out.later hb1
      have HP4' := Sec.mk (HP4.out.later hb1)
      have HB1 := Sec.mk (btr HB.out hb1)
      have l3 := HP3.out.lt' hb1
      have l4 := HP4.out.lt' hb1
      clear c1 c2 c3 c4 hb1 HP3 HP4 HB HC
      go_wp2_with fail
      obtain ⟨x1, x2, x3, x4⟩ := HP4'.out
      refine ⟨⟨k + 1, hlt, rfl, ⟨?_, ?_, ?_, ?_⟩, ⟨?_, ?_, ?_, ?_⟩, (set2 HB1.out (Nat.le_refl _)).alloc (by simp; omega) _⟩, by simp only [intOf]; omega⟩
      all_goals go_simp
    · have hk0 : k = n := by omega
      subst hk0
      have HB := Sec.mk hB
      have l2 := hP4.lt
      have l1 := hP3.lt
      obtain ⟨c1, c2, c3, c4⟩ := hP3
      obtain ⟨d1, d2, d3, d4⟩ := hP4
      clear hB
      go_wp2_with fail
      refine bodyPost_ret (v := .tuple #[.agg #[.int .i64 (qs k).num, .int .i64 ((qs k).den : Int)], .int .i64 0]) (by simp [results, Tryd.results62, go_sem, d1, d2]) rfl ⟨rfl, ?_⟩
      exact set2 HB.out (by omega)
end Go.Proofs.YtojgjpegfkfnjaaDoor
