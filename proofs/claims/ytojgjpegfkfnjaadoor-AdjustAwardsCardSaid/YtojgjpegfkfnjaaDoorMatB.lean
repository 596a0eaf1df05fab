/- Package match: comparing results. -/
import Derived.Test.YtojgjpegfkfnjaaDoorMatA
namespace Go.Proofs.YtojgjpegfkfnjaaDoor
open Go.RowKit
set_option linter.unusedVariables false
set_option linter.unusedSimpArgs false

/-- The table of what points get. -/
def Gets (w : World) : Prop := w.cell? ⟨1, 0, none⟩ = some (.int .i64 0) ∧ w.cell? ⟨1, 1, none⟩ = some (.int .i64 1) ∧ w.cell? ⟨1, 2, none⟩ = some (.int .i64 2)
theorem Gets.later {w w' : World} (h : Gets w) (hb : Below w.heap.size w w') : Gets w' := ⟨cell_later hb h.1, cell_later hb h.2.1, cell_later hb h.2.2⟩

theorem cmp_int (x y : Int) (w : World) : Calls Tryd.prog 87 #[.int .i64 x, .int .i64 y] w fun e w' => e = .returned (.int .i64 (ord3 x y)) ∧ w = w' := by
  rcases Int.lt_trichotomy x y with h | h | h
  · go_enter Tryd.func87, Tryd.ntmps87
    go_wp2
    go_ret
    exact ⟨ret_i (by simp [ord3, h]), rfl⟩
  · go_enter Tryd.func87, Tryd.ntmps87
    go_wp2
    go_ret
    exact ⟨ret_i (by simp [ord3]; omega), rfl⟩
  · go_enter Tryd.func87, Tryd.ntmps87
    go_wp2
    go_ret
    exact ⟨ret_i (by unfold ord3; rw [if_neg (by omega), if_pos h]), rfl⟩

/-- What points get from others. -/
def gain (x y : Int) : Int := 1 + ord3 x y

theorem gain_bd (x y : Int) : 0 ≤ gain x y ∧ gain x y ≤ 2 := by unfold gain ord3; split <;> (try split) <;> omega

set_option maxHeartbeats 400000 in
theorem compare11 (x y1 y2 : Int) (bx : Nat) (w : World) (hx : w.cell? ⟨bx, 0, none⟩ = some (.int .i64 x)) (hG : Gets w) (hy : 0 ≤ y2 ∧ y2 ≤ 100) :
    Calls Tryd.prog 86 #[.agg #[.int .i64 y1, .int .i64 y2], .pointer (some ⟨bx, 0, none⟩)] w fun e w' => e = .returned (.int .i64 (y2 * gain x y1)) ∧ Below w.heap.size w w' := by
  obtain ⟨g0, g1, g2⟩ := hG
  have l0 := World.block_lt_of_cell? w _ hx
  have l1 := World.block_lt_of_cell? w _ g0
  simp only at l0 l1
  have hC := cmp_int x y1
  have hgd : Sec (gain x y1 = 1 + ord3 x y1) := ⟨rfl⟩
  rcases Int.lt_trichotomy x y1 with h | h | h
  · have e : ord3 x y1 = -1 := by simp [ord3, h]
    rw [e] at hC hgd
    have HC := Sec.mk hC
    clear hC e h
    go_enter Tryd.func86, Tryd.ntmps86
    go_wp2_with fail
    go_quiet ((go_at_call 87; exact quiet_left (HC.out _)))
    go_wp2_with fail
    go_ret
    exact ⟨ret_i (by rw [hgd.out]; simp <;> omega), below_drewN ((Below.refl _ _).alloc (Nat.le_refl _) _) _⟩
  · have e : ord3 x y1 = 0 := by simp [ord3]; omega
    rw [e] at hC hgd
    have HC := Sec.mk hC
    clear hC e h
    go_enter Tryd.func86, Tryd.ntmps86
    go_wp2_with fail
    go_quiet ((go_at_call 87; exact quiet_left (HC.out _)))
    go_wp2_with fail
    go_ret
    exact ⟨ret_i (by rw [hgd.out]; simp <;> omega), below_drewN ((Below.refl _ _).alloc (Nat.le_refl _) _) _⟩
  · have e : ord3 x y1 = 1 := by unfold ord3; rw [if_neg (by omega), if_pos h]
    rw [e] at hC hgd
    have HC := Sec.mk hC
    clear hC e h
    go_enter Tryd.func86, Tryd.ntmps86
    go_wp2_with fail
    go_quiet ((go_at_call 87; exact quiet_left (HC.out _)))
    go_wp2_with fail
    go_ret
    exact ⟨ret_i (by rw [hgd.out]; simp <;> omega), below_drewN ((Below.refl _ _).alloc (Nat.le_refl _) _) _⟩

/-- What a point gets from a result, and a result from a result (times 10000). -/
def gainP (x : Int) (b : List (Int × Int)) : Int := (b.map fun y => y.2 * gain x y.1).sum
def gainR (a b : List (Int × Int)) : Int := (a.map fun x => x.2 * gainP x.1 b).sum

/-- The weights of a right result. -/
def weightsOk (r : List (Int × Int)) : Prop := r.length ≤ 4 ∧ ∀ p ∈ r, 0 ≤ p.2 ∧ p.2 ≤ 100

theorem sumTo_bd {α : Type} (f : α → Int) (l : List α) (M : Int) (hM : 0 ≤ M) (hf : ∀ x ∈ l, 0 ≤ f x ∧ f x ≤ M) (k : Nat) (hk : k ≤ l.length) : 0 ≤ sumTo f l k ∧ sumTo f l k ≤ M * k := by
  induction k with
  | zero => simp [sumTo]
  | succ k ih =>
    have hx : l[k]? = some l[k] := List.getElem?_eq_getElem hk
    rw [sumTo_succ f l k l[k] hx]
    have := hf l[k] (List.getElem_mem hk)
    have := ih (by omega)
    rw [show ((k + 1 : Nat) : Int) = (k : Int) + 1 by omega, Int.mul_add]
    omega
theorem sum_bd {α : Type} (f : α → Int) (l : List α) (M : Int) (hM : 0 ≤ M) (hf : ∀ x ∈ l, 0 ≤ f x ∧ f x ≤ M) : 0 ≤ (l.map f).sum ∧ (l.map f).sum ≤ M * l.length := by
  rw [← sumTo_all]; exact sumTo_bd f l M hM hf _ (Nat.le_refl _)
theorem mul_bd (a b A B : Int) (h1 : 0 ≤ a) (h2 : a ≤ A) (h3 : 0 ≤ b) (h4 : b ≤ B) : 0 ≤ a * b ∧ a * b ≤ A * B :=
  ⟨Int.mul_nonneg h1 h3, Int.mul_le_mul h2 h4 h3 (by omega)⟩
theorem gain1_bd (x : Int) (p : Int × Int) (h : 0 ≤ p.2 ∧ p.2 ≤ 100) : 0 ≤ p.2 * gain x p.1 ∧ p.2 * gain x p.1 ≤ 200 := by
  have := gain_bd x p.1
  exact mul_bd p.2 (gain x p.1) 100 2 h.1 h.2 this.1 this.2
theorem gainP_bd (x : Int) (b : List (Int × Int)) (h : weightsOk b) : 0 ≤ gainP x b ∧ gainP x b ≤ 800 := by
  have := sum_bd (fun y => y.2 * gain x y.1) b 200 (by omega) (fun p hp => gain1_bd x p (h.2 p hp))
  have hl := h.1
  unfold gainP
  omega
theorem gain2_bd (p : Int × Int) (b : List (Int × Int)) (hp : 0 ≤ p.2 ∧ p.2 ≤ 100) (h : weightsOk b) : 0 ≤ p.2 * gainP p.1 b ∧ p.2 * gainP p.1 b ≤ 80000 := by
  have := gainP_bd p.1 b h
  exact mul_bd p.2 (gainP p.1 b) 100 800 hp.1 hp.2 this.1 this.2
theorem gainR_bd (a b : List (Int × Int)) (ha : weightsOk a) (hb : weightsOk b) : 0 ≤ gainR a b ∧ gainR a b ≤ 320000 := by
  have := sum_bd (fun x => x.2 * gainP x.1 b) a 80000 (by omega) (fun p hp => gain2_bd p b (ha.2 p hp) hb)
  have hl := ha.1
  unfold gainR
  omega
theorem right_weights {r : List (Int × Int)} (h : rightR r = true) : weightsOk r := by
  unfold rightR at h
  simp only [Bool.and_eq_true, Bool.not_eq_true', Bool.or_eq_false_iff, decide_eq_false_iff_not, decide_eq_true_eq] at h
  refine ⟨by omega, fun p hp => ?_⟩
  have := List.any_eq_false.1 h.1.2 p hp
  simp only [badPart, Bool.or_eq_true, decide_eq_true_eq, not_or] at this
  omega

theorem cf58 : ∀ (args : Array Value) (w : World), (callFunc 86 args).run Tryd.prog w = .ok (.enter 86 args) w := fun _ _ => by kernel_rfl
theorem cf57 : ∀ (args : Array Value) (w : World), (callFunc 85 args).run Tryd.prog w = .ok (.enter 85 args) w := fun _ _ => by kernel_rfl

set_option maxRecDepth 100000 in
set_option maxHeartbeats 1000000 in
theorem compare1 (x1 x2 : Int) (bb : Nat) (B : Option Addr) (c : Nat) (b : List (Int × Int)) (w : World) (hb : w.cell? ⟨bb, 0, none⟩ = some (.slice B b.length c)) (hB : Parts w B b) (hG : Gets w) (hx : 0 ≤ x2 ∧ x2 ≤ 100) (hw : weightsOk b) :
    Calls Tryd.prog 85 #[.agg #[.int .i64 x1, .int .i64 x2], .pointer (some ⟨bb, 0, none⟩)] w fun e w' => e = .returned (.int .i64 (x2 * gainP x1 b)) ∧ Below w.heap.size w w' := by
  have l0 := World.block_lt_of_cell? w _ hb
  simp only at l0
  have hbd := gainP_bd x1 b hw
  have hbd2 := gain2_bd (x1, x2) b hx hw
  have HT := Sec.mk (fun (w' : World) (hB' : Below w.heap.size w w') (hx1 : w'.cell? ⟨w.heap.size, 0, none⟩ = some (.int .i64 x1)) =>
    total_parts 86 #[.pointer (some ⟨w.heap.size, 0, none⟩)] (fun y => y.2 * gain x1 y.1) B c b w' (hB.later hB') (by have := hw.1; omega) cf58
      (fun i p hp w'' hw'' => compare11 x1 p.1 p.2 w.heap.size w'' (cell_later hw'' hx1) ((hG.later hB').later hw'') (hw.2 p (List.mem_of_getElem? hp)))
      (fun k hk => by have := sumTo_bd (fun y => y.2 * gain x1 y.1) b 200 (by omega) (fun p hp => gain1_bd x1 p (hw.2 p hp)) k hk; have := hw.1; omega))
  have hl : b.length ≤ 4 := hw.1
  have e : (b.map fun y => y.2 * gain x1 y.1).sum = gainP x1 b := rfl
  rw [e] at HT
  clear hB hG hw e
  generalize gainP x1 b = GP at *
  have hV : (w.alloc (.cells #[.int .i64 x1, .int .i64 x2] 47)).cell? ⟨bb, 0, none⟩ = some (.slice B b.length c) := cell_later ((Below.refl _ _).alloc (Nat.le_refl _) _) hb
  go_enter Tryd.func85, Tryd.ntmps85
  go_wp2_with fail
  go_region_held3 (fun w' => w'.cell? ⟨w.heap.size, 1, none⟩ = some (.int .i64 x2) ∧ w'.cell? ⟨bb, 0, none⟩ = some (.slice B b.length c))
    (first | exact ⟨by go_simp, by go_simp⟩ | exact ⟨hV1, hV2⟩)
    ((go_at_call 53; refine (HT.out _ ?_ ?_).mono ?_; exact ((Below.refl _ _).alloc (Nat.le_refl _) _).drew; go_simp; rintro e w1 ⟨rfl, hb1⟩; have hV1 : w1.cell? ⟨w.heap.size, 1, none⟩ = some (.int .i64 x2) := cell_later hb1 (by go_simp); have hV2 : w1.cell? ⟨bb, 0, none⟩ = some (.slice B b.length c) := cell_later hb1 (by go_simp)))
  go_wp2_with fail
  go_ret
  exact ⟨ret_i (IntWalk.i64_in _ ⟨by omega, by omega⟩), (((Below.refl _ _).alloc (Nat.le_refl _) _).drew).trans (hb1.mono (by simp))⟩

set_option maxRecDepth 100000 in
set_option maxHeartbeats 1000000 in
theorem compare_any (A B : Option Addr) (ca cb : Nat) (a b : List (Int × Int)) (w : World) (hA : Parts w A a) (hB : Parts w B b) (hG : Gets w) (ha : weightsOk a) (hb : weightsOk b) :
    Calls Tryd.prog 56 #[.slice A a.length ca, .slice B b.length cb] w fun e w' => e = .returned (.int .i64 (gainR a b)) ∧ Below w.heap.size w w' := by
  have hW : Below w.heap.size w (w.alloc (.cells #[.slice B b.length cb] 31)) := (Below.refl _ _).alloc (Nat.le_refl _) _
  have HT := Sec.mk (total_parts 85 #[.pointer (some ⟨w.heap.size, 0, none⟩)] (fun x => x.2 * gainP x.1 b) A ca a (w.alloc (.cells #[.slice B b.length cb] 31)) (hA.later hW) (by have := ha.1; omega) cf57
      (fun i p hp w' hw' => compare1 p.1 p.2 w.heap.size B cb b w' (cell_later hw' (by go_simp)) ((hB.later hW).later hw') ((hG.later hW).later hw') (ha.2 p (List.mem_of_getElem? hp)) hb)
      (fun k hk => by have := sumTo_bd (fun x => x.2 * gainP x.1 b) a 80000 (by omega) (fun p hp => gain2_bd p b (ha.2 p hp) hb) k hk; have := ha.1; omega))
  have e : (a.map fun x => x.2 * gainP x.1 b).sum = gainR a b := rfl
  rw [e] at HT
  clear e hA hB hG
  generalize gainR a b = GR at *
  go_enter Tryd.func56, Tryd.ntmps56
  go_wp2_with fail
  refine HT.out.mono ?_; rintro e w1 ⟨rfl, hb1⟩
  go_wp2_with fail
  go_ret
  exact ⟨rfl, hW.trans (hb1.mono (by simp))⟩

/-- What a result gets from another one, as a rational number. -/
def gainQ (a b : List (Int × Int)) : Rat := (gainR a b : Rat) / ((10000 : Int) : Rat)

theorem kept2a {w w1 : World} {u v : Value} {T : Nat} (hb : Below (w.alloc (.cells #[u, v] T)).heap.size (w.alloc (.cells #[u, v] T)) w1) :
    w1.cell? ⟨w.heap.size, 0, none⟩ = some u ∧ w1.cell? ⟨w.heap.size, 1, none⟩ = some v ∧ w1.frozen? ⟨w.heap.size, 0, none⟩ = false ∧ w1.frozen? ⟨w.heap.size, 1, none⟩ = false ∧ w.heap.size < w1.heap.size := kept2 (n := 0) hb

set_option maxRecDepth 100000 in
set_option maxHeartbeats 1000000 in
theorem Compare_right (A B : Option Addr) (ca cb : Nat) (a b : List (Int × Int)) (w : World) (hA : Parts w A a) (hB : Parts w B b) (hG : Gets w) (ha : rightR a = true) (hb : rightR b = true) :
    Calls Tryd.prog 30 #[.slice A a.length ca, .slice B b.length cb] w fun e w' => e = .returned (.tuple #[.agg #[.int .i64 (gainQ a b).num, .int .i64 (gainQ a b).den], .int .i64 0]) ∧ Below w.heap.size w w' := by
  have wa := right_weights ha
  have wb := right_weights hb
  have HA := Sec.mk fun (w' : World) (h : Below w.heap.size w w') => right_any_len A ca a w' (hA.later h) (by have := wa.1; omega)
  have HB := Sec.mk fun (w' : World) (h : Below w.heap.size w w') => right_any_len B cb b w' (hB.later h) (by have := wb.1; omega)
  rw [ha] at HA
  rw [hb] at HB
  have HC := Sec.mk fun (w' : World) (h : Below w.heap.size w w') => compare_any A B ca cb a b w' (hA.later h) (hB.later h) (hG.later h) wa wb
  have bd := gainR_bd a b wa wb
  have HM := Sec.mk fun (w' : World) => make_q (gainR a b) 10000 w' (by omega) (by omega)
  have eq : (gainR a b : Rat) / ((10000 : Int) : Rat) = gainQ a b := rfl
  rw [eq] at HM
  clear hA hB hG ha hb wa wb eq
  generalize gainR a b = GR at *
  generalize (gainQ a b).num = N at *
  generalize ((gainQ a b).den : Int) = D at *
  go_enter Tryd.func30, Tryd.ntmps30
  go_wp2_with fail
  refine (HA.out _ ((Below.refl _ _).alloc (Nat.le_refl _) _)).mono ?_; rintro e w1 ⟨rfl, hb1⟩
  obtain ⟨c1, c2, c3, c4, c5⟩ := kept2a hb1
  have hB1 : Below w.heap.size w w1 := ((Below.refl _ _).alloc (Nat.le_refl _) _).trans (hb1.mono (by simp))
  clear hb1
  go_wp2_with fail
  refine (HB.out _ hB1).mono ?_; rintro e w2 ⟨rfl, hb2⟩
  have hB2 := hB1.trans (hb2.mono hB1.size)
  go_wp2_with fail
  refine (HC.out _ hB2).mono ?_; rintro e w3 ⟨rfl, hb3⟩
  have hB3 := hB2.trans (hb3.mono hB2.size)
  go_wp2_with fail
  refine (HM.out _).mono ?_; rintro e w4 ⟨rfl, hb4⟩
  have hB4 := hB3.trans (hb4.mono hB3.size)
  have d1 := cell_later hb4 (cell_later hb3 (cell_later hb2 c1))
  have d2 := cell_later hb4 (cell_later hb3 (cell_later hb2 c2))
  have hb14 : Below w1.heap.size w1 w4 := (hb2.trans (hb3.mono hb2.size)).trans (hb4.mono (Nat.le_trans hb2.size hb3.size))
  have d3 := (hb14.frozen (p := ⟨w.heap.size, 0, none⟩) c5).trans c3
  have d4 := (hb14.frozen (p := ⟨w.heap.size, 1, none⟩) c5).trans c4
  clear c1 c2 c3 c4 hb2 hb3 hb4 hb14
  go_wp2_with fail
  refine bodyPost_ret (v := .tuple #[.agg #[.int .i64 N, .int .i64 D], .int .i64 0]) (by simp [results, Tryd.results30, go_sem, d1, d2]) rfl ⟨rfl, ?_⟩
  exact (hB4.setCell (by simp) _).setCell (by simp) _

set_option maxRecDepth 100000 in
set_option maxHeartbeats 1000000 in
theorem Compare_wrong (A B : Option Addr) (ca cb : Nat) (a b : List (Int × Int)) (w : World) (hA : Parts w A a) (hB : Parts w B b) (la : a.length ≤ 140737488351232) (lb : b.length ≤ 140737488351232) (h : (rightR a && rightR b) = false) :
    Calls Tryd.prog 30 #[.slice A a.length ca, .slice B b.length cb] w fun e w' => e = .returned (.tuple #[.agg #[.int .i64 0, .int .i64 0], .int .i64 2]) ∧ Below w.heap.size w w' := by
  have HA := Sec.mk fun (w' : World) (h : Below w.heap.size w w') => right_any_len A ca a w' (hA.later h) la
  have HB := Sec.mk fun (w' : World) (h : Below w.heap.size w w') => right_any_len B cb b w' (hB.later h) lb
  clear hA hB
  cases h1 : rightR a
  · rw [h1] at HA
    clear h h1
    go_enter Tryd.func30, Tryd.ntmps30
    go_wp2_with fail
    refine (HA.out _ ((Below.refl _ _).alloc (Nat.le_refl _) _)).mono ?_; rintro e w1 ⟨rfl, hb1⟩
    obtain ⟨c1, c2, c3, c4, c5⟩ := kept2a hb1
    have hB1 : Below w.heap.size w w1 := ((Below.refl _ _).alloc (Nat.le_refl _) _).trans (hb1.mono (by simp))
    clear hb1
    go_wp2_with fail
    refine bodyPost_ret (v := .tuple #[.agg #[.int .i64 0, .int .i64 0], .int .i64 2]) (by simp [results, Tryd.results30, go_sem, c1, c2]) rfl ⟨rfl, ?_⟩
    exact (hB1.setCell (by simp) _).setCell (by simp) _
  · have h2 : rightR b = false := by simpa [h1] using h
    rw [h1] at HA
    rw [h2] at HB
    clear h h1 h2
    go_enter Tryd.func30, Tryd.ntmps30
    go_wp2_with fail
    refine (HA.out _ ((Below.refl _ _).alloc (Nat.le_refl _) _)).mono ?_; rintro e w1 ⟨rfl, hb1⟩
    obtain ⟨c1, c2, c3, c4, c5⟩ := kept2a hb1
    have hB1 : Below w.heap.size w w1 := ((Below.refl _ _).alloc (Nat.le_refl _) _).trans (hb1.mono (by simp))
    clear hb1
    go_wp2_with fail
    refine (HB.out _ hB1).mono ?_; rintro e w2 ⟨rfl, hb2⟩
    have hB2 := hB1.trans (hb2.mono hB1.size)
    have d1 := cell_later hb2 c1
    have d2 := cell_later hb2 c2
    have d3 := (hb2.frozen (p := ⟨w.heap.size, 0, none⟩) c5).trans c3
    have d4 := (hb2.frozen (p := ⟨w.heap.size, 1, none⟩) c5).trans c4
    clear c1 c2 c3 c4 hb2
    go_wp2_with fail
    refine bodyPost_ret (v := .tuple #[.agg #[.int .i64 0, .int .i64 0], .int .i64 2]) (by simp [results, Tryd.results30, go_sem, d1, d2]) rfl ⟨rfl, ?_⟩
    exact (hB2.setCell (by simp) _).setCell (by simp) _
end Go.Proofs.YtojgjpegfkfnjaaDoor
