/- Plain laws of matchpoints: what two results get from each other, sums, turned results, order. -/
import Derived.Test.YtojgjpegfkfnjaaDoorSumQ
namespace Go.Proofs.YtojgjpegfkfnjaaDoor
set_option linter.unusedVariables false
set_option linter.unusedSimpArgs false

theorem right_facts {r : List (Int × Int)} (h : rightR r = true) : (∀ p ∈ r, badPart p = false) ∧ (r.map (·.2)).sum = 100 ∧ r.length ≤ 4 := by
  unfold rightR at h
  simp only [Bool.and_eq_true, Bool.not_eq_true', Bool.or_eq_false_iff, decide_eq_false_iff_not, decide_eq_true_eq] at h
  exact ⟨fun p hp => by have := List.any_eq_false.1 h.1.2 p hp; simpa using this, h.2, by omega⟩

/-! ### quotients -/
theorem quot_parts (N : Int) (D : Nat) (hD : 0 < D) (q : Rat) (h : q = (N : Rat) / ((D : Int) : Rat)) : ∃ G : Nat, 0 < G ∧ N = q.num * (G : Int) ∧ D = q.den * G := by
  obtain ⟨G, hG⟩ : ∃ G, G = Nat.gcd N.natAbs D := ⟨_, rfl⟩
  have hG0 : 0 < G := by rw [hG]; exact Nat.gcd_pos_of_pos_right _ hD
  obtain ⟨A, hA⟩ := hG ▸ Nat.gcd_dvd_left N.natAbs D
  obtain ⟨B, hB⟩ := hG ▸ Nat.gcd_dvd_right N.natAbs D
  have hcop : Nat.gcd A B = 1 := by
    have : G * Nat.gcd A B = G * 1 := by rw [← Nat.gcd_mul_left, ← hA, ← hB, Nat.mul_one]; exact hG.symm
    exact Nat.eq_of_mul_eq_mul_left hG0 this
  have hB0 : 0 < B := Nat.pos_of_ne_zero fun h => by rw [h] at hB; omega
  obtain ⟨S, hS, hS2⟩ : ∃ S : Int, N = S * (G : Int) ∧ S.natAbs = A := by
    rcases Int.le_total 0 N with h0 | h0
    · refine ⟨(A : Int), ?_, by simp⟩
      have : N = ((N.natAbs : Nat) : Int) := by omega
      rw [this, hA]; push_cast; rw [Int.mul_comm]
    · refine ⟨-(A : Int), ?_, by simp⟩
      have : N = -((N.natAbs : Nat) : Int) := by omega
      rw [this, hA]; push_cast; rw [Int.mul_comm, Int.neg_mul]
  obtain ⟨h1, h2⟩ := fits_of S (B : Int) (by omega) (by rw [hS2]; simpa using hcop) q (by
    rw [h]
    refine div_eq_div _ _ _ _ (by omega) (by omega) ?_
    rw [hS, hB]; push_cast; rw [Int.mul_assoc])
  refine ⟨G, hG0, by rw [h1]; exact hS, ?_⟩
  have : q.den = B := by omega
  rw [this, hB, Nat.mul_comm]
/-- A quotient by 10000 of a number of moderate size fits. -/
theorem quot_fits (N : Int) (h : -1000000000000 ≤ N ∧ N ≤ 1000000000000) : fits ((N : Rat) / ((10000 : Int) : Rat)) := by
  obtain ⟨G, h1, h2, h3⟩ := quot_parts N 10000 (by omega) _ rfl
  have e : ((N : Rat) / (((10000 : Nat) : Int) : Rat)) = (N : Rat) / ((10000 : Int) : Rat) := rfl
  rw [e] at h2 h3
  generalize (N : Rat) / ((10000 : Int) : Rat) = q at *
  have hd : q.den ≤ 10000 := by rw [h3]; exact Nat.le_mul_of_pos_right _ h1
  unfold fits
  have hn : q.num.natAbs ≤ N.natAbs := by
    rw [h2, Int.natAbs_mul]; simp; exact Nat.le_mul_of_pos_right _ h1
  omega
theorem quot_int (n : Int) : (((10000 * n : Int) : Rat) / ((10000 : Int) : Rat)) = (n : Rat) := by
  have : ((10000 : Int) : Rat) ≠ 0 := by decide
  rw [Rat.intCast_mul]
  generalize ((10000 : Int) : Rat) = t at *
  grind
theorem quot_add (a b : Int) : ((a : Rat) / ((10000 : Int) : Rat)) + ((b : Rat) / ((10000 : Int) : Rat)) = (((a + b : Int) : Rat) / ((10000 : Int) : Rat)) := by
  rw [Rat.intCast_add]
  generalize ((10000 : Int) : Rat) = t at *
  grind
theorem fits_int (n : Int) (h : -9223372036854775808 ≤ n ∧ n ≤ 9223372036854775807) : fits (n : Rat) := by
  unfold fits
  rw [Rat.num_intCast, Rat.den_intCast]
  omega
theorem qp_int (n : Int) : qp (n : Rat) = (n, 1) := by unfold qp; rw [Rat.num_intCast, Rat.den_intCast]; rfl
theorem sumQ_div {α : Type} (f : α → Int) (l : List α) (k : Nat) (hk : k ≤ l.length) : sumQ (l.map fun a => (f a : Rat) / ((10000 : Int) : Rat)) k = ((sumTo f l k : Int) : Rat) / ((10000 : Int) : Rat) := by
  induction k with
  | zero =>
    rw [sumTo_zero]
    show (0 : Rat) = _
    have := quot_int 0
    simp at this ⊢
    exact this.symm
  | succ k ih =>
    have hx : l[k]? = some l[k] := List.getElem?_eq_getElem (by omega)
    rw [sumQ_succ _ _ ((f l[k] : Rat) / ((10000 : Int) : Rat)) (by rw [List.getElem?_map, hx]; rfl), ih (by omega), sumTo_succ f l k _ hx, quot_add]
theorem ordQ_div (a b : Int) : ordQ ((a : Rat) / ((10000 : Int) : Rat)) ((b : Rat) / ((10000 : Int) : Rat)) = ord3 a b := by
  have h : ∀ x y : Int, ((x : Rat) / ((10000 : Int) : Rat) < (y : Rat) / ((10000 : Int) : Rat)) ↔ x < y := by
    intro x y
    have e : ((x : Rat) < (y : Rat)) ↔ x < y := Rat.intCast_lt_intCast
    rw [← e]
    have t0 : (0 : Rat) < ((10000 : Int) : Rat) := by decide
    have d : ((10000 : Int) : Rat) * ((10000 : Int) : Rat)⁻¹ = 1 := Rat.mul_inv_cancel _ (by decide)
    have t1 : (0 : Rat) < ((10000 : Int) : Rat)⁻¹ := by decide +kernel
    rw [Rat.div_def, Rat.div_def]
    generalize ((10000 : Int) : Rat)⁻¹ = s at *
    exact Rat.mul_lt_mul_right t1
  unfold ordQ ord3
  simp only [h]

/-! ### sums -/
theorem sum_swap {α β : Type} (f : α → β → Int) (l : List α) (m : List β) : (l.map fun a => (m.map fun b => f a b).sum).sum = (m.map fun b => (l.map fun a => f a b).sum).sum := by
  induction l with
  | nil =>
    induction m with
    | nil => rfl
    | cons b m ih => simpa using ih
  | cons a l ih =>
    have h : ∀ m : List β, (m.map fun b => ((a :: l).map fun a => f a b).sum).sum = (m.map fun b => f a b).sum + (m.map fun b => (l.map fun a => f a b).sum).sum := by
      intro m
      induction m with
      | nil => rfl
      | cons b m ih =>
        simp only [List.map_cons, List.sum_cons] at ih ⊢
        omega
    rw [h, ← ih]
    simp only [List.map_cons, List.sum_cons]
theorem sum_const {α : Type} (f : α → Int) (c : Int) (l : List α) (h : ∀ x ∈ l, f x = c) : (l.map f).sum = c * l.length := by
  induction l with
  | nil => simp
  | cons x l ih =>
    have h1 := h x (by simp)
    have h2 := ih (fun y hy => h y (by simp [hy]))
    simp only [List.map_cons, List.sum_cons, List.length_cons, h1, h2]
    push_cast
    rw [Int.mul_add]; omega
theorem sum_congr {α : Type} (f g : α → Int) (l : List α) (h : ∀ x ∈ l, f x = g x) : (l.map f).sum = (l.map g).sum := by
  rw [List.map_congr_left h]
theorem sum_add2 {α : Type} (f g : α → Int) (l : List α) : (l.map fun x => f x + g x).sum = (l.map f).sum + (l.map g).sum := by
  induction l with
  | nil => rfl
  | cons x l ih => simp only [List.map_cons, List.sum_cons, ih]; omega
theorem sum_le {α : Type} (f g : α → Int) (l : List α) (h : ∀ x ∈ l, f x ≤ g x) : (l.map f).sum ≤ (l.map g).sum := by
  induction l with
  | nil => exact Int.le_refl _
  | cons x l ih =>
    have h1 := h x (by simp)
    have h2 := ih (fun y hy => h y (by simp [hy]))
    simp only [List.map_cons, List.sum_cons]; omega

/-! ### what two results get from each other -/
theorem gain_two_sum (x y : Int) : gain x y + gain y x = 2 := by
  unfold gain ord3; split <;> split <;> (try split) <;> (try split) <;> omega
theorem gain_turn (x y : Int) : gain (-x) (-y) = gain y x := by
  unfold gain ord3; split <;> split <;> (try split) <;> (try split) <;> omega
theorem gain_mono (p q y : Int) (h : q ≤ p) : gain q y ≤ gain p y := by
  unfold gain ord3; split <;> split <;> (try split) <;> (try split) <;> omega
def weightOf (r : List (Int × Int)) : Int := (r.map (·.2)).sum
theorem weight_right {r : List (Int × Int)} (h : rightR r = true) : weightOf r = 100 := (right_facts h).2.1
theorem pair_one (x w : Int) (b : List (Int × Int)) : w * gainP x b + (b.map fun y => y.2 * (w * gain y.1 x)).sum = 2 * w * weightOf b := by
  unfold gainP weightOf
  induction b with
  | nil => simp
  | cons y b ih =>
    simp only [List.map_cons, List.sum_cons] at ih ⊢
    have h := gain_two_sum x y.1
    generalize (b.map fun y => y.2 * gain x y.1).sum = A at *
    generalize (b.map fun y => y.2 * (w * gain y.1 x)).sum = B at *
    generalize (b.map fun x => x.2).sum = C at *
    generalize gain x y.1 = g at *
    have e : gain y.1 x = 2 - g := by omega
    rw [e]
    generalize y.2 = v at *
    grind
theorem gainR_cons_right (b : List (Int × Int)) (x : Int × Int) (a : List (Int × Int)) : gainR b (x :: a) = (b.map fun y => y.2 * (x.2 * gain y.1 x.1)).sum + gainR b a := by
  unfold gainR
  induction b with
  | nil => rfl
  | cons y b ih =>
    simp only [List.map_cons, List.sum_cons] at ih ⊢
    rw [ih]
    unfold gainP
    simp only [List.map_cons, List.sum_cons]
    rw [Int.mul_add]; omega
theorem gainR_two (a b : List (Int × Int)) : gainR a b + gainR b a = 2 * weightOf a * weightOf b := by
  induction a with
  | nil =>
    have : ∀ b : List (Int × Int), gainR b [] = 0 := by
      intro b
      unfold gainR gainP
      induction b with
      | nil => rfl
      | cons y b ih => simpa using ih
    rw [this]
    simp [gainR, weightOf]
  | cons x a ih =>
    have h := pair_one x.1 x.2 b
    have e1 : gainR (x :: a) b = x.2 * gainP x.1 b + gainR a b := by simp [gainR]
    have e2 : weightOf (x :: a) = x.2 + weightOf a := by simp [weightOf]
    rw [e1, gainR_cons_right, e2]
    have : 2 * (x.2 + weightOf a) * weightOf b = 2 * x.2 * weightOf b + 2 * weightOf a * weightOf b := by rw [Int.mul_add, Int.add_mul]
    omega
theorem gainR_both {a b : List (Int × Int)} (ha : rightR a = true) (hb : rightR b = true) : gainR a b + gainR b a = 20000 := by
  rw [gainR_two, weight_right ha, weight_right hb]; rfl
theorem gainR_self {a : List (Int × Int)} (ha : rightR a = true) : gainR a a = 10000 := by
  have := gainR_both ha ha; omega
theorem gainR_nonneg {a b : List (Int × Int)} (ha : rightR a = true) (hb : rightR b = true) : 0 ≤ gainR a b := (gainR_bd a b (right_weights ha) (right_weights hb)).1
theorem gainR_le {a b : List (Int × Int)} (ha : rightR a = true) (hb : rightR b = true) : gainR a b ≤ 20000 := by
  have h1 := gainR_both ha hb
  have h2 := gainR_nonneg hb ha
  omega
theorem gainP_turn (x : Int) (b : List (Int × Int)) : gainP (-x) (b.map turnP) = (b.map fun y => y.2 * gain y.1 x).sum := by
  unfold gainP
  rw [List.map_map]
  refine congrArg List.sum (List.map_congr_left fun y _ => ?_)
  show y.2 * gain (-x) (-y.1) = _
  rw [gain_turn]
theorem sum_mul_left (w x : Int) (b : List (Int × Int)) : (b.map fun y => y.2 * (w * gain y.1 x)).sum = w * (b.map fun y => y.2 * gain y.1 x).sum := by
  induction b with
  | nil => simp
  | cons y b ih =>
    simp only [List.map_cons, List.sum_cons] at ih ⊢
    rw [ih, Int.mul_add]
    congr 1
    rw [← Int.mul_assoc, ← Int.mul_assoc, Int.mul_comm w]
theorem gainR_turn (a b : List (Int × Int)) : gainR (a.map turnP) (b.map turnP) = gainR b a := by
  induction a with
  | nil =>
    have : ∀ b : List (Int × Int), gainR b [] = 0 := by
      intro b
      unfold gainR gainP
      induction b with
      | nil => rfl
      | cons y b ih => simpa using ih
    rw [this]; rfl
  | cons x a ih =>
    rw [gainR_cons_right, ← ih]
    have e1 : gainR ((x :: a).map turnP) (b.map turnP) = x.2 * gainP (-x.1) (b.map turnP) + gainR (a.map turnP) (b.map turnP) := by simp [gainR, turnP]
    rw [e1, gainP_turn, sum_mul_left]
theorem turn_right {a : List (Int × Int)} (ha : rightR a = true) : rightR (a.map turnP) = true := by
  have hp : ∀ p ∈ a, badPart (turnP p) = false := by
    rintro ⟨x, y⟩ hp
    have := (right_facts ha).1 _ hp
    show badPart (-x, y) = false
    simp only [badPart, Bool.or_eq_false_iff, decide_eq_false_iff_not] at this ⊢
    omega
  unfold rightR at ha ⊢
  simp only [Bool.and_eq_true, Bool.not_eq_true', Bool.or_eq_false_iff, decide_eq_false_iff_not, decide_eq_true_eq, List.length_map] at ha ⊢
  refine ⟨⟨⟨ha.1.1.1, ha.1.1.2⟩, ?_⟩, ?_⟩
  · rw [List.any_eq_false]
    intro p hp'
    obtain ⟨x, hx, rfl⟩ := List.mem_map.1 hp'
    rw [hp x hx]; decide
  · rw [List.map_map]; exact ha.2

/-! ### matchpoints -/
theorem matchN_le {l : List (List (Int × Int))} {a : List (Int × Int)} (hl : ∀ r ∈ l, rightR r = true) (ha : a ∈ l) : 0 ≤ matchN l a ∧ matchN l a ≤ 10000 * (2 * ((l.length : Int) - 1)) := by
  have hra := hl a ha
  have e : ∀ m : List (List (Int × Int)), (∀ r ∈ m, rightR r = true) → 0 ≤ (m.map (gainR a)).sum ∧ (m.map (gainR a)).sum ≤ 20000 * m.length := fun m hm =>
    sum_bd (gainR a) m 20000 (by omega) (fun r hr => ⟨gainR_nonneg hra (hm r hr), gainR_le hra (hm r hr)⟩)
  obtain ⟨s, t, rfl⟩ := List.append_of_mem ha
  have h1 := e s (fun r hr => hl r (by simp [hr]))
  have h2 := e t (fun r hr => hl r (by simp [hr]))
  unfold matchN
  rw [List.map_append, List.sum_append, List.map_cons, List.sum_cons, List.length_append, List.length_cons]
  omega
theorem matchN_sum {l : List (List (Int × Int))} (hl : ∀ r ∈ l, rightR r = true) : (l.map (matchN l)).sum = 10000 * ((l.length : Int) * ((l.length : Int) - 1)) := by
  have e1 : (l.map fun a => (l.map (gainR a)).sum).sum + (l.map fun a => (l.map fun b => gainR b a).sum).sum = 20000 * l.length * l.length := by
    rw [← sum_add2]
    refine sum_const _ (20000 * (l.length : Int)) l (fun a ha => ?_)
    rw [← sum_add2]
    exact sum_const _ 20000 l (fun b hb => gainR_both (hl a ha) (hl b hb))
  have e2 : (l.map fun a => (l.map (gainR a)).sum).sum = (l.map fun a => (l.map fun b => gainR b a).sum).sum := sum_swap (fun a b => gainR a b) l l
  have e3 : (l.map (matchN l)).sum + (l.map fun a => gainR a a).sum = (l.map fun a => (l.map (gainR a)).sum).sum := by
    rw [← sum_add2]
    refine sum_congr _ _ l (fun a _ => ?_)
    unfold matchN; omega
  have e4 := sum_const (fun a => gainR a a) 10000 l (fun a ha => gainR_self (hl a ha))
  have e5 : (20000 : Int) * l.length * l.length = 2 * (10000 * (l.length * l.length)) := by grind
  have e6 : (10000 : Int) * (l.length * (l.length - 1)) = 10000 * (l.length * l.length) - 10000 * l.length := by grind
  rw [e6]
  generalize (10000 : Int) * (l.length * l.length) = M at *
  omega
theorem matchN_turn {l : List (List (Int × Int))} {a : List (Int × Int)} (hl : ∀ r ∈ l, rightR r = true) (ha : a ∈ l) : matchN l a + matchN (l.map (List.map turnP)) (a.map turnP) = 10000 * (2 * ((l.length : Int) - 1)) := by
  have hra := hl a ha
  unfold matchN
  rw [gainR_turn, List.map_map]
  have e1 : (l.map (gainR a)).sum + (l.map (gainR (a.map turnP) ∘ List.map turnP)).sum = 20000 * l.length := by
    rw [← sum_add2]
    refine sum_const _ 20000 l (fun b hb => ?_)
    show gainR a b + gainR (a.map turnP) (b.map turnP) = _
    rw [gainR_turn, gainR_both hra (hl b hb)]
  rw [gainR_self hra]
  omega
theorem perm_sum {l m : List Int} (h : l.Perm m) : l.sum = m.sum := by
  induction h with
  | nil => rfl
  | cons x _ ih => simp only [List.sum_cons, ih]
  | swap x y l => simp only [List.sum_cons]; omega
  | trans _ _ h1 h2 => exact h1.trans h2
theorem matchN_perm {l m : List (List (Int × Int))} (h : l.Perm m) (a : List (Int × Int)) : matchN l a = matchN m a := by
  unfold matchN
  rw [perm_sum (h.map (gainR a))]
theorem matchN_mono {l : List (List (Int × Int))} {p q : Int} (h : q ≤ p) (hl : ∀ r ∈ l, rightR r = true) : matchN l [(q, 100)] ≤ matchN l [(p, 100)] := by
  have e : ∀ x : Int, gainR [(x, 100)] [(x, 100)] = 10000 := by
    intro x
    have : gain x x = 1 := by unfold gain ord3; simp
    simp [gainR, gainP, this]
  unfold matchN
  rw [e, e]
  have := sum_le (gainR [(q, 100)]) (gainR [(p, 100)]) l (fun r hr => by
    have hw := right_weights (hl r hr)
    have e2 : ∀ x : Int, gainR [(x, 100)] r = 100 * gainP x r := by intro x; simp [gainR]
    rw [e2, e2]
    have := sum_le (fun y : Int × Int => y.2 * gain q y.1) (fun y => y.2 * gain p y.1) r (fun y hy => Int.mul_le_mul_of_nonneg_left (gain_mono p q y.1 h) (hw.2 y hy).1)
    unfold gainP
    omega)
  omega
end Go.Proofs.YtojgjpegfkfnjaaDoor
