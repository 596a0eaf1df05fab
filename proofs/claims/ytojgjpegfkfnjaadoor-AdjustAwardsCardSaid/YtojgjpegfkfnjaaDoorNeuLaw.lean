/- Plain laws of adjusted matchpoints. -/
import Derived.Test.YtojgjpegfkfnjaaDoorMLaw
namespace Go.Proofs.YtojgjpegfkfnjaaDoor
set_option linter.unusedVariables false
set_option linter.unusedSimpArgs false

/-! ### quotients by one denominator -/
theorem qd_add (a b D : Int) : ((a : Rat) / (D : Rat)) + ((b : Rat) / (D : Rat)) = (((a + b : Int) : Rat) / (D : Rat)) := by
  rw [Rat.intCast_add]
  generalize (D : Rat) = t at *
  grind
theorem qd_int (n D : Int) (hD : D ≠ 0) : (((D * n : Int) : Rat) / (D : Rat)) = (n : Rat) := by
  have : (D : Rat) ≠ 0 := intCast_ne D hD
  rw [Rat.intCast_mul]
  generalize (D : Rat) = t at *
  grind
theorem qd_fits (N : Int) (D : Nat) (hD : 0 < D) (hD2 : D ≤ 1000000000) (h : -1000000000000 ≤ N ∧ N ≤ 1000000000000) : fits ((N : Rat) / ((D : Int) : Rat)) := by
  obtain ⟨G, h1, h2, h3⟩ := quot_parts N D hD _ rfl
  generalize (N : Rat) / ((D : Int) : Rat) = q at *
  have hd : q.den ≤ D := by rw [h3]; exact Nat.le_mul_of_pos_right _ h1
  unfold fits
  have hn : q.num.natAbs ≤ N.natAbs := by
    rw [h2, Int.natAbs_mul]; simp; exact Nat.le_mul_of_pos_right _ h1
  omega
theorem qd_lt (D : Int) (hD : 0 < D) (x y : Int) : ((x : Rat) / (D : Rat) < (y : Rat) / (D : Rat)) ↔ x < y := by
  have e : ((x : Rat) < (y : Rat)) ↔ x < y := Rat.intCast_lt_intCast
  rw [← e]
  have t0 : (0 : Rat) < (D : Rat) := by exact_mod_cast hD
  have t1 : (0 : Rat) < (D : Rat)⁻¹ := Rat.inv_pos.2 t0
  rw [Rat.div_def, Rat.div_def]
  generalize (D : Rat)⁻¹ = s at *
  exact Rat.mul_lt_mul_right t1
theorem qd_ord (D : Int) (hD : 0 < D) (a b : Int) : ordQ ((a : Rat) / (D : Rat)) ((b : Rat) / (D : Rat)) = ord3 a b := by
  unfold ordQ ord3
  simp only [qd_lt D hD]
theorem sumQ_qd {α : Type} (f : α → Int) (D : Int) (hD : D ≠ 0) (l : List α) (k : Nat) (hk : k ≤ l.length) : sumQ (l.map fun a => (f a : Rat) / (D : Rat)) k = ((sumTo f l k : Int) : Rat) / (D : Rat) := by
  induction k with
  | zero =>
    rw [sumTo_zero]
    have := qd_int 0 D hD
    rw [Int.mul_zero] at this
    show (0 : Rat) = _
    exact this.symm
  | succ k ih =>
    have hx : l[k]? = some l[k] := List.getElem?_eq_getElem (by omega)
    rw [sumQ_succ _ _ ((f l[k] : Rat) / (D : Rat)) (by rw [List.getElem?_map, hx]; rfl), ih (by omega), sumTo_succ f l k _ hx, qd_add]

/-! ### adjusted matchpoints -/
/-- m N / n + (N - n) / n. -/
def adjQ (m : Rat) (n N : Nat) : Rat := m * (((N : Int) : Rat) / ((n : Int) : Rat)) + ((((N : Int) - (n : Int) : Int) : Rat) / ((n : Int) : Rat))
theorem adjQ_quot (M D : Int) (n N : Nat) (hD : D ≠ 0) (hn : 0 < n) : adjQ ((M : Rat) / (D : Rat)) n N = ((M * N + D * ((N : Int) - n) : Int) : Rat) / ((D * n : Int) : Rat) := by
  unfold adjQ
  have h1 : (D : Rat) ≠ 0 := intCast_ne D hD
  have h2 : ((n : Int) : Rat) ≠ 0 := intCast_ne n (by omega)
  rw [Rat.intCast_add, Rat.intCast_mul, Rat.intCast_mul, Rat.intCast_mul]
  generalize (((N : Int) - (n : Int) : Int) : Rat) = E
  generalize ((N : Int) : Rat) = N'
  generalize ((n : Int) : Rat) = n' at *
  generalize (D : Rat) = D' at *
  generalize (M : Rat) = M'
  grind
/-- The adjusted matchpoints of a result of a field, times 10000 n. -/
def fieldN (l : List (List (Int × Int))) (N : Nat) (a : List (Int × Int)) : Int := matchN l a * N + 10000 * ((N : Int) - (l.length : Int))
def fieldQ (l : List (List (Int × Int))) (N : Nat) (a : List (Int × Int)) : Rat := (fieldN l N a : Rat) / ((10000 * (l.length : Int) : Int) : Rat)
theorem fieldQ_eq {l : List (List (Int × Int))} (hl : 0 < l.length) (N : Nat) (a : List (Int × Int)) : adjQ (matchQ l a) l.length N = fieldQ l N a := by
  unfold matchQ
  rw [adjQ_quot _ _ _ _ (by decide) hl]
  rfl
theorem fieldN_bd {l : List (List (Int × Int))} (hl : ∀ r ∈ l, rightR r = true) {N : Nat} (hN : l.length ≤ N) {a : List (Int × Int)} (ha : a ∈ l) : 0 ≤ fieldN l N a ∧ fieldN l N a ≤ 10000 * (l.length : Int) * (2 * ((N : Int) - 1)) := by
  have h := matchN_le hl ha
  have hn : 0 < l.length := List.length_pos_of_mem ha
  unfold fieldN
  have h1 : 0 ≤ matchN l a * (N : Int) := Int.mul_nonneg h.1 (by omega)
  have h2 : matchN l a * (N : Int) ≤ 10000 * (2 * ((l.length : Int) - 1)) * (N : Int) := Int.mul_le_mul_of_nonneg_right h.2 (by omega)
  have e : 10000 * (l.length : Int) * (2 * ((N : Int) - 1)) = 10000 * (2 * ((l.length : Int) - 1)) * (N : Int) + 20000 * ((N : Int) - (l.length : Int)) := by grind
  rw [e]
  omega
theorem fieldQ_fits {l : List (List (Int × Int))} (hl : ∀ r ∈ l, rightR r = true) {N : Nat} (hN : l.length ≤ N) (hN2 : N ≤ 24) {a : List (Int × Int)} (ha : a ∈ l) : fits (fieldQ l N a) := by
  have h := fieldN_bd hl hN ha
  have hn : 0 < l.length := List.length_pos_of_mem ha
  have e : ((10000 * (l.length : Int) : Int) : Rat) = (((10000 * l.length : Nat) : Int) : Rat) := congrArg (fun x : Int => (x : Rat)) (by omega)
  unfold fieldQ
  rw [e]
  refine qd_fits _ _ (by omega) (by omega) ?_
  have h3 : 10000 * (l.length : Int) * (2 * ((N : Int) - 1)) ≤ 10000 * 24 * (2 * 23) := Int.mul_le_mul (by omega) (by omega) (by omega) (by omega)
  omega
theorem fieldN_sum {l : List (List (Int × Int))} (hl : ∀ r ∈ l, rightR r = true) (N : Nat) : (l.map (fieldN l N)).sum = 10000 * (l.length : Int) * ((l.length : Int) * ((N : Int) - 1)) := by
  have h := matchN_sum hl
  have e1 : ∀ (m : List (List (Int × Int))), (m.map (fieldN l N)).sum = (m.map (matchN l)).sum * N + 10000 * ((N : Int) - (l.length : Int)) * m.length := by
    intro m
    induction m with
    | nil => simp
    | cons x m ih =>
      simp only [List.map_cons, List.sum_cons, List.length_cons, ih]
      unfold fieldN
      push_cast
      grind
  rw [e1, h]
  grind
theorem fieldQ_sum {l : List (List (Int × Int))} (hl : ∀ r ∈ l, rightR r = true) (N : Nat) : sumQ (l.map (fieldQ l N)) (l.map (fieldQ l N)).length = (((l.length : Int) * ((N : Int) - 1) : Int) : Rat) := by
  rw [List.length_map]
  rcases Nat.eq_zero_or_pos l.length with h0 | h0
  · have : l = [] := List.eq_nil_of_length_eq_zero h0
    subst this
    simp [sumQ]
  · have e : l.map (fieldQ l N) = l.map fun a => ((fieldN l N a : Int) : Rat) / ((10000 * (l.length : Int) : Int) : Rat) := rfl
    rw [e, sumQ_qd (fieldN l N) _ (by omega) l l.length (Nat.le_refl _), sumTo_all, fieldN_sum hl, qd_int _ _ (by omega)]
theorem fieldQ_sum_fits {l : List (List (Int × Int))} (hl : ∀ r ∈ l, rightR r = true) {N : Nat} (hN : l.length ≤ N) (hN2 : N ≤ 24) (k : Nat) (hk : k ≤ (l.map (fieldQ l N)).length) : fits (sumQ (l.map (fieldQ l N)) k) := by
  rw [List.length_map] at hk
  rcases Nat.eq_zero_or_pos l.length with h0 | h0
  · have : l = [] := List.eq_nil_of_length_eq_zero h0
    subst this
    have : k = 0 := by simpa using hk
    subst this
    exact fits_int 0 (by omega)
  · have e : l.map (fieldQ l N) = l.map fun a => ((fieldN l N a : Int) : Rat) / ((10000 * (l.length : Int) : Int) : Rat) := rfl
    rw [e, sumQ_qd (fieldN l N) _ (by omega) l k hk]
    have h1 := sumTo_bd (fieldN l N) l (10000 * 24 * (2 * 23)) (by omega) (fun a ha => by
      have := fieldN_bd hl hN ha
      have h3 : 10000 * (l.length : Int) * (2 * ((N : Int) - 1)) ≤ 10000 * 24 * (2 * 23) := Int.mul_le_mul (by omega) (by omega) (by omega) (by omega)
      omega) k hk
    have e2 : ((10000 * (l.length : Int) : Int) : Rat) = (((10000 * l.length : Nat) : Int) : Rat) := congrArg (fun x : Int => (x : Rat)) (by omega)
    rw [e2]
    exact qd_fits _ _ (by omega) (by omega) (by omega)
theorem fieldQ_turn {l : List (List (Int × Int))} (hl : ∀ r ∈ l, rightR r = true) (N : Nat) {a : List (Int × Int)} (ha : a ∈ l) :
    fieldQ l N a + fieldQ (l.map (List.map turnP)) N (a.map turnP) = ((2 * ((N : Int) - 1) : Int) : Rat) := by
  have hn : 0 < l.length := List.length_pos_of_mem ha
  have h := matchN_turn hl ha
  unfold fieldQ fieldN
  rw [List.length_map, qd_add]
  have e : matchN l a * (N : Int) + 10000 * ((N : Int) - (l.length : Int)) + (matchN (l.map (List.map turnP)) (a.map turnP) * (N : Int) + 10000 * ((N : Int) - (l.length : Int))) = 10000 * (l.length : Int) * (2 * ((N : Int) - 1)) := by
    have : matchN l a * (N : Int) + matchN (l.map (List.map turnP)) (a.map turnP) * (N : Int) = 10000 * (2 * ((l.length : Int) - 1)) * (N : Int) := by rw [← Int.add_mul, h]
    grind
  rw [e, qd_int _ _ (by omega)]
theorem fieldQ_low {l : List (List (Int × Int))} (hl : ∀ r ∈ l, rightR r = true) {N : Nat} (hN : l.length ≤ N) {a : List (Int × Int)} (ha : a ∈ l) :
    0 ≤ ordQ (fieldQ l N a) ((0 : Int) : Rat) ∧ ordQ (fieldQ l N a) ((2 * ((N : Int) - 1) : Int) : Rat) ≤ 0 := by
  have hn : 0 < l.length := List.length_pos_of_mem ha
  have h := fieldN_bd hl hN ha
  unfold fieldQ
  have e0 : ((0 : Int) : Rat) = (((10000 * (l.length : Int) * 0 : Int) : Rat) / ((10000 * (l.length : Int) : Int) : Rat)) := (qd_int 0 _ (by omega)).symm
  rw [e0, ← qd_int (2 * ((N : Int) - 1)) (10000 * (l.length : Int)) (by omega), qd_ord _ (by omega), qd_ord _ (by omega), Int.mul_zero]
  unfold ord3
  constructor
  · split <;> (try split) <;> omega
  · split <;> (try split) <;> omega
/-- In a field of all results matchpoints stay. -/
theorem fieldQ_full {l : List (List (Int × Int))} {a : List (Int × Int)} (hn : 0 < l.length) : fieldQ l l.length a = matchQ l a := by
  unfold fieldQ fieldN matchQ
  have h1 : ((10000 : Int) : Rat) ≠ 0 := by decide
  have h2 : ((l.length : Int) : Rat) ≠ 0 := intCast_ne _ (by omega)
  rw [Int.sub_self, Int.mul_zero, Int.add_zero, Rat.intCast_mul, Rat.intCast_mul]
  generalize ((l.length : Int) : Rat) = n at *
  generalize ((10000 : Int) : Rat) = t at *
  grind
theorem fieldQ_alone {a : List (Int × Int)} (N : Nat) : fieldQ [a] N a = (((N : Int) - 1 : Int) : Rat) := by
  have e : fieldN [a] N a = 10000 * 1 * ((N : Int) - 1) := by
    unfold fieldN matchN
    simp
  unfold fieldQ
  rw [e]
  exact qd_int _ (10000 * 1) (by decide)
theorem fieldQ_order {l : List (List (Int × Int))} {N : Nat} (hN : 0 < N) (hn : 0 < l.length) (a b : List (Int × Int)) : ordQ (matchQ l a) (matchQ l b) = ordQ (fieldQ l N a) (fieldQ l N b) := by
  unfold fieldQ matchQ
  rw [ordQ_div, qd_ord _ (by omega)]
  unfold fieldN ord3
  have key : ∀ x y : Int, x * (N : Int) + 10000 * ((N : Int) - (l.length : Int)) < y * (N : Int) + 10000 * ((N : Int) - (l.length : Int)) ↔ x < y := by
    intro x y
    have : x * (N : Int) < y * (N : Int) ↔ x < y := Int.mul_lt_mul_right (by omega)
    omega
  simp only [key]
end Go.Proofs.YtojgjpegfkfnjaaDoor
