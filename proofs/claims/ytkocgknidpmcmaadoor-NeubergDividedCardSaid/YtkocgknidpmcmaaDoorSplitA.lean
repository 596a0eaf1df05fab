/- Plain laws on results that Made makes; a part that is split. -/
import Derived.Test.YtkocgknidpmcmaaDoorMade
namespace Go.Proofs.YtkocgknidpmcmaaDoor
set_option linter.unusedVariables false
set_option linter.unusedSimpArgs false

theorem made0 (p wt : Int) : madeR p wt [] = [(pm p, 100)] := by simp [madeR]
theorem made1 (p wt a : Int) : madeR p wt [a] = [(pm p, firstW 1 wt), (pm a, 100 - firstW 1 wt)] := by
  simp [madeR, madeO, otherP, List.mapIdx_cons]
theorem made2 (p wt a b : Int) : madeR p wt [a, b] = [(pm p, firstW 2 wt), (pm a, 1), (pm b, 100 - firstW 2 wt - 1)] := by
  simp [madeR, madeO, otherP, List.mapIdx_cons]
theorem made3 (p wt a b c : Int) (l : List Int) : madeR p wt (a :: b :: c :: l) = [(pm p, firstW 3 wt), (pm a, 1), (pm b, 1), (pm c, 100 - firstW 3 wt - 2)] := by
  have h : min (a :: b :: c :: l).length 3 = 3 := by simp only [List.length_cons]; omega
  unfold madeR
  rw [if_neg (by simp), h]
  simp [madeO, otherP, List.mapIdx_cons]

theorem made_cases (p wt : Int) (l : List Int) : l = [] ∨ (∃ a, l = [a]) ∨ (∃ a b, l = [a, b]) ∨ ∃ a b c r, l = a :: b :: c :: r := by
  match l with
  | [] => exact Or.inl rfl
  | [a] => exact Or.inr (Or.inl ⟨a, rfl⟩)
  | [a, b] => exact Or.inr (Or.inr (Or.inl ⟨a, b, rfl⟩))
  | a :: b :: c :: r => exact Or.inr (Or.inr (Or.inr ⟨a, b, c, r, rfl⟩))

theorem made_right (p wt : Int) (l : List Int) (hw : 0 ≤ wt) : rightR (madeR p wt l) = true := by
  have f1 := firstW_bd 1 wt (by omega) hw
  have f2 := firstW_bd 2 wt (by omega) hw
  have f3 := firstW_bd 3 wt (by omega) hw
  have hp := pm_bd p
  have g : ∀ q w : Int, 1 ≤ w → w ≤ 100 → badPart (pm q, w) = false := by
    intro q w h1 h2
    have := pm_bd q
    simp only [badPart, Bool.or_eq_false_iff, decide_eq_false_iff_not]
    omega
  rcases made_cases p wt l with rfl | ⟨a, rfl⟩ | ⟨a, b, rfl⟩ | ⟨a, b, c, r, rfl⟩
  · rw [made0]
    simp [rightR, g p 100 (by omega) (by omega)]
  · rw [made1]
    simp [rightR, g p _ f1.1 (by omega), g a (100 - firstW 1 wt) (by omega) (by omega)]
    omega
  · rw [made2]
    simp [rightR, g p _ f2.1 (by omega), g a 1 (by omega) (by omega), g b (100 - firstW 2 wt - 1) (by omega) (by omega)]
    omega
  · rw [made3]
    simp [rightR, g p _ f3.1 (by omega), g a 1 (by omega) (by omega), g b 1 (by omega) (by omega), g c (100 - firstW 3 wt - 2) (by omega) (by omega)]
    omega
theorem made_len (p wt : Int) (l : List Int) : 1 ≤ (madeR p wt l).length ∧ (madeR p wt l).length ≤ 4 ∧ (madeR p wt l).length ≤ l.length + 1 := by
  rcases made_cases p wt l with rfl | ⟨a, rfl⟩ | ⟨a, b, rfl⟩ | ⟨a, b, c, r, rfl⟩
  · rw [made0]; simp
  · rw [made1]; simp
  · rw [made2]; simp
  · rw [made3]; simp

/-- What the loop has appended behind k rounds: from the last part down, but for the j-th one. -/
def accS (a : List (Int × Int)) (j : Nat) : Nat → List (Int × Int)
  | 0 => []
  | k + 1 => accS a j k ++ (if a.length - 1 - k = j then [] else [a.getD (a.length - 1 - k) (0, 0)])
def splitR (a : List (Int × Int)) (j : Nat) (w : Int) : List (Int × Int) :=
  (((a.getD j (0, 0)).1, (a.getD j (0, 0)).2 - w) :: accS a j a.length) ++ [((a.getD j (0, 0)).1, w)]

theorem three_cases {a : List (Int × Int)} (h1 : 1 ≤ a.length) (h2 : a.length ≤ 3) : (∃ x, a = [x]) ∨ (∃ x y, a = [x, y]) ∨ ∃ x y z, a = [x, y, z] := by
  match a, h1, h2 with
  | [x], _, _ => exact Or.inl ⟨x, rfl⟩
  | [x, y], _, _ => exact Or.inr (Or.inl ⟨x, y, rfl⟩)
  | [x, y, z], _, _ => exact Or.inr (Or.inr ⟨x, y, z, rfl⟩)
  | _ :: _ :: _ :: _ :: _, _, h => simp at h
theorem split_sum (F : Int × Int → Int) (a : List (Int × Int)) (j : Nat) (w : Int) (h1 : 1 ≤ a.length) (h2 : a.length ≤ 3) (hj : j < a.length)
    (hF : F ((a.getD j (0, 0)).1, (a.getD j (0, 0)).2 - w) + F ((a.getD j (0, 0)).1, w) = F (a.getD j (0, 0))) : ((splitR a j w).map F).sum = (a.map F).sum := by
  rcases three_cases h1 h2 with ⟨x, rfl⟩ | ⟨x, y, rfl⟩ | ⟨x, y, z, rfl⟩
  · have : j = 0 := by simp at hj; first | exact hj | omega
    subst this
    simp [splitR, accS] at hF ⊢
    omega
  · have : j = 0 ∨ j = 1 := by simp at hj; omega
    rcases this with rfl | rfl <;> simp [splitR, accS] at hF ⊢ <;> omega
  · have : j = 0 ∨ j = 1 ∨ j = 2 := by simp at hj; omega
    rcases this with rfl | rfl | rfl <;> simp [splitR, accS] at hF ⊢ <;> omega
theorem split_len (a : List (Int × Int)) (j : Nat) (w : Int) (h1 : 1 ≤ a.length) (h2 : a.length ≤ 3) (hj : j < a.length) : (splitR a j w).length = a.length + 1 := by
  rcases three_cases h1 h2 with ⟨x, rfl⟩ | ⟨x, y, rfl⟩ | ⟨x, y, z, rfl⟩
  · have : j = 0 := by simp at hj; first | exact hj | omega
    subst this; simp [splitR, accS]
  · have : j = 0 ∨ j = 1 := by simp at hj; omega
    rcases this with rfl | rfl <;> simp [splitR, accS]
  · have : j = 0 ∨ j = 1 ∨ j = 2 := by simp at hj; omega
    rcases this with rfl | rfl | rfl <;> simp [splitR, accS]
theorem split_any (a : List (Int × Int)) (j : Nat) (w : Int) (h1 : 1 ≤ a.length) (h2 : a.length ≤ 3) (hj : j < a.length) (h : ∀ p ∈ a, badPart p = false)
    (hw : 1 ≤ w) (hw2 : w ≤ (a.getD j (0, 0)).2 - 1) : ∀ p ∈ splitR a j w, badPart p = false := by
  have hm : a.getD j (0, 0) ∈ a := by
    rw [List.getD_eq_getElem?_getD, List.getElem?_eq_getElem hj]
    exact List.getElem_mem hj
  have hP := h _ hm
  have hbad : ∀ u : Int, 1 ≤ u → u ≤ (a.getD j (0, 0)).2 → badPart ((a.getD j (0, 0)).1, u) = false := by
    intro u hu1 hu2
    simp only [badPart, Bool.or_eq_false_iff, decide_eq_false_iff_not] at hP ⊢
    omega
  have hacc : ∀ k, k ≤ a.length → ∀ p ∈ accS a j k, p ∈ a := by
    intro k
    induction k with
    | zero => intro _ p hp; simp [accS] at hp
    | succ k ih =>
      intro hk p hp
      unfold accS at hp
      rcases List.mem_append.1 hp with hp | hp
      · exact ih (by omega) p hp
      · split at hp
        · simp at hp
        · simp only [List.mem_singleton] at hp
          subst hp
          have : a.length - 1 - k < a.length := by omega
          rw [List.getD_eq_getElem?_getD, List.getElem?_eq_getElem this]
          exact List.getElem_mem this
  intro p hp
  unfold splitR at hp
  rcases List.mem_append.1 hp with hp | hp
  · rcases List.mem_cons.1 hp with rfl | hp
    · exact hbad _ (by omega) (by omega)
    · exact h p (hacc _ (Nat.le_refl _) p hp)
  · simp only [List.mem_singleton] at hp
    subst hp
    exact hbad _ hw (by omega)
theorem split_right (a : List (Int × Int)) (j : Nat) (w : Int) (ha : rightR a = true) (h2 : a.length ≤ 3) (hj : j < a.length) (hw : 1 ≤ w) (hw2 : w ≤ (a.getD j (0, 0)).2 - 1) : rightR (splitR a j w) = true := by
  have h1 : 1 ≤ a.length := by omega
  unfold rightR at ha ⊢
  simp only [Bool.and_eq_true, Bool.not_eq_true', Bool.or_eq_false_iff, decide_eq_false_iff_not, decide_eq_true_eq] at ha ⊢
  refine ⟨⟨⟨by rw [split_len a j w h1 h2 hj]; omega, by rw [split_len a j w h1 h2 hj]; omega⟩, ?_⟩, ?_⟩
  · rw [List.any_eq_false]
    intro p hp
    rw [split_any a j w h1 h2 hj (fun p hp => by have := List.any_eq_false.1 ha.1.2 p hp; simpa using this) hw hw2 p hp]
    decide
  · rw [split_sum (·.2) a j w h1 h2 hj (by show _ - w + w = _; omega)]
    exact ha.2
theorem split_gainP (x : Int) (a : List (Int × Int)) (j : Nat) (w : Int) (h1 : 1 ≤ a.length) (h2 : a.length ≤ 3) (hj : j < a.length) : gainP x (splitR a j w) = gainP x a := by
  unfold gainP
  refine split_sum _ a j w h1 h2 hj ?_
  show (_ - w) * _ + w * _ = _
  rw [← Int.add_mul]
  congr 1; omega
theorem split_gain1 (a b : List (Int × Int)) (j : Nat) (w : Int) (h1 : 1 ≤ a.length) (h2 : a.length ≤ 3) (hj : j < a.length) : gainR (splitR a j w) b = gainR a b := by
  unfold gainR
  refine split_sum _ a j w h1 h2 hj ?_
  show (_ - w) * _ + w * _ = _
  rw [← Int.add_mul]
  congr 1; omega
theorem split_gain2 (a b : List (Int × Int)) (j : Nat) (w : Int) (h1 : 1 ≤ a.length) (h2 : a.length ≤ 3) (hj : j < a.length) : gainR b (splitR a j w) = gainR b a := by
  unfold gainR
  simp only [split_gainP _ a j w h1 h2 hj]
end Go.Proofs.YtkocgknidpmcmaaDoor
