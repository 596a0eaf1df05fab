/- The contracts of Right and Make. -/
import Derived.Test.YtojgjpegfkfnjaaDoorFracC
import Derived.Deep.RegionHeld3
namespace Go.Proofs.YtojgjpegfkfnjaaDoor
open Go.RowKit
set_option linter.unusedVariables false
set_option linter.unusedSimpArgs false

/-- Is it a fraction in lowest terms? -/
def rightB (n d : Int) : Bool := decide (0 < d ∧ Nat.gcd n.natAbs d.natAbs = 1)

set_option maxHeartbeats 1000000 in
theorem right_exact (n d : Int) (w : World) (hn : -9223372036854775808 ≤ n ∧ n ≤ 9223372036854775807) (hd : -9223372036854775808 ≤ d ∧ d ≤ 9223372036854775807) :
    Calls Tryd.prog 46 #[.agg #[.int .i64 n, .int .i64 d]] w fun e w' => e = .returned (.bool (rightB n d)) ∧ ∃ k, w' = (w.alloc (.cells #[.int .i64 n, .int .i64 d] 40)).drewN k := by
  by_cases h0 : 0 < d
  · by_cases h1 : n = 0 ∧ d = 1
    · obtain ⟨rfl, rfl⟩ := h1
      go_enter Tryd.func46, Tryd.ntmps46
      go_wp2
      go_quiet (fail)
      go_wp2
      go_ret
      exact ⟨ret_b (by decide), _, rfl⟩
    · by_cases h2 : n = 0
      · subst h2
        have e1 : (d == 1) = false := by simp; omega
        go_enter Tryd.func46, Tryd.ntmps46
        go_wp2
        go_quiet (fail)
        go_wp2
        go_ret
        exact ⟨ret_b (by unfold rightB; simp; intro _; have h3 : ¬ d = 1 := (by simpa using e1); omega), _, rfl⟩
      · have e1 : (n == 0) = false := by simp; omega
        have e2 : (n != 0) = true := by simp; omega
        go_enter Tryd.func46, Tryd.ntmps46
        go_wp2
        go_quiet ((first | (go_at_call 48; exact quiet_left (size_any _ _ hn.1 hn.2)) | (go_at_call 79; exact Calls.quiet_of (gcd_int _ _ _ (by omega) (by omega)))))
        go_wp2
        go_ret
        refine ⟨ret_b ?_, _, rfl⟩
        have e3 : (((Nat.gcd n.natAbs d.natAbs : Nat) : Int) == 1) = decide (Nat.gcd n.natAbs d.natAbs = 1) := by
          rw [Bool.eq_iff_iff]; simp; omega
        unfold rightB
        simp only [h0, true_and]
        exact e3
  · have hd0 : decide (0 < d) = false := by simpa using h0
    go_enter Tryd.func46, Tryd.ntmps46
    go_wp2
    go_quiet (fail)
    go_wp2
    go_ret
    exact ⟨ret_b (by unfold rightB; simp; omega), _, rfl⟩

theorem right_any (n d : Int) (w : World) (hn : -9223372036854775808 ≤ n ∧ n ≤ 9223372036854775807) (hd : -9223372036854775808 ≤ d ∧ d ≤ 9223372036854775807) :
    Calls Tryd.prog 46 #[.agg #[.int .i64 n, .int .i64 d]] w fun e w' => e = .returned (.bool (rightB n d)) ∧ Below w.heap.size w w' :=
  (right_exact n d w hn hd).mono fun _ _ ⟨he, _, hw⟩ => ⟨he, by rw [hw]; exact below_drewN ((Below.refl _ _).alloc (Nat.le_refl _) _) _⟩

set_option maxHeartbeats 1000000 in
theorem make_zero (n : Int) (w : World) :
    Calls Tryd.prog 55 #[.int .i64 n, .int .i64 0] w fun e w' => e = .returned (.tuple #[.agg #[.int .i64 0, .int .i64 0], .int .i64 2]) ∧ Below w.heap.size w w' := by
  go_enter Tryd.func55, Tryd.ntmps55
  go_wp2
  refine bodyPost_ret (v := .tuple #[.agg #[.int .i64 0, .int .i64 0], .int .i64 2]) (by simp [results, Tryd.results55, go_sem]) rfl ⟨rfl, ?_⟩
  exact (Below.refl _ _).alloc (Nat.le_refl _) _

theorem kept2 {w w1 : World} {u v : Value} {T n : Nat} (hb : Below (((w.alloc (.cells #[u, v] T)).drewN n).heap.size) ((w.alloc (.cells #[u, v] T)).drewN n) w1) :
    w1.cell? ⟨w.heap.size, 0, none⟩ = some u ∧ w1.cell? ⟨w.heap.size, 1, none⟩ = some v ∧ w1.frozen? ⟨w.heap.size, 0, none⟩ = false ∧ w1.frozen? ⟨w.heap.size, 1, none⟩ = false ∧ w.heap.size < w1.heap.size := by
  have hs : w.heap.size < ((w.alloc (.cells #[u, v] T)).drewN n).heap.size := by simp
  refine ⟨(hb.cell (p := ⟨w.heap.size, 0, none⟩) hs).trans ?_, (hb.cell (p := ⟨w.heap.size, 1, none⟩) hs).trans ?_, (hb.frozen (p := ⟨w.heap.size, 0, none⟩) hs).trans ?_, (hb.frozen (p := ⟨w.heap.size, 1, none⟩) hs).trans ?_, Nat.lt_of_lt_of_le hs hb.size⟩
  all_goals go_simp

theorem lowest (n d : Int) (g : Nat) (hn : -9223372036854775808 ≤ n ∧ n ≤ 9223372036854775807) (hd : 0 < d ∧ d ≤ 9223372036854775807) (Hg : Sec (g = Nat.gcd (n.natAbs : Int).natAbs (d.natAbs : Int).natAbs)) :
    ∃ A B : Nat, (1 : Int) ≤ g ∧ ((n.natAbs : Int) / (g : Int)) = A ∧ ((d.natAbs : Int) / (g : Int)) = B ∧ (0 ≤ (A : Int) ∧ (A : Int) ≤ n.natAbs) ∧ (0 < (B : Int) ∧ (B : Int) ≤ 9223372036854775807) ∧ Sec (Nat.gcd A B = 1 ∧ n.natAbs * B = d.natAbs * A ∧ 0 < B) := by
  have hg := Hg.out
  simp only [Int.natAbs_natCast] at hg
  have hgp : 0 < g := by rw [hg]; exact Nat.gcd_pos_of_pos_right _ (by omega)
  obtain ⟨A, hA⟩ : g ∣ n.natAbs := hg ▸ Nat.gcd_dvd_left _ _
  obtain ⟨B, hB⟩ : g ∣ d.natAbs := hg ▸ Nat.gcd_dvd_right _ _
  have hB0 : 0 < B := by
    rcases Nat.eq_zero_or_pos B with h | h
    · subst h; simp at hB; omega
    · exact h
  refine ⟨A, B, by omega, ?_, ?_, ⟨by omega, ?_⟩, ⟨by omega, ?_⟩, ⟨?_, ?_, hB0⟩⟩
  · rw [hA]; have : ((g * A : Nat) : Int) / (g : Int) = ((g * A / g : Nat) : Int) := rfl
    rw [this, Nat.mul_div_cancel_left _ hgp]
  · rw [hB]; have : ((g * B : Nat) : Int) / (g : Int) = ((g * B / g : Nat) : Int) := rfl
    rw [this, Nat.mul_div_cancel_left _ hgp]
  · have := Nat.le_mul_of_pos_left A hgp; omega
  · have := Nat.le_mul_of_pos_left B hgp; omega
  · have h1 : g * Nat.gcd A B = g := by rw [← Nat.gcd_mul_left, ← hA, ← hB, ← hg]
    exact Nat.eq_of_mul_eq_mul_left hgp (by rw [h1, Nat.mul_one])
  · rw [hA, hB, Nat.mul_assoc, Nat.mul_assoc, Nat.mul_comm A B]

set_option maxRecDepth 100000 in
set_option maxHeartbeats 1000000 in
theorem make_pos (n d : Int) (w : World) (hn : -9223372036854775808 ≤ n ∧ n ≤ 9223372036854775807) (hd : 0 < d ∧ d ≤ 9223372036854775807) (h0 : 0 < n) :
    Calls Tryd.prog 55 #[.int .i64 n, .int .i64 d] w fun e w' => ∃ A B : Nat, e = .returned (.tuple #[.agg #[.int .i64 A, .int .i64 B], .int .i64 0]) ∧ Sec (Nat.gcd A B = 1 ∧ n.natAbs * B = d.natAbs * A ∧ 0 < B) ∧ Below w.heap.size w w' := by
  have e0 : (d == 0) = false := by simp; omega
  have e1 : (n != 0) = true := by simp; omega
  have e2 : decide (n < 0) = false := by simp; omega
  have e3 : decide (d < 0) = false := by simp; omega
  go_enter Tryd.func55, Tryd.ntmps55
  go_wp2_with (first | (go_at_call 48; refine (size_any _ _ (by omega) (by omega)).mono ?_; rintro e w' ⟨rfl, rfl⟩) | (go_at_call 79; refine (gcd_name _ _ _ (by omega) (by omega)).mono ?_; rintro e w' ⟨g, k, rfl, Hg, rfl⟩))
  obtain ⟨A, B, hg1, eA, eB, hA, hB, H⟩ := lowest n d g (by omega) (by omega) Hg
  have hg2 : ¬ g = 0 := by omega
  have eA' : IntKind.u64.wrap (A : Int) = A := wraps_u64 _ (by omega) (by omega)
  have eB' : IntKind.u64.wrap (B : Int) = B := wraps_u64 _ (by omega) (by omega)
  have hA1 := hA
  have hB1 := hB
  go_region_held3 (fun _ => True) (trivial) ((go_at_call 83; refine (fit_pos _ _ _ ⟨?_, ?_⟩ ⟨?_, ?_⟩).mono ?_; omega; omega; omega; omega; rintro e w1 ⟨rfl, hb1⟩; obtain ⟨c1, c2, c3, c4, c5⟩ := kept2 hb1))
  go_wp2
  refine bodyPost_ret (v := .tuple #[.agg #[.int .i64 A, .int .i64 B], .int .i64 0]) (by simp [results, Tryd.results55, go_sem, c1, c2]) rfl ⟨A, B, rfl, H, ?_⟩
  exact (((below_drewN ((Below.refl _ _).alloc (Nat.le_refl _) _) _).trans (hb1.mono (by simp))).setCell (by simp) _).setCell (by simp) _

set_option maxRecDepth 100000 in
set_option maxHeartbeats 1000000 in
theorem make_neg (n d : Int) (w : World) (hn : -9223372036854775808 ≤ n ∧ n ≤ 9223372036854775807) (hd : 0 < d ∧ d ≤ 9223372036854775807) (h0 : n < 0) :
    Calls Tryd.prog 55 #[.int .i64 n, .int .i64 d] w fun e w' => ∃ A B : Nat, e = .returned (.tuple #[.agg #[.int .i64 (-(A : Int)), .int .i64 B], .int .i64 0]) ∧ Sec (Nat.gcd A B = 1 ∧ n.natAbs * B = d.natAbs * A ∧ 0 < B) ∧ Below w.heap.size w w' := by
  have e0 : (d == 0) = false := by simp; omega
  have e1 : (n != 0) = true := by simp; omega
  have e2 : decide (n < 0) = true := by simp; omega
  have e3 : decide (d < 0) = false := by simp; omega
  go_enter Tryd.func55, Tryd.ntmps55
  go_wp2_with (first | (go_at_call 48; refine (size_any _ _ (by omega) (by omega)).mono ?_; rintro e w' ⟨rfl, rfl⟩) | (go_at_call 79; refine (gcd_name _ _ _ (by omega) (by omega)).mono ?_; rintro e w' ⟨g, k, rfl, Hg, rfl⟩))
  obtain ⟨A, B, hg1, eA, eB, hA, hB, H⟩ := lowest n d g (by omega) (by omega) Hg
  have hg2 : ¬ g = 0 := by omega
  have eA' : IntKind.u64.wrap (A : Int) = A := wraps_u64 _ (by omega) (by omega)
  have eB' : IntKind.u64.wrap (B : Int) = B := wraps_u64 _ (by omega) (by omega)
  have hA1 := hA
  have hB1 := hB
  go_region_held3 (fun _ => True) (trivial) ((go_at_call 83; refine (fit_neg _ _ _ ⟨?_, ?_⟩ ⟨?_, ?_⟩).mono ?_; omega; omega; omega; omega; rintro e w1 ⟨rfl, hb1⟩; obtain ⟨c1, c2, c3, c4, c5⟩ := kept2 hb1))
  go_wp2
  refine bodyPost_ret (v := .tuple #[.agg #[.int .i64 (-(A : Int)), .int .i64 B], .int .i64 0]) (by simp [results, Tryd.results55, go_sem, c1, c2]) rfl ⟨A, B, rfl, H, ?_⟩
  exact (((below_drewN ((Below.refl _ _).alloc (Nat.le_refl _) _) _).trans (hb1.mono (by simp))).setCell (by simp) _).setCell (by simp) _

set_option maxRecDepth 100000 in
set_option maxHeartbeats 1000000 in
theorem make_nul (n d : Int) (w : World) (hn : -9223372036854775808 ≤ n ∧ n ≤ 9223372036854775807) (hd : 0 < d ∧ d ≤ 9223372036854775807) (h0 : n = 0) :
    Calls Tryd.prog 55 #[.int .i64 n, .int .i64 d] w fun e w' => ∃ A B : Nat, e = .returned (.tuple #[.agg #[.int .i64 A, .int .i64 B], .int .i64 0]) ∧ Sec (Nat.gcd A B = 1 ∧ n.natAbs * B = d.natAbs * A ∧ 0 < B) ∧ Below w.heap.size w w' := by
  have e0 : (d == 0) = false := by simp; omega
  have e1 : (n != 0) = false := by simp; omega
  have h1 : -1 < n := by omega
  have h2 : n < 1 := by omega
  clear h0
  have e3 : decide (d < 0) = false := by simp; omega
  go_enter Tryd.func55, Tryd.ntmps55
  go_wp2_with (first | (go_at_call 48; refine (size_any _ _ (by omega) (by omega)).mono ?_; rintro e w' ⟨rfl, rfl⟩) | (go_at_call 79; refine (gcd_name _ _ _ (by omega) (by omega)).mono ?_; rintro e w' ⟨g, k, rfl, Hg, rfl⟩))
  obtain ⟨A, B, hg1, eA, eB, hA, hB, H⟩ := lowest n d g (by omega) (by omega) Hg
  have hg2 : ¬ g = 0 := by omega
  have eA' : IntKind.u64.wrap (A : Int) = A := wraps_u64 _ (by omega) (by omega)
  have eB' : IntKind.u64.wrap (B : Int) = B := wraps_u64 _ (by omega) (by omega)
  have hA1 := hA
  have hB1 := hB
  refine wp_region_held_drew (S := fun _ => True) (by kernel_rfl) trivial (fun hHeld => ?_)
  refine wpAnyH_take (i := 0) (oi := ⟨some 19, _, _, _, _, _⟩) (v := ?_) rfl (by kernel_rfl) (by kernel_rfl) (by kernel_rfl) (fun _ _ _ h => h) (Or.inl ⟨rfl, ?_⟩) trivial ?_
  case refine_2 => (intro w _; go_simp; try with_reducible rfl)
  try simp only [Act.put, List.setIfInBounds_toArray, List.set_cons_zero, List.set_cons_succ]
  refine wpAnyH_take (i := 1) (oi := ⟨some 20, _, _, _, _, _⟩) (v := ?_) rfl (by kernel_rfl) (by kernel_rfl) (by kernel_rfl) (fun _ _ _ h => h) (Or.inl ⟨rfl, ?_⟩) trivial ?_
  case refine_2 => (intro w _; go_simp; try with_reducible rfl)
  try simp only [Act.put, List.setIfInBounds_toArray, List.set_cons_zero, List.set_cons_succ]
  refine wpAnyH_take (i := 2) (oi := ⟨some 21, _, _, _, _, _⟩) (v := ?_) rfl (by kernel_rfl) (by kernel_rfl) (by kernel_rfl) (fun _ _ _ h => h) (Or.inl ⟨rfl, ?_⟩) trivial ?_
  case refine_2 => (intro w _; go_simp; try with_reducible rfl)
  try simp only [Act.put, List.setIfInBounds_toArray, List.set_cons_zero, List.set_cons_succ]
  refine wpAnyH_take (i := 3) (v := undef) rfl (by kernel_rfl) (by kernel_rfl) (by kernel_rfl) (fun _ _ _ h => h) (Or.inr ⟨rfl, rfl⟩) trivial ?_
  try simp only [Act.put, List.setIfInBounds_toArray, List.set_cons_zero, List.set_cons_succ]
  refine wpAnyH_take (i := 4) (v := undef) rfl (by kernel_rfl) (by kernel_rfl) (by kernel_rfl) (fun _ _ _ h => h) (Or.inr ⟨rfl, rfl⟩) trivial ?_
  try simp only [Act.put, List.setIfInBounds_toArray, List.set_cons_zero, List.set_cons_succ]
  refine wpAnyH_take (i := 5) (v := undef) rfl (by kernel_rfl) (by kernel_rfl) (by kernel_rfl) (fun _ _ _ h => h) (Or.inr ⟨rfl, rfl⟩) trivial ?_
  try simp only [Act.put, List.setIfInBounds_toArray, List.set_cons_zero, List.set_cons_succ]
  refine wpAnyH_take (i := 6) (v := undef) rfl (by kernel_rfl) (by kernel_rfl) (by kernel_rfl) (fun _ _ _ h => h) (Or.inr ⟨rfl, rfl⟩) trivial ?_
  try simp only [Act.put, List.setIfInBounds_toArray, List.set_cons_zero, List.set_cons_succ]
  refine wpAnyH_take (i := 7) (v := undef) rfl (by kernel_rfl) (by kernel_rfl) (by kernel_rfl) (fun _ _ _ h => h) (Or.inr ⟨rfl, rfl⟩) trivial ?_
  try simp only [Act.put, List.setIfInBounds_toArray, List.set_cons_zero, List.set_cons_succ]
  refine wpAnyH_take (i := 8) (oi := ⟨some 27, _, _, _, _, _⟩) (v := ?_) rfl (by kernel_rfl) (by kernel_rfl) (by kernel_rfl) (fun _ _ _ h => h) (Or.inl ⟨rfl, ?_⟩) trivial ?_
  case refine_2 => (intro w _; go_simp; try with_reducible rfl)
  try simp only [Act.put, List.setIfInBounds_toArray, List.set_cons_zero, List.set_cons_succ]
  refine wpAnyH_take (i := 9) (oi := ⟨some 28, _, _, _, _, _⟩) (v := ?_) rfl (by kernel_rfl) (by kernel_rfl) (by kernel_rfl) (fun _ _ _ h => h) (Or.inl ⟨rfl, ?_⟩) trivial ?_
  case refine_2 => (intro w _; go_simp; try with_reducible rfl)
  try simp only [Act.put, List.setIfInBounds_toArray, List.set_cons_zero, List.set_cons_succ]
  refine wpAnyH_take (i := 10) (oi := ⟨some 29, _, _, _, _, _⟩) (v := ?_) rfl (by kernel_rfl) (by kernel_rfl) (by kernel_rfl) (fun _ _ _ h => h) (Or.inl ⟨rfl, ?_⟩) trivial ?_
  case refine_2 => (intro w _; go_simp; try with_reducible rfl)
  try simp only [Act.put, List.setIfInBounds_toArray, List.set_cons_zero, List.set_cons_succ]
  refine wpAnyH_take (i := 11) (oi := ⟨some 30, _, _, _, _, _⟩) (v := ?_) rfl (by kernel_rfl) (by kernel_rfl) (by kernel_rfl) (fun _ _ _ h => h) (Or.inl ⟨rfl, ?_⟩) trivial ?_
  case refine_2 => (intro w _; go_simp; try with_reducible rfl)
  try simp only [Act.put, List.setIfInBounds_toArray, List.set_cons_zero, List.set_cons_succ]
  refine wpAnyH_take (i := 12) (oi := ⟨some 31, _, _, _, _, _⟩) (v := ?_) rfl (by kernel_rfl) (by kernel_rfl) (by kernel_rfl) (fun _ _ _ h => h) (Or.inl ⟨rfl, ?_⟩) trivial ?_
  case refine_2 => (intro w _; go_simp; try with_reducible rfl)
  try simp only [Act.put, List.setIfInBounds_toArray, List.set_cons_zero, List.set_cons_succ]
  refine wpAnyH_take (i := 13) (oi := ⟨some 32, _, _, _, _, _⟩) (v := ?_) rfl (by kernel_rfl) (by kernel_rfl) (by kernel_rfl) (fun _ _ _ h => h) (Or.inl ⟨rfl, ?_⟩) trivial ?_
  case refine_2 => (intro w _; go_simp; try with_reducible rfl)
  try simp only [Act.put, List.setIfInBounds_toArray, List.set_cons_zero, List.set_cons_succ]
  refine wpAnyH_take (i := 14) (oi := ⟨some 33, _, _, _, _, _⟩) (v := ?_) rfl (by kernel_rfl) (by kernel_rfl) (by kernel_rfl) (fun _ _ _ h => h) (Or.inl ⟨rfl, ?_⟩) trivial ?_
  case refine_2 => (intro w _; go_simp; try with_reducible rfl)
  try simp only [Act.put, List.setIfInBounds_toArray, List.set_cons_zero, List.set_cons_succ]
  refine wpAnyH_take (i := 15) (oi := ⟨some 34, _, _, _, _, _⟩) (v := ?_) rfl (by kernel_rfl) (by kernel_rfl) (by kernel_rfl) (fun _ _ _ h => h) (Or.inl ⟨rfl, ?_⟩) trivial ?_
  case refine_2 => (intro w _; go_simp; try with_reducible rfl)
  try simp only [Act.put, List.setIfInBounds_toArray, List.set_cons_zero, List.set_cons_succ]
  refine wpAnyH_take (i := 16) (oi := ⟨some 35, _, _, _, _, _⟩) (v := ?_) rfl (by kernel_rfl) (by kernel_rfl) (by kernel_rfl) (fun _ _ _ h => h) (Or.inl ⟨rfl, ?_⟩) trivial ?_
  case refine_2 => (intro w _; go_simp; try with_reducible rfl)
  try simp only [Act.put, List.setIfInBounds_toArray, List.set_cons_zero, List.set_cons_succ]
  refine wpAnyH_ready (rs := [17]) (by kernel_rfl) (by simp) ?_
  refine AllReadyH.cons (o := _) rfl (fun K hK => ?_) AllReadyH.nil
  go_simp
  refine (fit_pos _ _ _ ⟨?_, ?_⟩ ⟨?_, ?_⟩).mono ?_; omega; omega; omega; omega; rintro e w1 ⟨rfl, hb1⟩; obtain ⟨c1, c2, c3, c4, c5⟩ := kept2 hb1
  refine hK.out _ _ trivial (fun _ => ?_)
  clear hK K
  refine wpAnyH_take (i := 18) (oi := ⟨some 37, _, _, _, _, _⟩) (v := ?_) rfl (by kernel_rfl) (by kernel_rfl) (by kernel_rfl) (fun _ _ _ h => h) (Or.inl ⟨rfl, ?_⟩) trivial ?_
  case refine_2 => (intro w _; go_simp; try with_reducible rfl)
  try simp only [Act.put, List.setIfInBounds_toArray, List.set_cons_zero, List.set_cons_succ]
  refine wpAnyH_take (i := 19) (oi := ⟨some 38, _, _, _, _, _⟩) (v := ?_) rfl (by kernel_rfl) (by kernel_rfl) (by kernel_rfl) (fun _ _ _ h => h) (Or.inl ⟨rfl, ?_⟩) trivial ?_
  case refine_2 => (intro w _; go_simp; try with_reducible rfl)
  try simp only [Act.put, List.setIfInBounds_toArray, List.set_cons_zero, List.set_cons_succ]
  refine wpAnyH_ready (rs := [20]) (by kernel_rfl) (by simp) ?_
  refine AllReadyH.cons (o := _) rfl (fun K hK => ?_) AllReadyH.nil
  go_simp
  refine hK.out _ _ trivial (fun _ => ?_)
  clear hK K
  refine wpAnyH_take (i := 21) (oi := ⟨some 5, _, _, _, _, _⟩) (v := ?_) rfl (by kernel_rfl) (by kernel_rfl) (by kernel_rfl) (fun _ _ _ h => h) (Or.inl ⟨rfl, ?_⟩) trivial ?_
  case refine_2 => (intro w _; go_simp; try with_reducible rfl)
  try simp only [Act.put, List.setIfInBounds_toArray, List.set_cons_zero, List.set_cons_succ]
  refine wpAnyH_done (by kernel_rfl) ?_ _
  go_wp2
  refine bodyPost_ret (v := .tuple #[.agg #[.int .i64 A, .int .i64 B], .int .i64 0]) (by simp [results, Tryd.results55, go_sem, c1, c2]) rfl ⟨A, B, rfl, H, ?_⟩
  exact (((below_drewN ((Below.refl _ _).alloc (Nat.le_refl _) _) _).trans (hb1.mono (by simp))).setCell (by simp) _).setCell (by simp) _
end Go.Proofs.YtojgjpegfkfnjaaDoor
