/- NeubergWrong: the walk. -/
import Derived.Test.YtkocgknidpmcmaaDoorNeuSuA
namespace Go.Proofs.YtkocgknidpmcmaaDoor
open Go.RowKit
set_option linter.unusedVariables false
set_option linter.unusedSimpArgs false

theorem within_high {m : Int} {t : Int} (h : t < m) : withinB m 1 t = false := by
  have e : ordQ ((m : Rat) / ((1 : Int) : Rat)) (t : Rat) = 1 := by
    have e1 : ((m : Rat) / ((1 : Int) : Rat)) = (m : Rat) := by
      have : ((1 : Int) : Rat) = 1 := rfl
      rw [this]; grind
    rw [e1, ordQ_cross]
    simp only [Rat.num_intCast, Rat.den_intCast]
    unfold ord3
    have h1 : ¬ (m * ((1 : Nat) : Int) < t * ((1 : Nat) : Int)) := by omega
    have h2 : t * ((1 : Nat) : Int) < m * ((1 : Nat) : Int) := by omega
    simp [h1, h2]
    omega
  unfold withinB
  rw [e]
  simp
theorem within_right {m d t : Int} (h : rightB m d = false) : withinB m d t = false := by unfold withinB; rw [h]; rfl
theorem right_zero {d : Int} (h : 2 ≤ d) : rightB 0 d = false := by
  unfold rightB
  simp
  omega
def wrongL (m5 m6 : Int) : List (Int × Int) := [(0, 0), (2, 4), (1, -3), (-1, 1), (m5, 1), (0, m6)]
theorem wrongs {N m5 m6 : Int} (h5 : 2 * N - 1 ≤ m5 ∧ m5 ≤ 9223372036854775807) (h6 : 2 ≤ m6 ∧ m6 ≤ 9223372036854775807) (hN : 2 ≤ N) : ∀ p ∈ wrongL m5 m6, withinB p.1 p.2 (2 * (N - 1)) = false ∧ (-9223372036854775808 ≤ p.1 ∧ p.1 ≤ 9223372036854775807) ∧ -9223372036854775808 ≤ p.2 ∧ p.2 ≤ 9223372036854775807 := by
  intro p hp
  simp only [wrongL, List.mem_cons, List.not_mem_nil, or_false] at hp
  rcases hp with rfl | rfl | rfl | rfl | rfl | rfl
  · exact ⟨within_right (by decide), by decide, by decide⟩
  · exact ⟨within_right (by decide), by decide, by decide⟩
  · exact ⟨within_right (by decide), by decide, by decide⟩
  · exact ⟨by unfold withinB; simp, by decide, by decide⟩
  · exact ⟨within_high (by simp only; omega), ⟨by simp only; omega, h5.2⟩, by simp⟩
  · exact ⟨within_right (right_zero h6.1), by simp, by simp only; omega, h6.2⟩
theorem partsN (w : World) : Parts w none [] := fun i p hp => by simp at hp
theorem ints_lay (w1 : World) (X : Obj) (m1 m2 : Int) :
    ∃ W' g, W' = (w1.alloc X).alloc (.cells #[.int .i64 m1, .int .i64 m2] 3) ∧ g = w1.heap.size + 1 ∧ (∀ k, k < 2 → ∃ x, W'.cell? ⟨g, k, none⟩ = some (.int .i64 x) ∧ (x = m1 ∨ x = m2)) ∧ Below w1.heap.size w1 W' := by
  refine ⟨_, _, rfl, rfl, ?_, btr (st1 w1 X) (st1 _ _)⟩
  intro k hk
  match k, hk with
  | 0, _ => exact ⟨m1, by go_simp, .inl rfl⟩
  | 1, _ => exact ⟨m2, by go_simp, .inr rfl⟩
theorem wrongs_lay (w1 : World) (m5 m6 : Int) :
    ∃ W' g, W' = w1.alloc (.cells #[.int .i64 0, .int .i64 0, .int .i64 2, .int .i64 4, .int .i64 1, .int .i64 (-3), .int .i64 (-1), .int .i64 1, .int .i64 m5, .int .i64 1, .int .i64 0, .int .i64 m6] 23) ∧ g = w1.heap.size ∧ Parts W' (some ⟨g, 0, none⟩) (wrongL m5 m6) ∧ Below w1.heap.size w1 W' := by
  refine ⟨_, _, rfl, rfl, ?_, st1 w1 _⟩
  intro k p hk
  refine ⟨w1.heap.size, 0, rfl, ?_⟩
  match k, hk with
  | 0, hk => simp [wrongL] at hk; subst hk; exact ⟨by go_simp, by go_simp⟩
  | 1, hk => simp [wrongL] at hk; subst hk; exact ⟨by go_simp, by go_simp⟩
  | 2, hk => simp [wrongL] at hk; subst hk; exact ⟨by go_simp, by go_simp⟩
  | 3, hk => simp [wrongL] at hk; subst hk; exact ⟨by go_simp, by go_simp⟩
  | 4, hk => simp [wrongL] at hk; subst hk; exact ⟨by go_simp, by go_simp⟩
  | 5, hk => simp [wrongL] at hk; subst hk; exact ⟨by go_simp, by go_simp⟩

set_option maxRecDepth 100000 in
set_option maxHeartbeats 16000000 in
theorem NeubergWrong_any (n k : Int) (w : World) (hn : -9223372036854775808 ≤ n ∧ n ≤ 9223372036854775807) (hk : 0 ≤ k ∧ k ≤ 255) (hG : Gets w) :
    Calls Tryd.prog 8 #[.int .i64 n, .int .u8 k] w fun e w' => e = .returned (.bool true) ∧ Below w.heap.size w w' := by
  have HG := Sec.mk hG
  clear hG
  obtain ⟨N, hN⟩ : ∃ N : Int, 2 + k % 23 = N := ⟨_, rfl⟩
  have hN2 : 2 ≤ N ∧ N ≤ 24 := by omega
  obtain ⟨M1, hM1, b1⟩ : ∃ M, (if 0 < n then 0 else n) = M ∧ M ≤ 0 := ⟨_, rfl, by split <;> omega⟩
  obtain ⟨M2, hM2, b2⟩ : ∃ M, (if n < 25 then 25 else n) = M ∧ 25 ≤ M := ⟨_, rfl, by split <;> omega⟩
  obtain ⟨M5, hM5, b5⟩ : ∃ M, (if n < 2 * N - 1 then 2 * N - 1 else n) = M ∧ 2 * N - 1 ≤ M ∧ M ≤ 9223372036854775807 := ⟨_, rfl, by split <;> omega⟩
  obtain ⟨M6, hM6, b6⟩ : ∃ M, (if n < 2 then 2 else n) = M ∧ 2 ≤ M ∧ M ≤ 9223372036854775807 := ⟨_, rfl, by split <;> omega⟩
  obtain ⟨M7, hM7, b7⟩ : ∃ M, (if n < N + 1 then N + 1 else n) = M ∧ N + 1 ≤ M := ⟨_, rfl, by split <;> omega⟩
  obtain ⟨M8, hM8, b8⟩ : ∃ M, (if -1 < n then -1 else n) = M ∧ M ≤ -1 := ⟨_, rfl, by split <;> omega⟩
  obtain ⟨M9, hM9, b9⟩ : ∃ M, (if n < 101 then 101 else n) = M ∧ 101 ≤ M := ⟨_, rfl, by split <;> omega⟩
  have EM1 := Sec.mk hM1
  have EM5 := Sec.mk hM5
  have EM6 := Sec.mk hM6
  have EM7 := Sec.mk hM7
  have EM8 := Sec.mk hM8
  have EM9 := Sec.mk hM9
  have EN := Sec.mk hN
  have En := Sec.mk hn
  have Ek := Sec.mk hk
  have hw2 : IntKind.i64.wrap (2 * N) = 2 * N := IntWalk.i64_in _ ⟨by omega, by omega⟩
  have hw3 : IntKind.i64.wrap (2 * N - 1) = 2 * N - 1 := IntWalk.i64_in _ ⟨by omega, by omega⟩
  have hw4 : IntKind.i64.wrap (N + 1) = N + 1 := IntWalk.i64_in _ ⟨by omega, by omega⟩
  have HW2 := Sec.mk hw2
  have HW3 := Sec.mk hw3
  have HW4 := Sec.mk hw4
  have HWR := Sec.mk (wrongs b5 b6 hN2.1)
  clear hM5 hM6 hM7 hM8 hM9 hN hw2 hw3 hw4
  go_enter Tryd.func8, Tryd.ntmps8
  go_wp2_with fail
  refine (one_any _ _).mono ?_
  rintro e w1 ⟨rfl, e1⟩
  have hb1 : Below w.heap.size w w1 := e1 ▸ st1 _ _
  clear e1
  go_wp2_with fail
  obtain ⟨w2, g2, e1, e2, hI, hb2⟩ := ints_lay w1 (.cells #[.slice (some ⟨w.heap.size, 0, none⟩) 1 1] 35) M1 M2
  rw [← e1, ← e2]
  have HI := Sec.mk hI
  have HB2 := Sec.mk (btr hb1 hb2)
  clear e1 e2 hI hb1 hb2 hM1 hM2 hn hk
  go_loopw [41] (fun i wr => LoopRel w2 2 i wr) (fun i _ => 2 - (intOf i).toNat)
  case atStart => exact ⟨0, Nat.zero_le _, rfl, Below.refl _ _⟩
  case round =>
    obtain ⟨j, hj, rfl, hB⟩ := hrel
    rename World => wr
    by_cases hlt : j < 2
    · obtain ⟨x, hx, hxe⟩ := HI.out j hlt
      have hx1 : ¬ (1 ≤ x ∧ x ≤ 24) := by rcases hxe with rfl | rfl <;> omega
      have c1 := cell_later hB hx
      have HB := Sec.mk hB
      have HC1 := Sec.mk fun w' => Adjust_wrong 0 1 1 x w' (by decide) (by decide) (fun h => absurd ⟨h.1, h.2.1⟩ hx1)
      have HC2 := Sec.mk fun A c w' => Field_board A c 1 x w' (fun h => hx1 ⟨h.1, h.2.1⟩)
      have HC3 := Sec.mk fun w' => NSum_wrong 1 x w' (fun h => hx1 ⟨h.1, h.2.1⟩)
      have HC4 := Sec.mk fun w' => Percent_wrong 0 1 x w' (by decide) (by decide) (fun h => absurd h hx1)
      have HC5 := Sec.mk fun w' => Share_wrong 50 x w' (fun h => absurd h hx1)
      clear hx hxe hx1 hB
      go_wp2_with fail
      refine (q_any _ _ _).mono ?_; rintro e w3 ⟨rfl, hb3⟩
      go_wp2_with fail
      refine (HC1.out _).mono ?_; rintro e w4 ⟨rfl, hb4⟩
      go_wp2_with fail
      obtain ⟨w5, g5, e1, e2, -, hB5, -⟩ := pack2 (w0 := wr) (.int .i64 0) (.int .i64 0) 23 (btr hb3 hb4)
      rw [← e1, ← e2]
      clear e1 e2 hb3 hb4 c1 HC1
      refine (HC2.out _ _ _).mono ?_; rintro e w6 ⟨rfl, rfl⟩
      go_wp2_with fail
      refine (HC3.out _).mono ?_; rintro e w6 ⟨rfl, rfl⟩
      go_wp2_with fail
      refine (q_any _ _ _).mono ?_; rintro e w6 ⟨rfl, hb6⟩
      go_wp2_with fail
      refine (HC4.out _).mono ?_; rintro e w7 ⟨rfl, hb7⟩
      go_wp2_with fail
      obtain ⟨w8, g8, e1, e2, -, hB8, -⟩ := pack2 (w0 := wr) (.int .i64 0) (.int .i64 0) 23 (btr hB5 (btr hb6 hb7))
      rw [← e1, ← e2]
      clear e1 e2 hb6 hb7 hB5 HC2 HC3 HC4
      refine (HC5.out _).mono ?_; rintro e w9 ⟨rfl, hb9⟩
      have hB9 := btr HB.out (btr hB8 hb9)
      clear HC5 hB8 hb9
      go_wp2_with fail
      exact ⟨⟨j + 1, hlt, rfl, hB9.alloc hB9.size _⟩, by simp only [intOf]; omega⟩
    · have HB3 := Sec.mk (btr HB2.out hB)
      have hji : ¬ (j : Int) < 2 := by omega
      have hM1 := EM1.out
      have hM5 := EM5.out
      have hM6 := EM6.out
      have hN := EN.out
      have hn := En.out
      have hk := Ek.out
      have hw2 := HW2.out
      have hw3 := HW3.out
      clear hB HI HB2
      go_wp2_with fail
      refine (q_any _ _ _).mono ?_; rintro e w3 ⟨rfl, hb3⟩
      go_wp2_with fail
      refine (q_any _ _ _).mono ?_; rintro e w4 ⟨rfl, hb4⟩
      go_wp2_with fail
      refine (q_any _ _ _).mono ?_; rintro e w5 ⟨rfl, hb5⟩
      go_wp2_with fail
      refine (q_any _ _ _).mono ?_; rintro e w6 ⟨rfl, hb6⟩
      go_wp2_with fail
      refine (q_any _ _ _).mono ?_; rintro e w7 ⟨rfl, hb7⟩
      go_wp2_with fail
      obtain ⟨w8, g8, e1, e2, hP, hb8⟩ := wrongs_lay w7 M5 M6
      rw [← e1, ← e2]
      have HB8 := Sec.mk (btr HB3.out (btr hb3 (btr hb4 (btr hb5 (btr hb6 (btr hb7 hb8))))))
      have HP := Sec.mk hP
      have hL : (wrongL M5 M6).length = 6 := rfl
      clear e1 e2 hb3 hb4 hb5 hb6 hb7 hb8 hP hM1 hM5 hM6 hN hn hk hw2 hw3 HB3
      generalize wrongL M5 M6 = L at *
      have HL := Sec.mk hL
      clear hL
      go_loopw [115] (fun i wr => LoopRel w8 6 i wr) (fun i _ => 6 - (intOf i).toNat)
      case atStart => exact ⟨0, Nat.zero_le _, rfl, Below.refl _ _⟩
      case round =>
        obtain ⟨m, hm, rfl, hB⟩ := hrel
        rename World => wm
        by_cases hmt : m < 6
        · obtain ⟨p, hp⟩ : ∃ p, L[m]? = some p := ⟨_, List.getElem?_eq_getElem (by rw [HL.out]; exact hmt)⟩
          obtain ⟨hw, hp1, hp2⟩ := HWR.out p (List.mem_of_getElem? hp)
          obtain ⟨b, o, e, c1, c2⟩ := HP.out.later hB m p hp
          cases e
          rw [Nat.zero_add] at c1 c2
          have HC1 := Sec.mk fun w' => Adjust_wrong p.1 p.2 N N w' hp1 hp2 (fun _ => hw)
          have HB := Sec.mk hB
          have hBx := Below.refl wm.heap.size wm
          clear hp hw hp1 hp2 hB
          obtain ⟨p1, p2⟩ := p
          simp only at c1 c2 HC1
          go_wp2_with fail
          obtain ⟨w9, g9, e1, e2, hP9, hb9, -⟩ := pack2 (w0 := wm) (.int .i64 p1) (.int .i64 p2) 23 hBx
          rw [← e1, ← e2]
          obtain ⟨a1, a2, -, -⟩ := hP9
          clear e1 e2 c1 c2 hBx
          go_wp2_with fail
          refine (HC1.out _).mono ?_; rintro e w10 ⟨rfl, hb10⟩
          have hB10 := btr HB.out (btr hb9 hb10)
          clear hb9 hb10 a1 a2 HC1 HB
          go_wp2_with fail
          exact ⟨⟨m + 1, hmt, rfl, hB10.alloc hB10.size _⟩, by simp only [intOf]; omega⟩
        · have HB9 := Sec.mk (btr HB8.out hB)
          have hmi : ¬ (m : Int) < 6 := by omega
          have hM1 := EM1.out
          have hM7 := EM7.out
          have hM8 := EM8.out
          have hM9 := EM9.out
          have hn := En.out
          have hw4 := HW4.out
          have HC1 := Sec.mk fun w' => Adjust_wrong 0 1 M1 N w' (by decide) (by decide) (fun h => absurd h.2.2.1 (by omega))
          have HC2 := Sec.mk fun w' => Adjust_wrong 0 1 M7 N w' (by decide) (by decide) (fun h => absurd h.2.2.2 (by omega))
          have HC3 := Sec.mk fun w' => Share_wrong M8 N w' (fun _ => by omega)
          have HC4 := Sec.mk fun w' => Share_wrong M9 N w' (fun _ => by omega)
          have HC5 := Sec.mk fun A c w' hA => Field_bad A c [[]] N w' hA (by intro r hr; simp at hr; subst hr; decide) ⟨by omega, by omega, by simp; omega⟩ (by decide)
          have HW := Sec.mk (fun w' (h : Below wm.heap.size wm w') => awake21 w' (HG.out.later (btr HB9.out h)))
          clear hB HP HL HB8
          go_wp2_with fail
          refine (q_any _ _ _).mono ?_; rintro e w3 ⟨rfl, hb3⟩
          go_wp2_with fail
          refine (HC1.out _).mono ?_; rintro e w4 ⟨rfl, hb4⟩
          go_wp2_with fail
          obtain ⟨w5, g5, e1, e2, -, hB5, -⟩ := pack2 (w0 := wm) (.int .i64 0) (.int .i64 0) 23 (btr hb3 hb4)
          rw [← e1, ← e2]
          clear e1 e2 hb3 hb4 HC1
          refine (q_any _ _ _).mono ?_; rintro e w3 ⟨rfl, hb3⟩
          go_wp2_with fail
          refine (HC2.out _).mono ?_; rintro e w4 ⟨rfl, hb4⟩
          go_wp2_with fail
          obtain ⟨w6, g6, e1, e2, -, hB6, -⟩ := pack2 (w0 := wm) (.int .i64 0) (.int .i64 0) 23 (btr hB5 (btr hb3 hb4))
          rw [← e1, ← e2]
          clear e1 e2 hb3 hb4 HC2 hB5
          refine (HC3.out _).mono ?_; rintro e w4 ⟨rfl, hb4⟩
          go_wp2_with fail
          obtain ⟨w7, g7, e1, e2, -, hB7, -⟩ := pack2 (w0 := wm) (.int .i64 0) (.int .i64 0) 23 (btr hB6 hb4)
          rw [← e1, ← e2]
          clear e1 e2 hb4 HC3 hB6
          refine (HC4.out _).mono ?_; rintro e w4 ⟨rfl, hb4⟩
          have HR := Sec.mk fun u => ress_one u none [] 0 (partsN u)
          go_wp2_with fail
          obtain ⟨wa, ga, e1, e2, -, hBa, -⟩ := pack2 (w0 := wm) (.int .i64 0) (.int .i64 0) 23 (btr hB7 hb4)
          have e3 : wa.heap.size = w4.heap.size + 1 := by rw [e1]; simp
          rw [← e1, ← e3]
          clear e1 e2 e3 hb4 HC4 hB7
          have hF := HC5.out _ 1 _ (HR.out wa)
          simp only [List.length_cons, List.length_nil, Nat.zero_add] at hF
          have HF := Sec.mk hF
          clear hF
          have hBb := hBa.alloc hBa.size (.cells #[.slice none 0 0] 35)
          clear HC5 HR
          go_wp2_with fail
          refine HF.out.mono ?_; rintro e w4 ⟨rfl, hb4⟩
          have hBc := btr hBb hb4
          clear HF hb4 hBa hBb
          go_wp2_with fail
          refine (HW.out _ hBc).mono ?_
          rintro e x3 ⟨rfl, hx3⟩
          go_wp2_with fail
          go_ret
          exact ⟨rfl, btr HB9.out (btr hBc hx3)⟩
end Go.Proofs.YtkocgknidpmcmaaDoor
