/- NeubergShares: the walk. -/
import Derived.Test.YtkocgknidpmcmaaDoorNeuF
namespace Go.Proofs.YtkocgknidpmcmaaDoor
open Go.RowKit
set_option linter.unusedVariables false
set_option linter.unusedSimpArgs false

theorem share_both (p : Int) (n : Nat) : shareQ p n + shareQ (100 - p) n = ((2 * ((n : Int) - 1) : Int) : Rat) := by
  rw [shareQ_quot, shareQ_quot, qd_add]
  have e : p * (2 * ((n : Int) - 1)) + (100 - p) * (2 * ((n : Int) - 1)) = 100 * (2 * ((n : Int) - 1)) := by rw [← Int.add_mul]; congr 1; omega
  rw [e, qd_int _ _ (by decide)]
theorem share_back (p : Int) (n : Nat) (hn : 2 ≤ n) : shareQ p n * (((100 : Int) : Rat) / ((2 * ((n : Int) - 1) : Int) : Rat)) = (p : Rat) := by
  rw [shareQ_quot, Rat.intCast_mul]
  have h1 : ((100 : Int) : Rat) ≠ 0 := by decide
  have h2 : ((2 * ((n : Int) - 1) : Int) : Rat) ≠ 0 := intCast_ne _ (by omega)
  generalize ((2 * ((n : Int) - 1) : Int) : Rat) = t at *
  generalize ((100 : Int) : Rat) = h at *
  generalize (p : Rat) = x
  grind

set_option maxRecDepth 100000 in
set_option maxHeartbeats 4000000 in
theorem NeubergShares_any (percent all : Int) (w : World) (hp : 0 ≤ percent ∧ percent ≤ 255) (ha : 0 ≤ all ∧ all ≤ 255) (hG : Gets w) :
    Calls Tryd.prog 7 #[.int .u8 percent, .int .u8 all] w fun e w' => e = .returned (.bool true) ∧ Below w.heap.size w w' := by
  obtain ⟨p, hpe⟩ : ∃ p : Int, percent % 101 = p := ⟨_, rfl⟩
  have hp1 : 0 ≤ p ∧ p ≤ 100 := by omega
  obtain ⟨n, hne⟩ : ∃ n : Nat, 2 + all % 23 = (n : Int) := ⟨(2 + all % 23).toNat, by omega⟩
  have hn : 2 ≤ n ∧ n ≤ 24 := by omega
  have HG := Sec.mk hG
  have HS1 := Sec.mk fun w' => Share_right p n w' hp1 ⟨by omega, hn.2⟩
  have HS2 := Sec.mk fun w' => Share_right (100 - p) n w' (by omega) ⟨by omega, hn.2⟩
  have hAD := fun w' => Add_eq (shareQ p n) (shareQ (100 - p) n) _ w' (shareQ_fits p n hp1 ⟨by omega, hn.2⟩) (shareQ_fits (100 - p) n (by omega) ⟨by omega, hn.2⟩) (fits_int (2 * ((n : Int) - 1)) (by omega)) (share_both p n)
  rw [Rat.num_intCast, Rat.den_intCast, show ((1 : Nat) : Int) = 1 from rfl] at hAD
  have HAD := Sec.mk hAD
  have hPC := fun w' => Percent_right (shareQ p n) (p : Rat) n w' (shareQ_fits p n hp1 ⟨by omega, hn.2⟩) hn (fits_int p (by omega)) (share_back p n hn.1)
  rw [Rat.num_intCast, Rat.den_intCast, show ((1 : Nat) : Int) = 1 from rfl] at hPC
  have HPC := Sec.mk hPC
  clear hG hAD hPC
  generalize (shareQ p n).num = n1 at *
  generalize ((shareQ p n).den : Int) = d1 at *
  generalize (shareQ (100 - p) n).num = n2 at *
  generalize ((shareQ (100 - p) n).den : Int) = d2 at *
  go_enter Tryd.func7, Tryd.ntmps7
  go_wp2_with fail
  refine (HS1.out _).mono ?_; rintro e w1' ⟨rfl, hb1⟩
  go_wp2_with fail
  obtain ⟨w1, g1, e1, e2, P1, hB1, -⟩ := pack2 (w0 := w) (.int .i64 n1) (.int .i64 d1) 23 hb1
  rw [← e1, ← e2]
  clear e1 e2 hb1
  refine (HS2.out _).mono ?_; rintro e w2' ⟨rfl, hb2⟩
  have Q1 := P1.later hb2
  obtain ⟨c1, c2, -, -⟩ := Q1
  have l1 := P1.lt' hb2
  go_wp2_with fail
  obtain ⟨w2, g2, e1, e2, P2, hB2, hb22⟩ := pack2 (w0 := w1) (.int .i64 n2) (.int .i64 d2) 23 hb2
  rw [← e1, ← e2]
  have P12 := P1.later hB2
  have hBw2 := btr hB1 hB2
  clear e1 e2 hb2 hb22 P1 c1 c2 l1 hB1 hB2
  refine (HAD.out _).mono ?_; rintro e w3' ⟨rfl, hb3⟩
  have Q1 := P12.later hb3
  obtain ⟨c1, c2, -, -⟩ := Q1
  have l1 := P12.lt' hb3
  go_wp2_with fail
  obtain ⟨w3, g3, e1, e2, P3, hB3, -⟩ := pack2 (w0 := w2) (.int .i64 (2 * ((n : Int) - 1))) (.int .i64 1) 23 hb3
  rw [← e1, ← e2]
  have hBw3 := btr hBw2 hB3
  clear e1 e2 hb3 P2 P12 c1 c2 l1 hBw2 hB3
  refine (HPC.out _).mono ?_; rintro e w4' ⟨rfl, hb4⟩
  go_wp2_with fail
  obtain ⟨w4, g4, e1, e2, P4, hB4, -⟩ := pack2 (w0 := w3) (.int .i64 p) (.int .i64 1) 23 hb4
  rw [← e1, ← e2]
  have P34 := P3.later hB4
  have hBw4 := btr hBw3 hB4
  obtain ⟨a1, a2, -, -⟩ := P34
  obtain ⟨b1, b2, -, -⟩ := P4
  clear e1 e2 hb4 P3 hBw3 hB4 HS1 HS2 HAD HPC
  have HW := Sec.mk fun (w' : World) (h : Below w4.heap.size w4 w') => awake21 w' (HG.out.later (btr hBw4 h))
  have hBx := Below.refl w4.heap.size w4
  have t1 : IntKind.i64.wrap ((n : Int) - 1) = (n : Int) - 1 := IntWalk.i64_in _ ⟨by omega, by omega⟩
  have t2 : IntKind.i64.wrap (2 * ((n : Int) - 1)) = 2 * ((n : Int) - 1) := IntWalk.i64_in _ ⟨by omega, by omega⟩
  go_region_held3 (fun w' => w'.cell? ⟨g3, 0, none⟩ = some (.int .i64 (2 * ((n : Int) - 1))) ∧ w'.cell? ⟨g3, 1, none⟩ = some (.int .i64 1) ∧ w'.cell? ⟨g4, 0, none⟩ = some (.int .i64 p) ∧ w'.cell? ⟨g4, 1, none⟩ = some (.int .i64 1))
    (first | assumption | exact ⟨a1, a2, b1, b2⟩ | exact four_later a1 a2 b1 b2 hBx)
    ((first
      | (go_at_call 24; refine (q_any _ _ _).mono ?_; rintro e w9 ⟨rfl, hb9⟩; have hBx : Below w4.heap.size w4 w9 := btr (by repeat (first | exact hBx | refine Below.drew ?_ | refine below_drewN ?_ _)) hb9)
      | (go_at_call 19; refine (HW.out _ ?_).mono ?_; (repeat (first | exact hBx | refine Below.drew ?_ | refine below_drewN ?_ _)); rintro e w10 ⟨rfl, hb9⟩; have hBx : Below w4.heap.size w4 w10 := btr (by repeat (first | exact hBx | refine Below.drew ?_ | refine below_drewN ?_ _)) hb9)))
  all_goals go_wp2_with fail
  all_goals go_ret
  all_goals exact ⟨rfl, btr hBw4 hBx⟩
end Go.Proofs.YtkocgknidpmcmaaDoor
