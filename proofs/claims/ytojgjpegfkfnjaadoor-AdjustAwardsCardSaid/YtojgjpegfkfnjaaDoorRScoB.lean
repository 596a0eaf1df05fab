/- finesseref17: made, at contracts that are right and made. -/
import Derived.Test.YtojgjpegfkfnjaaDoorRScoA
namespace Go.Proofs.YtojgjpegfkfnjaaDoor
open Go.RowKit
set_option linter.unusedVariables false
set_option linter.unusedSimpArgs false
set_option maxRecDepth 100000

def madeQ (l d r more : Int) (v : Bool) : Int :=
  bidQ l d r + (if bidQ l d r < 100 then 50 else byZ v 300 500) + byZ v (slamZ 500 1000 l) (slamZ 750 1500 l) + 50 * r + more * overZ (valZ d) (byZ v 100 200) (byZ v 200 400) r
def addIf (c : Bool) (n k : Int) : Int := if c then n + k else n
theorem addIf_bd (c : Bool) (n k : Int) (a b : Int) (h : a ≤ n ∧ n ≤ b) (hk : 0 ≤ k) : a ≤ addIf c n k ∧ addIf c n k ≤ b + k := by unfold addIf; split <;> omega
theorem bidQ_bd {l d r s : Int} (h : okQ l d r s) : 0 ≤ bidQ l d r ∧ bidQ l d r ≤ 1000 := by
  obtain ⟨hl, hd, hr, hs⟩ := h
  have hV : valZ d = 20 ∨ valZ d = 30 := by unfold valZ; split <;> simp
  have hr2 : r = 0 ∨ r = 1 ∨ r = 2 := by omega
  unfold bidQ powQ
  rcases hV with e | e <;> rw [e] <;> rcases hr2 with rfl | rfl | rfl <;> simp <;> split <;> omega
def MadeRel (W : World) (N D m n : Int) (v i e : Value) (wr : World) : Prop := ∃ k : Nat, i = .int .i64 (m + k) ∧ m + k ≤ n ∧ v = .int .i64 (N + k * D) ∧ Below W.heap.size W wr
theorem mulsucc (k : Nat) (D : Int) : ((k + 1 : Nat) : Int) * D = k * D + D := by rw [Int.natCast_add, Int.add_mul]; simp
set_option maxHeartbeats 4000000 in
theorem rsMade_ok (l d r s n : Int) (v : Bool) (w : World) (h : okQ l d r s) (hn : l + 6 ≤ n ∧ n ≤ 13) : Calls Tryd.prog 90 #[.agg #[.int .u8 l, .int .u8 d, .int .u8 r, .int .u8 s], .int .i64 n, .bool v] w fun e w' => e = .returned (.int .i64 (madeQ l d r (n - (l + 6)) v)) ∧ Below w.heap.size w w' := by
  have HC := Sec.mk fun w' => rsContract_ok l d r s w' h
  have HN := Sec.mk fun w' => rsNeed_ok l d r s w' h
  have HV := Sec.mk fun w' => rsValue_ok d w'
  have hB := bidQ_bd h
  obtain ⟨hl, hd, hr, hs⟩ := h
  unfold madeQ
  generalize bidQ l d r = B at *
  have hVb : valZ d = 20 ∨ valZ d = 30 := by unfold valZ; split <;> simp
  generalize valZ d = V at *
  have h6 : ∀ x y, slamZ x y l = if l = 6 then x else if l = 7 then y else 0 := fun x y => rfl
  obtain ⟨b6, e6, p6⟩ : ∃ b, (l == 6) = b ∧ (l = 6 ↔ b = true) := ⟨_, rfl, by simp⟩
  obtain ⟨b7, e7, p7⟩ : ∃ b, (l == 7) = b ∧ (l = 7 ↔ b = true) := ⟨_, rfl, by simp⟩
  have hS : Sec (byZ v (slamZ 500 1000 l) (slamZ 750 1500 l) = byZ v (if b6 then 500 else if b7 then 1000 else 0) (if b6 then 750 else if b7 then 1500 else 0)) := ⟨by rw [h6, h6]; simp only [p6, p7]⟩
  obtain ⟨S, hSe⟩ : ∃ S, byZ v (slamZ 500 1000 l) (slamZ 750 1500 l) = S := ⟨_, rfl⟩
  rw [hSe] at hS ⊢
  clear hSe
  have hx67 : Sec (¬ (b6 = true ∧ b7 = true)) := ⟨fun hx => by have h1 := p6.2 hx.1; have h2 := p7.2 hx.2; omega⟩
  clear h6 p6 p7 hd hs
  have hmore := Sec.mk (show 7 ≤ l + 6 ∧ l + 6 ≤ n ∧ n ≤ 13 from ⟨by omega, hn.1, hn.2⟩)
  have hl0 := Sec.mk hl
  have hr2 : r = 0 ∨ r = 1 ∨ r = 2 := by omega
  clear hr hl hn
  obtain ⟨D, hD⟩ : ∃ D, overZ V (byZ v 100 200) (byZ v 200 400) r = D := ⟨_, rfl⟩
  have hDb : Sec (0 ≤ D ∧ D ≤ 1000) := ⟨by rw [← hD]; unfold overZ byZ; rcases hVb with rfl | rfl <;> cases v <;> rcases hr2 with rfl | rfl | rfl <;> simp⟩
  rw [hD]
  clear hVb
  obtain ⟨N1, hN1, hN1b⟩ : ∃ N1, B + (if B < 100 then 50 else byZ v 300 500) = N1 ∧ 0 ≤ N1 ∧ N1 ≤ 2000 := ⟨_, rfl, by unfold byZ; split <;> (try split) <;> omega, by unfold byZ; split <;> (try split) <;> omega⟩
  have hN1a : Sec (B < 100 → N1 = B + 50) := ⟨fun h => by rw [← hN1, if_pos h]⟩
  have hN1c : Sec (100 ≤ B → N1 = B + byZ v 300 500) := ⟨fun h => by rw [← hN1, if_neg (by omega)]⟩
  rw [hN1]
  clear hN1
  have hlw : Sec (wrap64 (l + 6) = l + 6) := ⟨by have := hl0.out; unfold wrap64; omega⟩
  obtain ⟨m, hm⟩ : ∃ m, l + 6 = m := ⟨_, rfl⟩
  rw [hm] at HN hmore ⊢
  clear hm hlw
  have hD0 : Sec (r = 0 → D = V) := ⟨fun h => by rw [← hD, h]; rfl⟩
  have hD1 : Sec (r = 1 → D = byZ v 100 200) := ⟨fun h => by rw [← hD, h]; rfl⟩
  have hD2 : Sec (r = 2 → D = byZ v 200 400) := ⟨fun h => by rw [← hD, h]; rfl⟩
  clear hD
  have hr1 : Sec ((r == 1) = decide (r = 1)) := ⟨rfl⟩
  cases v <;> cases b6 <;> cases b7
  all_goals
    first
    | exact absurd ⟨rfl, rfl⟩ hx67.out
    | (have hS2 := hS.out
       simp only [byZ, if_true, if_false, Bool.false_eq_true] at hS2 hN1c hD1 hD2
       replace hS2 := Sec.mk hS2
       clear hx67 hS
       go_enter Tryd.func90, Tryd.ntmps90
       go_wp2_with fail
       obtain ⟨W0, g, e1, e2, P0, hB0⟩ := box4 w l d r s
       rw [← e1, ← e2]
       clear e1 e2
       refine (HC.out _).mono ?_
       rintro e W ⟨rfl, hb1⟩
       have P := P0.later hb1
       have hBW := sbtr hB0 hb1
       clear HC P0 hB0 hb1
       go_upto_if 13 with fail
       go_cut [7] (fun x wx => x = .int .i64 N1 ∧ wx = W)
       case first =>
         by_cases hlt : B < 100
         · have hh := hN1a.out hlt
           subst hh
           go_wp2_with fail
           go_meet
           exact ⟨rfl, rfl⟩
         · have hh := hN1c.out (by omega)
           subst hh
           go_wp2_with fail
           go_meet
           exact ⟨rfl, rfl⟩
       case rest =>
         obtain ⟨rfl, rfl⟩ := hcut
         clear hN1a hN1c hB
         have PS := Sec.mk P
         obtain ⟨c0, c1, c2, c3⟩ := P
         go_upto_if 57 with fail
         go_cut [7] (fun x wx => x = .int .i64 (N1 + S + if r = 1 then 50 else 0) ∧ wx = wc)
         case first =>
           have hSx := hS2.out
           subst hSx
           clear hr2 PS hmore hDb hD0 hD1 hD2 HN HV e6 e7 c0 c1 c2 c3 hl0
           by_cases h1 : r = 1
           · have h1' : (r == 1) = true := by simp [h1]
             replace h1 := Sec.mk h1
             go_wp2_with fail
             go_meet
             exact ⟨by have := h1.out; simp [this], rfl⟩
           · have h1' : (r == 1) = false := by simp [h1]
             replace h1 := Sec.mk h1
             go_wp2_with fail
             go_meet
             exact ⟨by have := h1.out; simp [this], rfl⟩
         case rest =>
           obtain ⟨rfl, rfl⟩ := hcut
           obtain ⟨N2, hN2, hN2b⟩ : ∃ N2, N1 + S + (if r = 1 then 50 else 0) = N2 ∧ 0 ≤ N2 ∧ N2 ≤ 5000 := ⟨_, rfl, by have := hS2.out; split <;> omega, by have := hS2.out; split <;> omega⟩
           rw [hN2]
           replace hN2 := Sec.mk hN2
           clear hS2
           go_upto_if 62 with fail
           go_cut [7] (fun x wx => x = .int .i64 (N2 + if r = 2 then 100 else 0) ∧ wx = wc)
           case first =>
             clear hr2 PS hmore hDb hD0 hD1 hD2 HN HV e6 e7 c0 c1 c2 c3 hl0
             by_cases h1 : r = 2
             · have h1' : (r == 2) = true := by simp [h1]
               replace h1 := Sec.mk h1
               go_wp2_with fail
               go_meet
               exact ⟨by have := h1.out; simp [this], rfl⟩
             · have h1' : (r == 2) = false := by simp [h1]
               replace h1 := Sec.mk h1
               go_wp2_with fail
               go_meet
               exact ⟨by have := h1.out; simp [this], rfl⟩
           case rest =>
             obtain ⟨rfl, rfl⟩ := hcut
             obtain ⟨N3, hN3, hN3b⟩ : ∃ N3, N2 + (if r = 2 then 100 else 0) = N3 ∧ 0 ≤ N3 ∧ N3 ≤ 6000 := ⟨_, rfl, by split <;> omega, by split <;> omega⟩
             have hN4 : Sec (N1 + S + 50 * r = N3) := ⟨by rw [← hN3, ← hN2.out]; rcases hr2 with rfl | rfl | rfl <;> simp <;> omega⟩
             rw [hN3]
             clear hN2 hN3 hN2b hN1b e6 e7
             go_wp2_with fail
             refine (HN.out _).mono ?_
             rintro e W1 ⟨rfl, hb1⟩
             have PS1 := Sec.mk (PS.out.later hb1)
             have hBW1 := sbtr hBW hb1
             clear hb1 HN c0 c1 c2 c3 PS hBW
             go_wp2_with fail
             go_loopw [7, 8, 9] (fun v i e wr => MadeRel W1 N3 D m n v i e wr) (fun _ i _ _ => (n - intOf i).toNat)
             case atStart => exact ⟨0, by simp, by have := hmore.out; omega, by simp, Below.refl _ _⟩
             case round =>
               obtain ⟨k, rfl, hk, rfl, hbr⟩ := hrel
               obtain ⟨c0, c1, c2, c3⟩ := PS1.out.later hbr
               obtain ⟨X, hX⟩ : ∃ X, N3 + (k : Int) * D = X := ⟨_, rfl⟩
               have hXb : Sec (0 ≤ X ∧ X ≤ 50000) := ⟨by
                 have := hmore.out
                 have := hl0.out
                 have := hDb.out
                 have : (k : Int) * D ≤ 20 * D := Int.mul_le_mul_of_nonneg_right (by omega) (by omega)
                 have : 0 ≤ (k : Int) * D := Int.mul_nonneg (by omega) (by omega)
                 omega⟩
               by_cases hlt : m + k < n
               · have hk1 : wrap64 (m + (k : Int) + 1) = m + k + 1 := by have := hmore.out; unfold wrap64; omega
                 have hXw : ∀ y, 0 ≤ y → y ≤ 1000 → wrap64 (X + y) = X + y := fun y h1 h2 => by have := hXb.out; unfold wrap64; omega
                 have hXD := hXw D hDb.out.1 hDb.out.2
                 have hend : Sec (X + D = N3 + ((k + 1 : Nat) : Int) * D) := ⟨by rw [mulsucc, ← hX]; omega⟩
                 have hrr : Sec (Below W1.heap.size W1 wr) := ⟨hbr⟩
                 rw [hX]
                 clear hXw hX hXb hDb hN4 hl0 hbr
                 rcases hr2 with rfl | rfl | rfl
                 · have e := hD0.out rfl
                   subst e
                   go_wp2_with (go_at_call 105; refine (HV.out _).mono ?_; rintro e w1 ⟨rfl, rfl⟩)
                   simp only [hXD, hk1]
                   exact ⟨⟨k + 1, by simp [Int.add_assoc], by omega, by rw [hend.out], hrr.out⟩, by simp only [intOf]; omega⟩
                 · have e := hD1.out rfl
                   subst e
                   go_wp2_with fail
                   simp only [hXD, hk1]
                   exact ⟨⟨k + 1, by simp [Int.add_assoc], by omega, by rw [hend.out], hrr.out⟩, by simp only [intOf]; omega⟩
                 · have e := hD2.out rfl
                   subst e
                   go_wp2_with fail
                   simp only [hXD, hk1]
                   exact ⟨⟨k + 1, by simp [Int.add_assoc], by omega, by rw [hend.out], hrr.out⟩, by simp only [intOf]; omega⟩
               · have hkn : (k : Int) = n - m := by omega
                 rw [hX]
                 rw [hkn] at hX
                 have hfin : Sec (X = N3 + (n - m) * D) := ⟨hX.symm⟩
                 clear hX hXb hkn
                 go_wp2_with fail
                 go_ret
                 exact ⟨by rw [hfin.out, ← hN4.out]; rfl, sbtr hBW1 hbr⟩)
end Go.Proofs.YtojgjpegfkfnjaaDoor
