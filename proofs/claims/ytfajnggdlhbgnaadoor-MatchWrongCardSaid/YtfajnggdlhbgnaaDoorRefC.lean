/- The reference of chapter 20: Gets. -/
import Derived.Test.YtfajnggdlhbgnaaDoorRefB
namespace Go.Proofs.YtfajnggdlhbgnaaDoor
open Go.RowKit
set_option linter.unusedVariables false
set_option linter.unusedSimpArgs false

def gStep (x : Int) (y : Int × Int) : Int := y.2 * gain x y.1
def GOutRel (w : World) (a b : List (Int × Int)) (n i : Value) (wr : World) : Prop :=
  ∃ (k : Nat) (S : Int), k ≤ a.length ∧ i = .int .i64 k ∧ n = .int .i64 S ∧ S = sumTo (fun x => x.2 * gainP x.1 b) a k ∧ 0 ≤ S ∧ S ≤ 320000 ∧ Below w.heap.size w wr
def GInRel (w : World) (S0 x1 x2 : Int) (b : List (Int × Int)) (n i : Value) (wr : World) : Prop :=
  ∃ (k : Nat) (S : Int), k ≤ b.length ∧ i = .int .i64 k ∧ n = .int .i64 S ∧ S = S0 + x2 * sumTo (gStep x1) b k ∧ 0 ≤ S ∧ S ≤ 400000 ∧ Below w.heap.size w wr

theorem gain_two {x y : Int} (h : y < x) : gain x y = 2 := by unfold gain ord3; split <;> (try split) <;> omega
theorem gain_one {x y : Int} (h : x = y) : gain x y = 1 := by unfold gain ord3; split <;> (try split) <;> omega
theorem gain_zero {x y : Int} (h : x < y) : gain x y = 0 := by unfold gain ord3; split <;> (try split) <;> omega

set_option maxRecDepth 100000 in
set_option maxHeartbeats 2000000 in
theorem refGets_any (A B : Option Addr) (ca cb : Nat) (a b : List (Int × Int)) (w : World) (hA : Parts w A a) (hB : Parts w B b) (ha : weightsOk a) (hb : weightsOk b) :
    Calls Tryd.prog 44 #[.slice A a.length ca, .slice B b.length cb] w fun e w' => e = .returned (.int .i64 (gainR a b)) ∧ Below w.heap.size w w' := by
  have HA := Sec.mk hA
  have HB' := Sec.mk hB
  have WA := Sec.mk ha
  have WB := Sec.mk hb
  have hla := ha.1
  have hlb := hb.1
  clear hA hB ha hb
  go_enter Tryd.func44, Tryd.ntmps44
  go_wp2_with fail
  go_loopw [5, 6] (fun n i wr => GOutRel w a b n i wr) (fun _ i _ => a.length - (intOf i).toNat)
  case atStart => exact ⟨0, 0, Nat.zero_le _, rfl, rfl, rfl, by omega, by omega, Below.refl _ _⟩
  case round =>
    obtain ⟨k, S, hk, rfl, rfl, hS, hS0, hS1, hB⟩ := hrel
    by_cases hlt : k < a.length
    · obtain ⟨p, hp⟩ : ∃ p, a[k]? = some p := ⟨_, List.getElem?_eq_getElem hlt⟩
      obtain ⟨x1, x2⟩ := p
      have hx2 := WA.out.2 _ (List.mem_of_getElem? hp)
      simp only at hx2
      have HP := Sec.mk hp
      have HS := Sec.mk hS
      have HBo := Sec.mk hB
      have hbd := sumTo_bd (fun x => x.2 * gainP x.1 b) a 80000 (by omega) (fun x hx => gain2_bd x b (WA.out.2 x hx) WB.out) (k + 1) hlt
      have hbd0 := sumTo_bd (fun x => x.2 * gainP x.1 b) a 80000 (by omega) (fun x hx => gain2_bd x b (WA.out.2 x hx) WB.out) k hk
      rw [sumTo_succ _ _ _ _ hp, ← hS] at hbd
      rw [← hS] at hbd0
      simp only at hbd
      have hSx : S + x2 * gainP x1 b ≤ 320000 ∧ S ≤ 320000 := by
        refine ⟨?_, hS1⟩
        have : (80000 : Int) * ((k + 1 : Nat) : Int) ≤ 320000 := by omega
        omega
      clear hp hS hB hbd hbd0
      go_wp2_with fail
      go_loopw [5, 7] (fun n i wr' => GInRel w S x1 x2 b n i wr') (fun _ i _ => b.length - (intOf i).toNat)
      case atStart => exact ⟨0, S, Nat.zero_le _, rfl, rfl, by rw [sumTo_zero, Int.mul_zero, Int.add_zero], hS0, by omega, HBo.out⟩
      case round =>
        obtain ⟨m, S1, hm, rfl, rfl, hS1e, hS1a, hS1b, hB⟩ := hrel
        by_cases hmt : m < b.length
        · obtain ⟨y, hy⟩ : ∃ y, b[m]? = some y := ⟨_, List.getElem?_eq_getElem hmt⟩
          obtain ⟨y1, y2⟩ := y
          have hy2 := WB.out.2 _ (List.mem_of_getElem? hy)
          simp only at hy2
          obtain ⟨bA, oA, rfl, h1, h2⟩ := HA.out.later hB k _ HP.out
          obtain ⟨bB, oB, rfl, h3, h4⟩ := HB'.out.later hB m _ hy
          simp only at h1 h2 h3 h4
          have hle := sumTo_bd (gStep x1) b 200 (by omega) (fun p hp => gain1_bd x1 p (WB.out.2 p hp)) (m + 1) hmt
          have hle2 : sumTo (gStep x1) b (m + 1) ≤ 800 := by omega
          have hmul := mul_bd x2 (sumTo (gStep x1) b (m + 1)) 100 800 hx2.1 hx2.2 hle.1 hle2
          have HN : Sec (sumTo (gStep x1) b (m + 1) = sumTo (gStep x1) b m + y2 * gain x1 y1) := ⟨sumTo_succ _ _ _ _ hy⟩
          rw [HN.out, Int.mul_add] at hmul
          have HE := Sec.mk hS1e
          have hnew : 0 ≤ S1 + x2 * (y2 * gain x1 y1) ∧ S1 + x2 * (y2 * gain x1 y1) ≤ 400000 := by rw [hS1e]; omega
          have HN2 : Sec (S1 + x2 * (y2 * gain x1 y1) = S + x2 * sumTo (gStep x1) b (m + 1)) := ⟨by rw [HN.out, Int.mul_add, hS1e, Int.add_assoc]⟩
          have hxy := mul_bd x2 y2 100 100 hx2.1 hx2.2 hy2.1 hy2.2
          clear hy hS1e hle hle2 hmul
          rcases Int.lt_trichotomy x1 y1 with hc | hc | hc
          · have c1 : ¬ y1 < x1 := by omega
            have c2 : ¬ x1 = y1 := by omega
            rw [gain_zero hc, Int.mul_zero, Int.mul_zero, Int.add_zero] at HN2
            clear hc hnew hxy HN
            go_wp2_with fail
            go_quiet (fail)
            go_wp2_with fail
            go_quiet (fail)
            go_wp2_with fail
            exact ⟨⟨m + 1, S1, hmt, rfl, rfl, HN2.out, hS1a, hS1b, below_drewN hB _⟩, by simp only [intOf]; omega⟩
          · subst hc
            have c1 : ¬ x1 < x1 := by omega
            rw [gain_one rfl, Int.mul_one] at HN2 hnew
            clear HN
            obtain ⟨M, hM⟩ : ∃ M, x2 * y2 = M := ⟨_, rfl⟩
            rw [hM] at HN2 hnew hxy
            go_wp2_with fail
            go_quiet (fail)
            go_wp2_with fail
            go_quiet (fail)
            go_wp2_with fail
            go_quiet (fail)
            go_wp2_with fail
            exact ⟨⟨m + 1, S1 + M, hmt, rfl, rfl, HN2.out, hnew.1, hnew.2, below_drewN hB _⟩, by simp only [intOf]; omega⟩
          · have c2 : ¬ x1 = y1 := by omega
            rw [gain_two hc] at HN2 hnew
            clear HN
            obtain ⟨M, hM⟩ : ∃ M, 2 * x2 * y2 = M := ⟨_, rfl⟩
            have hM2 : x2 * (y2 * 2) = M := by rw [← hM, Int.mul_comm y2 2, ← Int.mul_assoc, Int.mul_comm x2 2]
            have hM3 : 0 ≤ M ∧ M ≤ 20000 := by
              have : M = 2 * (x2 * y2) := by rw [← hM, Int.mul_assoc]
              omega
            rw [hM2] at HN2 hnew
            clear hM2 hxy
            go_wp2_with fail
            go_quiet (fail)
            go_wp2_with fail
            go_quiet (fail)
            go_wp2_with fail
            go_quiet (fail)
            go_wp2_with fail
            exact ⟨⟨m + 1, S1 + M, hmt, rfl, rfl, HN2.out, hnew.1, hnew.2, below_drewN hB _⟩, by simp only [intOf]; omega⟩
        · have hm0 : m = b.length := by omega
          have hE : S1 = S + x2 * gainP x1 b := by rw [hS1e, hm0, sumTo_all]; rfl
          have HN : Sec (S1 = sumTo (fun x => x.2 * gainP x.1 b) a (k + 1)) := ⟨by rw [hE, sumTo_succ _ _ _ _ HP.out, ← HS.out]⟩
          have hS1c : S1 ≤ 320000 := by rw [hE]; exact hSx.1
          clear hS1e hm0 hE
          go_wp2_with fail
          exact ⟨⟨k + 1, S1, hlt, rfl, rfl, HN.out, hS1a, hS1c, hB⟩, by simp only [intOf]; omega⟩
    · have hk0 : k = a.length := by omega
      have HE : Sec (S = gainR a b) := ⟨by rw [hS, hk0, sumTo_all]; rfl⟩
      clear hS hk0
      go_wp2_with fail
      go_ret
      exact ⟨ret_i HE.out, hB⟩
end Go.Proofs.YtfajnggdlhbgnaaDoor
