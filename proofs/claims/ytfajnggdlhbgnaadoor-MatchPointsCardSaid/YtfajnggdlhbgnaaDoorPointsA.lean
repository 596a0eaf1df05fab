/- MatchPoints: the walk. -/
import Derived.Test.YtfajnggdlhbgnaaDoorRefE
namespace Go.Proofs.YtfajnggdlhbgnaaDoor
open Go.RowKit
set_option linter.unusedVariables false
set_option linter.unusedSimpArgs false

def PtsLoop1 (w : World) (l : List (List (Int × Int))) (i : Value) (wr : World) : Prop :=
  ∃ k : Nat, k ≤ l.length ∧ i = .int .i64 k ∧ (∀ j r, j < k → l[j]? = some r → r.length ≤ 10) ∧ wr = w
def PtsLoop2 (w : World) (n : Nat) (i : Value) (wr : World) : Prop := ∃ k : Nat, k ≤ n ∧ i = .int .i64 k ∧ Below w.heap.size w wr

set_option maxRecDepth 100000 in
set_option maxHeartbeats 4000000 in
theorem MatchPoints_any (A : Option Addr) (c : Nat) (l : List (List (Int × Int))) (w : World) (hA : Ress w A l) (hG : Gets w) (hl : l.length ≤ 9223372036854775807) (hls : ∀ r ∈ l, r.length ≤ 9223372036854775807) :
    Calls Tryd.prog 3 #[.slice A l.length c] w fun e w' => e = .returned (.bool true) ∧ Below w.heap.size w w' := by
  have HA := Sec.mk hA
  have HLs := Sec.mk hls
  have HL0 := Sec.mk hl
  have HG := Sec.mk hG
  clear hA hls hl hG
  go_enter Tryd.func3, Tryd.ntmps3
  go_wp2_with fail
  go_loopw [13] (fun i wr => PtsLoop1 w l i wr) (fun i _ => l.length - (intOf i).toNat)
  case atStart => exact ⟨0, Nat.zero_le _, rfl, fun j r h => by omega, rfl⟩
  case round =>
    obtain ⟨k, hk, rfl, hno, rfl⟩ := hrel
    by_cases hlt : k < l.length
    · obtain ⟨r, hp⟩ : ∃ r, l[k]? = some r := ⟨_, List.getElem?_eq_getElem hlt⟩
      obtain ⟨b, o, rfl, Ai, ci, h1, h2⟩ := HA.out k r hp
      have hkb : ((k + 1 : Nat) : Int) ≤ 9223372036854775807 := by have := HL0.out; omega
      by_cases hr : (10 : Int) < (r.length : Int)
      · clear hno hp h2
        have HW := Sec.mk (awake_true wr HG.out)
        go_wp2_with (go_at_call 10; refine HW.out.mono ?_; rintro e w1 ⟨rfl, hb1⟩)
        go_ret
        exact ⟨rfl, hb1⟩
      · have HN : Sec (∀ j r, j < k + 1 → l[j]? = some r → r.length ≤ 10) := ⟨fun j r' hj hj' => by
          rcases Nat.lt_or_ge j k with h | h
          · exact hno j r' h hj'
          · have : j = k := by omega
            subst this
            rw [hp] at hj'; cases hj'; omega⟩
        clear hno hp h2
        go_wp2_with fail
        exact ⟨⟨k + 1, hlt, rfl, HN.out, rfl⟩, by simp only [intOf]; omega⟩
    · have hk0 : k = l.length := by omega
      have hall : ∀ r ∈ l, r.length ≤ 10 := fun r hr => by
        obtain ⟨j, hj⟩ := List.mem_iff_getElem?.1 hr
        exact hno j r (by rw [hk0]; exact (List.getElem?_eq_some_iff.1 hj).1) hj
      have HS := Sec.mk hall
      have hki : ¬ (k : Int) < (l.length : Int) := by omega
      clear hno hall hk0
      by_cases h30 : (30 : Int) < (l.length : Int)
      · have HW := Sec.mk (awake_true wr HG.out)
        go_wp2_with (go_at_call 10; refine HW.out.mono ?_; rintro e w1 ⟨rfl, hb1⟩)
        go_ret
        exact ⟨rfl, hb1⟩
      · rename World => w0
        have hl30 : l.length ≤ 30 := by omega
        have HC := Sec.mk (copied_any A c l w0 HA.out (by omega) (fun r hr => by have := HS.out r hr; omega))
        go_wp2_with fail
        refine HC.out.mono ?_
        rintro e w1 ⟨v1, rfl, hO1, hb1⟩
        obtain ⟨B, cB, rfl, hRB⟩ := hO1.ress
        have HP := Sec.mk (Points_all A c l w1 (HA.out.later hb1) (HG.out.later hb1) (by omega) (fun r hr => by have := HS.out r hr; omega))
        clear HC hO1
        go_wp2_with fail
        refine HP.out.mono ?_
        rintro e w2 ⟨v2, rfl, hO2, hb2⟩
        obtain ⟨C, cC, rfl, hP2, -⟩ := parts_of_own hO2
        have hB2 : Below w0.heap.size w0 w2 := hb1.trans (hb2.mono hb1.size)
        have HQ := Sec.mk (refPoints_any B cB l w2 (hRB.later hb2) (by omega) (fun r hr => by have := HS.out r hr; omega))
        clear HP hO2
        go_wp2_with fail
        refine HQ.out.mono ?_
        rintro e w3 ⟨v3, rfl, hO3, hb3⟩
        obtain ⟨D, cD, rfl, hP3, -⟩ := parts_of_own hO3
        have hB3 : Below w0.heap.size w0 w3 := hB2.trans (hb3.mono hB2.size)
        have HP2 := Sec.mk (hP2.later hb3)
        have HP3 := Sec.mk hP3
        have HR := Sec.mk ((hRB.later hb2).later hb3)
        have HL3 := Sec.mk (HA.out.later hB3)
        have hbnd : (ptsL l).length ≤ 1000 := by
          unfold ptsL
          split
          · simp
          · split
            · simp
            · simp; omega
        clear HQ hO3 hP2 hP3 hRB hb1 hb2 hb3 hB2
        go_wp2_with fail
        go_loopw [40] (fun i wx => PtsLoop2 w3 l.length i wx) (fun i _ => l.length - (intOf i).toNat)
        case atStart => exact ⟨0, Nat.zero_le _, rfl, Below.refl _ _⟩
        case round =>
          obtain ⟨m, hm, rfl, hB⟩ := hrel
          by_cases hmt : m < l.length
          · obtain ⟨r, hp⟩ : ∃ r, l[m]? = some r := ⟨_, List.getElem?_eq_getElem hmt⟩
            obtain ⟨b, o, rfl, Ai, ci, h1, h2⟩ := HL3.out.later hB m r hp
            obtain ⟨b', o', rfl, Bi, di, h3, h4⟩ := HR.out.later hB m r hp
            have hr10 := HS.out r (List.mem_of_getElem? hp)
            have HK := Sec.mk (fun w' (h : Below wr.heap.size wr w') => kept_same Ai Bi ci di r w' (h2.later h) (h4.later h) (by omega))
            have hBx := Below.refl wr.heap.size wr
            have HB := Sec.mk hB
            clear hp h2 h4 hr10 hB
            go_wp2_with fail
            go_region_held3 (fun w' => w'.cell? ⟨b, o + m, none⟩ = some (.slice Ai r.length ci) ∧ w'.cell? ⟨b', o' + m, none⟩ = some (.slice Bi r.length di))
              (first | assumption | exact ⟨h1, h3⟩ | exact ⟨cell_later hBx h1, cell_later hBx h3⟩)
              ((go_at_call 14; refine (HK.out _ ?_).mono ?_; (repeat (first | exact hBx | refine Below.drew ?_ | refine below_drewN ?_ _)); rintro e w4 ⟨rfl, hb4⟩; have hBx : Below wr.heap.size wr w4 := Below.trans (by repeat (first | exact hBx | refine Below.drew ?_ | refine below_drewN ?_ _)) hb4))
            all_goals go_wp2_with fail
            all_goals exact ⟨⟨m + 1, hmt, rfl, HB.out.trans (Below.mono (by repeat (first | exact hBx | refine Below.drew ?_ | refine below_drewN ?_ _)) HB.out.size)⟩, by simp only [intOf]; omega⟩
          · have HF := Sec.mk (same_fracs C D cC cD (ptsL l) wr (HP2.out.later hB) (HP3.out.later hB) hbnd)
            have hBw : Below w0.heap.size w0 wr := hB3.trans (hB.mono hB3.size)
            have HW := Sec.mk (fun w' (h : Below w0.heap.size w0 w') => awake_true w' (HG.out.later h))
            have hmi : ¬ (m : Int) < (l.length : Int) := by omega
            clear hB
            generalize ptsE l = PE at *
            go_wp2_with fail
            refine HF.out.mono ?_
            rintro e w4 ⟨rfl, hb4⟩
            have hB4 : Below w0.heap.size w0 w4 := hBw.trans (hb4.mono hBw.size)
            go_wp2_with fail
            refine (HW.out _ hB4).mono ?_
            rintro e w5 ⟨rfl, hb5⟩
            go_wp2_with fail
            go_ret
            exact ⟨rfl, hB4.trans (hb5.mono hB4.size)⟩
end Go.Proofs.YtfajnggdlhbgnaaDoor
