/- NeubergFull: the walk. -/
import Derived.Test.YtkocgknidpmcmaaDoorNeuSuA
namespace Go.Proofs.YtkocgknidpmcmaaDoor
open Go.RowKit
set_option linter.unusedVariables false
set_option linter.unusedSimpArgs false

theorem map_full {l : List (List (Int × Int))} (hn : 0 < l.length) : (l.map fun a => qp (fieldQ l l.length a)) = l.map fun a => qp (matchQ l a) :=
  List.map_congr_left fun a _ => by rw [fieldQ_full hn]
theorem ress_first {w : World} {A : Option Addr} {l : List (List (Int × Int))} {a : List (Int × Int)} (h : Ress w A l) (ha : l[0]? = some a) : Ress w A [a] := by
  intro i x hx
  match i, hx with
  | 0, hx => simp at hx; subst hx; exact h 0 _ ha

set_option maxRecDepth 100000 in
set_option maxHeartbeats 4000000 in
theorem NeubergFull_any (A : Option Addr) (c : Nat) (l : List Sm) (more : Int) (w : World) (hA : Smalls w A l) (hl : l.length ≤ c ∧ c ≤ 9223372036854775807) (hmo : 0 ≤ more ∧ more ≤ 255) (hG : Gets w) :
    Calls Tryd.prog 6 #[.slice A l.length c, .int .u8 more] w fun e w' => e = .returned (.bool true) ∧ Below w.heap.size w w' := by
  have HAll := Sec.mk (All_any A c l 24 w hA hl (by omega))
  have HR := Sec.mk (smalls_right hA 24)
  have hn : ((l.take 24).map Sm.r).length ≤ 24 := by simp; omega
  have HG := Sec.mk hG
  clear hA hl hG
  generalize (l.take 24).map Sm.r = R at *
  by_cases hR0 : R.length = 0
  · have hE : ((R.length : Int) == 0) = true := by simp [hR0]
    go_enter Tryd.func6, Tryd.ntmps6
    go_wp2_with fail
    refine HAll.out.mono ?_
    rintro e w1 ⟨v1, rfl, hO, hb1⟩
    obtain ⟨A1, c1, rfl, hR1⟩ := hO.ress
    clear hO hR1 HAll hR0
    go_wp2_with fail
    refine (awake21 _ (HG.out.later hb1)).mono ?_
    rintro e w2 ⟨rfl, hb2⟩
    go_wp2_with fail
    go_ret
    exact ⟨rfl, btr hb1 hb2⟩
  have hE : ((R.length : Int) == 0) = false := beq_eq_false_iff_ne.2 (by omega)
  obtain ⟨T, hT⟩ : ∃ T : Nat, more % 24 = (T : Int) := ⟨(more % 24).toNat, by omega⟩
  have hT24 : T < 24 := by omega
  obtain ⟨N, hN, hRN, hN24⟩ : ∃ N : Nat, (if (24 : Int) < (R.length : Int) + (T : Int) then (24 : Int) else (R.length : Int) + (T : Int)) = (N : Int) ∧ R.length ≤ N ∧ 1 ≤ N ∧ N ≤ 24 := by
    by_cases h : (24 : Int) < (R.length : Int) + (T : Int)
    · exact ⟨24, by rw [if_pos h]; rfl, by omega, by omega, by omega⟩
    · exact ⟨R.length + T, by rw [if_neg h]; rfl, by omega, by omega, by omega⟩
  obtain ⟨a0, ha0⟩ : ∃ a, R[0]? = some a := ⟨_, List.getElem?_eq_getElem (by omega)⟩
  have Ha0 := Sec.mk ha0
  clear ha0
  go_enter Tryd.func6, Tryd.ntmps6
  go_wp2_with fail
  refine HAll.out.mono ?_
  rintro e w1 ⟨v1, rfl, hO, hb1⟩
  obtain ⟨A1, c1, hv1, hR1⟩ := hO.ress
  subst hv1
  have hcap : 1 ≤ c1 := by
    obtain ⟨vs, hvs, -⟩ := hO
    rcases hvs.2 with ⟨h, _⟩ | ⟨_, _, _, h, _, _, h2, _⟩
    · simp only [Value.slice.injEq] at h; omega
    · simp only [Value.slice.injEq, true_and] at h
      rw [h.2]; omega
  have HP := Sec.mk (Points_right A1 c1 R w1 hR1 (HG.out.later hb1) (by
    rw [List.any_eq_false]
    intro r hr
    rw [HR.out r hr]; decide) hn)
  have HR1 := Sec.mk hR1
  have HB1 := Sec.mk hb1
  have hl1 : (1 : Int) ≤ (R.length : Int) := by omega
  have hl1' : 1 ≤ R.length := by omega
  clear hO hR1 hb1 HAll hR0
  go_wp2_with fail
  refine HP.out.mono ?_
  rintro e w2 ⟨v2, rfl, hO2, hb2⟩
  obtain ⟨A2, c2, rfl, hP2, -⟩ := parts_of_own hO2
  rw [List.length_map]
  have HB2 := Sec.mk (btr HB1.out hb2)
  have hF1 := Field_right A1 c1 R R.length w2 (HR1.out.later hb2) (HG.out.later HB2.out) HR.out (Nat.le_refl _) (by omega) hn
  rw [map_full (by omega)] at hF1
  have HF1 := Sec.mk hF1
  have HR2 := Sec.mk (HR1.out.later hb2)
  have HP2 := Sec.mk hP2
  clear HP HR1 HB1 hO2 hP2 hb2 hF1 hT hN hT24 hmo
  go_wp2_with fail
  refine HF1.out.mono ?_
  rintro e w3 ⟨v3, rfl, hO3, hb3⟩
  obtain ⟨A3, c3, rfl, hP3, -⟩ := parts_of_own hO3
  rw [List.length_map]
  have HB3 := Sec.mk (btr HB2.out hb3)
  have HR3 := Sec.mk (HR2.out.later hb3)
  have HP23 := Sec.mk (HP2.out.later hb3)
  have HP3 := Sec.mk hP3
  have HF2 := Sec.mk (Field_right A1 c1 R N w3 HR3.out (HG.out.later HB3.out) HR.out hRN hN24.1 hN24.2)
  clear HF1 HR2 HP2 HB2 hO3 hP3 hb3
  go_wp2_with fail
  refine HF2.out.mono ?_
  rintro e w4 ⟨v4, rfl, hO4, hb4⟩
  obtain ⟨A4, c4, rfl, hP4, -⟩ := parts_of_own hO4
  rw [List.length_map]
  have HB4 := Sec.mk (btr HB3.out hb4)
  have HP24 := Sec.mk (HP23.out.later hb4)
  have HP34 := Sec.mk (HP3.out.later hb4)
  have HP4 := Sec.mk hP4
  have hF3 := Field_right A1 c1 [a0] N w4 (ress_first (HR3.out.later hb4) Ha0.out) (HG.out.later HB4.out) (by intro r hr; simp at hr; subst hr; exact HR.out _ (List.mem_of_getElem? Ha0.out)) (by simp; omega) hN24.1 hN24.2
  rw [show ([a0] : List (List (Int × Int))).map (fun a => qp (fieldQ [a0] N a)) = [((N : Int) - 1, 1)] by
    simp only [List.map_cons, List.map_nil]; rw [fieldQ_alone, qp_int]] at hF3
  have HF3 : Sec (Calls Tryd.prog 21 #[.slice A1 1 c1, .int .i64 N] w4 fun e w' => ∃ v, e = .returned (.tuple #[v, .int .i64 0]) ∧ w'.ownsRow w4.heap.size 23 2 v 1 (partCells [((N : Int) - 1, 1)]) ∧ Below w4.heap.size w4 w') := ⟨hF3⟩
  clear HF2 HR3 HP23 HP3 HB3 hO4 hP4 hb4 hF3
  go_wp2_with fail
  refine HF3.out.mono ?_
  rintro e w5 ⟨v5, rfl, hO5, hb5⟩
  obtain ⟨A5, c5, rfl, hP5, -⟩ := parts_of_own (r := [((N : Int) - 1, (1 : Int))]) hO5
  obtain ⟨b5, o5, rfl, x1, x2⟩ := hP5 0 _ rfl
  simp only [Nat.zero_mul, Nat.add_zero] at x1 x2
  have HB5 := Sec.mk (btr HB4.out hb5)
  have HP25 := Sec.mk (HP24.out.later hb5)
  have HP35 := Sec.mk (HP34.out.later hb5)
  have HP45 := Sec.mk (HP4.out.later hb5)
  have hBx := Below.refl w5.heap.size w5
  have hw1 : IntKind.i64.wrap ((N : Int) - 1) = (N : Int) - 1 := IntWalk.i64_in _ ⟨by omega, by omega⟩
  clear HF3 HP24 HP34 HP4 HB4 hO5 hP5 hb5
  go_wp2_with fail
  go_region_held3 (fun w' => w'.cell? ⟨b5, o5, none⟩ = some (.int .i64 ((N : Int) - 1)) ∧ w'.cell? ⟨b5, o5 + 1, none⟩ = some (.int .i64 1))
    (first | assumption | exact ⟨x1, x2⟩ | exact ⟨cell_later hBx x1, cell_later hBx x2⟩)
    ((go_at_call 24; refine (q_any _ _ _).mono ?_; rintro e w6 ⟨rfl, hb8⟩; have hBx : Below w5.heap.size w5 w6 := btr (by repeat (first | exact hBx | refine Below.drew ?_ | refine below_drewN ?_ _)) hb8))
  have HB6 := Sec.mk (btr HB5.out hBx)
  have HP2 := Sec.mk (HP25.out.later hBx)
  have HP3 := Sec.mk (HP35.out.later hBx)
  have HP4 := Sec.mk (HP45.out.later hBx)
  clear x1 x2 hBx HB5 HP25 HP35 HP45 hw1
  go_wp2_with fail
  go_loopw [104] (fun i wr => LoopRel w6 R.length i wr) (fun i _ => R.length - (intOf i).toNat)
  case atStart => exact ⟨0, Nat.zero_le _, rfl, Below.refl _ _⟩
  case round =>
    obtain ⟨m, hm, rfl, hB⟩ := hrel
    rename World => wm
    by_cases hmt : m < R.length
    · obtain ⟨a, hp⟩ : ∃ a, R[m]? = some a := ⟨_, List.getElem?_eq_getElem hmt⟩
      have Ha := Sec.mk hp
      have hpA : (R.map fun a => qp (matchQ R a))[m]? = some (qp (matchQ R a)) := by rw [List.getElem?_map, hp]; rfl
      obtain ⟨b2, o2, rfl, x1, x2⟩ := HP2.out.later hB m _ hpA
      obtain ⟨b3, o3, rfl, y1, y2⟩ := HP3.out.later hB m _ hpA
      simp only [qp] at x1 x2 y1 y2
      have HBm := Sec.mk hB
      clear hp hpA hB
      go_wp2_with fail
      go_quiet (fail)
      have HBq := Sec.mk (below_drewN HBm.out nq)
      generalize wm.drewN nq = wq at *
      clear x1 x2 y1 y2 HBm
      go_wp2_with fail
      go_loopw [117] (fun i wr => LoopRel w6 m i wr) (fun i _ => m - (intOf i).toNat)
      case atStart => exact ⟨0, Nat.zero_le _, rfl, HBq.out⟩
      case round =>
        obtain ⟨j, hj, rfl, hB⟩ := hrel
        rename World => wj
        by_cases hjt : j < m
        · obtain ⟨bb, hpb⟩ : ∃ a, R[j]? = some a := ⟨_, List.getElem?_eq_getElem (by omega)⟩
          have hjn : j < R.length := by omega
          have hpA : (R.map fun a => qp (matchQ R a))[m]? = some (qp (matchQ R a)) := by rw [List.getElem?_map, Ha.out]; rfl
          have hpB : (R.map fun a => qp (matchQ R a))[j]? = some (qp (matchQ R bb)) := by rw [List.getElem?_map, hpb]; rfl
          have hqA : (R.map fun a => qp (fieldQ R N a))[m]? = some (qp (fieldQ R N a)) := by rw [List.getElem?_map, Ha.out]; rfl
          have hqB : (R.map fun a => qp (fieldQ R N a))[j]? = some (qp (fieldQ R N bb)) := by rw [List.getElem?_map, hpb]; rfl
          obtain ⟨b2', o2', e, x1, x2⟩ := HP2.out.later hB m _ hpA
          cases e
          obtain ⟨b2', o2', e, y1, y2⟩ := HP2.out.later hB j _ hpB
          cases e
          obtain ⟨b4, o4, rfl, z1, z2⟩ := HP4.out.later hB m _ hqA
          obtain ⟨b4', o4', e, t1, t2⟩ := HP4.out.later hB j _ hqB
          cases e
          simp only [qp] at x1 x2 y1 y2 z1 z2 t1 t2
          have ma := List.mem_of_getElem? Ha.out
          have mb := List.mem_of_getElem? hpb
          have hfit : ∀ r ∈ R, fits (matchQ R r) := fun r hr => quot_fits _ (by have := matchN_le HR.out hr; omega)
          have HC1 := Sec.mk fun w' => Cmp_q (matchQ R a) (matchQ R bb) w' (hfit a ma) (hfit bb mb)
          have hC2 := fun w' => Cmp_q (fieldQ R N a) (fieldQ R N bb) w' (fieldQ_fits HR.out hRN hN24.2 ma) (fieldQ_fits HR.out hRN hN24.2 mb)
          rw [← fieldQ_order (by omega) (by omega)] at hC2
          have HC2 := Sec.mk hC2
          have hO := ordQ_bd (matchQ R a) (matchQ R bb)
          have HBj := Sec.mk hB
          clear hpb hpA hpB hqA hqB ma mb hfit hC2 hB
          generalize ordQ (matchQ R a) (matchQ R bb) = O at *
          generalize (matchQ R a).num = n1 at *
          generalize ((matchQ R a).den : Int) = d1 at *
          generalize (matchQ R bb).num = n2 at *
          generalize ((matchQ R bb).den : Int) = d2 at *
          generalize (fieldQ R N a).num = n3 at *
          generalize ((fieldQ R N a).den : Int) = d3 at *
          generalize (fieldQ R N bb).num = n4 at *
          generalize ((fieldQ R N bb).den : Int) = d4 at *
          have hBx := Below.refl wj.heap.size wj
          go_wp2_with fail
          go_region_held3 (fun w' => w'.cell? ⟨b2, o2 + m * 2, none⟩ = some (.int .i64 n1) ∧ w'.cell? ⟨b2, o2 + m * 2 + 1, none⟩ = some (.int .i64 d1) ∧ w'.cell? ⟨b2, o2 + j * 2, none⟩ = some (.int .i64 n2) ∧ w'.cell? ⟨b2, o2 + j * 2 + 1, none⟩ = some (.int .i64 d2))
            (first | assumption | exact ⟨x1, x2, y1, y2⟩ | exact four_later x1 x2 y1 y2 hBx)
            ((go_at_call 27; refine (HC1.out _).mono ?_; rintro e w11 ⟨rfl, hb8⟩; have hBx : Below wj.heap.size wj w11 := btr (by repeat (first | exact hBx | refine Below.drew ?_ | refine below_drewN ?_ _)) hb8))
          obtain ⟨z1, z2, t1, t2⟩ := four_later z1 z2 t1 t2 hBx
          have HB11 := Sec.mk (btr HBj.out hBx)
          clear x1 x2 y1 y2 hBx HBj HC1
          go_wp2_with fail
          have hBx := Below.refl w11.heap.size w11
          go_region_held3 (fun w' => w'.cell? ⟨b4, o4 + m * 2, none⟩ = some (.int .i64 n3) ∧ w'.cell? ⟨b4, o4 + m * 2 + 1, none⟩ = some (.int .i64 d3) ∧ w'.cell? ⟨b4, o4 + j * 2, none⟩ = some (.int .i64 n4) ∧ w'.cell? ⟨b4, o4 + j * 2 + 1, none⟩ = some (.int .i64 d4))
            (first | assumption | exact ⟨z1, z2, t1, t2⟩ | exact four_later z1 z2 t1 t2 hBx)
            ((go_at_call 27; refine (HC2.out _).mono ?_; rintro e w12 ⟨rfl, hb8⟩; have hBx : Below w11.heap.size w11 w12 := btr (by repeat (first | exact hBx | refine Below.drew ?_ | refine below_drewN ?_ _)) hb8))
          clear z1 z2 t1 t2 HC2
          go_wp2_with fail
          exact ⟨⟨j + 1, hjt, rfl, btr HB11.out hBx⟩, by simp only [intOf]; omega⟩
        · have HBj := Sec.mk hB
          have hji : ¬ (j : Int) < (m : Int) := by omega
          clear hB
          go_wp2_with fail
          exact ⟨⟨m + 1, hmt, rfl, HBj.out⟩, by simp only [intOf]; omega⟩
    · have HW := Sec.mk (fun w' (h : Below w6.heap.size w6 w') => awake21 w' (HG.out.later (btr HB6.out h)))
      have hmi : ¬ (m : Int) < (R.length : Int) := by omega
      have HB := Sec.mk hB
      clear hB
      go_wp2_with fail
      refine (HW.out _ HB.out).mono ?_
      rintro e x3 ⟨rfl, hx3⟩
      go_wp2_with fail
      go_ret
      exact ⟨rfl, btr HB6.out (btr HB.out hx3)⟩
end Go.Proofs.YtkocgknidpmcmaaDoor
