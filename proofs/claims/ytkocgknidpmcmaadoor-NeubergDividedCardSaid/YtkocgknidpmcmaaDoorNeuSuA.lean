/- NeubergSums: the walk. -/
import Derived.Test.YtkocgknidpmcmaaDoorNeuF
import Derived.Test.YtkocgknidpmcmaaDoorAll
namespace Go.Proofs.YtkocgknidpmcmaaDoor
open Go.RowKit
set_option linter.unusedVariables false
set_option linter.unusedSimpArgs false

theorem smalls_right {w : World} {A : Option Addr} {l : List Sm} (h : Smalls w A l) (k : Nat) : ∀ r ∈ (l.take k).map Sm.r, rightR r = true := by
  intro r hr
  obtain ⟨s, hs, rfl⟩ := List.mem_map.1 hr
  obtain ⟨j, hj⟩ := List.mem_iff_getElem?.1 (List.mem_of_mem_take hs)
  obtain ⟨_, _, _, _, _, _, h⟩ := h j s hj
  exact Sm.right h
def LoopRel (w : World) (n : Nat) (i : Value) (wr : World) : Prop := ∃ k : Nat, k ≤ n ∧ i = .int .i64 k ∧ Below w.heap.size w wr
def turnsOf (l : List (List (Int × Int))) : List (List (Int × Int)) := l.map (List.map turnP)
theorem turns_right {l : List (List (Int × Int))} (h : ∀ r ∈ l, rightR r = true) : ∀ r ∈ turnsOf l, rightR r = true := by
  intro r hr
  obtain ⟨x, hx, rfl⟩ := List.mem_map.1 hr
  exact turn_right (h x hx)
def TurnsRel (w : World) (l : List (List (Int × Int))) (v i : Value) (wr : World) : Prop :=
  ∃ k : Nat, k ≤ l.length ∧ i = .int .i64 k ∧ OwnRess wr w.heap.size v (turnsOf (l.take k)) ∧ Below w.heap.size w wr
theorem parts_map_qp {w : World} {A : Option Addr} {l : List (List (Int × Int))} {f : List (Int × Int) → Rat} (h : Parts w A (l.map fun a => qp (f a))) : Parts w A ((l.map f).map qp) := by
  rw [List.map_map]; exact h
def AddRel (w : World) (N D : Int) (s17 s18 : Value) (wx : World) : Prop :=
  ∃ g : Nat, s17 = .pointer (some ⟨g, 0, none⟩) ∧ s18 = .int .i64 0 ∧ Pair wx g (.int .i64 N) (.int .i64 D) ∧ Below w.heap.size w wx

set_option maxRecDepth 100000 in
set_option maxHeartbeats 4000000 in
theorem NeubergSums_any (A : Option Addr) (c : Nat) (l : List Sm) (more : Int) (w : World) (hA : Smalls w A l) (hl : l.length ≤ c ∧ c ≤ 9223372036854775807) (hmo : 0 ≤ more ∧ more ≤ 255) (hG : Gets w) :
    Calls Tryd.prog 10 #[.slice A l.length c, .int .u8 more] w fun e w' => e = .returned (.bool true) ∧ Below w.heap.size w w' := by
  have HAll := Sec.mk (All_any A c l 24 w hA hl (by omega))
  have HR := Sec.mk (smalls_right hA 24)
  have hn : ((l.take 24).map Sm.r).length ≤ 24 := by simp; omega
  have HG := Sec.mk hG
  obtain ⟨i0, hi, hz0, hz1, hz2⟩ := info_parts infoRes
  have HI := Sec.mk hi
  have Z0 := Sec.mk hz0
  have Z1 := Sec.mk hz1
  have Z2 := Sec.mk hz2
  clear hA hl hG hi hz0 hz1 hz2
  generalize (l.take 24).map Sm.r = R at *
  obtain ⟨T, hT⟩ : ∃ T : Nat, more % 24 = (T : Int) := ⟨(more % 24).toNat, by omega⟩
  obtain ⟨M, hM, hM1, hM2⟩ : ∃ M : Nat, (if (R.length : Int) < 1 then (1 : Int) else (R.length : Int)) = (M : Int) ∧ R.length ≤ M ∧ 1 ≤ M ∧ M ≤ 24 := by
    by_cases h : (R.length : Int) < 1
    · exact ⟨1, by rw [if_pos h]; rfl, by omega, by omega, by omega⟩
    · exact ⟨R.length, by rw [if_neg h], by omega, by omega, by omega⟩
  have hT24 : T < 24 := by omega
  obtain ⟨N, hN, hRN, hN24⟩ : ∃ N : Nat, (if (24 : Int) < (M : Int) + (T : Int) then (24 : Int) else (M : Int) + (T : Int)) = (N : Int) ∧ R.length ≤ N ∧ 1 ≤ N ∧ N ≤ 24 := by
    by_cases h : (24 : Int) < (M : Int) + (T : Int)
    · exact ⟨24, by rw [if_pos h]; rfl, by omega, by omega, by omega⟩
    · exact ⟨M + T, by rw [if_neg h]; rfl, by omega, by omega, by omega⟩
  go_enter Tryd.func10, Tryd.ntmps10
  go_wp2_with fail
  refine HAll.out.mono ?_
  rintro e w1 ⟨v1, rfl, hO, hb1⟩
  obtain ⟨A1, c1, rfl, hR1⟩ := hO.ress
  have HR1 := Sec.mk hR1
  have HB1 := Sec.mk hb1
  clear hO hR1 hb1 HAll
  go_wp2_with fail
  clear hT hM hN hT24 hM1 hM2 hmo
  go_loopw [7, 40] (fun v i wr => TurnsRel w1 R v i wr) (fun _ i _ => R.length - (intOf i).toNat)
  case atStart => exact ⟨0, Nat.zero_le _, rfl, OwnRess.nil _ _, Below.refl _ _⟩
  case round =>
    obtain ⟨k, hk, rfl, hown, hB⟩ := hrel
    by_cases hlt : k < R.length
    · obtain ⟨a, hp⟩ : ∃ a, R[k]? = some a := ⟨_, List.getElem?_eq_getElem hlt⟩
      obtain ⟨b, o, rfl, Ai, ci, h1, h2⟩ := HR1.out.later hB k a hp
      have ra := HR.out a (List.mem_of_getElem? hp)
      have HT2 : Sec (turnsOf (R.take (k + 1)) = turnsOf (R.take k) ++ [a.map turnP]) := ⟨by
        obtain ⟨hk', rfl⟩ := List.getElem?_eq_some_iff.1 hp
        unfold turnsOf
        rw [List.take_succ_eq_append_getElem hk', List.map_append]; rfl⟩
      have hlen : (turnsOf (R.take k)).length = k := by simp [turnsOf]; omega
      have hB0 := hB.size
      have HM := Sec.mk (Turn_right Ai ci a wr h2 ra)
      have HO0 := Sec.mk hown
      have HL := Sec.mk hlen
      have HB := Sec.mk hB
      clear hp hown hlen h2 hB ra
      go_wp2_with fail
      refine HM.out.mono ?_
      rintro e w2 ⟨v2, rfl, hO2, hb2⟩
      obtain ⟨A', c', rfl, hP, -⟩ := partsB_of_own hO2
      have hB1 : Below w1.heap.size w1 w2 := btr HB.out hb2
      have HN : OwnRess (w2.alloc (.cells #[.slice A' (a.map turnP).length c'] 35)) w1.heap.size u7 (turnsOf (R.take k)) := (HO0.out.later hb2).later ((Below.refl _ _).alloc (Nat.le_refl _) _)
      have HPB := Sec.mk (hP.later ((Below.refl _ _).alloc (Nat.le_refl _) (.cells #[.slice A' (a.map turnP).length c'] 35)))
      obtain ⟨vs, hvs, hvs2⟩ := HN
      have HO := Sec.mk hvs
      have HO2 := Sec.mk hvs2
      have hB1s := hB1.size
      clear hvs hvs2 hP hb2 hO2 HM
      generalize a.map turnP = ta at *
      go_wp2_with (at_builtin; refine wpList_append_own _ rfl _ _ 33 rfl w1.heap.size 35 i0 _ 1 24 Tryd.underlying33 HI.out Z0.out Z1.out Z2.out rfl (by decide) _ _ _ rfl HO.out ⟨w2.heap.size, 0, none⟩ 1 1 [.slice A' ta.length c'] rfl rfl ?c1 ?c2 ?c3 ?c4 ?c5 ?_)
      case c1 => exact news1 _ (by simp)
      case c2 => intro u hu; simp at hu; subst hu; rfl
      case c3 => rw [HL.out]; unfold maxLen; omega
      case c4 => rw [HL.out]; omega
      case c5 => simp; omega
      intro v' w3 hown' hgrow _
      have hR : OwnRess w3 w1.heap.size v' (turnsOf (R.take (k + 1))) := by
        rw [HT2.out]
        exact OwnRess.push (Ai := A') (ci := c') HO.out HO2.out HPB.out hown' hgrow
      have hB2 : Below w1.heap.size w1 w3 := (hB1.alloc hB1s _).grown hgrow (by simp; omega) (fun k hk => (HO.out.lt k hk).1)
      have HR' := Sec.mk hR
      clear hown' hgrow hR
      go_wp2_with fail
      exact ⟨⟨k + 1, hlt, rfl, HR'.out, hB2⟩, by simp only [intOf]; omega⟩
    · have hk0 : k = R.length := by omega
      rw [hk0, List.take_length] at hown
      have hki : ¬ (k : Int) < (R.length : Int) := by omega
      clear hk0
      obtain ⟨A2, c2, hv2, hR2⟩ := hown.ress
      subst hv2
      rename World => wr
      have hTl : (turnsOf R).length = R.length := by simp [turnsOf]
      have HPs := Sec.mk (Field_right A1 c1 R N wr (HR1.out.later hB) (HG.out.later (btr HB1.out hB)) HR.out hRN hN24.1 hN24.2)
      have HRw := Sec.mk (HR1.out.later hB)
      have HR2 := Sec.mk hR2
      have HBw := Sec.mk (btr HB1.out hB)
      have HTR := Sec.mk (turns_right HR.out)
      clear hown hR2 hB HR1 HB1
      rw [hTl]
      go_wp2_with fail
      refine HPs.out.mono ?_
      rintro e w2 ⟨v3, rfl, hO3, hb3⟩
      obtain ⟨A3, c3, rfl, hP3, -⟩ := parts_of_own hO3
      rw [List.length_map]
      have HP3 := Sec.mk hP3
      have HB2 := Sec.mk (btr HBw.out hb3)
      have HPt := Field_right A2 c2 (turnsOf R) N w2 (HR2.out.later hb3) (HG.out.later HB2.out) HTR.out (by rw [hTl]; exact hRN) hN24.1 hN24.2
      rw [hTl] at HPt
      have HPt' := Sec.mk HPt
      clear HPt
      clear hO3 hP3 hb3 HPs HRw HR2
      go_wp2_with fail
      refine HPt'.out.mono ?_
      rintro e w3 ⟨v4, rfl, hO4, hb4⟩
      obtain ⟨A4, c4, rfl, hP4, -⟩ := parts_of_own hO4
      rw [List.length_map, hTl]
      have HP4 := Sec.mk hP4
      have HP34 := Sec.mk (HP3.out.later hb4)
      have HB3 := Sec.mk (btr HB2.out hb4)
      have HS := Sum_q A3 c3 (R.map (fieldQ R N)) w3 (parts_map_qp HP34.out) (by simp; omega) (fun q hq => by
        obtain ⟨a, ha, rfl⟩ := List.mem_map.1 hq
        exact fieldQ_fits HR.out hRN hN24.2 ha) (fieldQ_sum_fits HR.out hRN hN24.2)
      rw [fieldQ_sum HR.out N, Rat.num_intCast, Rat.den_intCast, List.length_map, show ((1 : Nat) : Int) = 1 from rfl] at HS
      have HS' := Sec.mk HS
      clear HS
      have HSum := Sec.mk fun w' => NSum_right R.length N w' hRN hN24
      have hSb := mul_bd2 (R.length : Int) ((N : Int) - 1) 24 23 (by omega) (by omega) (by omega) (by omega)
      clear hO4 hP4 hb4 HPt' HP3 HB2
      go_wp2_with fail
      refine HS'.out.mono ?_
      rintro e w4' ⟨rfl, hb4⟩
      obtain ⟨SN, hSN⟩ : ∃ SN, (R.length : Int) * ((N : Int) - 1) = SN := ⟨_, rfl⟩
      rw [hSN] at HSum hSb
      rw [hSN]
      have hw1 : IntKind.i64.wrap ((N : Int) - 1) = (N : Int) - 1 := IntWalk.i64_in _ ⟨by omega, by omega⟩
      have hw2 : IntKind.i64.wrap SN = SN := IntWalk.i64_in _ ⟨by omega, by omega⟩
      have hw3 : IntKind.i64.wrap (2 * ((N : Int) - 1)) = 2 * ((N : Int) - 1) := IntWalk.i64_in _ ⟨by omega, by omega⟩
      obtain ⟨TN, hTN⟩ : ∃ TN, 2 * ((N : Int) - 1) = TN := ⟨_, rfl⟩
      rw [hTN] at hw3
      have HTN := Sec.mk hTN
      have hTNb : 0 ≤ TN ∧ TN ≤ 46 := by omega
      have hSN' := Sec.mk hSN
      clear HS'
      go_wp2_with (go_at_call 13; refine (HSum.out _).mono ?_; rintro e w9 ⟨rfl, rfl⟩)
      obtain ⟨w4, g4, e1, e2, P4, hB4, hb34⟩ := pack2 (w0 := w3) (.int .i64 SN) (.int .i64 1) 23 hb4
      rw [← e1, ← e2]
      obtain ⟨a1, a2, -, -⟩ := P4
      have HB4 := Sec.mk hB4
      have hBx := Below.refl w4.heap.size w4
      clear e1 e2 hb4 hB4 hb34
      go_region_held3 (fun w' => w'.cell? ⟨g4, 0, none⟩ = some (.int .i64 SN) ∧ w'.cell? ⟨g4, 1, none⟩ = some (.int .i64 1))
        (first | assumption | exact ⟨a1, a2⟩ | exact ⟨cell_later hBx a1, cell_later hBx a2⟩)
        ((go_at_call 24; refine (q_any _ _ _).mono ?_; rintro e w8 ⟨rfl, hb8⟩; have hBx : Below w4.heap.size w4 w8 := btr (by repeat (first | exact hBx | refine Below.drew ?_ | refine below_drewN ?_ _)) hb8))
      have hB38 : Below w3.heap.size w3 w8 := btr HB4.out hBx
      have HP38 := Sec.mk (HP34.out.later hB38)
      have HP48 := Sec.mk (HP4.out.later hB38)
      have HB8 := Sec.mk (btr HB3.out hB38)
      clear hBx hB38 HP34 HP4 HB3 HB4 a1 a2 hb8 HSum hSN
      go_wp2_with fail
      refine (q_any _ _ _).mono ?_
      rintro e w9 ⟨rfl, hb9⟩
      go_wp2_with fail
      obtain ⟨w10, g10, e1, e2, P10, hB10, -⟩ := pack2 (w0 := w8) (.int .i64 TN) (.int .i64 1) 23 hb9
      rw [← e1, ← e2]
      have HP3 := Sec.mk (HP38.out.later hB10)
      have HP4 := Sec.mk (HP48.out.later hB10)
      have HT10 := Sec.mk P10
      have HB10 := Sec.mk (btr HB8.out hB10)
      clear e1 e2 hb9 hB10 P10 HP38 HP48 HB8 hTN
      go_loopw [123] (fun i wr => LoopRel w10 R.length i wr) (fun i _ => R.length - (intOf i).toNat)
      case atStart => exact ⟨0, Nat.zero_le _, rfl, Below.refl _ _⟩
      case round =>
        obtain ⟨m, hm, rfl, hB⟩ := hrel
        rename World => wm
        by_cases hmt : m < R.length
        · obtain ⟨a, hp⟩ : ∃ a, R[m]? = some a := ⟨_, List.getElem?_eq_getElem hmt⟩
          have ha := List.mem_of_getElem? hp
          have hpA : (R.map fun a => qp (fieldQ R N a))[m]? = some (qp (fieldQ R N a)) := by rw [List.getElem?_map, hp]; rfl
          have hpB : ((turnsOf R).map fun a => qp (fieldQ (turnsOf R) N a))[m]? = some (qp (fieldQ (turnsOf R) N (a.map turnP))) := by
            unfold turnsOf; rw [List.getElem?_map, List.getElem?_map, hp]; rfl
          have hta : a.map turnP ∈ turnsOf R := List.mem_map.2 ⟨a, ha, rfl⟩
          obtain ⟨b3, o3, rfl, x1, x2⟩ := HP3.out.later hB m _ hpA
          obtain ⟨b4, o4, rfl, y1, y2⟩ := HP4.out.later hB m _ hpB
          obtain ⟨t1, t2, -, -⟩ := HT10.out.later hB
          have htl := HT10.out.lt' hB
          simp only [qp] at x1 x2 y1 y2
          have fp := fieldQ_fits HR.out hRN hN24.2 ha
          have fq := fieldQ_fits HTR.out (by rw [hTl]; exact hRN) hN24.2 hta
          have ht := HTN.out
          have HADD := Sec.mk fun w' => Add_eq (fieldQ R N a) (fieldQ (turnsOf R) N (a.map turnP)) _ w' fp fq (fits_int (2 * ((N : Int) - 1)) (by omega)) (fieldQ_turn HR.out N ha)
          have HC1 := Sec.mk fun w' => Cmp_int (fieldQ R N a) 0 w' fp (by omega)
          have HC2 := Sec.mk fun w' => Cmp_int (fieldQ R N a) (2 * ((N : Int) - 1)) w' fp (by omega)
          have hlow := fieldQ_low HR.out hRN ha
          have hb1 := ordQ_bd (fieldQ R N a) ((0 : Int) : Rat)
          have hb2 := ordQ_bd (fieldQ R N a) ((2 * ((N : Int) - 1) : Int) : Rat)
          rw [Rat.num_intCast, Rat.den_intCast, show ((1 : Nat) : Int) = 1 from rfl] at HADD
          rw [ht] at HADD HC2 hlow hb2
          have HBm := Sec.mk hB
          clear hp ha hpA hpB hta fp fq ht hB
          generalize (fieldQ R N a).num = n1 at *
          generalize ((fieldQ R N a).den : Int) = d1 at *
          generalize (fieldQ (turnsOf R) N (a.map turnP)).num = n2 at *
          generalize ((fieldQ (turnsOf R) N (a.map turnP)).den : Int) = d2 at *
          generalize ordQ (fieldQ R N a) ((0 : Int) : Rat) = O1 at *
          generalize ordQ (fieldQ R N a) (TN : Rat) = O2 at *
          go_wp2_with fail
          go_cut [22, 23] (fun s17 s18 wx => AddRel wm TN 1 s17 s18 wx)
          case first =>
            have hBx := Below.refl wm.heap.size wm
            have hsz := hBx.size
            go_region_held3 (fun w' => w'.cell? ⟨b3, o3 + m * 2, none⟩ = some (.int .i64 n1) ∧ w'.cell? ⟨b3, o3 + m * 2 + 1, none⟩ = some (.int .i64 d1) ∧ w'.cell? ⟨b4, o4 + m * 2, none⟩ = some (.int .i64 n2) ∧ w'.cell? ⟨b4, o4 + m * 2 + 1, none⟩ = some (.int .i64 d2))
              (first | assumption | exact ⟨x1, x2, y1, y2⟩ | exact four_later x1 x2 y1 y2 (set2 hBx (Nat.le_refl _)) | exact ⟨cell_later hBx x1, cell_later hBx x2, cell_later hBx y1, cell_later hBx y2⟩ | (refine four_later x1 x2 y1 y2 ?_; (repeat (first | exact hBx | refine Below.drew ?_ | refine Below.alloc ?_ (by first | omega | (simp; omega) | simp) _))))
              ((go_at_call 28; refine (HADD.out _).mono ?_; rintro e w1 ⟨rfl, hb1⟩; have hBx : Below wm.heap.size wm w1 := Below.trans (by repeat (first | exact hBx | refine Below.drew ?_ | refine Below.alloc ?_ (by first | omega | (simp; omega) | simp) _)) (hb1.mono (by first | omega | (simp; omega) | simp)); have hsz := hBx.size; (first | (have pf := new2 hb1; obtain ⟨pf1, pf2, pf3, pf4, pf5⟩ := pf) | (have pf := new2d hb1; obtain ⟨pf1, pf2, pf3, pf4, pf5⟩ := pf) | skip); (try simp only [World.size_alloc, World.size_drew] at pf1 pf2 pf3 pf4 pf5)))
            all_goals (go_wp2_with fail; go_meet)
            all_goals refine ⟨_, rfl, rfl, ⟨?_, ?_, ?_, ?_⟩, ?_⟩
            all_goals first
              | (go_simp; done)
              | exact set2 hBx (Nat.le_refl _)
              | exact hBx.alloc hsz _
          case rest =>
            obtain ⟨g, rfl, rfl, P17, hBc⟩ := hcut
            obtain ⟨x3, x4, t3, t4⟩ := four_later x1 x2 t1 t2 hBc
            have HP17 := Sec.mk P17
            have HBc := Sec.mk (btr HBm.out hBc)
            clear x1 x2 y1 y2 t1 t2 htl hBc P17 HADD HBm
            go_wp2_with fail
            have hBx := Below.refl wc.heap.size wc
            go_region_held3 (fun w' => w'.cell? ⟨b3, o3 + m * 2, none⟩ = some (.int .i64 n1) ∧ w'.cell? ⟨b3, o3 + m * 2 + 1, none⟩ = some (.int .i64 d1))
              (first | assumption | exact ⟨x3, x4⟩ | exact ⟨cell_later hBx x3, cell_later hBx x4⟩)
              ((first
                | (go_at_call 24; refine (q_any _ _ _).mono ?_; rintro e w8 ⟨rfl, hb8⟩; have hBx : Below wc.heap.size wc w8 := btr (by repeat (first | exact hBx | refine Below.drew ?_ | refine below_drewN ?_ _)) hb8)
                | (go_at_call 27; refine (HC1.out _).mono ?_; rintro e w11 ⟨rfl, hb8⟩; have hBx : Below wc.heap.size wc w11 := btr (by repeat (first | exact hBx | refine Below.drew ?_ | refine below_drewN ?_ _)) hb8)))
            obtain ⟨x5, x6, t5, t6⟩ := four_later x3 x4 t3 t4 hBx
            have HP17' := Sec.mk (HP17.out.later hBx)
            have HB11 := Sec.mk (btr HBc.out hBx)
            clear x3 x4 t3 t4 hBx HP17 HBc HC1
            go_wp2_with fail
            have hBx := Below.refl w11.heap.size w11
            go_region_held3 (fun w' => w'.cell? ⟨b3, o3 + m * 2, none⟩ = some (.int .i64 n1) ∧ w'.cell? ⟨b3, o3 + m * 2 + 1, none⟩ = some (.int .i64 d1) ∧ w'.cell? ⟨g10, 0, none⟩ = some (.int .i64 TN) ∧ w'.cell? ⟨g10, 1, none⟩ = some (.int .i64 1))
              (first | assumption | exact ⟨x5, x6, t5, t6⟩ | exact ⟨cell_later hBx x5, cell_later hBx x6, cell_later hBx t5, cell_later hBx t6⟩)
              ((go_at_call 27; refine (HC2.out _).mono ?_; rintro e w12 ⟨rfl, hb8⟩; have hBx : Below w11.heap.size w11 w12 := btr (by repeat (first | exact hBx | refine Below.drew ?_ | refine below_drewN ?_ _)) hb8))
            obtain ⟨t7, t8⟩ : w12.cell? ⟨g10, 0, none⟩ = some (.int .i64 TN) ∧ w12.cell? ⟨g10, 1, none⟩ = some (.int .i64 1) := ⟨cell_later hBx t5, cell_later hBx t6⟩
            obtain ⟨s1, s2, -, -⟩ := HP17'.out.later hBx
            have HB12 := Sec.mk (btr HB11.out hBx)
            have hO1 : ¬ O1 < 0 := by omega
            have hO2 : ¬ 0 < O2 := by omega
            clear x5 x6 t5 t6 hBx HP17' HB11 HC2 hlow
            go_wp2_with fail
            exact ⟨⟨m + 1, hmt, rfl, HB12.out⟩, by simp only [intOf]; omega⟩
        · have HW := Sec.mk (fun w' (h : Below w10.heap.size w10 w') => awake21 w' (HG.out.later (btr HB10.out h)))
          have hmi : ¬ (m : Int) < (R.length : Int) := by omega
          have HB := Sec.mk hB
          clear hB
          go_wp2_with fail
          refine (HW.out _ HB.out).mono ?_
          rintro e x3 ⟨rfl, hx3⟩
          go_wp2_with fail
          go_ret
          exact ⟨rfl, btr HB10.out (btr HB.out hx3)⟩
end Go.Proofs.YtkocgknidpmcmaaDoor
