/- NeubergDivided: the walk. -/
import Derived.Test.YtkocgknidpmcmaaDoorNeuSuA
import Derived.Test.YtkocgknidpmcmaaDoorNeuDiA
import Derived.Deep.RegionLaw
namespace Go.Proofs.YtkocgknidpmcmaaDoor
open Go.RowKit
set_option linter.unusedVariables false
set_option linter.unusedSimpArgs false

theorem frz_later {w w' : World} (hb : Below w.heap.size w w') {a : Addr} (ha : a.block < w.heap.size) (h : w.frozen? a = false) : w'.frozen? a = false := (World.frozen?_of_block (hb.block _ ha)).trans h
def bitF (bs : Int) (k : Nat) : Int := bs / 2 ^ k % 2
theorem bitF_or (bs : Int) (k : Nat) : bitF bs k = 0 ∨ bitF bs k = 1 := by unfold bitF; omega
theorem bitF_and (bs : Int) (k : Nat) (h : 0 ≤ bs ∧ bs ≤ 4294967295) : bits BinOp.and IntKind.u32 (bs / 2 ^ k) 1 = bitF bs k := by
  have := shr_bounds bs k h
  exact and_one_u32 _ this.1 this.2
/-- The total behind k of the two fields. -/
def totT (n0 n1 N : Nat) (k : Nat) : Int := if k = 0 then 0 else if k = 1 then (n0 : Int) * ((N : Int) - 1) else (N : Int) * ((N : Int) - 1)
def FieldsRel (w : World) (n0 n1 N : Nat) (i : Value) (wr : World) : Prop :=
  ∃ k : Nat, k ≤ 2 ∧ i = .int .i64 k ∧ Pair wr w.heap.size (.int .i64 (totT n0 n1 N k)) (.int .i64 1) ∧ Below w.heap.size w wr
theorem pair_set {w : World} {g : Nat} {u v x y : Value} (h : Pair w g u v) : Pair ((w.setCell ⟨g, 0, none⟩ x).setCell ⟨g, 1, none⟩ y) g x y := by
  obtain ⟨c0, c1, f0, f1⟩ := h
  refine ⟨?_, ?_, ?_, ?_⟩ <;> go_simp

theorem index_two0 (w : World) (A B : Option Addr) (n m c d : Nat) : (Instr.index 60 (.agg #[.slice A n c, .slice B m d]) (.int .i64 0)).run Tryd.prog w = .ok (.slice A n c) w := by
  simp [Instr.index, asIntOf, run_underlying Tryd.underlying60, go_sem]
theorem index_two1 (w : World) (A B : Option Addr) (n m c d : Nat) : (Instr.index 60 (.agg #[.slice A n c, .slice B m d]) (.int .i64 1)).run Tryd.prog w = .ok (.slice B m d) w := by
  simp [Instr.index, asIntOf, run_underlying Tryd.underlying60, go_sem]

set_option maxRecDepth 100000 in
set_option maxHeartbeats 4000000 in
theorem NeubergDivided_any (A : Option Addr) (c : Nat) (l : List Sm) (bs : Int) (w : World) (hA : Smalls w A l) (hl : l.length ≤ c ∧ c ≤ 9223372036854775807) (hbs : 0 ≤ bs ∧ bs ≤ 4294967295) (hG : Gets w) :
    Calls Tryd.prog 9 #[.slice A l.length c, .int .u32 bs] w fun e w' => e = .returned (.bool true) ∧ Below w.heap.size w w' := by
  have HAll := Sec.mk (All_any A c l 24 w hA hl (by omega))
  have HR := Sec.mk (smalls_right hA 24)
  have hn : ((l.take 24).map Sm.r).length ≤ 24 := by simp; omega
  have HG := Sec.mk hG
  obtain ⟨i0, hi, hz0, hz1, hz2⟩ := info_parts infoRes
  have HI := Sec.mk hi
  have Z0 := Sec.mk hz0
  have Z1 := Sec.mk hz1
  have Z2 := Sec.mk hz2
  clear hA hl hG hi hz0 hz1 hz2
  generalize (l.take 24).map Sm.r = R at *
  by_cases hR0 : R.length = 0
  · have hE : ((R.length : Int) == 0) = true := by simp [hR0]
    go_enter Tryd.func9, Tryd.ntmps9
    go_wp2_with fail
    refine HAll.out.mono ?_
    rintro e w1 ⟨v1, rfl, hO, hb1⟩
    obtain ⟨A1, c1, rfl, hR1⟩ := hO.ress
    clear hO hR1 HAll hR0
    go_wp2_with fail
    refine (awake21 _ (HG.out.later hb1)).mono ?_
    rintro e w2 ⟨rfl, hb2⟩
    go_wp2_with fail
    go_ret
    exact ⟨rfl, btr hb1 hb2⟩
  have hE : ((R.length : Int) == 0) = false := beq_eq_false_iff_ne.2 (by omega)
  have hR1n : 1 ≤ R.length := by omega
  go_enter Tryd.func9, Tryd.ntmps9
  go_wp2_with fail
  refine HAll.out.mono ?_
  rintro e w1 ⟨v1, rfl, hO, hb1⟩
  obtain ⟨A1, c1, rfl, hR1, hR1B⟩ := hO.ress'
  have HR1 := Sec.mk hR1B
  have HB1 := Sec.mk hb1
  clear hO hR1 hR1B hb1 HAll hR0
  go_wp2_with fail
  go_loopw [26] (fun i wr => DivRel w1 60 R (bitF bs) i wr) (fun i _ => R.length - (intOf i).toNat)
  case atStart => exact ⟨0, _, _, Nat.zero_le _, rfl, heap_alloc_new _ _, OwnRess.nil _ _, OwnRess.nil _ _, .inl rfl, st1 _ _⟩
  case round =>
    obtain ⟨k, v0, v1, hk, rfl, hblk, hO0, hO1, hd, hB⟩ := hrel
    rename World => wr
    by_cases hlt : k < R.length
    · obtain ⟨a, hp⟩ : ∃ a, R[k]? = some a := ⟨_, List.getElem?_eq_getElem hlt⟩
      obtain ⟨b, o, rfl, Ai, ci, h1, h2⟩ := HR1.out.later hB k a hp
      have Hp := Sec.mk hp
      have H2 := Sec.mk h2
      have HO0 := Sec.mk hO0
      have HO1 := Sec.mk hO1
      have HD := Sec.mk hd
      have HB := Sec.mk hB
      have HBlk := Sec.mk hblk
      clear hp h2 hO0 hO1 hd hB hblk
      have hk0 : (0 : Int) ≤ (k : Int) := by omega
      have hk32 : (k : Int) ≤ 32 := by omega
      have hlen := divL_len (R := R) (f := bitF bs) k (by omega) (bitF_or bs)
      obtain ⟨vs0, hV0, hP0⟩ := HO0.out
      obtain ⟨vs1, hV1, hP1⟩ := HO1.out
      have q0 : wr.cell? ⟨w1.heap.size, 0, none⟩ = some v0 := cell_of_row wr _ 0 _ _ _ HBlk.out
      have q1 : wr.cell? ⟨w1.heap.size, 1, none⟩ = some v1 := cell_of_row wr _ 1 _ _ _ HBlk.out
      have HV0 := Sec.mk hV0
      have HV1 := Sec.mk hV1
      have HP0 := Sec.mk hP0
      have HP1 := Sec.mk hP1
      have hbd := HB.out.size
      clear hV0 hV1 hP0 hP1
      have hst : ∀ X : Obj, Below wr.heap.size wr (wr.alloc X).drew := fun X => ((Below.refl _ _).alloc (Nat.le_refl _) X).drew
      have f0 : wr.frozen? ⟨w1.heap.size, 0, none⟩ = false := frozen_of_row wr _ 0 _ _ HBlk.out
      have f1 : wr.frozen? ⟨w1.heap.size, 1, none⟩ = false := frozen_of_row wr _ 1 _ _ HBlk.out
      have hblt : w1.heap.size < wr.heap.size := heap_lt HBlk.out
      have hne0 : some w1.heap.size ≠ v0.ownBlock := fun e => by have := (HV0.out.lt _ e.symm).1; omega
      have hne1 : some w1.heap.size ≠ v1.ownBlock := fun e => by have := (HV1.out.lt _ e.symm).1; omega
      rcases bitF_or bs k with hf | hf
      · have hand := bitF_and bs k hbs
        rw [hf] at hand
        go_wp2_with fail
        go_region_law (refine step_append_lies _ (by rfl) _ _ _ (by rfl) (w1.heap.size + 1) 35 i0 _ 1 24 Tryd.underlying33 HI.out Z0.out Z1.out Z2.out rfl (by decide) v0 (divL R (bitF bs) 0 k).length vs0 (by rfl) (own_below HV0.out (hst _)) ⟨wr.heap.size, 0, none⟩ 1 1 [.slice Ai a.length ci] (by rfl) (by rfl) (World.news_of_block (cs := #[.slice Ai a.length ci]) (t := 35) (fr := (0, 0)) (heap_alloc_new wr _)) (by simp [Value.oneCell']) (by decide) (by unfold maxLen; omega) (by omega) (by simp; omega) (wr.heap.size + 1) (by simp) ?_; intro gg cap w3 hown3 hgrow hat hlt3; have c3 := hgrow.cell (cell_later (hst _) q0) hne0; have f3 := (hgrow.frozen_far ⟨w1.heap.size, 0, none⟩ (by simp; omega) hne0).trans (frz_later (hst _) hblt f0))
        all_goals
          have hP := div_push (v := v0) (u := v1) (j := 0) (own_below HV0.out (hst _)) (fun i r hr => let ⟨Ai, ci, e1, e2⟩ := HP0.out i r hr; ⟨Ai, ci, e1, e2.later (hst _)⟩) (H2.out.later (hst _)) (HO1.out.later (hst _)) (((hst _).block _ hblt).trans HBlk.out) (Nat.lt_succ_self _) (by decide) HD.out hown3 hgrow (by simpa using hat)
          have hB4 := (Below.grown (btr HB.out (hst (.cells #[.slice Ai a.length ci] 35))) hgrow (by simp; omega) (fun j e => by have := (HV0.out.lt j e).1; omega)).setCell (p := ⟨w1.heap.size, 0, none⟩) (Nat.le_refl _) (.slice (some ⟨gg, 0, none⟩) ((divL R (bitF bs) 0 k).length + 1) cap)
          have hH4 := heap_setCell_same w3 _ 0 _ _ (.slice (some ⟨gg, 0, none⟩) ((divL R (bitF bs) 0 k).length + 1) cap) hP.2.2.2
          have HP4 := Sec.mk hP
          have HB4 := Sec.mk hB4
          have HH4 := Sec.mk hH4
          clear hP hB4 hH4 hown3 hgrow hat hlt3 c3 f3
          go_wp2_with fail
          exact ⟨⟨k + 1, .slice (some ⟨gg, 0, none⟩) ((divL R (bitF bs) 0 k).length + 1) cap, v1, hlt, rfl, HH4.out, by rw [divL_hit Hp.out hf]; exact HP4.out.1, by rw [divL_miss (by omega)]; exact HP4.out.2.1, HP4.out.2.2.1, HB4.out⟩, by simp only [intOf]; omega⟩
      · have hand := bitF_and bs k hbs
        rw [hf] at hand
        go_wp2_with fail
        go_region_law (refine step_append_lies _ (by rfl) _ _ _ (by rfl) (w1.heap.size + 1) 35 i0 _ 1 24 Tryd.underlying33 HI.out Z0.out Z1.out Z2.out rfl (by decide) v1 (divL R (bitF bs) 1 k).length vs1 (by rfl) (own_below HV1.out (hst _)) ⟨wr.heap.size, 0, none⟩ 1 1 [.slice Ai a.length ci] (by rfl) (by rfl) (World.news_of_block (cs := #[.slice Ai a.length ci]) (t := 35) (fr := (0, 0)) (heap_alloc_new wr _)) (by simp [Value.oneCell']) (by decide) (by unfold maxLen; omega) (by omega) (by simp; omega) (wr.heap.size + 1) (by simp) ?_; intro gg cap w3 hown3 hgrow hat hlt3; have c3 := hgrow.cell (cell_later (hst _) q1) hne1; have f3 := (hgrow.frozen_far ⟨w1.heap.size, 1, none⟩ (by simp; omega) hne1).trans (frz_later (hst _) hblt f1))
        all_goals
          have hP := div_push (v := v1) (u := v0) (j := 1) (own_below HV1.out (hst _)) (fun i r hr => let ⟨Ai, ci, e1, e2⟩ := HP1.out i r hr; ⟨Ai, ci, e1, e2.later (hst _)⟩) (H2.out.later (hst _)) (HO0.out.later (hst _)) (((hst _).block _ hblt).trans HBlk.out) (Nat.lt_succ_self _) (by decide) (by rcases HD.out with e | e | e; exact .inr (.inl e); exact .inl e; exact .inr (.inr (Ne.symm e))) hown3 hgrow (by simpa using hat)
          have hB4 := (Below.grown (btr HB.out (hst (.cells #[.slice Ai a.length ci] 35))) hgrow (by simp; omega) (fun j e => by have := (HV1.out.lt j e).1; omega)).setCell (p := ⟨w1.heap.size, 1, none⟩) (Nat.le_refl _) (.slice (some ⟨gg, 0, none⟩) ((divL R (bitF bs) 1 k).length + 1) cap)
          have hH4 := heap_setCell_same w3 _ 1 _ _ (.slice (some ⟨gg, 0, none⟩) ((divL R (bitF bs) 1 k).length + 1) cap) hP.2.2.2
          have HP4 := Sec.mk hP
          have HB4 := Sec.mk hB4
          have HH4 := Sec.mk hH4
          clear hP hB4 hH4 hown3 hgrow hat hlt3 c3 f3
          go_wp2_with fail
          exact ⟨⟨k + 1, v0, .slice (some ⟨gg, 0, none⟩) ((divL R (bitF bs) 1 k).length + 1) cap, hlt, rfl, HH4.out, by rw [divL_miss (by omega)]; exact HP4.out.2.1, by rw [divL_hit Hp.out hf]; exact HP4.out.1, (by rcases HP4.out.2.2.1 with e | e | e; exact .inr (.inl e); exact .inl e; exact .inr (.inr (Ne.symm e))), HB4.out⟩, by simp only [intOf]; omega⟩
    · have hk0 : k = R.length := by omega
      subst hk0
      have hki : ¬ (R.length : Int) < (R.length : Int) := by omega
      have hlen := divL_len (R := R) (f := bitF bs) R.length (Nat.le_refl _) (bitF_or bs)
      have HL0 := Sec.mk (fun r hr => HR.out r (divL_mem (f := bitF bs) (b := 0) R.length r hr))
      have HL1 := Sec.mk (fun r hr => HR.out r (divL_mem (f := bitF bs) (b := 1) R.length r hr))
      obtain ⟨A2, c2, rfl, hR2⟩ := hO0.ress
      obtain ⟨A3, c3, rfl, hR3⟩ := hO1.ress
      generalize divL R (bitF bs) 0 R.length = L0 at *
      generalize divL R (bitF bs) 1 R.length = L1 at *
      have HR2 := Sec.mk hR2
      have HR3 := Sec.mk hR3
      have HBr := Sec.mk (btr HB1.out hB)
      have q0 : wr.cell? ⟨w1.heap.size, 0, none⟩ = some (.slice A2 L0.length c2) := cell_of_row wr _ 0 _ _ _ hblk
      have q1 : wr.cell? ⟨w1.heap.size, 1, none⟩ = some (.slice A3 L1.length c3) := cell_of_row wr _ 1 _ _ _ hblk
      have hl0 : L0.length ≤ R.length := by omega
      have hl1 : L1.length ≤ R.length := by omega
      have hblt : w1.heap.size < wr.heap.size := heap_lt hblk
      clear hO0 hO1 hR2 hR3 hd hB hblk HB1 HR1 HI Z0 Z1 Z2
      go_wp2_with fail
      refine (q_any _ _ _).mono ?_; rintro e w2 ⟨rfl, hb2⟩
      replace q0 := cell_later hb2 q0
      replace q1 := cell_later hb2 q1
      have hblt2 : w1.heap.size < w2.heap.size := Nat.lt_of_lt_of_le hblt hb2.size
      have HB2 := Sec.mk (btr HBr.out hb2)
      have HR22 := Sec.mk (HR2.out.later hb2)
      have HR32 := Sec.mk (HR3.out.later hb2)
      clear hb2 hblt HR2 HR3 HBr
      go_wp2_with fail
      go_loopw [48] (fun i wr => FieldsRel w2 L0.length L1.length R.length i wr) (fun i _ => 2 - (intOf i).toNat)
      case atStart => exact ⟨0, by omega, rfl, Pair.new _ _ _ _, st1 _ _⟩
      case round =>
        obtain ⟨k, hk, rfl, hPr, hB⟩ := hrel
        rename World => wr
        have HB := Sec.mk hB
        have HPr := Sec.mk hPr
        have hT0 : totT L0.length L1.length R.length 0 = 0 := rfl
        obtain ⟨S0, hS0⟩ : ∃ S, (L0.length : Int) * ((R.length : Int) - 1) = S := ⟨_, rfl⟩
        obtain ⟨S1, hS1⟩ : ∃ S, (L1.length : Int) * ((R.length : Int) - 1) = S := ⟨_, rfl⟩
        obtain ⟨U1, hU1⟩ : ∃ S, (R.length : Int) * ((R.length : Int) - 1) = S := ⟨_, rfl⟩
        obtain ⟨U0, hU0⟩ : ∃ S, S = S0 := ⟨_, rfl⟩
        have hT1 : totT L0.length L1.length R.length 1 = U0 := by rw [hU0]; exact hS0
        have hT2 : totT L0.length L1.length R.length 2 = U1 := hU1
        have hSU : U0 + S1 = U1 := by rw [hU0, ← hS0, ← hS1, ← hU1, ← Int.add_mul, ← hlen]; simp
        have hb0 := mul_bd2 (L0.length : Int) ((R.length : Int) - 1) 24 23 (by omega) (by omega) (by omega) (by omega)
        have hb1 := mul_bd2 (L1.length : Int) ((R.length : Int) - 1) 24 23 (by omega) (by omega) (by omega) (by omega)
        have hb2 := mul_bd2 (R.length : Int) ((R.length : Int) - 1) 24 23 (by omega) (by omega) (by omega) (by omega)
        rw [hS0] at hb0
        rw [hS1] at hb1
        rw [hU1] at hb2
        by_cases hkt : k < 2
        · have HF0 := Sec.mk (Field_right A2 c2 L0 R.length wr (HR22.out.later hB) (HG.out.later (btr HB2.out hB)) HL0.out hl0 hR1n hn)
          have HF1 := Sec.mk (Field_right A3 c3 L1 R.length wr (HR32.out.later hB) (HG.out.later (btr HB2.out hB)) HL1.out hl1 hR1n hn)
          have HA0 := Sec.mk fun w' => Add_eq ((0 : Int) : Rat) (S0 : Rat) (U0 : Rat) w' (fits_int 0 (by omega)) (fits_int S0 (by omega)) (fits_int U0 (by omega)) (by rw [← Rat.intCast_add, hU0, Int.zero_add])
          have HA1 := Sec.mk fun w' => Add_eq (U0 : Rat) (S1 : Rat) (U1 : Rat) w' (fits_int U0 (by omega)) (fits_int S1 (by omega)) (fits_int U1 (by omega)) (by rw [← Rat.intCast_add, hSU])
          simp only [Rat.num_intCast, Rat.den_intCast, show ((1 : Nat) : Int) = 1 from rfl] at HA0 HA1
          clear hB hPr hb0 hb1 hb2 hU0 hU1 hSU q0 q1 hblt2
          have hix0 := fun w => index_two0 w A2 A3 L0.length L1.length c2 c3
          have hix1 := fun w => index_two1 w A2 A3 L0.length L1.length c2 c3
          by_cases hkz : k < 1
          · have hk0 : k = 0 := by omega
            subst hk0
            rw [hT0] at HPr
            go_wp2_with fail
            refine HF0.out.mono ?_
            rintro e w4 ⟨v4, rfl, hO4, hb4⟩
            obtain ⟨A4, c4, rfl, hP4, -⟩ := parts_of_own hO4
            rw [List.length_map]
            have HS := Sum_q A4 c4 (L0.map (fieldQ L0 R.length)) w4 (parts_map_qp hP4) (by simp; omega) (fun q hq => by
              obtain ⟨a, ha, rfl⟩ := List.mem_map.1 hq
              exact fieldQ_fits HL0.out hl0 hn ha) (fieldQ_sum_fits HL0.out hl0 hn)
            rw [fieldQ_sum HL0.out R.length, Rat.num_intCast, Rat.den_intCast, List.length_map, show ((1 : Nat) : Int) = 1 from rfl, hS0] at HS
            have HS' := Sec.mk HS
            have HB4 := Sec.mk (btr HB.out hb4)
            have HPr4 := Sec.mk (HPr.out.later hb4)
            clear HS hO4 hP4 hb4
            go_wp2_with fail
            refine HS'.out.mono ?_
            rintro e w5 ⟨rfl, hb5⟩
            have HB5 := Sec.mk (btr HB4.out hb5)
            have hPr5 := HPr4.out.later hb5
            obtain ⟨c0, c1, -, -⟩ := hPr5
            have l5 := HPr4.out.lt' hb5
            have HPr5 := Sec.mk (HPr4.out.later hb5)
            clear HS' HPr4 HB4
            go_wp2_with fail
            have hb6 := st1 w5 (.cells #[.int .i64 S0, .int .i64 1] 23)
            refine (HA0.out _).mono ?_
            rintro e w7 ⟨rfl, hb7⟩
            have hPr7 := HPr5.out.later (btr hb6 hb7)
            obtain ⟨c0, c1, f0, f1⟩ := hPr7
            have l7 := HPr5.out.lt' (btr hb6 hb7)
            have HB7 := Sec.mk (btr HB5.out (btr hb6 hb7))
            have HPr7 := Sec.mk (HPr5.out.later (btr hb6 hb7))
            clear hb6 hb7 l5 hb5
            go_wp2_with fail
            exact ⟨⟨1, by omega, rfl, (by rw [hT1]; exact (pair_set HPr7.out).later (st1 _ _)), btr (set2 HB7.out (Nat.le_refl _)) (st1 _ _)⟩, by simp only [intOf]; omega⟩
          · have hk0 : k = 1 := by omega
            subst hk0
            rw [hT1] at HPr
            go_wp2_with fail
            refine HF1.out.mono ?_
            rintro e w4 ⟨v4, rfl, hO4, hb4⟩
            obtain ⟨A4, c4, rfl, hP4, -⟩ := parts_of_own hO4
            rw [List.length_map]
            have HS := Sum_q A4 c4 (L1.map (fieldQ L1 R.length)) w4 (parts_map_qp hP4) (by simp; omega) (fun q hq => by
              obtain ⟨a, ha, rfl⟩ := List.mem_map.1 hq
              exact fieldQ_fits HL1.out hl1 hn ha) (fieldQ_sum_fits HL1.out hl1 hn)
            rw [fieldQ_sum HL1.out R.length, Rat.num_intCast, Rat.den_intCast, List.length_map, show ((1 : Nat) : Int) = 1 from rfl, hS1] at HS
            have HS' := Sec.mk HS
            have HB4 := Sec.mk (btr HB.out hb4)
            have HPr4 := Sec.mk (HPr.out.later hb4)
            clear HS hO4 hP4 hb4
            go_wp2_with fail
            refine HS'.out.mono ?_
            rintro e w5 ⟨rfl, hb5⟩
            have HB5 := Sec.mk (btr HB4.out hb5)
            have hPr5 := HPr4.out.later hb5
            obtain ⟨c0, c1, -, -⟩ := hPr5
            have l5 := HPr4.out.lt' hb5
            have HPr5 := Sec.mk (HPr4.out.later hb5)
            clear HS' HPr4 HB4
            go_wp2_with fail
            have hb6 := st1 w5 (.cells #[.int .i64 S1, .int .i64 1] 23)
            refine (HA1.out _).mono ?_
            rintro e w7 ⟨rfl, hb7⟩
            have hPr7 := HPr5.out.later (btr hb6 hb7)
            obtain ⟨c0, c1, f0, f1⟩ := hPr7
            have l7 := HPr5.out.lt' (btr hb6 hb7)
            have HB7 := Sec.mk (btr HB5.out (btr hb6 hb7))
            have HPr7 := Sec.mk (HPr5.out.later (btr hb6 hb7))
            clear hb6 hb7 l5 hb5
            go_wp2_with fail
            exact ⟨⟨2, by omega, rfl, (by rw [hT2]; exact (pair_set HPr7.out).later (st1 _ _)), btr (set2 HB7.out (Nat.le_refl _)) (st1 _ _)⟩, by simp only [intOf]; omega⟩
        · have hk0 : k = 2 := by omega
          subst hk0
          rw [hT2] at hPr
          obtain ⟨c0, c1, -, -⟩ := hPr
          have HMS := Sec.mk fun w' => sum_small (R.length : Int) w' (by omega)
          rw [if_neg (show ¬ (R.length : Int) < 1 by omega), hU1] at HMS
          have HW := Sec.mk fun (w' : World) (h : Below wr.heap.size wr w') => awake21 w' (HG.out.later (btr HB2.out (btr HB.out h)))
          have hBx := Below.refl wr.heap.size wr
          clear hB HPr HL0 HL1 HR22 HR32 q0 q1 hblt2
          go_wp2_with fail
          go_region_held3 (fun w' => w'.cell? ⟨w2.heap.size, 0, none⟩ = some (.int .i64 U1) ∧ w'.cell? ⟨w2.heap.size, 1, none⟩ = some (.int .i64 1))
            (first | assumption | exact ⟨c0, c1⟩ | exact ⟨cell_later hBx c0, cell_later hBx c1⟩)
            ((first
              | (go_at_call 31; refine (HMS.out _).mono ?_; rintro e w8 ⟨rfl, rfl⟩)
              | (go_at_call 24; refine (q_any _ _ _).mono ?_; rintro e w9 ⟨rfl, hb9⟩; have hBx : Below wr.heap.size wr w9 := btr (by repeat (first | exact hBx | refine Below.drew ?_ | refine below_drewN ?_ _)) hb9)
              | (go_at_call 19; refine (HW.out _ ?_).mono ?_; (repeat (first | exact hBx | refine Below.drew ?_ | refine below_drewN ?_ _)); rintro e w10 ⟨rfl, hb9⟩; have hBx : Below wr.heap.size wr w10 := btr (by repeat (first | exact hBx | refine Below.drew ?_ | refine below_drewN ?_ _)) hb9)))
          all_goals go_wp2_with fail
          all_goals go_ret
          all_goals exact ⟨rfl, btr HB2.out (btr HB.out hBx)⟩
end Go.Proofs.YtkocgknidpmcmaaDoor
