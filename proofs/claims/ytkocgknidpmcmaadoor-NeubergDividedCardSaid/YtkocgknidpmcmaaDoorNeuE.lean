/- Package neuberg: Field. -/
import Derived.Test.YtkocgknidpmcmaaDoorNeuD
import Derived.Test.YtkocgknidpmcmaaDoorMatF
namespace Go.Proofs.YtkocgknidpmcmaaDoor
open Go.RowKit
set_option linter.unusedVariables false
set_option linter.unusedSimpArgs false

theorem own_mono {w : World} {base base' : Nat} {e : TypeId} {size n : Nat} {v : Value} {xs : List Value} (h : w.ownsRow base e size v n xs) (hb : base' ≤ base) : w.ownsRow base' e size v n xs :=
  ⟨h.1, h.2.imp id fun ⟨g, cap, cur, h1, h2, h3⟩ => ⟨g, cap, cur, h1, Nat.le_trans hb h2, h3⟩⟩
theorem match_parts {l : List (List (Int × Int))} {a : List (Int × Int)} (hl : ∀ r ∈ l, rightR r = true) (ha : a ∈ l) : 0 ≤ (matchQ l a).num ∧ ((matchQ l a).den : Int) ≤ 10000 := by
  have h := matchN_le hl ha
  obtain ⟨G, h1, h2, h3⟩ := quot_parts (matchN l a) 10000 (by omega) (matchQ l a) rfl
  refine ⟨?_, ?_⟩
  · rcases Int.lt_or_le (matchQ l a).num 0 with hneg | h0
    · have : (matchQ l a).num * (G : Int) < 0 := Int.mul_neg_of_neg_of_pos hneg (by omega)
      omega
    · exact h0
  · have : (matchQ l a).den ≤ 10000 := by rw [h3]; exact Nat.le_mul_of_pos_right _ h1
    omega
theorem match_within {l : List (List (Int × Int))} {a : List (Int × Int)} (hl : ∀ r ∈ l, rightR r = true) (ha : a ∈ l) : withinB (matchQ l a).num ((matchQ l a).den : Int) (2 * ((l.length : Int) - 1)) = true := by
  have h := match_parts hl ha
  have ho : ordQ (matchQ l a) ((2 * ((l.length : Int) - 1) : Int) : Rat) ≤ 0 := by
    have h1 := matchN_le hl ha
    unfold matchQ
    rw [← quot_int (2 * ((l.length : Int) - 1)), ordQ_div]
    unfold ord3
    split <;> (try split) <;> omega
  unfold withinB
  rw [right_q, ← rat_of (matchQ l a)]
  simp only [Bool.true_and, Bool.and_eq_true, decide_eq_true_eq]
  exact ⟨⟨h.1, h.2⟩, ho⟩
theorem match_scaled {l : List (List (Int × Int))} {a : List (Int × Int)} (hl : ∀ r ∈ l, rightR r = true) (ha : a ∈ l) {N : Nat} (hN : l.length ≤ N) (hN2 : N ≤ 24) : fits (matchQ l a * (((N : Int) : Rat) / ((l.length : Int) : Rat))) := by
  have h := matchN_le hl ha
  have hn : 0 < l.length := List.length_pos_of_mem ha
  have e : matchQ l a * (((N : Int) : Rat) / ((l.length : Int) : Rat)) = ((matchN l a * (N : Int) : Int) : Rat) / (((10000 * l.length : Nat) : Int) : Rat) := by
    unfold matchQ
    have h1 : ((10000 : Int) : Rat) ≠ 0 := by decide
    have h2 : ((l.length : Int) : Rat) ≠ 0 := intCast_ne _ (by omega)
    rw [show (((10000 * l.length : Nat) : Int)) = 10000 * (l.length : Int) by omega, Rat.intCast_mul, Rat.intCast_mul]
    generalize ((l.length : Int) : Rat) = n at *
    generalize ((10000 : Int) : Rat) = t at *
    grind
  rw [e]
  have hb := mul_bd2 (matchN l a) (N : Int) (10000 * 46) 24 h.1 (by omega) (by omega) (by omega)
  exact qd_fits _ _ (by omega) (by omega) (by omega)
theorem Adjust_match {l : List (List (Int × Int))} {a : List (Int × Int)} (w : World) (hl : ∀ r ∈ l, rightR r = true) (ha : a ∈ l) {N : Nat} (hN : l.length ≤ N) (hN2 : N ≤ 24) :
    Calls Tryd.prog 11 #[.agg #[.int .i64 (matchQ l a).num, .int .i64 (matchQ l a).den], .int .i64 l.length, .int .i64 N] w fun e w' => e = .returned (.tuple #[.agg #[.int .i64 (fieldQ l N a).num, .int .i64 (fieldQ l N a).den], .int .i64 0]) ∧ Below w.heap.size w w' := by
  have hn : 0 < l.length := List.length_pos_of_mem ha
  have h := Adjust_right (matchQ l a) l.length N w (quot_fits _ (by have := matchN_le hl ha; omega)) (match_within hl ha) hn hN hN2 (match_scaled hl ha hN hN2) (by rw [fieldQ_eq hn]; exact fieldQ_fits hl hN hN2 ha)
  rw [fieldQ_eq hn] at h
  exact h

def FieldRel (w : World) (l : List (List (Int × Int))) (N : Nat) (v i : Value) (wr : World) : Prop :=
  ∃ k : Nat, k ≤ l.length ∧ i = .int .i64 k ∧ wr.ownsRow w.heap.size 23 2 v ((l.take k).map fun a => qp (fieldQ l N a)).length (partCells ((l.take k).map fun a => qp (fieldQ l N a))) ∧ Below w.heap.size w wr

set_option maxRecDepth 100000 in
set_option maxHeartbeats 2000000 in
theorem Field_right (A : Option Addr) (c : Nat) (l : List (List (Int × Int))) (N : Nat) (w : World) (hA : Ress w A l) (hG : Gets w) (hl : ∀ r ∈ l, rightR r = true) (hN : l.length ≤ N) (hN1 : 1 ≤ N) (hN2 : N ≤ 24) :
    Calls Tryd.prog 21 #[.slice A l.length c, .int .i64 N] w fun e w' => ∃ v, e = .returned (.tuple #[v, .int .i64 0]) ∧ w'.ownsRow w.heap.size 23 2 v (l.map fun a => qp (fieldQ l N a)).length (partCells (l.map fun a => qp (fieldQ l N a))) ∧ Below w.heap.size w w' := by
  obtain ⟨i0, hi, hz0, hz1, hz2⟩ := info_parts infoFrac
  have hBo := fun w' => board_any l.length N w'
  rw [show (decide (1 ≤ (N : Int)) && decide ((N : Int) ≤ 24) && decide (0 ≤ (l.length : Int)) && decide ((l.length : Int) ≤ (N : Int))) = true by simp; omega] at hBo
  have HBo := Sec.mk hBo
  have hany : l.any (fun r => !rightR r) = false := by
    rw [List.any_eq_false]
    intro r hr
    rw [hl r hr]; decide
  have HP := Sec.mk (Points_right A c l w hA hG hany (by omega))
  have HR := Sec.mk hl
  have HI := Sec.mk hi
  have Z0 := Sec.mk hz0
  have Z1 := Sec.mk hz1
  have Z2 := Sec.mk hz2
  clear hBo hany hA hG hl hi hz0 hz1 hz2
  go_enter Tryd.func21, Tryd.ntmps21
  go_wp2_with (go_at_call 33; refine (HBo.out _).mono ?_; rintro e w8 ⟨rfl, rfl⟩)
  refine HP.out.mono ?_
  rintro e w1 ⟨v1, rfl, hO1, hb1⟩
  obtain ⟨A1, c1, rfl, hP1, -⟩ := parts_of_own hO1
  rw [List.length_map]
  have HP1 := Sec.mk hP1
  have HB1 := Sec.mk hb1
  clear hO1 hP1 hb1 HP
  go_wp2_with fail
  go_loopw [8, 28] (fun v i wr => FieldRel w1 l N v i wr) (fun _ i _ => l.length - (intOf i).toNat)
  case atStart => exact ⟨0, Nat.zero_le _, rfl, World.ownsRow_nil _ _ _ _, Below.refl _ _⟩
  case round =>
    obtain ⟨k, hk, rfl, hown, hB⟩ := hrel
    by_cases hlt : k < l.length
    · obtain ⟨a, hp⟩ : ∃ a, l[k]? = some a := ⟨_, List.getElem?_eq_getElem hlt⟩
      have hpA : (l.map fun a => qp (matchQ l a))[k]? = some (qp (matchQ l a)) := by rw [List.getElem?_map, hp]; rfl
      obtain ⟨b, o, rfl, h1, h2⟩ := HP1.out.later hB k _ hpA
      simp only [qp] at h1 h2
      have HT : Sec ((l.take (k + 1)).map (fun a => qp (fieldQ l N a)) = (l.take k).map (fun a => qp (fieldQ l N a)) ++ [qp (fieldQ l N a)]) := ⟨by
        obtain ⟨hk', rfl⟩ := List.getElem?_eq_some_iff.1 hp
        rw [List.take_succ_eq_append_getElem hk', List.map_append]; rfl⟩
      have hlen : ((l.take k).map (fun a => qp (fieldQ l N a))).length = k := by simp; omega
      have HA := Sec.mk fun w' => Adjust_match (N := N) (a := a) w' HR.out (List.mem_of_getElem? hp) hN hN2
      have HQ : Sec (qp (fieldQ l N a) = ((fieldQ l N a).num, ((fieldQ l N a).den : Int))) := ⟨rfl⟩
      have HO := Sec.mk hown
      have HL := Sec.mk hlen
      have HB := Sec.mk hB
      have hB0 := hB.size
      clear hp hpA hown hlen hB
      generalize (fieldQ l N a).num = qn at *
      generalize ((fieldQ l N a).den : Int) = qd at *
      generalize (matchQ l a).num = n1 at *
      generalize ((matchQ l a).den : Int) = d1 at *
      go_wp2_with fail
      refine (HA.out _).mono ?_
      rintro e w2 ⟨rfl, hb2⟩
      have hb2' := btr (st1 _ _) hb2
      have HO2 := Sec.mk (own_below HO.out hb2')
      have hBw : Below w1.heap.size w1 w2 := btr HB.out hb2'
      have hBws := hBw.size
      clear hb2 hb2' HA h1 h2
      go_wp2_with (at_builtin; refine wpList_append_own _ rfl _ _ 38 rfl w1.heap.size 23 i0 _ 2 16 Tryd.underlying38 HI.out Z0.out Z1.out Z2.out rfl (by decide) _ _ _ rfl ((HO2.out.alloc _).alloc _) ⟨w2.heap.size + 1, 0, none⟩ 1 1 [.int .i64 qn, .int .i64 qd] rfl rfl ?c1 ?c2 ?c3 ?c4 ?c5 ?_)
      case c1 => exact news2 _ (by simp)
      case c2 => intro u hu; simp at hu; rcases hu with rfl | rfl <;> rfl
      case c3 => rw [HL.out]; unfold maxLen; omega
      case c4 => rw [HL.out]; omega
      case c5 => simp; omega
      intro v' w3 hown' hgrow _
      have hown2 : w3.ownsRow w1.heap.size 23 2 v' ((l.take (k + 1)).map fun a => qp (fieldQ l N a)).length (partCells ((l.take (k + 1)).map fun a => qp (fieldQ l N a))) := by
        rw [show ((l.take (k + 1)).map fun a => qp (fieldQ l N a)).length = k + 1 by simp; omega, HT.out, partCells_append, HQ.out]
        rw [← List.map_take] at hown'
        exact hown'
      have hB2 : Below w1.heap.size w1 w3 := ((hBw.alloc hBws _).alloc (by simp; omega) _).grown hgrow (by simp; omega) (fun k hk => (HO2.out.lt k hk).1)
      have HO3 := Sec.mk hown2
      clear hown' hgrow hown2
      go_wp2_with fail
      exact ⟨⟨k + 1, hlt, rfl, HO3.out, hB2⟩, by simp only [intOf]; omega⟩
    · have hk0 : k = l.length := by omega
      rw [hk0, List.take_length] at hown
      clear hk0
      have HO := Sec.mk (own_mono hown HB1.out.size)
      have HB := Sec.mk (btr HB1.out hB)
      clear hown hB
      go_wp2_with fail
      go_ret2
      exact ⟨_, rfl, HO.out, HB.out⟩
theorem Field_board (A : Option Addr) (c n : Nat) (all : Int) (w : World) (h : ¬ (1 ≤ all ∧ all ≤ 24 ∧ (n : Int) ≤ all)) :
    Calls Tryd.prog 21 #[.slice A n c, .int .i64 all] w fun e w' => e = .returned (.tuple #[.slice none 0 0, .int .i64 2]) ∧ w = w' := by
  have hBo := fun w' => board_any n all w'
  rw [show (decide (1 ≤ all) && decide (all ≤ 24) && decide (0 ≤ (n : Int)) && decide ((n : Int) ≤ all)) = false by
    rw [Bool.eq_false_iff]; simp; omega] at hBo
  have HBo := Sec.mk hBo
  clear hBo h
  go_enter Tryd.func21, Tryd.ntmps21
  go_wp2_with (go_at_call 33; refine (HBo.out _).mono ?_; rintro e w8 ⟨rfl, rfl⟩)
  go_ret2
  exact ⟨rfl, rfl⟩
theorem Field_bad (A : Option Addr) (c : Nat) (l : List (List (Int × Int))) (all : Int) (w : World) (hA : Ress w A l) (hls : ∀ r ∈ l, r.length ≤ 140737488351232) (h : 1 ≤ all ∧ all ≤ 24 ∧ (l.length : Int) ≤ all) (hb : l.any (fun r => !rightR r) = true) :
    Calls Tryd.prog 21 #[.slice A l.length c, .int .i64 all] w fun e w' => e = .returned (.tuple #[.slice none 0 0, .int .i64 2]) ∧ Below w.heap.size w w' := by
  have hBo := fun w' => board_any l.length all w'
  rw [show (decide (1 ≤ all) && decide (all ≤ 24) && decide (0 ≤ (l.length : Int)) && decide ((l.length : Int) ≤ all)) = true by simp; omega] at hBo
  have HBo := Sec.mk hBo
  have HP := Sec.mk (Points_wrong A c l w hA (by omega) hls hb)
  clear hBo h hA hls hb
  go_enter Tryd.func21, Tryd.ntmps21
  go_wp2_with (go_at_call 33; refine (HBo.out _).mono ?_; rintro e w8 ⟨rfl, rfl⟩)
  refine HP.out.mono ?_
  rintro e w1 ⟨rfl, hb1⟩
  go_wp2_with fail
  go_ret2
  exact ⟨rfl, hb1⟩
end Go.Proofs.YtkocgknidpmcmaaDoor
