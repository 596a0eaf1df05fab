/- The reference of chapter 20: Points; SameFracs. -/
import Derived.Test.YtfajnggdlhbgnaaDoorRefD
namespace Go.Proofs.YtfajnggdlhbgnaaDoor
open Go.RowKit
set_option linter.unusedVariables false
set_option linter.unusedSimpArgs false

set_option maxRecDepth 100000 in
set_option maxHeartbeats 1000000 in
theorem same_fracs (A B : Option Addr) (c d : Nat) (r : List (Int × Int)) (w : World) (hA : Parts w A r) (hB : Parts w B r) (hl : r.length ≤ 1000) :
    Calls Tryd.prog 15 #[.slice A r.length c, .slice B r.length d] w fun e w' => e = .returned (.bool true) ∧ Below w.heap.size w w' := by
  have HA := Sec.mk hA
  have HB' := Sec.mk hB
  clear hA hB
  go_enter Tryd.func15, Tryd.ntmps15
  go_wp2_with fail
  go_loopw [5] (fun i wr => KeptRel w r.length i wr) (fun i _ => r.length - (intOf i).toNat)
  case atStart => exact ⟨0, Nat.zero_le _, rfl, Below.refl _ _⟩
  case round =>
    obtain ⟨k, hk, rfl, hB⟩ := hrel
    by_cases hlt : k < r.length
    · obtain ⟨p, hp⟩ : ∃ p, r[k]? = some p := ⟨_, List.getElem?_eq_getElem hlt⟩
      obtain ⟨p1, p2⟩ := p
      obtain ⟨b, o, rfl, h1, h2⟩ := HA.out.later hB k _ hp
      obtain ⟨b', o', rfl, h3, h4⟩ := HB'.out.later hB k _ hp
      simp only at h1 h2 h3 h4
      clear hp
      go_wp2_with fail
      go_quiet (fail)
      go_wp2_with fail
      exact ⟨⟨k + 1, hlt, rfl, below_drewN hB _⟩, by simp only [intOf]; omega⟩
    · go_wp2_with fail
      go_ret
      exact ⟨rfl, hB⟩

/-- What Points answers: its error, its list. -/
def ptsE (l : List (List (Int × Int))) : Int := if l.any (fun r => !rightR r) = true then 2 else if 24 < l.length then 5 else 0
def ptsL (l : List (List (Int × Int))) : List (Int × Int) := if l.any (fun r => !rightR r) = true then [] else if 24 < l.length then [] else l.map fun a => qp (matchQ l a)

theorem Points_all (A : Option Addr) (c : Nat) (l : List (List (Int × Int))) (w : World) (hA : Ress w A l) (hG : Gets w) (hl : l.length ≤ 140737488351232) (hls : ∀ r ∈ l, r.length ≤ 140737488351232) :
    Calls Tryd.prog 12 #[.slice A l.length c] w fun e w' => ∃ v, e = .returned (.tuple #[v, .int .i64 (ptsE l)]) ∧ w'.ownsRow w.heap.size 46 2 v (ptsL l).length (partCells (ptsL l)) ∧ Below w.heap.size w w' := by
  by_cases h : l.any (fun r => !rightR r) = true
  · have e1 : ptsE l = 2 := by unfold ptsE; rw [if_pos h]
    have e2 : ptsL l = [] := by unfold ptsL; rw [if_pos h]
    rw [e1, e2]
    exact (Points_wrong A c l w hA hl hls h).mono fun e w' ⟨h1, h2⟩ => ⟨_, h1, World.ownsRow_nil _ _ _ _, h2⟩
  · have h' : l.any (fun r => !rightR r) = false := by simpa using h
    by_cases h2 : 24 < l.length
    · have e1 : ptsE l = 5 := by unfold ptsE; rw [if_neg h, if_pos h2]
      have e2 : ptsL l = [] := by unfold ptsL; rw [if_neg h, if_pos h2]
      rw [e1, e2]
      exact (Points_many A c l w hA hl hls h' h2).mono fun e w' ⟨h1, h2⟩ => ⟨_, h1, World.ownsRow_nil _ _ _ _, h2⟩
    · have e1 : ptsE l = 0 := by unfold ptsE; rw [if_neg h, if_neg h2]
      have e2 : ptsL l = l.map fun a => qp (matchQ l a) := by unfold ptsL; rw [if_neg h, if_neg h2]
      rw [e1, e2]
      exact Points_right A c l w hA hG h' (by omega)

theorem amongN_nonneg {l : List (List (Int × Int))} (hw : ∀ r ∈ l, weightsOk r) {i : Nat} {a : List (Int × Int)} (hi : l[i]? = some a) : ∀ k, k ≤ l.length → 0 ≤ amongN l i k := by
  intro k
  induction k with
  | zero => intro _; unfold amongN; rw [sumTo_zero, if_neg (by omega)]; decide
  | succ k ih =>
    intro hk
    have hp : l[k]? = some l[k] := List.getElem?_eq_getElem hk
    have h1 := ih (by omega)
    rw [amongN_succ hp]
    have hga : l.getD i [] = a := by rw [List.getD_eq_getElem?_getD, hi]; rfl
    rw [hga]
    have h2 := gainR_bd a l[k] (hw a (List.mem_of_getElem? hi)) (hw _ (List.getElem_mem hk))
    split <;> omega
theorem reduced_match (l : List (List (Int × Int))) (i : Nat) (a : List (Int × Int)) (w : World) (hw : ∀ r ∈ l, weightsOk r) (hi : l[i]? = some a) (hn : l.length ≤ 24) :
    Calls Tryd.prog 42 #[.int .i64 (matchN l a), .int .i64 10000] w fun e w' => e = .returned (.agg #[.int .i64 (qp (matchQ l a)).1, .int .i64 (qp (matchQ l a)).2]) ∧ Below w.heap.size w w' := by
  have h0 : 0 ≤ matchN l a := by rw [← amongN_all l i a hi]; exact amongN_nonneg hw hi _ (Nat.le_refl _)
  have h1 := matchN_bd l a (hw a (List.mem_of_getElem? hi)) hw hn
  obtain ⟨M, hM⟩ : ∃ M : Nat, matchN l a = (M : Int) := ⟨(matchN l a).toNat, by omega⟩
  have h := Reduced_any M 10000 w (by omega) (by decide) (by decide)
  have e : ((M : Int) : Rat) / (((10000 : Nat) : Int) : Rat) = matchQ l a := by unfold matchQ; rw [hM]; rfl
  rw [e] at h
  rw [hM]
  exact h
def RPtsRel1 (w : World) (l : List (List (Int × Int))) (i : Value) (wr : World) : Prop :=
  ∃ k : Nat, k ≤ l.length ∧ i = .int .i64 k ∧ (∀ j r, j < k → l[j]? = some r → rightR r = true) ∧ wr = w

set_option maxRecDepth 100000 in
set_option maxHeartbeats 2000000 in
theorem refPoints_any (A : Option Addr) (c : Nat) (l : List (List (Int × Int))) (w : World) (hA : Ress w A l) (hl : l.length ≤ 1000) (hls : ∀ r ∈ l, r.length ≤ 1000) :
    Calls Tryd.prog 13 #[.slice A l.length c] w fun e w' => ∃ v, e = .returned (.tuple #[v, .int .i64 (ptsE l)]) ∧ w'.ownsRow w.heap.size 46 2 v (ptsL l).length (partCells (ptsL l)) ∧ Below w.heap.size w w' := by
  obtain ⟨i0, hi, hz0, hz1, hz2⟩ := info_parts infoFrac
  have HA := Sec.mk hA
  have HLs := Sec.mk hls
  have HI := Sec.mk hi
  have Z0 := Sec.mk hz0
  have Z1 := Sec.mk hz1
  have Z2 := Sec.mk hz2
  clear hA hls hi hz0 hz1 hz2
  go_enter Tryd.func13, Tryd.ntmps13
  go_wp2_with fail
  go_loopw [4] (fun i wr => RPtsRel1 w l i wr) (fun i _ => l.length - (intOf i).toNat)
  case atStart => exact ⟨0, Nat.zero_le _, rfl, fun j r h => by omega, rfl⟩
  case round =>
    obtain ⟨k, hk, rfl, hno, rfl⟩ := hrel
    by_cases hlt : k < l.length
    · obtain ⟨r, hp⟩ : ∃ r, l[k]? = some r := ⟨_, List.getElem?_eq_getElem hlt⟩
      obtain ⟨b, o, rfl, Ai, ci, h1, h2⟩ := HA.out k r hp
      have HR := Sec.mk (refRight_any Ai ci r wr h2 (HLs.out r (List.mem_of_getElem? hp)))
      by_cases hr : rightR r = true
      · rw [hr] at HR
        have HN : Sec (∀ j r, j < k + 1 → l[j]? = some r → rightR r = true) := ⟨fun j r' hj hj' => by
          rcases Nat.lt_or_ge j k with h | h
          · exact hno j r' h hj'
          · have : j = k := by omega
            subst this
            rw [hp] at hj'; cases hj'; exact hr⟩
        clear hno hp h2 hr
        go_wp2_with (go_at_call 24; refine HR.out.mono ?_; rintro e w1 ⟨rfl, rfl⟩)
        exact ⟨⟨k + 1, hlt, rfl, HN.out, rfl⟩, by simp only [intOf]; omega⟩
      · have hr' : rightR r = false := by simpa using hr
        rw [hr'] at HR
        have hany : l.any (fun r => !rightR r) = true := List.any_eq_true.2 ⟨r, List.mem_of_getElem? hp, by rw [hr']; rfl⟩
        have HE : Sec (ptsE l = 2 ∧ ptsL l = []) := ⟨by unfold ptsE ptsL; rw [if_pos hany, if_pos hany]; exact ⟨rfl, rfl⟩⟩
        clear hno hp h2 hr hr' hany
        go_wp2_with (go_at_call 24; refine HR.out.mono ?_; rintro e w1 ⟨rfl, rfl⟩)
        go_ret2
        refine ⟨.slice none 0 0, ?_, ?_, Below.refl _ _⟩
        · rw [HE.out.1]; rfl
        · rw [HE.out.2]; exact World.ownsRow_nil _ _ _ _
    · have hk0 : k = l.length := by omega
      have hall : ∀ r ∈ l, rightR r = true := fun r hr => by
        obtain ⟨j, hj⟩ := List.mem_iff_getElem?.1 hr
        exact hno j r (by rw [hk0]; exact (List.getElem?_eq_some_iff.1 hj).1) hj
      have hany : ¬ l.any (fun r => !rightR r) = true := by
        intro h
        obtain ⟨r, h1, h2⟩ := List.any_eq_true.1 h
        rw [hall r h1] at h2; cases h2
      have hki : ¬ (k : Int) < (l.length : Int) := by omega
      by_cases h24 : (24 : Int) < (l.length : Int)
      · have HE : Sec (ptsE l = 5 ∧ ptsL l = []) := ⟨by unfold ptsE ptsL; rw [if_neg hany, if_neg hany, if_pos (by omega), if_pos (by omega)]; exact ⟨rfl, rfl⟩⟩
        clear hno hall hany hk0
        go_wp2_with fail
        go_ret2
        refine ⟨.slice none 0 0, ?_, ?_, Below.refl _ _⟩
        · rw [HE.out.1]; rfl
        · rw [HE.out.2]; exact World.ownsRow_nil _ _ _ _
      · have HE : Sec (ptsE l = 0 ∧ ptsL l = l.map fun a => qp (matchQ l a)) := ⟨by unfold ptsE ptsL; rw [if_neg hany, if_neg hany, if_neg (by omega), if_neg (by omega)]; exact ⟨rfl, rfl⟩⟩
        have HW : Sec (∀ r ∈ l, weightsOk r) := ⟨fun r hr => right_weights (hall r hr)⟩
        clear hno hall hany hk0
        go_wp2_with fail
        rename World => w0
        go_loopw [5, 6] (fun v i wr => PtsRel w0 l v i wr) (fun _ i _ => l.length - (intOf i).toNat)
        case atStart => exact ⟨0, Nat.zero_le _, rfl, World.ownsRow_nil _ _ _ _, Below.refl _ _⟩
        case round =>
          obtain ⟨k2, hk2, rfl, hown, hB⟩ := hrel
          by_cases hlt2 : k2 < l.length
          · obtain ⟨a, hp⟩ : ∃ a, l[k2]? = some a := ⟨_, List.getElem?_eq_getElem hlt2⟩
            have HT : Sec ((l.take (k2 + 1)).map (fun a => qp (matchQ l a)) = (l.take k2).map (fun a => qp (matchQ l a)) ++ [qp (matchQ l a)]) := ⟨by
              obtain ⟨hk', rfl⟩ := List.getElem?_eq_some_iff.1 hp
              rw [List.take_succ_eq_append_getElem hk', List.map_append]; rfl⟩
            have hlen : ((l.take k2).map (fun a => qp (matchQ l a))).length = k2 := by simp; omega
            have HA2 := Sec.mk (among_any A c l k2 a wr (HA.out.later hB) hp hl HW.out)
            have HR2 := Sec.mk (fun w' => reduced_match l k2 a w' HW.out hp (by omega))
            have HQ : Sec (qp (matchQ l a) = ((qp (matchQ l a)).1, (qp (matchQ l a)).2)) := ⟨rfl⟩
            have HO := Sec.mk hown
            have HL := Sec.mk hlen
            have hBs := hB.size
            clear hp hown hlen
            generalize (qp (matchQ l a)).1 = qn at *
            generalize (qp (matchQ l a)).2 = qd at *
            generalize matchN l a = MN at *
            go_wp2_with fail
            refine HA2.out.mono ?_
            rintro e w1 ⟨rfl, hb1⟩
            go_wp2_with fail
            refine (HR2.out _).mono ?_
            rintro e w2 ⟨rfl, hb2⟩
            have hb12 : Below wr.heap.size wr w2 := hb1.trans (hb2.mono hb1.size)
            have HO2 := Sec.mk (own_below HO.out hb12)
            have hBw : Below w0.heap.size w0 w2 := hB.trans (hb12.mono hBs)
            have hBws := hBw.size
            clear hb1 hb2 hb12 HA2 HR2
            go_wp2_with (at_builtin; refine wpList_append_own _ rfl _ _ 28 rfl w0.heap.size 46 i0 _ 2 16 Tryd.underlying28 HI.out Z0.out Z1.out Z2.out rfl (by decide) _ _ _ rfl (HO2.out.alloc _) ⟨w2.heap.size, 0, none⟩ 1 1 [.int .i64 qn, .int .i64 qd] rfl rfl ?c1 ?c2 ?c3 ?c4 ?c5 ?_)
            case c1 => exact news2 _ rfl
            case c2 => intro u hu; simp at hu; rcases hu with rfl | rfl <;> rfl
            case c3 => rw [HL.out]; unfold maxLen; omega
            case c4 => rw [HL.out]; omega
            case c5 => simp; omega
            intro v' w3 hown' hgrow _
            have hown2 : w3.ownsRow w0.heap.size 46 2 v' ((l.take (k2 + 1)).map fun a => qp (matchQ l a)).length (partCells ((l.take (k2 + 1)).map fun a => qp (matchQ l a))) := by
              rw [show ((l.take (k2 + 1)).map fun a => qp (matchQ l a)).length = k2 + 1 by simp; omega, HT.out, partCells_append, HQ.out]
              rw [← List.map_take] at hown'
              exact hown'
            have hB2 : Below w0.heap.size w0 w3 := (hBw.alloc hBws _).grown hgrow (by simp; omega) (fun k hk => (HO2.out.lt k hk).1)
            have HO3 := Sec.mk hown2
            clear hown' hgrow hown2
            go_wp2_with fail
            exact ⟨⟨k2 + 1, hlt2, rfl, HO3.out, hB2⟩, by simp only [intOf]; omega⟩
          · have hk0 : k2 = l.length := by omega
            rw [hk0, List.take_length] at hown
            clear hk0
            have HO := Sec.mk hown
            clear hown
            go_wp2_with fail
            go_ret2
            refine ⟨u5, ?_, ?_, hB⟩
            · rw [HE.out.1]; rfl
            · rw [HE.out.2]; exact HO.out
end Go.Proofs.YtfajnggdlhbgnaaDoor
