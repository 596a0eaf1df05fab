/- Made of the statements of chapter 20. -/
import Derived.Test.YtkocgknidpmcmaaDoorMatF
import Derived.Laws.OwnMore
namespace Go.Proofs.YtkocgknidpmcmaaDoor
open Go.RowKit
set_option linter.unusedVariables false
set_option linter.unusedSimpArgs false

def pm (p : Int) : Int := p.tmod 10001
theorem pm_bd (p : Int) : -10000 ≤ pm p ∧ pm p ≤ 10000 := by
  unfold pm
  have h1 := Int.tmod_lt_of_pos p (show (0 : Int) < 10001 by decide)
  have h2 := Int.lt_tmod_of_pos p (show (0 : Int) < 10001 by decide)
  omega

/-- Of n others, with the first part's weight w. -/
def otherP (n : Nat) (w : Int) (i : Nat) (q : Int) : Int × Int := (pm q, if i + 1 = n then 100 - w - ((n : Int) - 1) else 1)
def firstW (n : Nat) (wt : Int) : Int := 1 + wt.tmod (100 - (n : Int))
def madeO (n : Nat) (w : Int) (l : List Int) : List (Int × Int) := (l.take n).mapIdx (otherP n w)
/-- What Made makes. -/
def madeR (p wt : Int) (l : List Int) : List (Int × Int) :=
  if l = [] then [(pm p, 100)] else (pm p, firstW (min l.length 3) wt) :: madeO (min l.length 3) (firstW (min l.length 3) wt) l

theorem firstW_bd (n : Nat) (wt : Int) (hn : n ≤ 3) (hw : 0 ≤ wt) : 1 ≤ firstW n wt ∧ firstW n wt ≤ 100 - n := by
  unfold firstW
  have h1 := Int.tmod_lt_of_pos wt (show (0 : Int) < 100 - (n : Int) by omega)
  have h2 := Int.tmod_nonneg (100 - (n : Int)) hw
  omega

theorem madeO_succ (n : Nat) (w : Int) (l : List Int) (k : Nat) (x : Int) (h : l[k]? = some x) (hk : k < n) : (madeO n w l).take (k + 1) = (madeO n w l).take k ++ [otherP n w k x] := by
  obtain ⟨hk', rfl⟩ := List.getElem?_eq_some_iff.1 h
  have h1 : k < (madeO n w l).length := by simp [madeO]; omega
  rw [List.take_succ_eq_append_getElem h1]
  simp [madeO]

def MadeRel (w : World) (n : Nat) (f : Int × Int) (o : List (Int × Int)) (v i : Value) (wr : World) : Prop :=
  ∃ k : Nat, k ≤ n ∧ i = .int .i64 k ∧ wr.ownsRow w.heap.size 80 2 v (f :: o.take k).length (partCells (f :: o.take k)) ∧ Below w.heap.size w wr

set_option maxRecDepth 100000 in
set_option maxHeartbeats 1000000 in
theorem Made_any (p wt : Int) (A : Option Addr) (c : Nat) (l : List Int) (w : World) (hp : -32768 ≤ p ∧ p ≤ 32767) (hwt : 0 ≤ wt ∧ wt ≤ 255) (hA : Ints w .i16 A l) (hb : ∀ x ∈ l, -32768 ≤ x ∧ x ≤ 32767) (hl : l.length ≤ c ∧ c ≤ 9223372036854775807) :
    Calls Tryd.prog 55 #[.agg #[.int .i16 p, .int .u8 wt, .slice A l.length c]] w fun e w' => ∃ v, e = .returned v ∧ w'.ownsRow w.heap.size 80 2 v (madeR p wt l).length (partCells (madeR p wt l)) ∧ Below w.heap.size w w' := by
  obtain ⟨i0, hi, hz0, hz1, hz2⟩ := info_parts infoPart
  have HA := Sec.mk hA
  have HBd := Sec.mk hb
  have HI := Sec.mk hi
  have Z0 := Sec.mk hz0
  have Z1 := Sec.mk hz1
  have Z2 := Sec.mk hz2
  clear hA hb hi hz0 hz1 hz2
  by_cases hl0 : l.length = 0
  · obtain rfl := List.eq_nil_of_length_eq_zero hl0
    clear hl0
    go_enter Tryd.func55, Tryd.ntmps55
    go_wp2_with fail
    go_ret
    refine ⟨_, rfl, ?_, ((Below.refl _ _).alloc (Nat.le_refl _) _).alloc (by simp) _⟩
    have h := World.ownsRow_lit (base := w.heap.size) (e := 80) (size := 2) (w.alloc (.cells #[.int .i16 p, .int .u8 wt, .slice A 0 c] 85)) #[.int .i64 (p.tmod 10001), .int .i64 100] 1 (by simp) (by decide) rfl
    simpa [madeR, partCells, pm] using h
  · obtain ⟨n, hn⟩ : ∃ n : Nat, n = min l.length 3 := ⟨_, rfl⟩
    have hn1 : 1 ≤ n ∧ n ≤ 3 ∧ n ≤ l.length ∧ ((n : Int) = 3 ∧ (3 : Int) ≤ l.length ∨ (n : Int) = l.length ∧ (l.length : Int) < 3) := by omega
    have hmin : (if (3 : Int) < (l.length : Int) then (3 : Int) else (l.length : Int)) = (n : Int) := by split <;> omega
    have hf := firstW_bd n wt hn1.2.1 hwt.1
    have HM : Sec (madeR p wt l = (pm p, firstW n wt) :: madeO n (firstW n wt) l) := ⟨by
      have : l ≠ [] := fun h => hl0 (by rw [h]; rfl)
      unfold madeR; rw [if_neg this, hn]⟩
    have e0 : ¬ ((n : Int) = 0) := by omega
    have e1 : ¬ ((100 : Int) - n = 0) := by omega
    have HF : 1 + wt.tmod (100 - (n : Int)) = firstW n wt := rfl
    have ht : wt.tmod (100 - (n : Int)) = wt % (100 - (n : Int)) := Int.tmod_eq_emod_of_nonneg hwt.1
    rw [ht] at HF
    have HP : Sec (pm p = p.tmod 10001) := ⟨rfl⟩
    generalize firstW n wt = F at *
    have hF64 : wrap64 F = F := by first | exact IntWalk.i64_in _ ⟨by omega, by omega⟩ | (show IntKind.i64.wrap F = F; exact IntWalk.i64_in _ ⟨by omega, by omega⟩) | (simp only [wrap64]; omega)
    clear hn ht hl0
    go_enter Tryd.func55, Tryd.ntmps55
    go_wp2_with fail
    have hh : ((n : Int) == 0) = false := by rw [beq_eq_false_iff_ne]; omega
    simp only [hh]
    clear hh
    have hst : (w.alloc (.cells #[.int .i16 p, .int .u8 wt, .slice A l.length c] 85)).heap.size = w.heap.size + 1 := by simp
    have hown0 := World.ownsRow_lit (base := w.heap.size) (e := 80) (size := 2) (w.alloc (.cells #[.int .i16 p, .int .u8 wt, .slice A l.length c] 85)) #[.int .i64 (p.tmod 10001), .int .i64 F] 1 (by simp) (by decide) rfl
    have HO0 := Sec.mk hown0
    clear hown0 hst
    go_loopw [5, 40] (fun v i wr => MadeRel w n (pm p, F) (madeO n F l) v i wr) (fun _ i _ => n - (intOf i).toNat)
    case atStart => exact ⟨0, Nat.zero_le _, rfl, by simpa [partCells, HP.out] using HO0.out, ((Below.refl _ _).alloc (Nat.le_refl _) _).alloc (by simp) _⟩
    case round =>
      clear HO0 hmin e0 e1 HF
      obtain ⟨k, hk, rfl, hown, hB⟩ := hrel
      by_cases hlt : k < n
      · obtain ⟨x, hx⟩ : ∃ x, l[k]? = some x := ⟨_, List.getElem?_eq_getElem (by omega)⟩
        obtain ⟨b, o, rfl, h1⟩ := HA.out.later hB k x hx
        have hxb := HBd.out x (List.mem_of_getElem? hx)
        have HT := Sec.mk (madeO_succ n F l k x hx hlt)
        have hlen : ((pm p, F) :: (madeO n F l).take k).length = k + 1 := by simp [madeO]; omega
        have HO := Sec.mk hown
        have HL := Sec.mk hlen
        clear hx hown hlen
        by_cases hkn : k + 1 = n
        · have HV : Sec (otherP n F k x = (x.tmod 10001, 100 - F - (k : Int))) := ⟨by unfold otherP; rw [if_pos hkn, show ((n : Int) - 1) = (k : Int) by omega]; rfl⟩
          have hki : (n : Int) - 1 = (k : Int) := by omega
          go_wp2_with (at_builtin; refine wpList_append_own _ rfl _ _ 35 rfl w.heap.size 80 i0 _ 2 16 Tryd.underlying35 HI.out Z0.out Z1.out Z2.out rfl (by decide) _ _ _ rfl (HO.out.alloc _) ⟨wr.heap.size, 0, none⟩ 1 1 [.int .i64 (x.tmod 10001), .int .i64 (100 - F - (k : Int))] rfl rfl ?c1 ?c2 ?c3 ?c4 ?c5 ?_)
          case c1 => exact news2 _ (by simp)
          case c2 => intro u hu; simp at hu; rcases hu with rfl | rfl <;> rfl
          case c3 => rw [HL.out]; unfold maxLen; omega
          case c4 => rw [HL.out]; omega
          case c5 => have := hB.size; simp; omega
          intro v' w2 hown' hgrow _
          have hown2 : w2.ownsRow w.heap.size 80 2 v' ((pm p, F) :: (madeO n F l).take (k + 1)).length (partCells ((pm p, F) :: (madeO n F l).take (k + 1))) := by
            rw [show ((pm p, F) :: (madeO n F l).take (k + 1)).length = min k (madeO n F l).length + 1 + 1 by rw [HT.out]; first | (simp; done) | (simp; omega), HT.out, ← List.cons_append, partCells_append, HV.out]
            exact hown'
          have hB2 : Below w.heap.size w w2 := (hB.alloc hB.size _).grown hgrow (by have := hB.size; simp; omega) (fun k hk => (HO.out.lt k hk).1)
          have HO2 := Sec.mk hown2
          clear hown' hgrow hown2
          go_wp2_with fail
          exact ⟨⟨k + 1, hlt, rfl, HO2.out, hB2⟩, by simp only [intOf]; omega⟩
        · have HV : Sec (otherP n F k x = (x.tmod 10001, 1)) := ⟨by unfold otherP; rw [if_neg hkn]; rfl⟩
          have hki : ¬ (k : Int) = (n : Int) - 1 := by omega
          go_wp2_with (at_builtin; refine wpList_append_own _ rfl _ _ 35 rfl w.heap.size 80 i0 _ 2 16 Tryd.underlying35 HI.out Z0.out Z1.out Z2.out rfl (by decide) _ _ _ rfl (HO.out.alloc _) ⟨wr.heap.size, 0, none⟩ 1 1 [.int .i64 (x.tmod 10001), .int .i64 1] rfl rfl ?c1 ?c2 ?c3 ?c4 ?c5 ?_)
          case c1 => exact news2 _ (by simp)
          case c2 => intro u hu; simp at hu; rcases hu with rfl | rfl <;> rfl
          case c3 => rw [HL.out]; unfold maxLen; omega
          case c4 => rw [HL.out]; omega
          case c5 => have := hB.size; simp; omega
          intro v' w2 hown' hgrow _
          have hown2 : w2.ownsRow w.heap.size 80 2 v' ((pm p, F) :: (madeO n F l).take (k + 1)).length (partCells ((pm p, F) :: (madeO n F l).take (k + 1))) := by
            rw [show ((pm p, F) :: (madeO n F l).take (k + 1)).length = min k (madeO n F l).length + 1 + 1 by rw [HT.out]; first | (simp; done) | (simp; omega), HT.out, ← List.cons_append, partCells_append, HV.out]
            exact hown'
          have hB2 : Below w.heap.size w w2 := (hB.alloc hB.size _).grown hgrow (by have := hB.size; simp; omega) (fun k hk => (HO.out.lt k hk).1)
          have HO2 := Sec.mk hown2
          clear hown' hgrow hown2
          go_wp2_with fail
          exact ⟨⟨k + 1, hlt, rfl, HO2.out, hB2⟩, by simp only [intOf]; omega⟩
      · have hk0 : k = n := by omega
        subst hk0
        have hlen : (madeO k F l).length = k := by simp [madeO]; omega
        rw [List.take_of_length_le (by omega), ← HM.out] at hown
        have HO := Sec.mk hown
        clear hown hlen
        go_wp2_with fail
        go_ret
        exact ⟨_, rfl, HO.out, hB⟩
end Go.Proofs.YtkocgknidpmcmaaDoor
