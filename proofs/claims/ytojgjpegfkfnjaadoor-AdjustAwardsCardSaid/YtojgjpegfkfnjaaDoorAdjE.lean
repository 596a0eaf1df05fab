/- adjust: Weighted and one. -/
import Derived.Test.YtojgjpegfkfnjaaDoorAdjD
import Derived.Test.YtojgjpegfkfnjaaDoorMatF
namespace Go.Proofs.YtojgjpegfkfnjaaDoor
open Go.RowKit
set_option linter.unusedVariables false
set_option linter.unusedSimpArgs false
set_option maxRecDepth 100000

def okSO (o : Oc) (u : Int) : Bool := okSB o.l o.d o.r o.s o.n u
def scO (o : Oc) (u : Int) : Int := scoreG o.l o.d o.r o.s o.n u
def partsO (l : List Oc) (u : Int) : List (Int × Int) := l.map fun o => (scO o u, o.wt)
/-- Weighted answers. -/
def okW (l : List Oc) (u : Int) : Bool := l.all (okSO · u) && decide (u ≤ 3) && rightR (partsO l u)
def WtdPost (w : World) (l : List Oc) (u : Int) (e : Ending) (w' : World) : Prop :=
  Below w.heap.size w w' ∧ ((okW l u = true ∧ ∃ v, e = .returned (.tuple #[v, .int .i64 0]) ∧ w'.ownsRow w.heap.size 47 2 v (partsO l u).length (partCells (partsO l u))) ∨ (okW l u = false ∧ e = .returned (.tuple #[.slice none 0 0, .int .i64 2])))
theorem scoreO_any (o : Oc) (u : Int) (w : World) (ho : o.ok) (hu : 0 ≤ u ∧ u ≤ 255) : Calls Tryd.prog 44 #[.agg #[.int .u8 o.l, .int .u8 o.d, .int .u8 o.r, .int .u8 o.s], .int .i64 o.n, .int .u8 u] w fun e w' => e = .returned (.tuple #[.int .i64 (if okSO o u then scO o u else 0), .int .i64 (if okSO o u then 0 else 2)]) ∧ Below w.heap.size w w' := gScore_any o.l o.d o.r o.s o.n u w ho.1 ho.2.1 hu
def WtdRel (w : World) (l : List Oc) (u : Int) (v i : Value) (wr : World) : Prop :=
  ∃ k : Nat, k ≤ l.length ∧ i = .int .i64 k ∧ wr.ownsRow w.heap.size 47 2 v (partsO (l.take k) u).length (partCells (partsO (l.take k) u)) ∧ Sec (∀ j y, j < k → l[j]? = some y → okSO y u = true) ∧ Below w.heap.size w wr
set_option maxHeartbeats 2000000 in
theorem Weighted_any (A : Option Addr) (c : Nat) (l : List Oc) (u : Int) (w : World) (hA : Ocs w A l) (hl : l.length ≤ 1000) (ho : ∀ o ∈ l, o.ok) (hu : 0 ≤ u ∧ u ≤ 255) :
    Calls Tryd.prog 20 #[.slice A l.length c, .int .u8 u] w (WtdPost w l u) := by
  obtain ⟨i0, hi, hz0, hz1, hz2⟩ := info_parts infoPart
  have HI := Sec.mk hi
  have Z0 := Sec.mk hz0
  have Z1 := Sec.mk hz1
  have Z2 := Sec.mk hz2
  have HA := Sec.mk hA
  have HSc := Sec.mk fun o (h : o ∈ l) w' => scoreO_any o u w' (ho o h) hu
  clear hi hz0 hz1 hz2 hA ho
  go_enter Tryd.func20, Tryd.ntmps20
  go_wp2_with fail
  go_loopw [6, 13] (fun v i wr => WtdRel w l u v i wr) (fun _ i _ => l.length - (intOf i).toNat)
  case atStart => exact ⟨0, Nat.zero_le _, rfl, World.ownsRow_nil _ _ _ _, ⟨fun j y hj => by omega⟩, Below.refl _ _⟩
  case round =>
    obtain ⟨k, hk, rfl, hown, hpre, hB⟩ := hrel
    by_cases hlt : k < l.length
    · obtain ⟨o, hp⟩ : ∃ p, l[k]? = some p := ⟨_, List.getElem?_eq_getElem hlt⟩
      obtain ⟨b, f, rfl, h0, h1, h2, h3, h4, h5⟩ := HA.out.later hB k o hp
      have HS := Sec.mk (HSc.out o (List.mem_of_getElem? hp))
      have HT : Sec (partsO (l.take (k + 1)) u = partsO (l.take k) u ++ [(scO o u, o.wt)]) := ⟨by
        obtain ⟨hk', rfl⟩ := List.getElem?_eq_some_iff.1 hp
        unfold partsO
        rw [List.take_succ_eq_append_getElem hk', List.map_append]; rfl⟩
      have hlen : (partsO (l.take k) u).length = k := by unfold partsO; simp; omega
      have HP := Sec.mk hp
      have HO := Sec.mk hown
      have HL := Sec.mk hlen
      have hkk : (k : Int) < (l.length : Int) := by omega
      have hbad : okSO o u = false → okW l u = false := fun hx => by
        unfold okW
        have : l.all (okSO · u) = false := by
          cases e : l.all (okSO · u)
          · rfl
          · have := List.all_eq_true.1 e o (List.mem_of_getElem? hp)
            rw [hx] at this; cases this
        rw [this]; rfl
      replace hbad := Sec.mk hbad
      clear hp hown hlen HSc
      generalize scO o u = z at *
      cases hok : okSO o u
      · have hend := Sec.mk (hbad.out hok)
        rw [hok] at HS
        simp only [Bool.false_eq_true, if_false] at HS
        clear hok hbad
        obtain ⟨x0, x1, x2, x3, x4, x5⟩ := o
        dsimp only at h0 h1 h2 h3 h4 h5 HS
        go_wp2_with fail
        refine (HS.out _).mono ?_
        rintro e w2 ⟨rfl, hb2⟩
        have hB2 : Below w.heap.size w w2 := (hB.alloc hB.size _).trans (hb2.mono (by have := hB.size; simp; omega))
        clear hb2
        go_wp2_with fail
        go_ret2
        exact ⟨hB2, .inr ⟨hend.out, rfl⟩⟩
      · rw [hok] at HS
        simp only [if_true] at HS
        have hok' := Sec.mk hok
        clear hok hbad
        obtain ⟨x0, x1, x2, x3, x4, x5⟩ := o
        dsimp only at h0 h1 h2 h3 h4 h5 HS HT
        go_upto_region 5 with fail
        obtain ⟨W, g, e1, e2, P, hb1⟩ := oc_box wr ⟨x0, x1, x2, x3, x4, x5⟩
        dsimp only at e1
        rw [← e1, ← e2]
        clear e1 e2 h0 h1 h2 h3 h4 h5
        obtain ⟨c0, c1, c2, c3, c4, c5⟩ := oc_cells P
        dsimp only at c0 c1 c2 c3 c4 c5
        go_wp2_with fail
        refine (HS.out _).mono ?_
        rintro e w2 ⟨rfl, hb2⟩
        obtain ⟨d0, d1, d2, d3, d4, d5⟩ := oc_cells (P.later hb2)
        dsimp only at d0 d1 d2 d3 d4 d5
        have hb12 := sbtr hb1 hb2
        have HO2 := Sec.mk (own_below HO.out hb12)
        have hB2 := sbtr hB hb12
        clear c0 c1 c2 c3 c4 c5 P HS hb1 hb2 hb12 HO hB
        go_wp2_with (at_builtin; refine wpList_append_own _ rfl _ _ 31 rfl w.heap.size 47 i0 _ 2 16 Tryd.underlying31 HI.out Z0.out Z1.out Z2.out rfl (by decide) _ _ _ rfl (HO2.out.alloc _) ⟨w2.heap.size, 0, none⟩ 1 1 [.int .i64 z, .int .i64 x5] rfl rfl ?c1 ?c2 ?c3 ?c4 ?c5 ?_)
        case c1 => exact news2 _ (by simp)
        case c2 => intro u hu; simp at hu; rcases hu with rfl | rfl <;> rfl
        case c3 => rw [HL.out]; unfold maxLen; omega
        case c4 => rw [HL.out]; omega
        case c5 => have := hB2.size; simp; omega
        intro v' w3 hown' hgrow _
        have hown3 : w3.ownsRow w.heap.size 47 2 v' (partsO (l.take (k + 1)) u).length (partCells (partsO (l.take (k + 1)) u)) := by
          rw [HT.out, partCells_append, List.length_append, HL.out]
          rw [HL.out] at hown'
          exact hown'
        have hB3 : Below w.heap.size w w3 := (hB2.alloc hB2.size _).grown hgrow (by have := hB2.size; simp; omega) (fun k hk => (HO2.out.lt k hk).1)
        have HO3 := Sec.mk hown3
        clear hown' hgrow hown3 HO2
        go_wp2_with fail
        refine ⟨⟨k + 1, hlt, rfl, HO3.out, ⟨fun j y hj hy => ?_⟩, hB3⟩, by simp only [intOf]; omega⟩
        rcases Nat.lt_or_ge j k with h | h
        · exact hpre.out j y h hy
        · obtain rfl : j = k := by omega
          rw [HP.out] at hy; cases hy; exact hok'.out
    · have hk0 : k = l.length := by omega
      rw [hk0, List.take_length] at hown
      have hall : l.all (okSO · u) = true := List.all_eq_true.2 fun x hx => by
        obtain ⟨j, hj⟩ := List.getElem?_of_mem hx
        exact hpre.out j x (by rw [hk0]; exact (List.getElem?_eq_some_iff.1 hj).1) hj
      have hW : Sec (okW l u = (decide (u ≤ 3) && rightR (partsO l u))) := ⟨by unfold okW; rw [hall]; rfl⟩
      obtain ⟨A', c', hv, hPa, -⟩ := parts_of_own hown
      have hpl : (partsO l u).length = l.length := by unfold partsO; simp
      have HRi := Sec.mk (right_any_len A' c' (partsO l u) wr hPa (by rw [hpl]; omega))
      rw [← hv] at HRi
      have HO := Sec.mk hown
      have hlk := Sec.mk hk0
      clear hk0 hall hown hPa hv hpl hpre HSc HA
      by_cases h3 : 3 < u
      · have hend : Sec (okW l u = false) := ⟨by rw [hW.out]; simp; omega⟩
        clear hW HRi
        go_wp2_with fail
        go_ret2
        exact ⟨hB, .inr ⟨hend.out, rfl⟩⟩
      · have h3' : u ≤ 3 := by omega
        cases hr : rightR (partsO l u)
        · have hend : Sec (okW l u = false) := ⟨by rw [hW.out, hr]; simp⟩
          rw [hr] at HRi
          clear hW hr
          go_wp2_with fail
          refine HRi.out.mono ?_
          rintro e w2 ⟨rfl, hb2⟩
          go_wp2_with fail
          go_ret2
          exact ⟨sbtr hB hb2, .inr ⟨hend.out, rfl⟩⟩
        · have hend : Sec (okW l u = true) := ⟨by rw [hW.out, hr]; simp [h3']⟩
          rw [hr] at HRi
          clear hW hr
          go_wp2_with fail
          refine HRi.out.mono ?_
          rintro e w2 ⟨rfl, hb2⟩
          go_wp2_with fail
          go_ret2
          exact ⟨sbtr hB hb2, .inl ⟨hend.out, _, rfl, own_below HO.out hb2⟩⟩
end Go.Proofs.YtojgjpegfkfnjaaDoor
