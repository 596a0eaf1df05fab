/- The reference of chapter 20: Turn. -/
import Derived.Test.YtfajnggdlhbgnaaDoorRefG
import Derived.Deep.AppendLies
namespace Go.Proofs.YtfajnggdlhbgnaaDoor
open Go.RowKit
set_option linter.unusedVariables false
set_option linter.unusedSimpArgs false

theorem refTurn_wrong (A : Option Addr) (c : Nat) (r : List (Int × Int)) (w : World) (hA : Parts w A r) (hl : r.length ≤ 1000) (hr : rightR r = false) :
    Calls Tryd.prog 21 #[.slice A r.length c] w fun e w' => e = .returned (.tuple #[.slice none 0 0, .int .i64 2]) ∧ w = w' := by
  have HR := Sec.mk (refRight_any A c r w hA hl)
  rw [hr] at HR
  clear hA hr
  go_enter Tryd.func21, Tryd.ntmps21
  go_wp2_with fail
  refine HR.out.mono ?_; rintro e w1 ⟨rfl, rfl⟩
  go_wp2_with fail
  go_ret2
  exact ⟨rfl, rfl⟩

def RTurnRel (w : World) (r : List (Int × Int)) (v i : Value) (wr : World) : Prop :=
  ∃ k : Nat, k ≤ r.length ∧ i = .int .i64 k ∧ wr.ownsRow w.heap.size 80 2 v ((r.take k).map turnP).length (partCells ((r.take k).map turnP)) ∧ Below w.heap.size w wr

set_option maxRecDepth 100000 in
set_option maxHeartbeats 1000000 in
theorem refTurn_right (A : Option Addr) (c : Nat) (r : List (Int × Int)) (w : World) (hA : Parts w A r) (hr : rightR r = true) :
    Calls Tryd.prog 21 #[.slice A r.length c] w fun e w' => ∃ v, e = .returned (.tuple #[v, .int .i64 0]) ∧ w'.ownsRow w.heap.size 80 2 v (r.map turnP).length (partCells (r.map turnP)) ∧ Below w.heap.size w w' := by
  obtain ⟨i0, hi, hz0, hz1, hz2⟩ := info_parts infoRPart
  have wr := right_weights hr
  have hl := wr.1
  have hb : ∀ p ∈ r, -10000 ≤ p.1 ∧ p.1 ≤ 10000 := by
    intro p hp
    have := (rightR_parts hr).1 p hp
    simp only [badPart, Bool.or_eq_false_iff, decide_eq_false_iff_not] at this
    omega
  have HB := Sec.mk hb
  have HA := Sec.mk hA
  have HR := Sec.mk (refRight_any A c r w hA (by omega))
  rw [hr] at HR
  have HI := Sec.mk hi
  have Z0 := Sec.mk hz0
  have Z1 := Sec.mk hz1
  have Z2 := Sec.mk hz2
  clear wr hb hA hr hi hz0 hz1 hz2
  go_enter Tryd.func21, Tryd.ntmps21
  go_wp2_with fail
  refine HR.out.mono ?_; rintro e w1 ⟨rfl, rfl⟩
  go_wp2_with fail
  go_loopw [4, 5] (fun v i wr => RTurnRel w r v i wr) (fun _ i _ => r.length - (intOf i).toNat)
  case atStart => exact ⟨0, Nat.zero_le _, rfl, World.ownsRow_nil _ _ _ _, Below.refl _ _⟩
  case round =>
    obtain ⟨k, hk, rfl, hown, hB⟩ := hrel
    by_cases hlt : k < r.length
    · obtain ⟨p, hp⟩ : ∃ p, r[k]? = some p := ⟨_, List.getElem?_eq_getElem hlt⟩
      obtain ⟨p1, p2⟩ := p
      obtain ⟨b, o, rfl, q1, q2⟩ := HA.out k _ hp
      have h1 := cell_later hB q1
      have h2 := cell_later hB q2
      have hpb := HB.out _ (List.mem_of_getElem? hp)
      simp only at h1 h2 hpb q1 q2
      have HT : Sec ((r.take (k + 1)).map turnP = (r.take k).map turnP ++ [(-p1, p2)]) := ⟨by
        obtain ⟨hk', e⟩ := List.getElem?_eq_some_iff.1 hp
        rw [List.take_succ_eq_append_getElem hk', List.map_append, e]; rfl⟩
      have hlen : ((r.take k).map turnP).length = k := by simp; omega
      have HO := Sec.mk hown
      have HL := Sec.mk hlen
      have HBk := Sec.mk hB
      have hBs := hB.size
      have hwp : IntKind.i64.wrap (-p1) = -p1 := IntWalk.i64_in _ ⟨by omega, by omega⟩
      have hbl : b < wr.heap.size := World.block_lt_of_cell? _ _ h1
      clear hp hown hlen hB
      go_wp2_with fail
      go_region_held3 (fun w' => w'.cell? ⟨b, o + k * 2, none⟩ = some (.int .i64 p1) ∧ w'.cell? ⟨b, o + k * 2 + 1, none⟩ = some (.int .i64 p2))
        (first | assumption | exact ⟨h1, h2⟩ | go_keep | exact ⟨cell_later hbA q1, cell_later hbA q2⟩)
        ((refine step_append_lies _ (by rfl) _ _ _ (by rfl) w.heap.size 80 i0 _ 2 16 Tryd.underlying35 HI.out Z0.out Z1.out Z2.out (by rfl) (by omega) u4 ((r.take k).map turnP).length (partCells ((r.take k).map turnP)) (by rfl) ((HO.out.alloc _).drew) ⟨wr.heap.size, 0, none⟩ 1 1 [.int .i64 (-p1), .int .i64 p2] (by rfl) (by rfl) (World.news_of_block (cs := #[.int .i64 (-p1), .int .i64 p2]) (t := 80) (fr := (0, 0)) (heap_alloc_new wr _)) (by simp [Value.oneCell']) (by omega) (by rw [HL.out]; unfold maxLen; omega) (by rw [HL.out]; omega) (by simp; omega) (wr.heap.size + 1) (by simp) ?_; intro g cap w1 hown1 hgrow hat hlt1; have hbA : Below w.heap.size w w1 := (HBk.out.alloc hBs _).drew.grown hgrow (by simp; omega) (fun k hk => (HO.out.lt k hk).1)))
      have hown2 : w1.ownsRow w.heap.size 80 2 (.slice (some ⟨g, 0, none⟩) (k + 1) cap) ((r.take (k + 1)).map turnP).length (partCells ((r.take (k + 1)).map turnP)) := by
        rw [show ((r.take (k + 1)).map turnP).length = k + 1 by simp; omega, HT.out, partCells_append, partCells_one]
        rw [HL.out] at hown1
        exact hown1
      have HO2 := Sec.mk hown2
      clear hown1 hgrow hown2 hat
      go_wp2_with fail
      exact ⟨⟨k + 1, hlt, rfl, HO2.out, hbA⟩, by simp only [intOf]; omega⟩
    · have hk0 : k = r.length := by omega
      rw [hk0, List.take_length] at hown
      clear hk0
      have HO := Sec.mk hown
      clear hown
      go_wp2_with fail
      go_ret2
      exact ⟨_, rfl, HO.out, hB⟩
end Go.Proofs.YtfajnggdlhbgnaaDoor
