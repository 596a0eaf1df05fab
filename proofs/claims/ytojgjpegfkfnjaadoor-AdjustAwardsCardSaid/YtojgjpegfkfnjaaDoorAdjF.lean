/- adjust: one, Sides. -/
import Derived.Test.YtojgjpegfkfnjaaDoorAdjE
namespace Go.Proofs.YtojgjpegfkfnjaaDoor
open Go.RowKit
set_option linter.unusedVariables false
set_option linter.unusedSimpArgs false
set_option maxRecDepth 100000

/-- The points of an outcome that counts whole. -/
def oneZ (o : Oc) (u : Int) : Int := if okSO o u then scO o u else 0
set_option maxHeartbeats 1000000 in
theorem adjOne_any (o : Oc) (u : Int) (w : World) (ho : o.ok) (hu : 0 ≤ u ∧ u ≤ 255) : Calls Tryd.prog 31 #[ocV o, .int .u8 u] w fun e w' => (∃ g, e = .returned (.slice (some ⟨g, 0, none⟩) 1 1) ∧ w.heap.size ≤ g ∧ g < w'.heap.size ∧ Parts w' (some ⟨g, 0, none⟩) [(oneZ o u, 100)]) ∧ Below w.heap.size w w' := by
  have HS := Sec.mk fun w' => scoreO_any o u w' ho hu
  have hz : Sec (oneZ o u = if okSO o u then scO o u else 0) := ⟨rfl⟩
  rw [← hz.out] at HS
  clear ho hz
  generalize oneZ o u = z at *
  generalize (if okSO o u then (0 : Int) else 2) = er at *
  obtain ⟨x0, x1, x2, x3, x4, x5⟩ := o
  dsimp only at HS
  go_enter Tryd.func31, Tryd.ntmps31
  go_wp2_with fail
  obtain ⟨W, g, e1, e2, P, hb1⟩ := oc_box w ⟨x0, x1, x2, x3, x4, x5⟩
  dsimp only at e1
  rw [← e1, ← e2]
  clear e1 e2
  obtain ⟨c0, c1, c2, c3, c4, c5⟩ := oc_cells P
  refine (HS.out _).mono ?_
  rintro e w2 ⟨rfl, hb2⟩
  have hB2 := sbtr hb1 hb2
  clear P HS hb1 hb2 c0 c1 c2 c3 c4 c5
  go_wp2_with fail
  refine (one_any z w2).mono ?_
  rintro e w3 ⟨rfl, rfl⟩
  have hp := (parts_block1 w2 z 100).1
  have hs : w2.heap.size < (w2.alloc (.cells #[.int .i64 z, .int .i64 100] 47)).heap.size := by simp
  have hB3 := sbtr hB2 (sst1 w2 (.cells #[.int .i64 z, .int .i64 100] 47))
  have hle := hB2.size
  obtain ⟨W3, e3⟩ : ∃ W3, W3 = w2.alloc (.cells #[.int .i64 z, .int .i64 100] 47) := ⟨_, rfl⟩
  rw [← e3] at hp hs hB3 ⊢
  obtain ⟨G, e4⟩ : ∃ G, G = w2.heap.size := ⟨_, rfl⟩
  rw [← e4] at hp hs hle ⊢
  clear e3 e4
  have hp' := Sec.mk hp
  clear hp
  go_wp2_with fail
  go_ret
  exact ⟨⟨G, rfl, hle, hs, hp'.out⟩, hB3⟩
theorem madeQ_small {l d r s m : Int} {v : Bool} (h : okQ l d r s) (hm : 0 ≤ m ∧ m ≤ 6) : 0 ≤ madeQ l d r m v ∧ madeQ l d r m v ≤ 10000 := by
  have hb := bidQ_bd h
  obtain ⟨hl, hd, hr, hs⟩ := h
  have h1 := slam_bd 500 1000 l (by omega)
  have h2 := slam_bd 750 1500 l (by omega)
  have h3 : r = 0 ∨ r = 1 ∨ r = 2 := by omega
  have hV : valZ d = 20 ∨ valZ d = 30 := by unfold valZ; split <;> simp
  unfold madeQ
  generalize bidQ l d r = B at *
  unfold overZ byZ
  rcases h3 with rfl | rfl | rfl <;> rcases hV with hV | hV <;> rw [hV] <;> cases v <;> simp <;> (try split) <;> omega
theorem lostS_small {r m : Int} {v : Bool} (hr : 0 ≤ r ∧ r ≤ 2) (hm : 0 ≤ m ∧ m ≤ 13) : 0 ≤ lostS r m v ∧ lostS r m v ≤ 10000 := by
  have h3 : r = 0 ∨ r = 1 ∨ r = 2 := by omega
  unfold lostS downZ overZ dblZ byZ
  rcases h3 with rfl | rfl | rfl <;> cases v <;> simp <;> (repeat' split) <;> omega
theorem scoreG_small {l d r s n u : Int} (hb : Byt4 l d r s) (h : okRB l d r s n = true) : -10000 ≤ scoreG l d r s n u ∧ scoreG l d r s n u ≤ 10000 := by
  unfold scoreG
  by_cases h0 : l = 0
  · rw [if_pos h0]; omega
  · rw [if_neg h0]
    obtain ⟨hq, hn⟩ := okRB_Q hb h h0
    have hp : -10000 ≤ pointsQ l d r n (vulB u s) ∧ pointsQ l d r n (vulB u s) ≤ 10000 := by
      unfold pointsQ
      split
      · have := madeQ_small (v := vulB u s) hq (m := n - (l + 6)) (by have := hq.1; omega)
        omega
      · have := lostS_small (v := vulB u s) hq.2.2.1 (m := l + 6 - n) (by have := hq.1; omega)
        omega
    unfold scoreQ
    split <;> omega
theorem oneZ_small {o : Oc} (u : Int) (ho : o.ok) : -10000 ≤ oneZ o u ∧ oneZ o u ≤ 10000 := by
  unfold oneZ
  split
  · rename_i h
    unfold okSO okSB at h
    simp only [Bool.and_eq_true] at h
    exact scoreG_small ho.1 h.1
  · omega
theorem one_right {z : Int} (h : -10000 ≤ z ∧ z ≤ 10000) : rightR [(z, 100)] = true := by
  unfold rightR
  simp [badPart]; omega
/-- The weighted outcomes of an entry that is right make a right result. -/
theorem wtd_right {e : En} {u : Int} (he : e.ok) (hu : 0 ≤ u ∧ u ≤ 3) (h : wtdB e = true) : okW (e.outs.take (wtN e.outs)) u = true := by
  unfold wtdB at h
  simp only [Bool.and_eq_true, decide_eq_true_eq, Bool.not_eq_true'] at h
  obtain ⟨⟨⟨⟨h1, h2⟩, h3⟩, h4⟩, h5⟩ := h
  have hl : (e.outs.take (wtN e.outs)).length ≤ 4 := by rw [List.length_take, outs_len]; omega
  have hok := outs_ok_take he (wtN e.outs)
  generalize e.outs.take (wtN e.outs) = l at *
  have hgood : ∀ o ∈ l, playedB o = true ∧ 1 ≤ o.wt ∧ o.wt ≤ 100 := fun o ho => by
    have h6 := List.any_eq_false.1 h1 o ho
    unfold someB at h4
    have h7 := List.any_eq_false.1 (by simpa using h4) o ho
    simp [badO] at h6 h7
    exact ⟨h7.1.1, by omega, by omega⟩
  unfold okW
  have ha : l.all (okSO · u) = true := List.all_eq_true.2 fun o ho => by
    unfold okSO okSB
    have := (hgood o ho).1
    unfold playedB at this
    rw [this]; simp; omega
  have hr : rightR (partsO l u) = true := by
    unfold rightR
    have hs : ((partsO l u).map (·.2)).sum = 100 := by
      have e1 : (partsO l u).map (·.2) = l.map (·.wt) := by unfold partsO; rw [List.map_map]; rfl
      rw [e1]; exact h3
    have hb : (partsO l u).any badPart = false := List.any_eq_false.2 fun p hp => by
      unfold partsO at hp
      obtain ⟨o, ho, rfl⟩ := List.mem_map.1 hp
      have h8 := hgood o ho
      have h9 := h8.1
      unfold playedB at h9
      have := scoreG_small (u := u) (hok o ho).1 h9
      unfold scO
      generalize scoreG o.l o.d o.r o.s o.n u = z at *
      simp only [badPart, Bool.or_eq_true, decide_eq_true_eq, not_or]
      omega
    have hln : (partsO l u).length ≤ 4 := by unfold partsO; simpa using hl
    have hne : ¬ (partsO l u).length = 0 := fun h0 => by
      have : partsO l u = [] := List.eq_nil_of_length_eq_zero h0
      rw [this] at hs; simp at hs
    have hln' : ¬ 4 < (partsO l u).length := by omega
    rw [hb, hs, decide_eq_false hne, decide_eq_false hln']
    rfl
  rw [ha, hr]
  simp; omega
end Go.Proofs.YtojgjpegfkfnjaaDoor
