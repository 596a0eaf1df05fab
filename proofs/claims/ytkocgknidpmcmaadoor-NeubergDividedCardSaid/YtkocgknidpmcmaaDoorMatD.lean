/- Package match: Points. -/
import Derived.Test.YtkocgknidpmcmaaDoorMatC
namespace Go.Proofs.YtkocgknidpmcmaaDoor
open Go.RowKit
set_option linter.unusedVariables false
set_option linter.unusedSimpArgs false

/-- A rational number as the two numbers that hold it. -/
def qp (q : Rat) : Int × Int := (q.num, (q.den : Int))
/-- The matchpoints of a result among results (times 10000), and as a rational number. -/
def matchN (l : List (List (Int × Int))) (a : List (Int × Int)) : Int := (l.map (gainR a)).sum - gainR a a
def matchQ (l : List (List (Int × Int))) (a : List (Int × Int)) : Rat := (matchN l a : Rat) / ((10000 : Int) : Rat)

set_option maxHeartbeats 1000000 in
theorem Points_wrong (A : Option Addr) (c : Nat) (l : List (List (Int × Int))) (w : World) (hA : Ress w A l) (hl : l.length ≤ 140737488351232) (hls : ∀ r ∈ l, r.length ≤ 140737488351232) (h : l.any (fun r => !rightR r) = true) :
    Calls Tryd.prog 26 #[.slice A l.length c] w fun e w' => e = .returned (.tuple #[.slice none 0 0, .int .i64 2]) ∧ Below w.heap.size w w' := by
  have HC := Sec.mk (contains_ress 57 #[] (fun r => !rightR r) A c l w hA hl cf37 (fun i p hp w' Ai ci _ hp' => points1 Ai ci p w' hp' (hls p (List.mem_of_getElem? hp))))
  rw [h] at HC
  clear hA h hls
  go_enter Tryd.func26, Tryd.ntmps26
  go_wp2_with fail
  refine HC.out.mono ?_; rintro e w1 ⟨rfl, hb1⟩
  go_wp2_with fail
  go_ret2
  exact ⟨rfl, hb1⟩

set_option maxHeartbeats 1000000 in
theorem Points_many (A : Option Addr) (c : Nat) (l : List (List (Int × Int))) (w : World) (hA : Ress w A l) (hl : l.length ≤ 140737488351232) (hls : ∀ r ∈ l, r.length ≤ 140737488351232) (h : l.any (fun r => !rightR r) = false) (hm : 24 < l.length) :
    Calls Tryd.prog 26 #[.slice A l.length c] w fun e w' => e = .returned (.tuple #[.slice none 0 0, .int .i64 5]) ∧ Below w.heap.size w w' := by
  have HC := Sec.mk (contains_ress 57 #[] (fun r => !rightR r) A c l w hA hl cf37 (fun i p hp w' Ai ci _ hp' => points1 Ai ci p w' hp' (hls p (List.mem_of_getElem? hp))))
  rw [h] at HC
  clear hA h hls
  have hm' : (24 : Int) < (l.length : Int) := by omega
  go_enter Tryd.func26, Tryd.ntmps26
  go_wp2_with fail
  refine HC.out.mono ?_; rintro e w1 ⟨rfl, hb1⟩
  go_wp2_with fail
  go_ret2
  exact ⟨rfl, hb1⟩

theorem infoFrac : (Tryd.prog.info? 23).map (fun i => (i.zero, i.size, i.bytes)) = some (some (.agg #[.int .i64 0, .int .i64 0]), 2, 16) := by kernel_rfl

def PtsRel (w : World) (l : List (List (Int × Int))) (v i : Value) (wr : World) : Prop :=
  ∃ k : Nat, k ≤ l.length ∧ i = .int .i64 k ∧ wr.ownsRow w.heap.size 23 2 v ((l.take k).map fun a => qp (matchQ l a)).length (partCells ((l.take k).map fun a => qp (matchQ l a))) ∧ Below w.heap.size w wr

theorem new2d {w w2 : World} {u v : Value} {T : Nat} (hb : Below (w.alloc (.cells #[u, v] T)).drew.heap.size (w.alloc (.cells #[u, v] T)).drew w2) :
    w2.cell? ⟨w.heap.size, 0, none⟩ = some u ∧ w2.cell? ⟨w.heap.size, 1, none⟩ = some v ∧ w2.frozen? ⟨w.heap.size, 0, none⟩ = false ∧ w2.frozen? ⟨w.heap.size, 1, none⟩ = false ∧ w.heap.size < w2.heap.size :=
  kept2 (n := 1) hb
theorem carry2 {w w2 : World} {u v : Value} {g : Nat} (hb : Below w.heap.size w w2) (h1 : w.cell? ⟨g, 0, none⟩ = some u) (h2 : w.cell? ⟨g, 1, none⟩ = some v) (h3 : w.frozen? ⟨g, 0, none⟩ = false) (h4 : w.frozen? ⟨g, 1, none⟩ = false) (h5 : g < w.heap.size) :
    w2.cell? ⟨g, 0, none⟩ = some u ∧ w2.cell? ⟨g, 1, none⟩ = some v ∧ w2.frozen? ⟨g, 0, none⟩ = false ∧ w2.frozen? ⟨g, 1, none⟩ = false ∧ g < w2.heap.size :=
  ⟨cell_later hb h1, cell_later hb h2, (hb.frozen (p := ⟨g, 0, none⟩) h5).trans h3, (hb.frozen (p := ⟨g, 1, none⟩) h5).trans h4, Nat.lt_of_lt_of_le h5 hb.size⟩

def PtsCut (wr : World) (N D : Int) (s7 s8 : Value) (wx : World) : Prop :=
  ∃ g : Nat, s7 = .pointer (some ⟨g, 0, none⟩) ∧ s8 = .int .i64 0 ∧ wr.heap.size ≤ g ∧ g < wx.heap.size ∧ wx.cell? ⟨g, 0, none⟩ = some (.int .i64 N) ∧ wx.cell? ⟨g, 1, none⟩ = some (.int .i64 D) ∧ Below wr.heap.size wr wx

theorem matchN_bd (l : List (List (Int × Int))) (a : List (Int × Int)) (ha : weightsOk a) (hl : ∀ r ∈ l, weightsOk r) (hn : l.length ≤ 24) : -320000 ≤ matchN l a ∧ matchN l a ≤ 320000 * 24 := by
  have h1 := sum_bd (gainR a) l 320000 (by omega) (fun r hr => gainR_bd a r ha (hl r hr))
  have h2 := gainR_bd a a ha ha
  unfold matchN
  omega

set_option maxRecDepth 100000 in
set_option maxHeartbeats 2000000 in
theorem Points_right (A : Option Addr) (c : Nat) (l : List (List (Int × Int))) (w : World) (hA : Ress w A l) (hG : Gets w) (h : l.any (fun r => !rightR r) = false) (hn : l.length ≤ 24) :
    Calls Tryd.prog 26 #[.slice A l.length c] w fun e w' => ∃ v, e = .returned (.tuple #[v, .int .i64 0]) ∧ w'.ownsRow w.heap.size 23 2 v (l.map fun a => qp (matchQ l a)).length (partCells (l.map fun a => qp (matchQ l a))) ∧ Below w.heap.size w w' := by
  obtain ⟨i0, hi, hz0, hz1, hz2⟩ := info_parts infoFrac
  have hrt : ∀ r ∈ l, rightR r = true := by
    intro r hr
    have := List.any_eq_false.1 h r hr
    simpa using this
  have hw : ∀ r ∈ l, weightsOk r := fun r hr => right_weights (hrt r hr)
  have HC := Sec.mk (contains_ress 57 #[] (fun r => !rightR r) A c l w hA (by omega) cf37 (fun i p hp w' Ai ci _ hp' => points1 Ai ci p w' hp' (by have := (hw p (List.mem_of_getElem? hp)).1; omega)))
  rw [h] at HC
  have hn' : ¬ (24 : Int) < (l.length : Int) := by omega
  have HA := Sec.mk hA
  have HG := Sec.mk hG
  have HW := Sec.mk hw
  have HI := Sec.mk hi
  have Z0 := Sec.mk hz0
  have Z1 := Sec.mk hz1
  have Z2 := Sec.mk hz2
  clear hA hG h hrt hw hi hz0 hz1 hz2
  go_enter Tryd.func26, Tryd.ntmps26
  go_wp2_with fail
  refine HC.out.mono ?_; rintro e w1 ⟨rfl, hb1⟩
  clear HC
  go_wp2_with fail
  go_loopw [4, 18] (fun v i wr => PtsRel w l v i wr) (fun _ i _ => l.length - (intOf i).toNat)
  case atStart => exact ⟨0, Nat.zero_le _, rfl, World.ownsRow_nil _ _ _ _, hb1⟩
  case round =>
    clear hb1
    obtain ⟨k, hk, rfl, hown, hB⟩ := hrel
    by_cases hlt : k < l.length
    · obtain ⟨a, hp⟩ : ∃ a, l[k]? = some a := ⟨_, List.getElem?_eq_getElem hlt⟩
      obtain ⟨b, o, rfl, Ai, ci, h1, h2⟩ := HA.out.later hB k a hp
      have hwa := HW.out a (List.mem_of_getElem? hp)
      have hbd := matchN_bd l a hwa HW.out hn
      have hga := gainR_bd a a hwa hwa
      have hgs := sum_bd (gainR a) l 320000 (by omega) (fun r hr => gainR_bd a r hwa (HW.out r hr))
      have HT : Sec ((l.take (k + 1)).map (fun a => qp (matchQ l a)) = (l.take k).map (fun a => qp (matchQ l a)) ++ [qp (matchQ l a)]) := ⟨by
        obtain ⟨hk', rfl⟩ := List.getElem?_eq_some_iff.1 hp
        rw [List.take_succ_eq_append_getElem hk', List.map_append]; rfl⟩
      have hlen : ((l.take k).map (fun a => qp (matchQ l a))).length = k := by simp; omega
      have hB0 := hB.size
      have CT := Sec.mk (fun (w' : World) (hw' : Below wr.heap.size wr w') (hcell : w'.cell? ⟨wr.heap.size, 0, none⟩ = some (.slice Ai a.length ci)) =>
        total_ress 60 #[.pointer (some ⟨wr.heap.size, 0, none⟩)] (gainR a) (some ⟨b, o, none⟩) c l w' ((HA.out.later hB).later hw') (by omega) cf40
          (fun i p hp w'' Bi di hw'' hp' => points2 Ai Bi ci di wr.heap.size a p w'' (cell_later hw'' hcell) ((h2.later hw').later hw'') hp' (((HG.out.later hB).later hw').later hw'') hwa (HW.out p (List.mem_of_getElem? hp)))
          (fun k hk => by have := sumTo_bd (gainR a) l 320000 (by omega) (fun r hr => gainR_bd a r hwa (HW.out r hr)) k hk; omega))
      have CC := Sec.mk (fun (w' : World) (hw' : Below wr.heap.size wr w') => compare_any Ai Ai ci ci a a w' (h2.later hw') (h2.later hw') ((HG.out.later hB).later hw') hwa hwa)
      have CM := Sec.mk (fun (w' : World) => make_q (matchN l a) 10000 w' (by omega) (by omega))
      have eq1 : (matchN l a : Rat) / ((10000 : Int) : Rat) = matchQ l a := rfl
      rw [eq1] at CM
      have EN : Sec (matchN l a = (l.map (gainR a)).sum - gainR a a) := ⟨rfl⟩
      have HO := Sec.mk hown
      have HL := Sec.mk hlen
      have hal := hwa.1
      clear hp hown hlen hwa h2 eq1
      have HQ : Sec (qp (matchQ l a) = ((matchQ l a).num, ((matchQ l a).den : Int))) := ⟨rfl⟩
      generalize matchN l a = MN at *
      generalize (l.map (gainR a)).sum = GS at *
      generalize gainR a a = GA at *
      generalize (matchQ l a).num = qn at *
      generalize ((matchQ l a).den : Int) = qd at *
      have em : GS - GA = MN := EN.out.symm
      go_upto_region 9 with fail
      go_cut [7, 8] (fun s7 s8 wx => PtsCut wr qn qd s7 s8 wx)
      case first =>
        have ew : IntKind.i64.wrap MN = MN := IntWalk.i64_in _ ⟨by omega, by omega⟩
        have hBx := Below.refl wr.heap.size wr
        have hsz := hBx.size
        go_region_held3 (fun w' => w'.cell? ⟨wr.heap.size, 0, none⟩ = some (.slice Ai a.length ci))
          (first | assumption | (go_simp; done) | exact cell_later hb1 (by assumption) | exact cell_later hb1 (by go_simp) | exact cell_later ((Below.refl _ _).alloc (Nat.le_refl _) _) hcl | exact cell_later ((Below.refl _ _).alloc (Nat.le_refl _) _) (by assumption) | exact cell_later ((Below.refl _ _).alloc (Nat.le_refl _) _).drew (by assumption))
          ((first
            | (go_at_call 59; refine (CT.out _ ?_ ?_).mono ?_; (repeat (first | exact hBx | refine Below.drew ?_ | refine Below.alloc ?_ (by first | omega | (simp; omega) | simp) _)); go_simp; rintro e w1 ⟨rfl, hb1⟩; have hBx : Below wr.heap.size wr w1 := Below.trans (by repeat (first | exact hBx | refine Below.drew ?_ | refine Below.alloc ?_ (by first | omega | (simp; omega) | simp) _)) (hb1.mono (by first | omega | (simp; omega) | simp)); have hsz := hBx.size; have hcl : w1.cell? ⟨wr.heap.size, 0, none⟩ = some (.slice Ai a.length ci) := cell_later hb1 (by first | assumption | (go_simp; done)); have hlt1 : wr.heap.size < w1.heap.size := World.block_lt_of_cell? _ _ hcl; (first | (have pf := new2 hb1; obtain ⟨pf1, pf2, pf3, pf4, pf5⟩ := pf) | (have pf := new2d hb1; obtain ⟨pf1, pf2, pf3, pf4, pf5⟩ := pf) | (have pf := carry2 hb1 pf1 pf2 pf3 pf4 pf5; obtain ⟨pf1, pf2, pf3, pf4, pf5⟩ := pf) | skip); (try simp only [World.size_alloc, World.size_drew] at pf1 pf2 pf3 pf4 pf5))
            | (go_at_call 61; refine (CC.out _ ?_).mono ?_; (repeat (first | exact hBx | refine Below.drew ?_ | refine Below.alloc ?_ (by first | omega | (simp; omega) | simp) _)); rintro e w1 ⟨rfl, hb1⟩; have hBx : Below wr.heap.size wr w1 := Below.trans (by repeat (first | exact hBx | refine Below.drew ?_ | refine Below.alloc ?_ (by first | omega | (simp; omega) | simp) _)) (hb1.mono (by first | omega | (simp; omega) | simp)); have hsz := hBx.size; have hcl : w1.cell? ⟨wr.heap.size, 0, none⟩ = some (.slice Ai a.length ci) := cell_later hb1 (by first | assumption | (go_simp; done)); have hlt1 : wr.heap.size < w1.heap.size := World.block_lt_of_cell? _ _ hcl; (first | (have pf := new2 hb1; obtain ⟨pf1, pf2, pf3, pf4, pf5⟩ := pf) | (have pf := new2d hb1; obtain ⟨pf1, pf2, pf3, pf4, pf5⟩ := pf) | (have pf := carry2 hb1 pf1 pf2 pf3 pf4 pf5; obtain ⟨pf1, pf2, pf3, pf4, pf5⟩ := pf) | skip); (try simp only [World.size_alloc, World.size_drew] at pf1 pf2 pf3 pf4 pf5))
            | (go_at_call 39; refine (CM.out _).mono ?_; rintro e w1 ⟨rfl, hb1⟩; have hBx : Below wr.heap.size wr w1 := Below.trans (by repeat (first | exact hBx | refine Below.drew ?_ | refine Below.alloc ?_ (by first | omega | (simp; omega) | simp) _)) (hb1.mono (by first | omega | (simp; omega) | simp)); have hsz := hBx.size; have hcl : w1.cell? ⟨wr.heap.size, 0, none⟩ = some (.slice Ai a.length ci) := cell_later hb1 (by first | assumption | (go_simp; done)); have hlt1 : wr.heap.size < w1.heap.size := World.block_lt_of_cell? _ _ hcl; (first | (have pf := new2 hb1; obtain ⟨pf1, pf2, pf3, pf4, pf5⟩ := pf) | (have pf := new2d hb1; obtain ⟨pf1, pf2, pf3, pf4, pf5⟩ := pf) | (have pf := carry2 hb1 pf1 pf2 pf3 pf4 pf5; obtain ⟨pf1, pf2, pf3, pf4, pf5⟩ := pf) | skip); (try simp only [World.size_alloc, World.size_drew] at pf1 pf2 pf3 pf4 pf5))))
        all_goals (go_wp2_with fail; go_meet; refine ⟨_, rfl, rfl, ?_, ?_, ?_, ?_, ?_⟩)
        all_goals first
          | omega
          | (simp; omega)
          | (go_simp; done)
          | exact (hBx.setCell (by first | omega | (simp; done) | (simp; omega)) _).setCell (by first | omega | (simp; done) | (simp; omega)) _
          | exact hBx.alloc hsz _
      case rest =>
        obtain ⟨g, rfl, rfl, g1, g2, g3, g4, hBc⟩ := hcut
        have HO2 := Sec.mk (own_below HO.out hBc)
        have hBw : Below w.heap.size w wc := hB.trans (hBc.mono hB0)
        have hBws := hBw.size
        clear em CT CC CM
        go_wp2_with (at_builtin; refine wpList_append_own _ rfl _ _ 38 rfl w.heap.size 23 i0 _ 2 16 Tryd.underlying38 HI.out Z0.out Z1.out Z2.out rfl (by decide) _ _ _ rfl (HO2.out.alloc _) ⟨wc.heap.size, 0, none⟩ 1 1 [.int .i64 qn, .int .i64 qd] rfl rfl ?c1 ?c2 ?c3 ?c4 ?c5 ?_)
        case c1 => exact news2 _ rfl
        case c2 => intro u hu; simp at hu; rcases hu with rfl | rfl <;> rfl
        case c3 => rw [HL.out]; unfold maxLen; omega
        case c4 => rw [HL.out]; omega
        case c5 => simp; omega
        intro v' w2 hown' hgrow _
        have hown2 : w2.ownsRow w.heap.size 23 2 v' ((l.take (k + 1)).map fun a => qp (matchQ l a)).length (partCells ((l.take (k + 1)).map fun a => qp (matchQ l a))) := by
          rw [show ((l.take (k + 1)).map fun a => qp (matchQ l a)).length = k + 1 by simp; omega, HT.out, partCells_append, HQ.out]
          rw [← List.map_take] at hown'
          exact hown'
        have hB2 : Below w.heap.size w w2 := (hBw.alloc hBws _).grown hgrow (by simp; omega) (fun k hk => (HO2.out.lt k hk).1)
        have HO3 := Sec.mk hown2
        clear hown' hgrow hown2
        go_wp2_with fail
        exact ⟨⟨k + 1, hlt, rfl, HO3.out, hB2⟩, by simp only [intOf]; omega⟩
    · have hk0 : k = l.length := by omega
      rw [hk0, List.take_length] at hown
      clear hk0
      have HO := Sec.mk hown
      clear hown
      go_wp2_with fail
      go_ret2
      exact ⟨_, rfl, HO.out, hB⟩
end Go.Proofs.YtkocgknidpmcmaaDoor
