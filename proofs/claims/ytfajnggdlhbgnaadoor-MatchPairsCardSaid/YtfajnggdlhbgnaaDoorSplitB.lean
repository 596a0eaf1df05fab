/- MatchSplit: the walk. -/
import Derived.Test.YtfajnggdlhbgnaaDoorSplitA
namespace Go.Proofs.YtfajnggdlhbgnaaDoor
open Go.RowKit
set_option linter.unusedVariables false
set_option linter.unusedSimpArgs false

theorem Ints.take {w : World} {k : IntKind} {A : Option Addr} {l : List Int} (h : Ints w k A l) (n : Nat) : Ints w k A (l.take n) := fun i x hx => by
  refine h i x ?_
  rcases Nat.lt_or_ge i n with hl | hl
  · rwa [List.getElem?_take_of_lt hl] at hx
  · rw [List.getElem?_eq_none (by simp; omega)] at hx; cases hx

/-- What a small result looks like. -/
def smallV (p wt : Int) (A : Option Addr) (n c : Nat) : Value := .agg #[.int .i16 p, .int .u8 wt, .slice A n c]
def SmallOk (w : World) (p wt : Int) (A : Option Addr) (c : Nat) (l : List Int) : Prop :=
  (-32768 ≤ p ∧ p ≤ 32767) ∧ (0 ≤ wt ∧ wt ≤ 255) ∧ Ints w .i16 A l ∧ (∀ x ∈ l, -32768 ≤ x ∧ x ≤ 32767) ∧ l.length ≤ c ∧ c ≤ 9223372036854775807
theorem SmallOk.later {w w' : World} {p wt : Int} {A : Option Addr} {c : Nat} {l : List Int} (h : SmallOk w p wt A c l) (hb : Below w.heap.size w w') : SmallOk w' p wt A c l :=
  ⟨h.1, h.2.1, h.2.2.1.later hb, h.2.2.2⟩
theorem SmallOk.take {w : World} {p wt : Int} {A : Option Addr} {c : Nat} {l : List Int} (h : SmallOk w p wt A c l) (n : Nat) : SmallOk w p wt A c (l.take n) :=
  ⟨h.1, h.2.1, h.2.2.1.take n, fun x hx => h.2.2.2.1 x (List.mem_of_mem_take hx), by have := h.2.2.2.2; simp; omega⟩
theorem Made_ok {w : World} {p wt : Int} {A : Option Addr} {c : Nat} {l : List Int} (h : SmallOk w p wt A c l) :
    Calls Tryd.prog 16 #[.agg #[.int .i16 p, .int .u8 wt, .slice A l.length c]] w fun e w' => ∃ A' c', e = .returned (.slice A' (madeR p wt l).length c') ∧ PartsB w' A' (madeR p wt l) ∧ Below w.heap.size w w' :=
  (Made_any p wt A c l w h.1 h.2.1 h.2.2.1 h.2.2.2.1 h.2.2.2.2).mono fun e w' ⟨v, e1, e2, e3⟩ => by
    obtain ⟨A', c', rfl, h1, -⟩ := partsB_of_own e2
    exact ⟨A', c', e1, h1, e3⟩

theorem six {w : World} {x1 x2 x3 x4 x5 x6 : Addr × Value} (h : Bund w [x1, x2, x3, x4, x5, x6]) :
    w.cell? x1.1 = some x1.2 ∧ w.cell? x2.1 = some x2.2 ∧ w.cell? x3.1 = some x3.2 ∧ w.cell? x4.1 = some x4.2 ∧ w.cell? x5.1 = some x5.2 ∧ w.cell? x6.1 = some x6.2 := by
  refine ⟨?_, ?_, ?_, ?_, ?_, ?_⟩ <;> exact h _ (by simp)
def SplitCut (w : World) (a b : List (Int × Int)) (v9 v10 : Value) (wx : World) : Prop :=
  ∃ A cA B cB, v9 = .slice A a.length cA ∧ v10 = .slice B b.length cB ∧ PartsB wx A a ∧ PartsB wx B b ∧ Below w.heap.size w wx

theorem accS_step (a : List (Int × Int)) (j t : Nat) (h : t + 1 ≤ a.length) : accS a j (a.length - t) = accS a j (a.length - (t + 1)) ++ (if t = j then [] else [a.getD t (0, 0)]) := by
  have e : a.length - t = (a.length - (t + 1)) + 1 := by omega
  rw [e, accS, show a.length - 1 - (a.length - (t + 1)) = t by omega]
theorem accS_len (a : List (Int × Int)) (j k : Nat) : (accS a j k).length ≤ k := by
  induction k with
  | zero => simp [accS]
  | succ k ih =>
    unfold accS
    rw [List.length_append]
    have : (if a.length - 1 - k = j then ([] : List (Int × Int)) else [a.getD (a.length - 1 - k) (0, 0)]).length ≤ 1 := by split <;> simp
    omega
def SplitRel (wd : World) (a : List (Int × Int)) (j : Nat) (f : Int × Int) (v i : Value) (wr : World) : Prop :=
  ∃ t : Nat, t ≤ a.length ∧ i = .int .i64 ((t : Int) - 1) ∧ wr.ownsRow wd.heap.size 44 2 v (f :: accS a j (a.length - t)).length (partCells (f :: accS a j (a.length - t))) ∧ Below wd.heap.size wd wr

set_option maxRecDepth 100000 in
set_option maxHeartbeats 4000000 in
theorem MatchSplit_any (p1 wt1 : Int) (A1 : Option Addr) (c1 : Nat) (l1 : List Int) (p2 wt2 : Int) (A2 : Option Addr) (c2 : Nat) (l2 : List Int) (which ato : Int) (w : World)
    (h1 : SmallOk w p1 wt1 A1 c1 l1) (h2 : SmallOk w p2 wt2 A2 c2 l2) (hw : 0 ≤ which ∧ which ≤ 255) (ht : 0 ≤ ato ∧ ato ≤ 255) (hG : Gets w) :
    Calls Tryd.prog 4 #[.agg #[.int .i16 p1, .int .u8 wt1, .slice A1 l1.length c1], .agg #[.int .i16 p2, .int .u8 wt2, .slice A2 l2.length c2], .int .u8 which, .int .u8 ato] w fun e w' => e = .returned (.bool true) ∧ Below w.heap.size w w' := by
  obtain ⟨n, hn⟩ : ∃ n : Nat, n = min l1.length 2 := ⟨_, rfl⟩
  have hmin : (if (2 : Int) < (l1.length : Int) then (2 : Int) else (l1.length : Int)) = (n : Int) := by split <;> omega
  have hnl : n ≤ l1.length := by omega
  have hlt : (l1.take n).length = n := by simp; omega
  have HM1 := Sec.mk fun (w' : World) (h : Below w.heap.size w w') => Made_ok ((h1.later h).take n)
  have HM2 := Sec.mk fun (w' : World) (h : Below w.heap.size w w') => Made_ok (h2.later h)
  rw [hlt] at HM1
  have ra := Sec.mk (made_right p1 wt1 (l1.take n) h1.2.1.1)
  have rb := Sec.mk (made_right p2 wt2 l2 h2.2.1.1)
  have la := made_len p1 wt1 (l1.take n)
  rw [hlt] at la
  have hn2 : n ≤ 2 := by omega
  have HG := Sec.mk hG
  have hc1 := h1.2.2.2.2
  have hnc : n ≤ c1 := by omega
  have HC1 : Sec (c1 ≤ 9223372036854775807) := ⟨hc1.2⟩
  have HC2 := Sec.mk h2.2.2.2.2
  have hcl : l1.length ≤ c1 := hc1.1
  clear h1 h2 hG hn hlt hc1
  generalize madeR p1 wt1 (l1.take n) = a at *
  generalize madeR p2 wt2 l2 = b at *
  obtain ⟨i0, hi, hz0, hz1, hz2⟩ := info_parts infoPart
  have HI := Sec.mk hi
  have Z0 := Sec.mk hz0
  have Z1 := Sec.mk hz1
  have Z2 := Sec.mk hz2
  clear hi hz0 hz1 hz2
  go_enter Tryd.func4, Tryd.ntmps4
  go_upto_region 3 with fail
  have hB0 : Below w.heap.size w ((w.alloc (.cells #[.int .i16 p1, .int .u8 wt1, .slice A1 n c1] 41)).alloc (.cells #[.int .i16 p2, .int .u8 wt2, .slice A2 l2.length c2] 41)) := ((Below.refl _ _).alloc (Nat.le_refl _) _).alloc (by simp) _
  have BU : Bund ((w.alloc (.cells #[.int .i16 p1, .int .u8 wt1, .slice A1 n c1] 41)).alloc (.cells #[.int .i16 p2, .int .u8 wt2, .slice A2 l2.length c2] 41)) [(⟨w.heap.size, 0, none⟩, .int .i16 p1), (⟨w.heap.size, 1, none⟩, .int .u8 wt1), (⟨w.heap.size, 2, none⟩, .slice A1 n c1), (⟨w.heap.size + 1, 0, none⟩, .int .i16 p2), (⟨w.heap.size + 1, 1, none⟩, .int .u8 wt2), (⟨w.heap.size + 1, 2, none⟩, .slice A2 l2.length c2)] := by
    intro x hxm
    simp only [List.mem_cons, List.not_mem_nil, or_false] at hxm
    rcases hxm with rfl | rfl | rfl | rfl | rfl | rfl <;> go_simp
  generalize ((w.alloc (.cells #[.int .i16 p1, .int .u8 wt1, .slice A1 n c1] 41)).alloc (.cells #[.int .i16 p2, .int .u8 wt2, .slice A2 l2.length c2] 41)) = w0 at *
  obtain ⟨d1, d2, d3, d4, d5, d6⟩ := six BU
  go_cut [9, 10] (fun v9 v10 wx => SplitCut w a b v9 v10 wx)
  case first =>
    clear hmin hcl hnc hnl hw ht
    go_region_held3 (fun w' => w'.cell? ⟨w.heap.size, 0, none⟩ = some (.int .i16 p1) ∧ w'.cell? ⟨w.heap.size, 1, none⟩ = some (.int .u8 wt1) ∧ w'.cell? ⟨w.heap.size, 2, none⟩ = some (.slice A1 n c1) ∧ w'.cell? ⟨w.heap.size + 1, 0, none⟩ = some (.int .i16 p2) ∧ w'.cell? ⟨w.heap.size + 1, 1, none⟩ = some (.int .u8 wt2) ∧ w'.cell? ⟨w.heap.size + 1, 2, none⟩ = some (.slice A2 l2.length c2))
      (first | assumption | exact six BU)
      ((first
        | (have _ := hPp; go_at_call 16; (first | with_reducible refine (HM1.out _ ?_).mono ?_ | with_reducible refine (HM2.out _ ?_).mono ?_); (repeat (first | exact hB1 | refine Below.drew ?_ | refine below_drewN ?_ _)); rintro e w2 ⟨A4, c4, rfl, hPq, hb2⟩; have hst : Below w1.heap.size w1 w2 := Below.trans (by repeat (first | exact Below.refl _ _ | refine Below.drew ?_ | refine below_drewN ?_ _)) hb2; have hPp := hPp.later hst; have BU := BU.later hst; have hB2 := hB1.trans (hst.mono hB1.size); obtain ⟨d1, d2, d3, d4, d5, d6⟩ := six BU)
        | (go_at_call 16; (first | with_reducible refine (HM1.out _ ?_).mono ?_ | with_reducible refine (HM2.out _ ?_).mono ?_); (repeat (first | exact hB0 | refine Below.drew ?_ | refine below_drewN ?_ _)); rintro e w1 ⟨A3, c3, rfl, hPp, hb1⟩; have hst : Below w0.heap.size w0 w1 := Below.trans (by repeat (first | exact Below.refl _ _ | refine Below.drew ?_ | refine below_drewN ?_ _)) hb1; have BU := BU.later hst; have hB1 := hB0.trans (hst.mono hB0.size); obtain ⟨d1, d2, d3, d4, d5, d6⟩ := six BU)))
    all_goals (go_wp2_with fail; go_meet)
    all_goals first
      | exact ⟨_, _, _, _, rfl, rfl, hPp, hPq, by repeat (first | exact hB2 | refine Below.drew ?_ | refine below_drewN ?_ _)⟩
      | exact ⟨_, _, _, _, rfl, rfl, hPq, hPp, by repeat (first | exact hB2 | refine Below.drew ?_ | refine below_drewN ?_ _)⟩
  case rest =>
    obtain ⟨A, cA, B, cB, rfl, rfl, hPA, hPB, hBc⟩ := hcut
    obtain ⟨m, hm⟩ : ∃ m : Nat, a.length = m := ⟨_, rfl⟩
    obtain ⟨mb, hmb⟩ : ∃ m : Nat, b.length = m := ⟨_, rfl⟩
    have hm1 : 1 ≤ m ∧ m ≤ 3 := by omega
    obtain ⟨j, hj⟩ : ∃ j : Nat, j = (which % (m : Int)).toNat := ⟨_, rfl⟩
    have ej : which % (m : Int) = (j : Int) := by
      have := Int.emod_nonneg which (show (m : Int) ≠ 0 by omega)
      omega
    have hjm : j < m := by
      have := Int.emod_lt_of_pos which (show (0 : Int) < m by omega)
      omega
    have em0 : ¬ ((m : Int) = 0) := by omega
    obtain ⟨P, hP⟩ : ∃ P, a[j]? = some P := ⟨_, List.getElem?_eq_getElem (by omega)⟩
    obtain ⟨P1, P2⟩ := P
    have hgD : Sec (a.getD j (0, 0) = (P1, P2)) := ⟨by rw [List.getD_eq_getElem?_getD, hP]; rfl⟩
    obtain ⟨bA, oA, rfl, q1, q2⟩ := hPA.1 j _ hP
    have HPA := Sec.mk hPA.1
    have HPB := Sec.mk hPB.1
    have hwa := right_weights ra.out
    have hP2 := hwa.2 _ (List.mem_of_getElem? hP)
    simp only at q1 q2 hP2
    have HLm := Sec.mk hm
    have HLb := Sec.mk hmb
    rw [hm, hmb]
    have hBcs := hBc.size
    have hbA : bA < wc.heap.size := World.block_lt_of_cell? _ _ q1
    clear hj hP hPA hPB hm hmb HM1 HM2 hB0 BU d1 d2 d3 d4 d5 d6 hmin hcl hnc hnl hn2 la hwa
    by_cases hsm : P2 < 2
    · go_wp2_with fail
      refine (awake_true _ (HG.out.later (hBc.alloc hBcs _))).mono ?_
      rintro e w1 ⟨rfl, hb1⟩
      have hB1 := (hBc.alloc hBcs _).trans (hb1.mono (by simp; omega))
      clear hb1
      go_wp2_with fail
      go_ret
      exact ⟨rfl, hB1⟩
    · have ew1 : ¬ (P2 - 1 = 0) := by omega
      obtain ⟨W, hW⟩ : ∃ W, 1 + ato % (P2 - 1) = W := ⟨_, rfl⟩
      have hWb : 1 ≤ W ∧ W ≤ P2 - 1 := by
        have := Int.emod_lt_of_pos ato (show (0 : Int) < P2 - 1 by omega)
        have := Int.emod_nonneg ato (show P2 - 1 ≠ 0 by omega)
        omega
      have hW64 : wrap64 W = W := by first | exact IntWalk.i64_in _ ⟨by omega, by omega⟩ | (show IntKind.i64.wrap W = W; exact IntWalk.i64_in _ ⟨by omega, by omega⟩) | (simp only [wrap64]; omega)
      go_wp2_with fail
      have hown0 := Sec.mk (World.ownsRow_lit (base := (wc.alloc (.cells #[.int .i64 P1, .int .i64 P2] 44)).heap.size) (e := 44) (size := 2) (wc.alloc (.cells #[.int .i64 P1, .int .i64 P2] 44)) #[.int .i64 P1, .int .i64 (P2 - W)] 1 (Nat.le_refl _) (by decide) rfl)
      have hsz : (wc.alloc (.cells #[.int .i64 P1, .int .i64 P2] 44)).heap.size = wc.heap.size + 1 := by simp
      have HBd : Sec (Below w.heap.size w (wc.alloc (.cells #[.int .i64 P1, .int .i64 P2] 44))) := ⟨hBc.alloc hBcs _⟩
      have HPA' : Sec (∀ wr, Below (wc.alloc (.cells #[.int .i64 P1, .int .i64 P2] 44)).heap.size (wc.alloc (.cells #[.int .i64 P1, .int .i64 P2] 44)) wr → Parts wr (some ⟨bA, oA, none⟩) a ∧ Parts wr B b ∧ wr.cell? ⟨wc.heap.size, 0, none⟩ = some (.int .i64 P1) ∧ wr.cell? ⟨wc.heap.size, 1, none⟩ = some (.int .i64 P2)) := ⟨fun wr h => by
        have h0 : Below wc.heap.size wc (wc.alloc (.cells #[.int .i64 P1, .int .i64 P2] 44)) := (Below.refl _ _).alloc (Nat.le_refl _) _
        exact ⟨(HPA.out.later h0).later h, (HPB.out.later h0).later h, cell_later h (by go_simp), cell_later h (by go_simp)⟩⟩
      rw [hsz] at hown0
      generalize hwd : (wc.alloc (.cells #[.int .i64 P1, .int .i64 P2] 44)) = wd at *
      clear hwd q1 q2 HPA HPB hBc hBcs
      go_loopw [13, 14] (fun v i wr => SplitRel wd a j (P1, P2 - W) v i wr) (fun _ i _ => (intOf i + 1).toNat)
      case atStart => exact ⟨m, by rw [HLm.out]; exact Nat.le_refl _, rfl, by rw [HLm.out, Nat.sub_self, ← hsz] ; simpa [partCells, accS, hsz] using hown0.out, (Below.refl _ _).alloc (Nat.le_refl _) _⟩
      case round =>
        clear hown0
        obtain ⟨t, ht', rfl, hown, hB⟩ := hrel
        rcases t with _ | t
        · rw [show (((0 : Nat) : Int) - 1) = (-1 : Int) from rfl]
          rw [Nat.sub_zero] at hown
          obtain ⟨-, -, r1, r2⟩ := HPA'.out wr hB
          have hlen : ((P1, P2 - W) :: accS a j a.length).length ≤ 100 := by
            have := accS_len a j a.length
            have := HLm.out
            rw [List.length_cons]; omega
          have HO := Sec.mk hown
          have HL := Sec.mk hlen
          have HB := Sec.mk hB
          have hbs := hB.size
          have hlt11 : wc.heap.size < wr.heap.size := by omega
          clear hown hlen hB ht'
          go_wp2_with (at_builtin; refine wpList_append_own _ rfl _ _ 24 rfl wd.heap.size 44 i0 _ 2 16 Tryd.underlying24 HI.out Z0.out Z1.out Z2.out rfl (by decide) _ _ _ rfl (HO.out.alloc _) ⟨wr.heap.size, 0, none⟩ 1 1 [.int .i64 P1, .int .i64 W] rfl rfl ?c1 ?c2 ?c3 ?c4 ?c5 ?_)
          case c1 => exact news2 _ (by simp)
          case c2 => intro u hu; simp at hu; rcases hu with rfl | rfl <;> rfl
          case c3 => have := HL.out; unfold maxLen; omega
          case c4 => have := HL.out; omega
          case c5 => have := HB.out.size; simp; omega
          intro v' w2 hown' hgrow _
          have hS : Sec (splitR a j W = ((P1, P2 - W) :: accS a j a.length) ++ [(P1, W)]) := ⟨by unfold splitR; rw [hgD.out]⟩
          have hown2 : w2.ownsRow wd.heap.size 44 2 v' (splitR a j W).length (partCells (splitR a j W)) := by
            rw [hsz, hS.out, partCells_append, List.length_append]
            exact hown'
          have hB2 : Below wd.heap.size wd w2 := (HB.out.alloc HB.out.size _).grown hgrow (by have := HB.out.size; simp; omega) (fun k hk => (HO.out.lt k hk).1)
          obtain ⟨AS, cS, rfl, hPS, -⟩ := partsB_of_own hown2
          have hja : j < a.length := by rw [HLm.out]; omega
          have hma : 1 ≤ a.length ∧ a.length ≤ 3 := by rw [HLm.out]; omega
          have rs := Sec.mk (split_right a j W ra.out hma.2 hja hWb.1 (by rw [hgD.out]; exact hWb.2))
          have HBw2 : Sec (Below w.heap.size w w2) := ⟨HBd.out.trans (hB2.mono HBd.out.size)⟩
          obtain ⟨ms, hms⟩ : ∃ k : Nat, (splitR a j W).length = k := ⟨_, rfl⟩
          have eq1 : gainQ (splitR a j W) b = gainQ a b := by unfold gainQ; rw [split_gain1 a b j W hma.1 hma.2 hja]
          have eq2 : gainQ b (splitR a j W) = gainQ b a := by unfold gainQ; rw [split_gain2 a b j W hma.1 hma.2 hja]
          obtain ⟨hpa, hpb, -, -⟩ := HPA'.out w2 hB2
          have C1 := Sec.mk fun (w' : World) (h : Below w2.heap.size w2 w') => Compare_right _ _ cA cB a b w' (hpa.later h) (hpb.later h) ((HG.out.later HBw2.out).later h) ra.out rb.out
          have C2 := Sec.mk fun (w' : World) (h : Below w2.heap.size w2 w') => Compare_right _ _ cS cB _ b w' (hPS.1.later h) (hpb.later h) ((HG.out.later HBw2.out).later h) rs.out rb.out
          have C3 := Sec.mk fun (w' : World) (h : Below w2.heap.size w2 w') => Compare_right _ _ cB cA b a w' (hpb.later h) (hpa.later h) ((HG.out.later HBw2.out).later h) rb.out ra.out
          have C4 := Sec.mk fun (w' : World) (h : Below w2.heap.size w2 w') => Compare_right _ _ cB cS b _ w' (hpb.later h) (hPS.1.later h) ((HG.out.later HBw2.out).later h) rb.out rs.out
          have HGe := Sec.mk fun (w' : World) (h : Below w2.heap.size w2 w') => awake_true w' ((HG.out.later HBw2.out).later h)
          rw [eq1, hms] at C2
          rw [eq2, hms] at C4
          rw [HLm.out, HLb.out] at C1 C3
          rw [HLb.out] at C2 C4
          rw [hms]
          generalize (gainQ a b).num = N1 at *
          generalize ((gainQ a b).den : Int) = D1 at *
          generalize (gainQ b a).num = N2 at *
          generalize ((gainQ b a).den : Int) = D2 at *
          clear hown' hown2 hgrow hB2 hPS hja hma eq1 eq2 hpa hpb hms hS rs HO HL HB r1 r2 ej hW hW64 hsz hbs hlt11 HPA' HBd hbA hgD HI Z0 Z1 Z2
          go_wp2_with fail
          refine (C1.out _ (Below.refl _ _)).mono ?_
          rintro e w3 ⟨rfl, hb3⟩
          have hx3 : Below w2.heap.size w2 (w3.alloc (.cells #[.int .i64 N1, .int .i64 D1] 46)) := hb3.alloc hb3.size _
          go_wp2_with fail
          refine (C2.out _ hx3).mono ?_
          rintro e w4 ⟨rfl, hb4⟩
          obtain ⟨a1, a2, -, -, -⟩ := kept2a hb4
          have hB4 := hx3.trans (hb4.mono hx3.size)
          have hx4 : Below w2.heap.size w2 (w4.alloc (.cells #[.int .i64 N1, .int .i64 D1] 46)) := hB4.alloc hB4.size _
          have hl4 : w3.heap.size < w4.heap.size := World.block_lt_of_cell? _ _ a1
          clear hb3 hb4 hx3 C1
          go_wp2_with fail
          refine (C3.out _ hx4).mono ?_
          rintro e w5 ⟨rfl, hb5⟩
          have h45 : Below w4.heap.size w4 w5 := Below.trans ((Below.refl _ _).alloc (Nat.le_refl _) _) (hb5.mono (by simp))
          have a1' := cell_later h45 a1
          have a2' := cell_later h45 a2
          obtain ⟨b1, b2, -, -, -⟩ := kept2a hb5
          have hB5 := hx4.trans (hb5.mono hx4.size)
          have hx5 : Below w2.heap.size w2 (w5.alloc (.cells #[.int .i64 N2, .int .i64 D2] 46)) := hB5.alloc hB5.size _
          have hl35 : w3.heap.size < w5.heap.size := World.block_lt_of_cell? _ _ a1'
          have hl45 : w4.heap.size < w5.heap.size := World.block_lt_of_cell? _ _ b1
          clear hb5 hx4 C2 a1 a2 hl4 h45 hB4
          go_wp2_with fail
          refine (C4.out _ hx5).mono ?_
          rintro e w6 ⟨rfl, hb6⟩
          have h56 : Below w5.heap.size w5 w6 := Below.trans ((Below.refl _ _).alloc (Nat.le_refl _) _) (hb6.mono (by simp))
          have a1 := cell_later h56 a1'
          have a2 := cell_later h56 a2'
          have b1' := cell_later h56 b1
          have b2' := cell_later h56 b2
          obtain ⟨f1, f2, -, -, -⟩ := kept2a hb6
          have hB6 := hx5.trans (hb6.mono hx5.size)
          have hx6 : Below w2.heap.size w2 (w6.alloc (.cells #[.int .i64 N2, .int .i64 D2] 46)) := hB6.alloc hB6.size _
          have hl36 : w3.heap.size < w6.heap.size := World.block_lt_of_cell? _ _ a1
          have hl46 : w4.heap.size < w6.heap.size := World.block_lt_of_cell? _ _ b1'
          have hl56 : w5.heap.size < w6.heap.size := World.block_lt_of_cell? _ _ f1
          clear hb6 hx5 C3 C4 a1' a2' b1 b2 hl35 hl45 h56 hB5
          go_wp2_with (go_at_call 10; refine (HGe.out _ hx6).mono ?_; rintro e w7 ⟨rfl, hb7⟩)
          go_ret
          exact ⟨rfl, HBw2.out.trans ((hx6.trans (hb7.mono hx6.size)).mono HBw2.out.size)⟩
        · have hti : ((t + 1 : Nat) : Int) - 1 = (t : Int) := by omega
          rw [hti]
          clear hti
          have htm : t < m := by rw [HLm.out] at ht'; omega
          have HT := Sec.mk (accS_step a j t ht')
          have hBs := hB.size
          rw [hsz] at hBs
          by_cases htj : t = j
          · have HO : Sec (wr.ownsRow wd.heap.size 44 2 u13 ((P1, P2 - W) :: accS a j (a.length - t)).length (partCells ((P1, P2 - W) :: accS a j (a.length - t)))) := ⟨by
              rw [HT.out, if_pos htj, List.append_nil]; exact hown⟩
            have HB := Sec.mk hB
            clear hown hB
            subst htj
            go_wp2_with fail
            exact ⟨⟨t, by omega, rfl, HO.out, HB.out⟩, by simp only [intOf]; omega⟩
          · obtain ⟨x, hx⟩ : ∃ x, a[t]? = some x := ⟨_, List.getElem?_eq_getElem (by omega)⟩
            obtain ⟨x1, x2⟩ := x
            obtain ⟨b', o', e, h1, h2⟩ := (HPA'.out wr hB).1 t _ hx
            cases e
            have hgx : a.getD t (0, 0) = (x1, x2) := by rw [List.getD_eq_getElem?_getD, hx]; rfl
            have hlen : ((P1, P2 - W) :: accS a j (a.length - (t + 1))).length ≤ 100 := by
              have := accS_len a j (a.length - (t + 1))
              have := HLm.out
              rw [List.length_cons]; omega
            have HT2 : Sec (accS a j (a.length - t) = accS a j (a.length - (t + 1)) ++ [(x1, x2)]) := ⟨by rw [HT.out, if_neg htj, hgx]⟩
            have HO := Sec.mk hown
            have HL := Sec.mk hlen
            have HB := Sec.mk hB
            have htj' : ¬ (t : Int) = (j : Int) := by omega
            clear hx hown hlen hB hgx HT
            simp only at h1 h2
            go_wp2_with (at_builtin; refine wpList_append_own _ rfl _ _ 24 rfl wd.heap.size 44 i0 _ 2 16 Tryd.underlying24 HI.out Z0.out Z1.out Z2.out rfl (by decide) _ _ _ rfl (HO.out.alloc _) ⟨wr.heap.size, 0, none⟩ 1 1 [.int .i64 x1, .int .i64 x2] rfl rfl ?c1 ?c2 ?c3 ?c4 ?c5 ?_)
            case c1 => exact news2 _ (by simp)
            case c2 => intro u hu; simp at hu; rcases hu with rfl | rfl <;> rfl
            case c3 => have := HL.out; unfold maxLen; omega
            case c4 => have := HL.out; omega
            case c5 => have := HB.out.size; simp; omega
            intro v' w2 hown' hgrow _
            have hown2 : w2.ownsRow wd.heap.size 44 2 v' ((P1, P2 - W) :: accS a j (a.length - t)).length (partCells ((P1, P2 - W) :: accS a j (a.length - t))) := by
              rw [hsz, HT2.out, ← List.cons_append, partCells_append, List.length_append]
              exact hown'
            have hB2 : Below wd.heap.size wd w2 := (HB.out.alloc HB.out.size _).grown hgrow (by have := HB.out.size; simp; omega) (fun k hk => (HO.out.lt k hk).1)
            have HO2 := Sec.mk hown2
            have HB2 := Sec.mk hB2
            clear hown' hgrow hown2 hB2
            go_wp2_with fail
            exact ⟨⟨t, by omega, rfl, HO2.out, HB2.out⟩, by simp only [intOf]; omega⟩
end Go.Proofs.YtfajnggdlhbgnaaDoor
