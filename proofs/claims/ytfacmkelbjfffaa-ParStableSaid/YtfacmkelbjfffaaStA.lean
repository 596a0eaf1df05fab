/- ParStable: the walk. -/
import Derived.Test.YtfacmkelbjfffaaMoreA
import Derived.Test.YtfacmkelbjfffaaFinA
import Derived.Test.YtfacmkelbjfffaaPlainD
namespace Go.Proofs.Ytfacmkelbjfffaa
open Go.RowKit
set_option linter.unusedVariables false
set_option linter.unusedSimpArgs false
set_option maxRecDepth 100000

/-- What stays as it is. -/
structure StW (w : World) (T : Nat → Int) (g1 g12 : Nat) (A : Option Addr) (L : List Nat) (x1 x2 x3 x4 x5 x6 : Int) (W : World) : Prop where
  tab : TabAt W g1 T
  row : ∀ (i x : Nat), L[i]? = some x → ∃ b, A = some ⟨b, 0, none⟩ ∧ W.cell? ⟨b, i, none⟩ = some (.int .u8 (x : Int))
  out : W.cell? ⟨g12, 0, none⟩ = some (.int .u8 x1) ∧ W.cell? ⟨g12, 1, none⟩ = some (.int .u8 x2) ∧ W.cell? ⟨g12, 2, none⟩ = some (.int .u8 x3) ∧ W.cell? ⟨g12, 3, none⟩ = some (.int .u8 x4) ∧ W.cell? ⟨g12, 4, none⟩ = some (.int .i64 x5) ∧ W.cell? ⟨g12, 5, none⟩ = some (.int .i64 x6)
  below : Below w.heap.size w W
theorem StW.later {w : World} {T : Nat → Int} {g1 g12 : Nat} {A : Option Addr} {L : List Nat} {x1 x2 x3 x4 x5 x6 : Int} {W W' : World} (h : StW w T g1 g12 A L x1 x2 x3 x4 x5 x6 W) (hb : Below W.heap.size W W') : StW w T g1 g12 A L x1 x2 x3 x4 x5 x6 W' :=
  ⟨h.tab.later hb, fun i x hx => let ⟨b, e, hc⟩ := h.row i x hx; ⟨b, e, sc_later hb hc⟩, six_later h.out hb, sbtr h.below hb⟩
theorem six_far {W W' : World} {g b k : Nat} {v0 v1 v2 v3 v4 v5 : Value} (e : W' = (((((W.setCell ⟨g, 0, none⟩ v0).setCell ⟨g, 1, none⟩ v1).setCell ⟨g, 2, none⟩ v2).setCell ⟨g, 3, none⟩ v3).setCell ⟨g, 4, none⟩ v4).setCell ⟨g, 5, none⟩ v5) (hne : b ≠ g) :
    W'.cell? ⟨b, k, none⟩ = W.cell? ⟨b, k, none⟩ ∧ W'.frozen? ⟨b, k, none⟩ = W.frozen? ⟨b, k, none⟩ := by
  have hn : ∀ j, (⟨g, j, none⟩ : Addr) ≠ ⟨b, k, none⟩ := fun j => by simp only [ne_eq, Addr.mk.injEq]; omega
  rw [e]
  constructor
  · rw [World.cell?_setCell_other _ _ _ _ (hn 5), World.cell?_setCell_other _ _ _ _ (hn 4), World.cell?_setCell_other _ _ _ _ (hn 3), World.cell?_setCell_other _ _ _ _ (hn 2), World.cell?_setCell_other _ _ _ _ (hn 1), World.cell?_setCell_other _ _ _ _ (hn 0)]
  · simp only [World.frozen?_setCell]
theorem StW.six {w : World} {T : Nat → Int} {g1 g12 : Nat} {A : Option Addr} {L : List Nat} {x1 x2 x3 x4 x5 x6 : Int} {wr w6 W7 : World} {v0 v1 v2 v3 v4 v5 : Value} (h : StW w T g1 g12 A L x1 x2 x3 x4 x5 x6 wr) (hb : Below wr.heap.size wr w6)
    (e : W7 = (((((w6.setCell ⟨wr.heap.size, 0, none⟩ v0).setCell ⟨wr.heap.size, 1, none⟩ v1).setCell ⟨wr.heap.size, 2, none⟩ v2).setCell ⟨wr.heap.size, 3, none⟩ v3).setCell ⟨wr.heap.size, 4, none⟩ v4).setCell ⟨wr.heap.size, 5, none⟩ v5) (hbl : Below w.heap.size w W7) : StW w T g1 g12 A L x1 x2 x3 x4 x5 x6 W7 := by
  have hl := h.later hb
  have hf := fun b k (hlt : b < wr.heap.size) => six_far (b := b) (k := k) e (Nat.ne_of_lt hlt)
  have hg := World.block_lt_of_cell? _ _ h.out.1
  refine ⟨fun k hk => ?_, fun i x hx => ?_, ?_, hbl⟩
  · have := hf g1 k h.tab.lt
    exact ⟨by rw [this.1]; exact (hl.tab k hk).1, by rw [this.2]; exact (hl.tab k hk).2⟩
  · obtain ⟨b, e1, hc⟩ := h.row i x hx
    refine ⟨b, e1, ?_⟩
    rw [(hf b i (World.block_lt_of_cell? _ _ hc)).1]; exact sc_later hb hc
  · rw [(hf g12 0 hg).1, (hf g12 1 hg).1, (hf g12 2 hg).1, (hf g12 3 hg).1, (hf g12 4 hg).1, (hf g12 5 hg).1]
    exact hl.out
theorem parV_last (T : Nat → Int) (u : Int) (s : Nat) (hT : rightT T = true) (h : bidsF (finalZ T u) s ≠ []) : parV T u s = outV T (lastB (finalZ T u) s) (lastS (finalZ T u) s) ∧ bestS T (den (lastB (finalZ T u) s)) (lastS (finalZ T u) s) % 2 = (lastS (finalZ T u) s : Int) ∧ 0 ≤ bestS T (den (lastB (finalZ T u) s)) (lastS (finalZ T u) s) ∧ bestS T (den (lastB (finalZ T u) s)) (lastS (finalZ T u) s) ≤ 3 := by
  refine ⟨by unfold parV; rw [if_neg h], ?_⟩
  have hs : lastS (finalZ T u) s ≤ 1 := by unfold lastS; omega
  generalize lastS (finalZ T u) s = q at *
  unfold bestS; split <;> omega
theorem outV_six (T : Nat → Int) (b s : Nat) : ∃ a b' c d e f : Int, outV T b s = .agg #[.int .u8 a, .int .u8 b', .int .u8 c, .int .u8 d, .int .i64 e, .int .i64 f] := ⟨_, _, _, _, _, _, rfl⟩
def OutRel (w : World) (T F' : Nat → Int) (F : Nat → Nat → Int) (P : Int) (g1 g12 : Nat) (A : Option Addr) (L : List Nat) (sO : Nat) (x1 x2 x3 x4 x5 x6 : Int) (sv lv pv iv : Value) (wr : World) : Prop :=
  ∃ (i last sd : Nat) (pass : Int), sv = .int .u8 sd ∧ lv = .int .u8 last ∧ pv = .int .i64 pass ∧ iv = .int .i64 i ∧ sd ≤ 1 ∧ last ≤ 37 ∧ -100000 ≤ pass ∧ pass ≤ 100000 ∧ StI F P L sO i last sd pass ∧ StW w T g1 g12 A L x1 x2 x3 x4 x5 x6 wr
def InRel (w : World) (T : Nat → Int) (g1 g12 : Nat) (A : Option Addr) (L : List Nat) (last : Nat) (x1 x2 x3 x4 x5 x6 : Int) (cv : Value) (wr : World) : Prop :=
  ∃ c : Nat, cv = .int .u8 c ∧ last < c ∧ 3 ≤ c ∧ c ≤ 38 ∧ StW w T g1 g12 A L x1 x2 x3 x4 x5 x6 wr

set_option maxHeartbeats 4000000 in
theorem ParStable_any (B : Nat → Int) (u d : Int) (w : World) (hB : BytesIn B) (hu : 0 ≤ u ∧ u ≤ 255) (hd : 0 ≤ d ∧ d ≤ 255) :
    Calls Try.prog 8 #[.agg (bytV B), .int .u8 u, .int .u8 d] w fun e w' => e = .returned (.bool true) ∧ Below w.heap.size w w' := by
  have HM := Sec.mk fun w' => Made_ok B w' hB
  have HA := Sec.mk awake_true
  have hTr := madeT_right hB
  generalize madeT B = T at *
  obtain ⟨v, hv, hv3⟩ : ∃ v, u % 4 = v ∧ 0 ≤ v ∧ v ≤ 3 := ⟨_, rfl, by omega⟩
  obtain ⟨D, hD, hD3⟩ : ∃ D : Nat, d % 4 = (D : Int) ∧ D ≤ 3 := ⟨(d % 4).toNat, by omega, by omega⟩
  obtain ⟨s, hs, hsD, hs1⟩ : ∃ s : Nat, (D : Int) % 2 = (s : Int) ∧ D % 2 = s ∧ s ≤ 1 := ⟨D % 2, by omega, rfl, by omega⟩
  have hra := (byt_new w B).range
  have hszb : (Try.prog.info? 22).map (·.size) = some (bytV B).toList.length := info_byt
  have hszt : (Try.prog.info? 25).map (·.size) = some (tabV T).toList.length := info_tab
  have h1c := tab_one T
  have HBi := Sec.mk fun w' => Bids_ok T v D w' hTr hv3 hD3
  obtain ⟨x1, x2, x3, x4, x5, x6, hx, HP⟩ := Par_six T v D hTr hv3 hD3
  rw [hsD] at HBi hx HP
  obtain ⟨sO, hsO1, hsOc, hSt⟩ := st_start T v s hs1
  have hPb := parZ_bd T v s hs1 hTr
  have hLlen := bidsF_len (finalZ T v) s
  go_enter Try.func8, Try.ntmps8
  go_wp2_with (refine wpList_load_mid (by rfl) 22 (.tmp 3) (by rfl) w.heap.size 0 (by rfl) (bytV B).toList _ hra Try.underlying22 rfl hszb ?_; simp only [Array.toArray_toList])
  refine (HM.out _).mono ?_
  rintro e w1 ⟨rfl, hb1⟩
  have hBl := sbtr (sst1 w (.cells (bytV B) 22)) hb1
  clear hra hb1 HM
  have hth := tab_there w1 T
  go_upto_region 2 with (refine wpList_store_mid (by rfl) 25 (.tmp 7) (.tmp 26) ?_ w1.heap.size 0 (tabV T) ?_ ?_ ?_ info_tab h1c ?_; rfl; rfl; rfl; exact hth; simp only [Act.put])
  rw [← zeros20]
  obtain ⟨W2, g1, e2, eg, t1, hb2⟩ := tab_put w1 T
  rw [← e2, ← eg]
  have hBl := sbtr hBl hb2
  clear e2 eg hb2 hth
  have hra := t1.range
  go_wp2_with (refine wpList_load_mid (by rfl) 25 (.tmp 7) (by rfl) g1 0 (by rfl) (tabV T).toList _ hra Try.underlying25 rfl hszt ?_; simp only [Array.toArray_toList])
  refine (HBi.out _).mono ?_
  rintro e w3 ⟨vb, rfl, hown, hb3⟩
  obtain ⟨A, cap, rfl, hrow⟩ := bytes_of_own hown
  have t1 := t1.later hb3
  have hBl := sbtr hBl hb3
  clear hra hb3 hown HBi
  have hra := t1.range
  go_wp2_with (refine wpList_load_mid (by rfl) 25 (.tmp 7) (by rfl) g1 0 (by rfl) (tabV T).toList _ hra Try.underlying25 rfl hszt ?_; simp only [Array.toArray_toList])
  refine (HP.out _).mono ?_
  rintro e w4 ⟨rfl, hb4⟩
  go_upto_region 4 with fail
  obtain ⟨W5, g12, e5, eg, hc5, hb5⟩ := out_new w4 (.int .u8 x1) (.int .u8 x2) (.int .u8 x3) (.int .u8 x4) (.int .i64 x5) (.int .i64 x6) 30
  rw [← e5, ← eg]
  have hb45 := sbtr hb4 hb5
  have hSW : StW w T g1 g12 A (bidsF (finalZ T v) s) x1 x2 x3 x4 x5 x6 W5 := ⟨t1.later hb45, fun i x hx => let ⟨b, e, hc⟩ := hrow i x hx; ⟨b, e, sc_later hb45 hc⟩, hc5, sbtr hBl hb45⟩
  clear e5 eg hb4 hb5 hb45 hra HP hrow hc5 hBl t1
  have hFb := fun b q h1 h2 => finalZ_bd T v b q hTr h1 h2
  have hAb := fun b q h1 h2 => ansZ_val_bd T v b q hTr h1 h2
  have hnil : bidsF (finalZ T v) s = [] → parZ T v s = 0 ∧ x1 = 0 ∧ x2 = 0 ∧ x3 = 0 ∧ x4 = 0 ∧ x5 = 0 ∧ x6 = 0 := fun h => by
    have h1 : parV T v s = noneV := by unfold parV; rw [if_pos h]
    rw [hx] at h1
    simp only [noneV, Value.agg.injEq, Array.mk.injEq, List.cons.injEq, Value.int.injEq, true_and, and_true] at h1
    exact ⟨by unfold parZ; rw [if_pos h], h1.1, h1.2.1, h1.2.2.1, h1.2.2.2.1, h1.2.2.2.2.1, h1.2.2.2.2.2⟩
  have hlast : bidsF (finalZ T v) s ≠ [] → outV T ((bidsF (finalZ T v) s).getLastD 0) ((sO + ((bidsF (finalZ T v) s).length - 1)) % 2) = .agg #[.int .u8 x1, .int .u8 x2, .int .u8 x3, .int .u8 x4, .int .i64 x5, .int .i64 x6] ∧ x4 % 2 = (((sO + ((bidsF (finalZ T v) s).length - 1)) % 2 : Nat) : Int) ∧ 0 ≤ x4 ∧ x4 ≤ 3 := fun h => by
    have hp := parV_last T v s hTr h
    have hsO : sO = (openA (finalZ T v) s).1 := (hsOc.resolve_left fun e => h e.1).2
    have hls : lastS (finalZ T v) s = (sO + ((bidsF (finalZ T v) s).length - 1)) % 2 := by rw [hsO]; rfl
    rw [hx, hls] at hp
    refine ⟨hp.1.symm, ?_⟩
    have h1 := hp.1
    simp only [outV, Value.agg.injEq, Array.mk.injEq, List.cons.injEq, Value.int.injEq, true_and, and_true] at h1
    rw [h1.2.2.2.1]; exact hp.2
  have hsO2 : bidsF (finalZ T v) s = [] → sO = s := fun h => by
    rcases hsOc with e | e
    · exact e.2
    · exact absurd h e.1
  clear hx hsOc
  generalize parZ T v s = P at *
  generalize bidsF (finalZ T v) s = L at *
  try simp only [hv, hD]
  obtain ⟨N, hN⟩ : ∃ N, L.length = N := ⟨_, rfl⟩
  rw [hN] at hlast hLlen
  simp only [hN]
  go_upto_region 7 with fail
  go_cut [69] (fun p wx => p = .bool (decide (sO ≠ s)) ∧ wx = W5)
  case first => as_aux_lemma =>
    obtain ⟨k0, k1, k2, k3, k4, k5⟩ := hSW.out
    by_cases hL0 : L = []
    · have e := hsO2 hL0
      have hN0 : N = 0 := by rw [← hN, hL0]; rfl
      subst hN0
      subst e
      clear hnil hlast hsO2 hL0 hN hSt hSW hFb hAb
      go_wp2_with fail
      go_meet
      exact ⟨by simp, rfl⟩
    · obtain ⟨m, rfl⟩ : ∃ m, N = m + 1 := ⟨N - 1, by have := List.length_pos_iff.2 hL0; omega⟩
      obtain ⟨h4, h40, h43⟩ := (hlast hL0).2
      rw [Nat.add_sub_cancel] at h4
      have hm34 : m ≤ 34 := by omega
      obtain ⟨r, hr, hr1, hr2⟩ : ∃ r : Nat, ((s : Int) + ((m : Int) + 1) - 1) % 2 = (r : Int) ∧ ((s : Int) + (m : Int)) % 2 = (r : Int) ∧ r = (s + m) % 2 := ⟨(s + m) % 2, by omega, by omega, rfl⟩
      obtain ⟨l, hl, hl2⟩ : ∃ l : Nat, x4 % 2 = (l : Int) ∧ l = (sO + m) % 2 := ⟨_, h4, rfl⟩
      have m0 : (0 : Int) < (m : Int) + 1 := by omega
      by_cases hso : sO = s
      · have hne : ((l : Int) != (r : Int)) = false := by rw [bne_eq_false_iff_eq]; omega
        clear hlast hnil hsO2 hSt hSW hFb hAb hN h4 hr2 hl2
        go_wp2_with fail
        go_meet
        exact ⟨by simp [hso], rfl⟩
      · have hne : ((l : Int) != (r : Int)) = true := by rw [bne_iff_ne]; omega
        clear hlast hnil hsO2 hSt hSW hFb hAb hN h4 hr2 hl2
        go_wp2_with fail
        go_meet
        exact ⟨by simp [hso], rfl⟩
  case rest =>
    obtain ⟨rfl, rfl⟩ := hcut
    go_upto_if 69 with fail
    go_cut [15] (fun p wx => p = .int .u8 sO ∧ wx = wc)
    case first => as_aux_lemma =>
      by_cases hso : sO = s
      · subst hso
        have hdd : decide (sO ≠ sO) = false := by simp
        simp only [hdd]
        go_wp2_with fail
        go_meet
        exact ⟨rfl, rfl⟩
      · have hdd : decide (sO ≠ s) = true := by simp [hso]
        have hws : IntKind.u8.wrap (1 - (s : Int)) = (sO : Int) := by rw [IntWalk.u8_in _ ⟨by omega, by omega⟩]; omega
        simp only [hdd]
        go_wp2_with fail
        go_meet
        exact ⟨rfl, rfl⟩
    case rest =>
      obtain ⟨rfl, rfl⟩ := hcut
      go_wp2_with fail
      go_loopw [15, 16, 17, 18] (fun sv lv pv iv wr => OutRel w T T (finalZ T v) P g1 g12 A L sO x1 x2 x3 x4 x5 x6 sv lv pv iv wr) (fun _ _ _ iv _ => N + 1 - (intOf iv).toNat)
      case atStart => exact ⟨0, 0, sO, 0, rfl, rfl, rfl, rfl, hsO1, by omega, by omega, by omega, hSt, hSW⟩
      case round =>
        clear hSt hSW
        obtain ⟨i, last, sd, pass, rfl, rfl, rfl, rfl, hsd, hl37, hp1, hp2, hSt, hSW⟩ := hrel
        have hiN : i ≤ N := by rw [← hN]; exact hSt.le
        have hiN' : (i : Int) ≤ (N : Int) := by omega
        have i0 : (0 : Int) ≤ (i : Int) := by omega
        have hwl : IntKind.u8.wrap ((last : Int) + 1) = (last : Int) + 1 := IntWalk.u8_in _ ⟨by omega, by omega⟩
        go_upto_region 13 with fail
        go_cut [19] (fun p wx => ∃ c : Nat, p = .int .u8 c ∧ last < c ∧ 3 ≤ c ∧ c ≤ 38 ∧ wx = wr)
        case first => as_aux_lemma =>
          rcases (by omega : last < 2 ∨ 2 ≤ last) with h | h
          all_goals
            go_wp2_with fail
            all_goals go_meet
          · exact ⟨3, rfl, by omega, by omega, by omega, rfl⟩
          · exact ⟨last + 1, rfl, by omega, by omega, by omega, rfl⟩
        case rest =>
          obtain ⟨c, rfl, hc1, hc2, hc3, rfl⟩ := hcut
          go_wp2_with fail
          go_loopw [19] (fun cv wx => InRel w T g1 g12 A L last x1 x2 x3 x4 x5 x6 cv wx) (fun cv _ => 38 - (intOf cv).toNat)
          case atStart => exact ⟨c, rfl, hc1, hc2, hc3, hSW⟩
          case round =>
            clear hSW hc1 hc2 hc3
            obtain ⟨c, rfl, hc1, hc2, hc3, hSW⟩ := hrel
            by_cases hlt : c ≤ 37
            · have hws : IntKind.u8.wrap (1 - (sd : Int)) = ((1 - sd : Nat) : Int) := by rw [IntWalk.u8_in _ ⟨by omega, by omega⟩]; omega
              have hwc : IntKind.u8.wrap ((c : Int) + 1) = (c : Int) + 1 := IntWalk.u8_in _ ⟨by omega, by omega⟩
              have HV := Sec.mk fun w' => Value_ok T v c (1 - sd) w' hTr hv3 ⟨hc2, hlt⟩ (by omega)
              have hva := hSt.above c hc1 hc2 hlt
              have hvb := hAb c (1 - sd) ⟨hc2, hlt⟩ (by omega)
              have hcP : ∀ b, L[i]? = some b → c = b → (ansZ (finalZ T v) c (1 - sd)).2 = P := fun b hb e => by
                obtain ⟨b', hb', -, -, -, hP', -⟩ := hSt.bid (List.getElem?_eq_some_iff.1 hb).1
                rw [hb] at hb'
                cases hb'
                rw [e]; exact hP'
              generalize (ansZ (finalZ T v) c (1 - sd)).2 = va at *
              obtain ⟨Y, X, OM, ON, hXY⟩ : ∃ Y X : Int, Sec (∀ w, Calls Try.prog 15 #[.int .i64 va, .int .u8 sd] w fun e w' => e = .returned (.int .i64 Y) ∧ w' = w) ∧ Sec (∀ w, Calls Try.prog 15 #[.int .i64 P, .int .u8 sd] w fun e w' => e = .returned (.int .i64 X) ∧ w' = w) ∧ ¬ X < Y :=
                ⟨_, _, ⟨fun w => ours_ok va sd w hsd (by omega)⟩, ⟨fun w => ours_ok P sd w hsd (by omega)⟩, by unfold ownZ at hva; omega⟩
              have SW := Sec.mk hSW
              have hra := hSW.tab.range
              clear hSW hva hvb
              go_wp2_with (refine wpList_load_mid (by rfl) 25 (.tmp 7) (by rfl) g1 0 (by rfl) (tabV T).toList _ hra Try.underlying25 rfl hszt ?_; simp only [Array.toArray_toList])
              refine (HV.out _).mono ?_
              rintro e w6 ⟨rfl, hb6⟩
              have SW := Sec.mk (SW.out.later hb6)
              clear hra hb6 HV
              by_cases hiL : i < N
              · have hiL' : (i : Int) < (N : Int) := by omega
                obtain ⟨b, hbi⟩ : ∃ b, L[i]? = some b := ⟨_, List.getElem?_eq_getElem (by omega)⟩
                obtain ⟨bl, hA, cb⟩ := SW.out.row i b hbi
                subst hA
                have hcP := hcP b hbi
                by_cases hcb : c = b
                · have e := hcP hcb
                  subst e
                  subst hcb
                  have hcb' : ((c : Int) == (c : Int)) = true := by simp
                  clear hcP hbi hlast hnil hsO2 hSt hFb hAb
                  as_aux_lemma =>
                    go_wp2_with (first   | (go_at_call 15; refine (OM.out _).mono ?_; clear OM; rintro e w9 ⟨rfl, rfl⟩)   | (go_at_call 15; refine (ON.out _).mono ?_; clear ON; rintro e w9 ⟨rfl, rfl⟩))
                    exact ⟨⟨c + 1, rfl, by omega, by omega, by omega, SW.out⟩, by simp only [intOf]; omega⟩
                · have hcb' : ((c : Int) == (b : Int)) = false := by rw [beq_eq_false_iff_ne]; omega
                  clear hcP hbi hlast hnil hsO2 hSt hFb hAb
                  as_aux_lemma =>
                    go_wp2_with (first   | (go_at_call 15; refine (OM.out _).mono ?_; clear OM; rintro e w9 ⟨rfl, rfl⟩)   | (go_at_call 15; refine (ON.out _).mono ?_; clear ON; rintro e w9 ⟨rfl, rfl⟩))
                    exact ⟨⟨c + 1, rfl, by omega, by omega, by omega, SW.out⟩, by simp only [intOf]; omega⟩
              · have hiL' : ¬ (i : Int) < (N : Int) := by omega
                clear hcP hlast hnil hsO2 hSt hFb hAb
                as_aux_lemma =>
                  go_wp2_with (first   | (go_at_call 15; refine (OM.out _).mono ?_; clear OM; rintro e w9 ⟨rfl, rfl⟩)   | (go_at_call 15; refine (ON.out _).mono ?_; clear ON; rintro e w9 ⟨rfl, rfl⟩))
                  exact ⟨⟨c + 1, rfl, by omega, by omega, by omega, SW.out⟩, by simp only [intOf]; omega⟩
            · have SW := Sec.mk hSW
              clear hSW
              by_cases hiL : i = N
              · have hie : ((i : Int) == (N : Int)) = true := by simp [hiL]
                by_cases hL0 : L = []
                · obtain ⟨rfl, rfl, rfl, rfl, rfl, rfl, rfl⟩ := hnil hL0
                  have hN0 : N = 0 := by rw [← hN, hL0]; rfl
                  subst hN0
                  obtain ⟨q0, q1, q2, q3, q4, q5⟩ := SW.out.out
                  clear hlast hnil hsO2 hSt hFb hAb hL0 hN
                  as_aux_lemma =>
                    go_wp2_with (go_at_call 14; refine (HA.out _).mono ?_; rintro e w9 ⟨rfl, hb9⟩)
                    go_ret
                    exact ⟨rfl, sbtr SW.out.below hb9⟩
                · have hN0 : (0 : Int) < (N : Int) := by have := List.length_pos_iff.2 hL0; omega
                  clear hlast hnil hsO2 hSt hFb hAb hL0 hN
                  as_aux_lemma =>
                    go_wp2_with (go_at_call 14; refine (HA.out _).mono ?_; rintro e w9 ⟨rfl, hb9⟩)
                    go_ret
                    exact ⟨rfl, sbtr SW.out.below hb9⟩
              · have hie : ((i : Int) == (N : Int)) = false := by rw [beq_eq_false_iff_ne]; omega
                obtain ⟨b, hbi, hb1, hb2, hb3, -, hnext, hfl⟩ := hSt.bid (by omega)
                obtain ⟨bl, hA, cb⟩ := SW.out.row i b hbi
                subst hA
                have hL0 : L ≠ [] := fun e => by rw [e] at hbi; simp at hbi
                have hzb := hFb b sd ⟨hb2, hb3⟩ hsd
                have HF := Sec.mk fun w' => Final_ok T v b sd w' hTr hv3 ⟨hb2, hb3⟩ hsd
                obtain ⟨y1, y2, y3, y4, y5, y6, hy⟩ := outV_six T b sd
                have hfin : i + 1 = N → (y1 = x1 ∧ y2 = x2 ∧ y3 = x3 ∧ y4 = x4 ∧ y5 = x5 ∧ y6 = x6) ∧ finalZ T v b sd = P := fun e => by
                  obtain ⟨f1, f2, f3⟩ := hfl (by omega)
                  have h1 := (hlast hL0).1
                  rw [hN] at f3
                  rw [f2, f3, hy] at h1
                  simp only [Value.agg.injEq, Array.mk.injEq, List.cons.injEq, Value.int.injEq, true_and, and_true] at h1
                  exact ⟨h1, f1⟩
                rw [hy] at HF
                have hps := hSt.pass_le
                generalize finalZ T v b sd = zb at *
                have hi35 : i ≤ 35 := by omega
                have hiN2 : i < N := by omega
                have hbi2 := hbi
                clear hy hfl hlast hnil hsO2 hSt hFb hAb hbi hL0
                go_upto_region 20 with fail
                go_cut [153] (fun p wx => p = .bool false ∧ wx = wr)
                case first => as_aux_lemma =>
                  have l1 : ¬ (b : Int) ≤ (last : Int) := by omega
                  have l2 : ¬ (37 : Int) < (b : Int) := by omega
                  by_cases hi0 : 0 < i
                  · have hi0' : (0 : Int) < (i : Int) := by omega
                    have hps := hps hi0
                    obtain ⟨Y, X, OM, ON, hXY⟩ : ∃ Y X : Int, Sec (∀ w, Calls Try.prog 15 #[.int .i64 pass, .int .u8 sd] w fun e w' => e = .returned (.int .i64 Y) ∧ w' = w) ∧ Sec (∀ w, Calls Try.prog 15 #[.int .i64 P, .int .u8 sd] w fun e w' => e = .returned (.int .i64 X) ∧ w' = w) ∧ ¬ X < Y :=
                      ⟨_, _, ⟨fun w => ours_ok pass sd w hsd (by omega)⟩, ⟨fun w => ours_ok P sd w hsd (by omega)⟩, by unfold ownZ at hps; omega⟩
                    clear hps
                    go_wp2_with (first   | (go_at_call 15; refine (OM.out _).mono ?_; clear OM; rintro e w9 ⟨rfl, rfl⟩)   | (go_at_call 15; refine (ON.out _).mono ?_; clear ON; rintro e w9 ⟨rfl, rfl⟩))
                    go_meet
                    exact ⟨by first | rfl | (simp; omega), rfl⟩
                  · have hi0' : ¬ (0 : Int) < (i : Int) := by omega
                    clear hps
                    go_wp2_with fail
                    go_meet
                    exact ⟨by first | rfl | (simp; omega), rfl⟩
                case rest =>
                  obtain ⟨rfl, rfl⟩ := hcut
                  clear hps
                  have HSl : Sec (∀ w', Below wc.heap.size wc w' → w'.rangeAt g1 0 (tabV T).toList ∧ w'.cell? ⟨bl, i, none⟩ = some (.int .u8 (b : Int))) := ⟨fun w' h => ⟨(SW.out.tab.later h).range, sc_later h cb⟩⟩
                  go_upto_region 22 with fail
                  go_cut [22, 23, 24] (fun p z e wx => ∃ g22 : Nat, p = .pointer (some ⟨g22, 0, none⟩) ∧ z = .int .i64 zb ∧ e = .int .i64 0 ∧ wx.cell? ⟨g22, 0, none⟩ = some (.int .u8 y1) ∧ wx.cell? ⟨g22, 1, none⟩ = some (.int .u8 y2) ∧ wx.cell? ⟨g22, 2, none⟩ = some (.int .u8 y3) ∧ wx.cell? ⟨g22, 3, none⟩ = some (.int .u8 y4) ∧ wx.cell? ⟨g22, 4, none⟩ = some (.int .i64 y5) ∧ wx.cell? ⟨g22, 5, none⟩ = some (.int .i64 y6) ∧ StW w T g1 g12 (some ⟨bl, 0, none⟩) L x1 x2 x3 x4 x5 x6 wx)
                  case first => as_aux_lemma =>
                    refine wp_region_held_drew (S := fun w' => w'.rangeAt g1 0 (tabV T).toList ∧ w'.cell? ⟨bl, i, none⟩ = some (.int .u8 (b : Int))) (by kernel_rfl) (HSl.out _ (Below.refl _ _).drew) (fun hHeld => ?_)
                    refine wpAnyH_take (i := 0) (oi := ⟨some 155, _, _, _, _, _⟩) (v := _) rfl (by kernel_rfl) (by kernel_rfl) (by kernel_rfl) (fun _ _ _ h => h) (yieldsIf_load_mid (by rfl) 25 _ rfl g1 0 rfl (tabV T).toList _ ?hS Try.underlying25 rfl hszt) hHeld ?rst
                    case hS => exact fun w h => h.1
                    simp only [Act.put, List.setIfInBounds_toArray, List.set_cons_zero, List.set_cons_succ, Array.toArray_toList]
                    refine wpAnyH_take (i := 1) (oi := ⟨some 156, _, _, _, _, _⟩) (v := ?_) rfl (by kernel_rfl) (by kernel_rfl) (by kernel_rfl) (fun _ _ _ h => h) (Or.inl ⟨rfl, ?_⟩) hHeld ?_
                    case refine_2 => (intro w hS; (try obtain ⟨_, hS⟩ := hS); (try obtain ⟨_, hS⟩ := hS); (try obtain ⟨_, hS⟩ := hS); go_simp; try with_reducible rfl)
                    try simp only [Act.put, List.setIfInBounds_toArray, List.set_cons_zero, List.set_cons_succ]
                    refine wpAnyH_take (i := 2) (oi := ⟨some 157, _, _, _, _, _⟩) (v := ?_) rfl (by kernel_rfl) (by kernel_rfl) (by kernel_rfl) (fun _ _ _ h => h) (Or.inl ⟨rfl, ?_⟩) hHeld ?_
                    case refine_2 => (intro w hS; (try obtain ⟨_, hS⟩ := hS); (try obtain ⟨_, hS⟩ := hS); (try obtain ⟨_, hS⟩ := hS); go_simp; try with_reducible rfl)
                    try simp only [Act.put, List.setIfInBounds_toArray, List.set_cons_zero, List.set_cons_succ]
                    refine wpAnyH_take (i := 3) (oi := ⟨some 158, _, _, _, _, _⟩) (v := ?_) rfl (by kernel_rfl) (by kernel_rfl) (by kernel_rfl) (fun _ _ _ h => h) (Or.inl ⟨rfl, ?_⟩) hHeld ?_
                    case refine_2 => (intro w hS; (try obtain ⟨_, hS⟩ := hS); (try obtain ⟨_, hS⟩ := hS); (try obtain ⟨_, hS⟩ := hS); go_simp; try with_reducible rfl)
                    try simp only [Act.put, List.setIfInBounds_toArray, List.set_cons_zero, List.set_cons_succ]
                    refine wpAnyH_take (i := 4) (oi := ⟨some 159, _, _, _, _, _⟩) (v := ?_) rfl (by kernel_rfl) (by kernel_rfl) (by kernel_rfl) (fun _ _ _ h => h) (Or.inl ⟨rfl, ?_⟩) hHeld ?_
                    case refine_2 => (intro w hS; (try obtain ⟨_, hS⟩ := hS); (try obtain ⟨_, hS⟩ := hS); (try obtain ⟨_, hS⟩ := hS); go_simp; try with_reducible rfl)
                    try simp only [Act.put, List.setIfInBounds_toArray, List.set_cons_zero, List.set_cons_succ]
                    refine wpAnyH_take (i := 5) (oi := ⟨some 160, _, _, _, _, _⟩) (v := ?_) rfl (by kernel_rfl) (by kernel_rfl) (by kernel_rfl) (fun _ _ _ h => h) (Or.inl ⟨rfl, ?_⟩) hHeld ?_
                    case refine_2 => (intro w hS; (try obtain ⟨_, hS⟩ := hS); (try obtain ⟨_, hS⟩ := hS); (try obtain ⟨_, hS⟩ := hS); go_simp; try with_reducible rfl)
                    try simp only [Act.put, List.setIfInBounds_toArray, List.set_cons_zero, List.set_cons_succ]
                    refine wpAnyH_take (i := 6) (oi := ⟨some 161, _, _, _, _, _⟩) (v := ?_) rfl (by kernel_rfl) (by kernel_rfl) (by kernel_rfl) (fun _ _ _ h => h) (Or.inl ⟨rfl, ?_⟩) hHeld ?_
                    case refine_2 => (intro w hS; (try obtain ⟨_, hS⟩ := hS); (try obtain ⟨_, hS⟩ := hS); (try obtain ⟨_, hS⟩ := hS); go_simp; try with_reducible rfl)
                    try simp only [Act.put, List.setIfInBounds_toArray, List.set_cons_zero, List.set_cons_succ]
                    refine wpAnyH_ready (rs := [7, 12]) (by kernel_rfl) (by simp) ?_
                    refine AllReadyH.cons (o := _) rfl (fun K hK => ?_) (AllReadyH.cons (o := _) rfl (fun K hK => ?_) AllReadyH.nil)
                    · go_simp
                      refine (HF.out _).mono ?_
                      rintro e w6 ⟨rfl, hb6⟩
                      have hbx : Below wc.heap.size wc w6 := sbtr (Below.refl _ _).drew hb6
                      refine hK.out _ _ (HSl.out _ hbx) (fun hHeld2 => ?_)
                      clear hK K
                      refine wpAnyH_take (i := 8) (oi := ⟨some 154, _, _, _, _, _⟩) (v := ?_) rfl (by kernel_rfl) (by kernel_rfl) (by kernel_rfl) (fun _ _ _ h => h) (Or.inl ⟨rfl, ?_⟩) hHeld2 ?_
                      case refine_2 => (intro w hS; (try obtain ⟨_, hS⟩ := hS); (try obtain ⟨_, hS⟩ := hS); (try obtain ⟨_, hS⟩ := hS); go_simp; try with_reducible rfl)
                      try simp only [Act.put, List.setIfInBounds_toArray, List.set_cons_zero, List.set_cons_succ]
                      refine wpAnyH_take (i := 9) (oi := ⟨some 163, _, _, _, _, _⟩) (v := ?_) rfl (by kernel_rfl) (by kernel_rfl) (by kernel_rfl) (fun _ _ _ h => h) (Or.inl ⟨rfl, ?_⟩) hHeld2 ?_
                      case refine_2 => (intro w hS; (try obtain ⟨_, hS⟩ := hS); (try obtain ⟨_, hS⟩ := hS); (try obtain ⟨_, hS⟩ := hS); go_simp; try with_reducible rfl)
                      try simp only [Act.put, List.setIfInBounds_toArray, List.set_cons_zero, List.set_cons_succ]
                      refine wpAnyH_take (i := 10) (oi := ⟨some 164, _, _, _, _, _⟩) (v := ?_) rfl (by kernel_rfl) (by kernel_rfl) (by kernel_rfl) (fun _ _ _ h => h) (Or.inl ⟨rfl, ?_⟩) hHeld2 ?_
                      case refine_2 => (intro w hS; (try obtain ⟨_, hS⟩ := hS); (try obtain ⟨_, hS⟩ := hS); (try obtain ⟨_, hS⟩ := hS); go_simp; try with_reducible rfl)
                      try simp only [Act.put, List.setIfInBounds_toArray, List.set_cons_zero, List.set_cons_succ]
                      refine wpAnyH_take (i := 11) (oi := ⟨some 165, _, _, _, _, _⟩) (v := ?_) rfl (by kernel_rfl) (by kernel_rfl) (by kernel_rfl) (fun _ _ _ h => h) (Or.inl ⟨rfl, ?_⟩) hHeld2 ?_
                      case refine_2 => (intro w hS; (try obtain ⟨_, hS⟩ := hS); (try obtain ⟨_, hS⟩ := hS); (try obtain ⟨_, hS⟩ := hS); go_simp; try with_reducible rfl)
                      try simp only [Act.put, List.setIfInBounds_toArray, List.set_cons_zero, List.set_cons_succ]
                      refine wpAnyH_ready (rs := [12]) (by kernel_rfl) (by simp) ?_
                      refine AllReadyH.cons (o := _) rfl (fun K hK => ?_) AllReadyH.nil
                      go_simp
                      have hba : Below wc.heap.size wc (w6.alloc (.cells #[.int .u8 0, .int .u8 0, .int .u8 0, .int .u8 0, .int .i64 0, .int .i64 0] 30)) := sbtr hbx (sst1 _ _)
                      refine hK.out _ _ (HSl.out _ hba) (fun hHeld3 => ?_)
                      clear hK K
                      refine wpAnyH_ready (rs := [13]) (by kernel_rfl) (by simp) ?_
                      refine AllReadyH.cons (o := _) rfl (fun K hK => ?_) AllReadyH.nil
                      go_simp
                      refine hK.out _ _ (HSl.out _ (sbtr hbx (sst1 _ _))) (fun hHeld4 => ?_)
                      clear hK K
                      refine wpAnyH_take (i := 14) (oi := ⟨some 23, _, _, _, _, _⟩) (v := ?_) rfl (by kernel_rfl) (by kernel_rfl) (by kernel_rfl) (fun _ _ _ h => h) (Or.inl ⟨rfl, ?_⟩) hHeld4 ?_
                      case refine_2 => (intro w hS; (try obtain ⟨_, hS⟩ := hS); (try obtain ⟨_, hS⟩ := hS); (try obtain ⟨_, hS⟩ := hS); go_simp; try with_reducible rfl)
                      try simp only [Act.put, List.setIfInBounds_toArray, List.set_cons_zero, List.set_cons_succ]
                      refine wpAnyH_take (i := 15) (oi := ⟨some 24, _, _, _, _, _⟩) (v := ?_) rfl (by kernel_rfl) (by kernel_rfl) (by kernel_rfl) (fun _ _ _ h => h) (Or.inl ⟨rfl, ?_⟩) hHeld4 ?_
                      case refine_2 => (intro w hS; (try obtain ⟨_, hS⟩ := hS); (try obtain ⟨_, hS⟩ := hS); (try obtain ⟨_, hS⟩ := hS); go_simp; try with_reducible rfl)
                      try simp only [Act.put, List.setIfInBounds_toArray, List.set_cons_zero, List.set_cons_succ]
                      refine wpAnyH_done (by kernel_rfl) ?_ _
                      go_wp2_with fail
                      go_meet
                      exact ⟨w6.heap.size, rfl, rfl, rfl, (cellIs_row w6 _ _ 0 _ rfl).1, (cellIs_row w6 _ _ 1 _ rfl).1, (cellIs_row w6 _ _ 2 _ rfl).1, (cellIs_row w6 _ _ 3 _ rfl).1, (cellIs_row w6 _ _ 4 _ rfl).1, (cellIs_row w6 _ _ 5 _ rfl).1, SW.out.later (sbtr hbx (sst1 _ _))⟩
                    · go_simp
                      have hba : Below wc.heap.size wc (wc.drew.alloc (.cells #[.int .u8 0, .int .u8 0, .int .u8 0, .int .u8 0, .int .i64 0, .int .i64 0] 30)) := sbtr (Below.refl _ _).drew (sst1 _ _)
                      refine hK.out _ _ (HSl.out _ hba) (fun hHeld3 => ?_)
                      clear hK K
                      refine wpAnyH_ready (rs := [7]) (by kernel_rfl) (by simp) ?_
                      refine AllReadyH.cons (o := _) rfl (fun K hK => ?_) AllReadyH.nil
                      go_simp
                      refine (HF.out _).mono ?_
                      rintro e w6 ⟨rfl, hb6⟩
                      have hbx : Below wc.heap.size wc w6 := sbtr hba hb6
                      refine hK.out _ _ (HSl.out _ hbx) (fun hHeld2 => ?_)
                      clear hK K
                      refine wpAnyH_take (i := 8) (oi := ⟨some 154, _, _, _, _, _⟩) (v := ?_) rfl (by kernel_rfl) (by kernel_rfl) (by kernel_rfl) (fun _ _ _ h => h) (Or.inl ⟨rfl, ?_⟩) hHeld2 ?_
                      case refine_2 => (intro w hS; (try obtain ⟨_, hS⟩ := hS); (try obtain ⟨_, hS⟩ := hS); (try obtain ⟨_, hS⟩ := hS); go_simp; try with_reducible rfl)
                      try simp only [Act.put, List.setIfInBounds_toArray, List.set_cons_zero, List.set_cons_succ]
                      refine wpAnyH_take (i := 9) (oi := ⟨some 163, _, _, _, _, _⟩) (v := ?_) rfl (by kernel_rfl) (by kernel_rfl) (by kernel_rfl) (fun _ _ _ h => h) (Or.inl ⟨rfl, ?_⟩) hHeld2 ?_
                      case refine_2 => (intro w hS; (try obtain ⟨_, hS⟩ := hS); (try obtain ⟨_, hS⟩ := hS); (try obtain ⟨_, hS⟩ := hS); go_simp; try with_reducible rfl)
                      try simp only [Act.put, List.setIfInBounds_toArray, List.set_cons_zero, List.set_cons_succ]
                      refine wpAnyH_take (i := 10) (oi := ⟨some 164, _, _, _, _, _⟩) (v := ?_) rfl (by kernel_rfl) (by kernel_rfl) (by kernel_rfl) (fun _ _ _ h => h) (Or.inl ⟨rfl, ?_⟩) hHeld2 ?_
                      case refine_2 => (intro w hS; (try obtain ⟨_, hS⟩ := hS); (try obtain ⟨_, hS⟩ := hS); (try obtain ⟨_, hS⟩ := hS); go_simp; try with_reducible rfl)
                      try simp only [Act.put, List.setIfInBounds_toArray, List.set_cons_zero, List.set_cons_succ]
                      refine wpAnyH_take (i := 11) (oi := ⟨some 165, _, _, _, _, _⟩) (v := ?_) rfl (by kernel_rfl) (by kernel_rfl) (by kernel_rfl) (fun _ _ _ h => h) (Or.inl ⟨rfl, ?_⟩) hHeld2 ?_
                      case refine_2 => (intro w hS; (try obtain ⟨_, hS⟩ := hS); (try obtain ⟨_, hS⟩ := hS); (try obtain ⟨_, hS⟩ := hS); go_simp; try with_reducible rfl)
                      try simp only [Act.put, List.setIfInBounds_toArray, List.set_cons_zero, List.set_cons_succ]
                      have hZ6 : ∀ k, k < 6 → ∃ v, CellIs w6 ⟨wc.heap.size, k, none⟩ v := fun k hk => ⟨_, cellIs_later hb6 (cellIs_row wc.drew #[.int .u8 0, .int .u8 0, .int .u8 0, .int .u8 0, .int .i64 0, .int .i64 0] 30 k _ (Array.getElem?_eq_getElem (by simpa using hk)))⟩
                      obtain ⟨v0, b0, p0⟩ := hZ6 0 (by omega)
                      obtain ⟨v1, b1, p1⟩ := hZ6 1 (by omega)
                      obtain ⟨v2, b2, p2⟩ := hZ6 2 (by omega)
                      obtain ⟨v3, b3, p3⟩ := hZ6 3 (by omega)
                      obtain ⟨v4, b4, p4⟩ := hZ6 4 (by omega)
                      obtain ⟨v5, b5, p5⟩ := hZ6 5 (by omega)
                      refine wpAnyH_ready (rs := [13]) (by kernel_rfl) (by simp) ?_
                      refine AllReadyH.cons (o := _) rfl (fun K hK => ?_) AllReadyH.nil
                      go_simp
                      obtain ⟨W7, e7, z0, z1, z2, z3, z4, z5, hfar, hbelow⟩ := six_set (v0 := .int .u8 y1) (v1 := .int .u8 y2) (v2 := .int .u8 y3) (v3 := .int .u8 y4) (v4 := .int .i64 y5) (v5 := .int .i64 y6) ⟨b0, p0⟩ ⟨b1, p1⟩ ⟨b2, p2⟩ ⟨b3, p3⟩ ⟨b4, p4⟩ ⟨b5, p5⟩
                      have hSW7 := SW.out.six hbx e7 (hbelow _ _ SW.out.below.size (sbtr SW.out.below hbx))
                      have hS7 := HSl.out W7 (hbelow _ _ (Nat.le_refl _) hbx)
                      rw [← e7]
                      clear e7 hfar hbelow
                      refine hK.out _ _ hS7 (fun hHeld4 => ?_)
                      clear hK K
                      refine wpAnyH_take (i := 14) (oi := ⟨some 23, _, _, _, _, _⟩) (v := ?_) rfl (by kernel_rfl) (by kernel_rfl) (by kernel_rfl) (fun _ _ _ h => h) (Or.inl ⟨rfl, ?_⟩) hHeld4 ?_
                      case refine_2 => (intro w hS; (try obtain ⟨_, hS⟩ := hS); (try obtain ⟨_, hS⟩ := hS); (try obtain ⟨_, hS⟩ := hS); go_simp; try with_reducible rfl)
                      try simp only [Act.put, List.setIfInBounds_toArray, List.set_cons_zero, List.set_cons_succ]
                      refine wpAnyH_take (i := 15) (oi := ⟨some 24, _, _, _, _, _⟩) (v := ?_) rfl (by kernel_rfl) (by kernel_rfl) (by kernel_rfl) (fun _ _ _ h => h) (Or.inl ⟨rfl, ?_⟩) hHeld4 ?_
                      case refine_2 => (intro w hS; (try obtain ⟨_, hS⟩ := hS); (try obtain ⟨_, hS⟩ := hS); (try obtain ⟨_, hS⟩ := hS); go_simp; try with_reducible rfl)
                      try simp only [Act.put, List.setIfInBounds_toArray, List.set_cons_zero, List.set_cons_succ]
                      refine wpAnyH_done (by kernel_rfl) ?_ _
                      go_wp2_with fail
                      go_meet
                      exact ⟨wc.heap.size, rfl, rfl, rfl, z0.1, z1.1, z2.1, z3.1, z4.1, z5.1, hSW7⟩
                  case rest =>
                    obtain ⟨g22, rfl, rfl, rfl, z0, z1, z2, z3, z4, z5, SX⟩ := hcut
                    have SW2 := Sec.mk SX
                    have hws : IntKind.u8.wrap (1 - (sd : Int)) = ((1 - sd : Nat) : Int) := by rw [IntWalk.u8_in _ ⟨by omega, by omega⟩]; omega
                    obtain ⟨q0, q1, q2, q3, q4, q5⟩ := SX.out
                    obtain ⟨bl', hA, cb⟩ := SX.row i b hbi2
                    cases hA
                    clear SX SW HSl HF
                    by_cases hi1 : i + 1 = N
                    · obtain ⟨⟨rfl, rfl, rfl, rfl, rfl, rfl⟩, rfl⟩ := hfin hi1
                      have hi1' : ((i : Int) == (N : Int) - 1) = true := by rw [beq_iff_eq]; omega
                      clear hfin hbi2
                      as_aux_lemma =>
                        go_wp2_with fail
                        exact ⟨⟨i + 1, b, 1 - sd, _, rfl, rfl, rfl, rfl, by omega, by omega, by omega, by omega, hnext, SW2.out⟩, by simp only [intOf]; omega⟩
                    · have hi1' : ((i : Int) == (N : Int) - 1) = false := by rw [beq_eq_false_iff_ne]; omega
                      clear hfin hbi2
                      as_aux_lemma =>
                        go_wp2_with fail
                        exact ⟨⟨i + 1, b, 1 - sd, zb, rfl, rfl, rfl, rfl, by omega, by omega, by omega, by omega, hnext, SW2.out⟩, by simp only [intOf]; omega⟩
end Go.Proofs.Ytfacmkelbjfffaa
