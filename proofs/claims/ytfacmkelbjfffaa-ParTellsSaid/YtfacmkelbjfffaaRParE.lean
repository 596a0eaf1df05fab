/- finesseref18: Bids. -/
import Derived.Test.YtfacmkelbjfffaaRParD
namespace Go.Proofs.Ytfacmkelbjfffaa
open Go.RowKit
set_option linter.unusedVariables false
set_option linter.unusedSimpArgs false
set_option maxRecDepth 100000

set_option maxHeartbeats 4000000 in
theorem rBids_wrong (T : Nat → Int) (u d : Int) (w : World) (h : rightT T = false ∨ 3 < u ∨ 3 < d) : Calls Try.prog 30 #[.agg (tabV T), .int .i64 u, .int .i64 d] w fun e w' =>
    e = .returned (.tuple #[.slice none 0 0, .int .i64 0, .int .i64 2]) ∧ Below w.heap.size w w' := by
  have HR := Sec.mk fun w' => rRight_ok T w'
  have hsz : (Try.prog.info? 63).map (·.size) = some (tabV T).toList.length := by kernel_rfl
  have hra := rtab_hra w T 63
  generalize rightT T = r at *
  go_enter Try.func30, Try.ntmps30
  go_wp2_with (refine wpList_load_mid (by rfl) 63 (.tmp 3) (by rfl) w.heap.size 0 (by rfl) (tabV T).toList _ hra Try.underlying63 rfl hsz ?_; simp only [Array.toArray_toList])
  refine (HR.out _).mono ?_
  rintro e w1 ⟨rfl, hb1⟩
  have hB := sbtr (sst1 _ _) hb1
  clear hra hb1 HR
  cases r
  · clear h
    go_wp2_with fail
    go_ret3
    exact ⟨rfl, hB⟩
  · by_cases h1 : 3 < u
    · clear h
      go_wp2_with fail
      go_ret3
      exact ⟨rfl, hB⟩
    · have h2 : 3 < d := by simpa [h1] using h
      clear h
      go_wp2_with fail
      go_ret3
      exact ⟨rfl, hB⟩
def AnsIn (F : Nat → Nat → Int) (V : Nat → Int) : Prop := ∀ b q, 3 ≤ b → b ≤ 37 → q ≤ 1 → V (b * 2 + q) = (ansZ F b q).2
theorem rFirst_ok (F : Nat → Nat → Int) (V : Nat → Int) (s : Nat) (p : Int) (w : World) (hs : s ≤ 1) (hp : -1000000 ≤ p ∧ p ≤ 1000000) (hV : ValBd V) (hA : AnsIn F V) : Calls Try.prog 39 #[.agg (valV V), .int .i64 s, .int .i64 2, .int .i64 p] w fun e w' =>
    e = .returned (.agg #[.int .i64 (bestC F 35 s (0, p)).1, .int .i64 (bestC F 35 s (0, p)).2]) ∧ Below w.heap.size w w' := by
  have h := rChoose_ok V s 2 p w hs (by omega) hp hV
  have e : chooseC (valA V) s 2 p = bestC F 35 s (0, p) := by
    rw [← chooseC_first F s p hs, chooseC_same (valA V) (fun x y => (ansZ F x y).2) s 2 p hs (fun x h1 h2 h3 y h4 => hA x y h2 h3 h4)]
    rfl
  rw [e] at h
  exact h
theorem rNext_ok (F : Nat → Nat → Int) (V : Nat → Int) (b q : Nat) (w : World) (hb : 3 ≤ b ∧ b ≤ 37) (hq : q ≤ 1) (hp : -1000000 ≤ F b (1 - q) ∧ F b (1 - q) ≤ 1000000) (hV : ValBd V) (hA : AnsIn F V) : Calls Try.prog 39 #[.agg (valV V), .int .i64 q, .int .i64 b, .int .i64 (F b (1 - q))] w fun e w' =>
    e = .returned (.agg #[.int .i64 (ansZ F b q).1, .int .i64 (ansZ F b q).2]) ∧ Below w.heap.size w w' := by
  have h := rChoose_ok V q b (F b (1 - q)) w hq hb.2 hp hV
  have e : chooseC (valA V) q b (F b (1 - q)) = ansZ F b q := by
    rw [chooseC_same (valA V) (fun x y => (ansZ F x y).2) q b _ hq (fun x h1 h2 h3 y h4 => hA x y h2 h3 h4), chooseC_ans _ _ _ _ hq hb]
    rfl
  rw [e] at h
  exact h
theorem two_box (w : World) (a b : Value) (t : TypeId) : ∃ W g, W = w.alloc (.cells #[a, b] t) ∧ g = w.heap.size ∧ CellIs W ⟨g, 0, none⟩ a ∧ CellIs W ⟨g, 1, none⟩ b ∧ Below w.heap.size w W := ⟨_, _, rfl, rfl, cellIs_row _ _ _ 0 _ rfl, cellIs_row _ _ _ 1 _ rfl, sst1 _ _⟩
theorem bestC_val_bd (T : Nat → Int) (u : Int) (s : Nat) (p : Int) (hT : rightT T = true) (hs : s ≤ 1) (hp : -100000 ≤ p ∧ p ≤ 100000) : -100000 ≤ (bestC (finalZ T u) 35 s (0, p)).2 ∧ (bestC (finalZ T u) 35 s (0, p)).2 ≤ 100000 := by
  rw [bestC_W]
  exact rv_bestW_bd _ 100000 (fun b h1 h2 q hq => rv_finalZ_bd T u b q hT ⟨h1, h2⟩ hq) 35 (by omega) s hs _ hp
def rBidsRel (w : World) (T V : Nat → Int) (g g9 base : Nat) (F : Nat → Nat → Int) (L : List Nat) (sd0 : Nat) (s v b : Value) (wr : World) : Prop :=
  ∃ (dn : List Nat) (n sd : Nat) (nx : Nat × Int), s = .int .i64 sd ∧ sd ≤ 1 ∧ b = .int .i64 nx.1 ∧ wr.ownsRow base 5 1 v dn.length (byteV dn) ∧ TabAt wr g T ∧ ValAt wr g9 V ∧
    (nx.1 = 0 ∨ 3 ≤ nx.1 ∧ nx.1 ≤ 37 ∧ 38 ≤ n + nx.1 ∧ dn.length + 3 ≤ nx.1) ∧ L = dn ++ bidsL F n sd nx ∧ sd = (sd0 + dn.length) % 2 ∧ Below w.heap.size w wr ∧ base ≤ wr.heap.size
set_option maxHeartbeats 4000000 in
theorem rBids_ok (T : Nat → Int) (u : Int) (d : Nat) (w : World) (hT : rightT T = true) (hu : 0 ≤ u ∧ u ≤ 3) (hd : d ≤ 3) : Calls Try.prog 30 #[.agg (tabV T), .int .i64 u, .int .i64 d] w fun e w' =>
    (∃ v sd, e = .returned (.tuple #[v, .int .i64 sd, .int .i64 0]) ∧ w'.ownsRow w.heap.size 5 1 v (bidsF (finalZ T u) (d % 2)).length (byteV (bidsF (finalZ T u) (d % 2))) ∧ (bidsF (finalZ T u) (d % 2) ≠ [] → sd = (lastS (finalZ T u) (d % 2) : Int))) ∧ Below w.heap.size w w' := by
  have HR := Sec.mk fun w' => rRight_ok T w'
  have HV := Sec.mk fun w' => rValues_ok T u w' hT hu
  have HFin := Sec.mk fun c q w' h1 h2 => rFinal_ok T u c q w' hT hu h1 h2
  have hsz : (Try.prog.info? 63).map (·.size) = some (tabV T).toList.length := by kernel_rfl
  have hszv : ∀ U, (Try.prog.info? 84).map (·.size) = some (valV U).toList.length := fun U => by rw [val_len]; exact info_val
  have hra := rtab_hra w T 63
  rw [hT] at HR
  have u1 : u ≤ 3 := hu.2
  have d1 : (d : Int) ≤ 3 := by omega
  have d0 : (0 : Int) ≤ (d : Int) := by omega
  obtain ⟨s, hs, he, hs1⟩ : ∃ s : Nat, d % 2 = s ∧ (d : Int) % 2 = (s : Int) ∧ s ≤ 1 := ⟨d % 2, rfl, by omega, by omega⟩
  rw [hs]
  clear hs
  have hws : IntKind.i64.wrap (1 - (s : Int)) = ((1 - s : Nat) : Int) := by rw [IntWalk.i64_in _ ⟨by omega, by omega⟩]; omega
  have HF2 := Sec.mk (show secondA (finalZ T u) s = bestC (finalZ T u) 35 (1 - s) (0, 0) from rfl)
  have HF1 := Sec.mk (show firstA (finalZ T u) s = bestC (finalZ T u) 35 s (0, (secondA (finalZ T u) s).2) from rfl)
  have HOp := Sec.mk (show openA (finalZ T u) s = if (firstA (finalZ T u) s).1 = 0 then (1 - s, secondA (finalZ T u) s) else (s, firstA (finalZ T u) s) from rfl)
  have HOb := Sec.mk (openA_bd (finalZ T u) s)
  have HOs := Sec.mk (openA_s (finalZ T u) s hs1)
  have HLS : Sec (lastS (finalZ T u) s = ((openA (finalZ T u) s).1 + ((bidsF (finalZ T u) s).length - 1)) % 2) := ⟨rfl⟩
  have HBF : Sec (bidsF (finalZ T u) s = bidsL (finalZ T u) 38 (openA (finalZ T u) s).1 (openA (finalZ T u) s).2) := ⟨rfl⟩
  have hsec := bestC_val_bd T u (1 - s) 0 hT (by omega) (by omega)
  rw [← HF2.out] at hsec
  have HFb := Sec.mk fun b s h1 h2 => rv_finalZ_bd T u b s hT h1 h2
  generalize hF : finalZ T u = F at *
  replace hF := Sec.mk hF
  clear hT hu
  go_enter Try.func30, Try.ntmps30
  go_wp2_with (refine wpList_load_mid (by rfl) 63 (.tmp 3) (by rfl) w.heap.size 0 (by rfl) (tabV T).toList _ hra Try.underlying63 rfl hsz ?_; simp only [Array.toArray_toList])
  obtain ⟨W, g, eW, eg, hTW, hB⟩ := rtab_box w T 63
  rw [← eW, ← eg]
  clear eW eg hra
  refine (HR.out _).mono ?_
  rintro e w1 ⟨rfl, hb1⟩
  have hT1 := hTW.later hb1
  have hB1 := sbtr hB hb1
  have hra1 := hT1.range
  clear hTW hb1 hB HR
  go_wp2_with (refine wpList_load_mid (by rfl) 63 (.tmp 3) (by rfl) g 0 (by rfl) (tabV T).toList _ hra1 Try.underlying63 rfl hsz ?_; simp only [Array.toArray_toList])
  clear hra1
  refine (HV.out _).mono ?_
  rintro e w2 ⟨⟨V, rfl, hVb, hVa⟩, hb2⟩
  have hVa : AnsIn F V := hVa
  replace hVb := Sec.mk hVb
  replace hVa := Sec.mk hVa
  have hT2 := Sec.mk (hT1.later hb2)
  have hB2 := sbtr hB1 hb2
  clear hb2 hT1 hB1 HV
  have hz := zero_val
  have hth : (w2.alloc (.cells (valV fun _ => 0) 84)).there w2.heap.size 0 (valV V).size := (val_new w2 (fun _ => 0) 84).there V
  have h1c := val_one V
  have hsi : (Try.prog.info? 84).map (·.size) = some (valV V).size := by rw [val_size]; exact info_val
  go_upto_region 4 with (refine wpList_store_mid (by rfl) 84 (.tmp 9) (.tmp 31) ?_ w2.heap.size 0 (valV V) ?_ ?_ ?_ hsi h1c ?_; rfl; rfl; rfl; exact hth; simp only [Act.put])
  obtain ⟨W3, g9, e3, eg, hV3, hbx⟩ : ∃ W3 g9, W3 = (w2.alloc (.cells (valV fun _ => 0) 84)).setCells w2.heap.size 0 (valV V).toList ∧ g9 = w2.heap.size ∧ ValAt W3 g9 V ∧ Below w2.heap.size w2 W3 :=
    ⟨_, _, rfl, rfl, (val_new w2 (fun _ => 0) 84).stored V, below_setCells _ (Nat.le_refl _) _ _ _ (sst1 _ _)⟩
  rw [← e3, ← eg]
  have hB3 := sbtr hB2 hbx
  have hT3 := hT2.out.later hbx
  have hra := hV3.range
  have C2 := rFirst_ok F V (1 - s) 0 W3 (by omega) (by omega) hVb.out hVa.out
  rw [← HF2.out] at C2
  clear hz hth h1c hsi e3 eg hbx hB2 hT2
  generalize secondA F s = sec at *
  go_wp2_with (refine wpList_load_mid (by rfl) 84 (.tmp 9) (by rfl) g9 0 (by rfl) (valV V).toList _ hra Try.underlying84 rfl (hszv V) ?_; simp only [Array.toArray_toList])
  clear hra
  refine C2.mono ?_
  rintro e w4 ⟨rfl, hb4⟩
  clear C2
  go_upto_region 6 with fail
  obtain ⟨W5, g11, e5, eg, k0, k1, hb5⟩ := two_box w4 (.int .i64 sec.1) (.int .i64 sec.2) 87
  rw [← e5, ← eg]
  have hb35 := sbtr hb4 hb5
  have hV5 := hV3.later hb35
  have hT5 := hT3.later hb35
  have hB5 := sbtr hB3 hb35
  have hra := hV5.range
  have C1 := rFirst_ok F V s sec.2 W5 hs1 (by omega) hVb.out hVa.out
  rw [← HF1.out] at C1
  clear e5 eg hb4 hb5 hb35 hV3 hT3 hB3
  obtain ⟨j0, f0⟩ := id k0
  obtain ⟨j1, f1⟩ := id k1
  generalize firstA F s = fir at *
  go_wp2_with (refine wpList_load_mid (by rfl) 84 (.tmp 9) (by rfl) g9 0 (by rfl) (valV V).toList _ hra Try.underlying84 rfl (hszv V) ?_; simp only [Array.toArray_toList])
  clear hra
  refine C1.mono ?_
  rintro e w6 ⟨rfl, hb6⟩
  clear C1 j0 j1 f0 f1
  go_upto_region 7 with fail
  obtain ⟨W7, g12, e7, eg, m0, m1, hb7⟩ := two_box w6 (.int .i64 fir.1) (.int .i64 fir.2) 87
  rw [← e7, ← eg]
  have hb57 := sbtr hb6 hb7
  have hV7 := hV5.later hb57
  have hT7 := hT5.later hb57
  have hB7 := sbtr hB5 hb57
  have k0 := cellIs_later hb57 k0
  clear e7 eg hb6 hb7 hb57 hV5 hT5 hB5 k1 m1
  obtain ⟨k0, -⟩ := k0
  obtain ⟨m0, -⟩ := m0
  go_upto_if 46 with fail
  go_cut [10, 14] (fun a b wx => a = .int .i64 ((openA F s).1 : Int) ∧ b = .int .i64 ((openA F s).2.1 : Int) ∧ wx = W7)
  case first =>
    by_cases h0 : fir.1 = 0
    · have h0' : ((fir.1 : Int) == 0) = true := by simp [h0]
      go_wp2_with fail
      go_meet
      exact ⟨by rw [HOp.out, if_pos h0], by rw [HOp.out, if_pos h0], rfl⟩
    · have h0' : ((fir.1 : Int) == 0) = false := by simp [h0]
      go_wp2_with fail
      go_meet
      exact ⟨by rw [HOp.out, if_neg h0], by rw [HOp.out, if_neg h0], rfl⟩
  case rest =>
    obtain ⟨rfl, rfl, rfl⟩ := hcut
    have HOb2 := HOb.out
    have hos := HOs.out
    clear HOp HOb HOs k0 m0 hws
    generalize (openA F s) = O at *
    obtain ⟨sd0, nx0⟩ := O
    dsimp only at hos HOb2 HLS HBF ⊢
    obtain ⟨i0, hi, hz0, hz1, hz2⟩ := info_parts info_u8
    have HI := Sec.mk hi
    have Z0 := Sec.mk hz0
    have Z1 := Sec.mk hz1
    have Z2 := Sec.mk hz2
    clear hi hz0 hz1 hz2
    have hs0 : sd0 = sd0 % 2 := by omega
    replace hs0 := Sec.mk hs0
    obtain ⟨base, hbase⟩ : ∃ base, base = wc.heap.size := ⟨_, rfl⟩
    have hgb : g < base := by rw [hbase]; exact hT7.lt
    have hgb9 : g9 < base := by rw [hbase]; exact World.block_lt_of_cell? _ _ (hV7 0 (by omega)).1
    have hwb : w.heap.size ≤ base := by rw [hbase]; exact hB7.size
    have hbb : base ≤ wc.heap.size := by omega
    clear hbase
    go_wp2_with fail
    go_loopw [10, 13, 14] (fun s v b wr => rBidsRel w T V g g9 base F (bidsL F 38 sd0 nx0) sd0 s v b wr) (fun _ v _ _ => 40 - sliceLen v)
    case atStart => exact ⟨[], 38, sd0, nx0, rfl, hos, rfl, World.ownsRow_nil _ _ _ _, hT7, hV7, by simp; omega, rfl, by simpa using hs0.out, hB7, hbb⟩
    case round =>
      clear hT7 hV7 hB7 hbb HOb2
      obtain ⟨dn, n, sd, nx, rfl, hsd, rfl, hown, hTr, hVr, hnx, hL, hpar, hB, hbase⟩ := hrel
      have hlen := own_len hown
      by_cases h0 : nx.1 = 0
      · have hb0 : bidsL F n sd nx = [] := bidsL_zero F n sd nx h0
        rw [hb0, List.append_nil] at hL
        have hws : IntKind.i64.wrap (1 - (sd : Int)) = ((1 - sd : Nat) : Int) := by rw [IntWalk.i64_in _ ⟨by omega, by omega⟩]; omega
        have h0' : ¬ (0 : Int) < (nx.1 : Int) := by omega
        have hend : Sec (bidsF F s = dn ∧ (bidsF F s ≠ [] → ((1 - sd : Nat) : Int) = (lastS F s : Int))) := ⟨by
          have e : bidsF F s = dn := by rw [HBF.out, hL]
          refine ⟨e, fun hne => ?_⟩
          rw [HLS.out, e]
          rw [e] at hne
          have := List.length_pos_iff.2 hne
          omega⟩
        clear hL hb0 HBF HLS hpar hnx
        go_wp2_with fail
        go_ret3
        refine ⟨⟨_, _, rfl, ?_, fun hne => hend.out.2 hne⟩, hB⟩
        rw [hend.out.1]
        exact p_own_base hown hwb
      · obtain ⟨m, rfl⟩ : ∃ m, n = m + 1 := ⟨n - 1, by omega⟩
        obtain ⟨q, hq, hq1, hwq⟩ : ∃ q : Nat, 1 - sd = q ∧ q ≤ 1 ∧ IntKind.i64.wrap (1 - (sd : Int)) = (q : Int) := ⟨1 - sd, rfl, by omega, by rw [IntWalk.i64_in _ ⟨by omega, by omega⟩]; omega⟩
        have hL2 : bidsL F 38 sd0 nx0 = (dn ++ [nx.1]) ++ bidsL F m q (ansZ F nx.1 q) := by
          rw [hL, List.append_assoc, List.singleton_append, ← hq]
          exact congrArg _ (bidsL_cons F m sd nx h0)
        have hb := ansZ_bd F nx.1 q (by omega)
        have hnx2 := hnx.resolve_left h0
        have hn2 : (ansZ F nx.1 q).1 = 0 ∨ 3 ≤ (ansZ F nx.1 q).1 ∧ (ansZ F nx.1 q).1 ≤ 37 ∧ 38 ≤ m + (ansZ F nx.1 q).1 ∧ (dn ++ [nx.1]).length + 3 ≤ (ansZ F nx.1 q).1 := by
          rw [List.length_append, List.length_singleton]; omega
        have hpar2 : q = (sd0 + (dn ++ [nx.1]).length) % 2 := by rw [List.length_append, List.length_singleton]; omega
        have hsdq : 1 - q = sd := by omega
        have hfb := HFb.out nx.1 sd ⟨hnx2.1, hnx2.2.1⟩ hsd
        have hN := fun w' => rNext_ok F V nx.1 q w' ⟨hnx2.1, hnx2.2.1⟩ hq1 (by rw [hsdq]; omega) hVb.out hVa.out
        rw [hsdq] at hN
        have HN := Sec.mk hN
        have HFi := Sec.mk fun w' => HFin.out nx.1 sd w' ⟨hnx2.1, hnx2.2.1⟩ hsd
        unfold outV at HFi
        have h0' : (0 : Int) < (nx.1 : Int) := by omega
        have HL2 := Sec.mk hL2
        have HN2 := Sec.mk hn2
        have HP2 := Sec.mk hpar2
        have HO := Sec.mk hown
        have HLen := Sec.mk hlen
        have HT := Sec.mk hTr
        have HVr := Sec.mk hVr
        have x0 : (0 : Int) ≤ (nx.1 : Int) := by omega
        have x1 : (nx.1 : Int) < 38 := by omega
        have y0 : (0 : Int) ≤ (q : Int) := by omega
        have y1 : (q : Int) < 2 := by omega
        have hdl : dn.length ≤ 40 := by omega
        clear hL hL2 hb hn2 hown hlen hnx hpar hpar2 hN hsdq hfb HFin HFb HBF HLS hTr hVr hF
        generalize riskZ T nx.1 sd = z1 at *
        generalize bestS T (den nx.1) sd = z2 at *
        generalize bestN T (den nx.1) sd = z3 at *
        generalize lev nx.1 = z4 at *
        generalize den nx.1 = z5 at *
        generalize F nx.1 sd = z6 at *
        go_upto_region 14 with (at_builtin; refine wpList_append_own _ rfl _ _ 34 rfl base 5 i0 _ 1 1 Try.underlying34 HI.out Z0.out Z1.out Z2.out rfl (by decide) _ _ _ rfl (HO.out.alloc _) ⟨wr.heap.size, 0, none⟩ 1 1 [.int .u8 (nx.1 : Int)] rfl rfl ?c1 ?c2 ?c3 ?c4 ?c5 ?_)
        case c1 => exact p_news1 _ (by simp)
        case c2 => intro u hu; simp at hu; subst hu; rfl
        case c3 => unfold maxLen; omega
        case c4 => omega
        case c5 => simp; omega
        intro v' w2 hown' hgrow _
        obtain ⟨g', cap', rfl⟩ := ownsRow_succ hown'
        have hgr : ∀ (r : Nat), _ = some r → base ≤ r := fun r e => (HO.out.lt r e).1
        have hT2 : TabAt w2 g T := fun k hk => cellIs_grown (cellIs_later (sst1 _ _) (HT.out k hk)) hgrow (fun r e => by have := hgr r e; simp; omega)
        have hV2 : ValAt w2 g9 V := fun k hk => cellIs_grown (cellIs_later (sst1 _ _) (HVr.out k hk)) hgrow (fun r e => by have := hgr r e; simp; omega)
        have hB2 : Below w.heap.size w w2 := (sbtr hB (sst1 _ _)).grown hgrow (by have := hB.size; simp; omega) (fun r e => by have := hgr r e; omega)
        have hsz2 := hgrow.size
        have hszz : (wr.alloc (.cells #[.int .u8 (nx.1 : Int)] 5)).heap.size = wr.heap.size + 1 := by simp
        have HO2 := Sec.mk hown'
        have hb2 : base ≤ w2.heap.size := by omega
        clear hown' hgrow hgr HT HVr hszz hsz2 hB hbase HO
        have hra := hT2.range
        go_wp2_with (refine wpList_load_mid (by rfl) 63 (.tmp 3) (by rfl) g 0 (by rfl) (tabV T).toList _ hra Try.underlying63 rfl hsz ?_; simp only [Array.toArray_toList])
        clear hra
        refine (HFi.out _).mono ?_
        rintro e w3 ⟨rfl, hb3⟩
        clear HFi
        go_upto_region 15 with fail
        obtain ⟨W4, e4, hb4⟩ : ∃ W4, W4 = w3.alloc (.cells #[.int .u8 z4, .int .u8 z5, .int .u8 z1, .int .u8 z2, .int .i64 z3, .int .i64 0] 30) ∧ Below w3.heap.size w3 W4 := ⟨_, rfl, sst1 _ _⟩
        rw [← e4]
        clear e4
        have hb24 := sbtr hb3 hb4
        have hT4 := Sec.mk (hT2.later hb24)
        have hV4 := Sec.mk (hV2.later hb24)
        have hra := hV4.out.range
        clear hb3 hb4 hT2 hV2
        have hfi := field_ans0
        go_wp2_with (refine wpList_load_mid (by rfl) 84 (.tmp 9) (by rfl) g9 0 (by rfl) (valV V).toList _ hra Try.underlying84 rfl (hszv V) ?_; simp only [Array.toArray_toList])
        clear hra
        refine (HN.out _).mono ?_
        rintro e w5 ⟨rfl, hb5⟩
        have hb25 := sbtr hb24 hb5
        have hT5 := Sec.mk (hT4.out.later hb5)
        have hV5 := Sec.mk (hV4.out.later hb5)
        have hB5 := Sec.mk (sbtr hB2 hb25)
        have hO5 := Sec.mk (p_own_below HO2.out hb25)
        have hbb5 := Sec.mk (show base ≤ w5.heap.size from by have := hb25.size; omega)
        clear HN hb24 hb5 hb25 hT4 hV4 HO2 hB2 hb2
        go_wp2_with fail
        refine ⟨⟨dn ++ [nx.1], m, q, ansZ F nx.1 q, rfl, hq1, rfl, ?_, hT5.out, hV5.out, HN2.out, HL2.out, HP2.out, hB5.out, hbb5.out⟩, by rw [HLen.out]; simp only [sliceLen]; omega⟩
        have := hO5.out
        rw [List.length_append, List.length_singleton, show byteV (dn ++ [nx.1]) = byteV dn ++ [.int .u8 (nx.1 : Int)] by simp [byteV]]
        exact this
end Go.Proofs.Ytfacmkelbjfffaa
