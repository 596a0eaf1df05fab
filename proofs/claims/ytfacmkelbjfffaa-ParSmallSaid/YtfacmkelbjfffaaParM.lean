/- chapter 18: Made. -/
import Derived.Test.YtfacmkelbjfffaaParL
namespace Go.Proofs.Ytfacmkelbjfffaa
open Go.RowKit
set_option linter.unusedVariables false
set_option linter.unusedSimpArgs false
set_option maxRecDepth 100000

/-- Twenty bytes. -/
def bytV (B : Nat → Int) : Array Value := #[.int .u8 (B 0), .int .u8 (B 1), .int .u8 (B 2), .int .u8 (B 3), .int .u8 (B 4), .int .u8 (B 5), .int .u8 (B 6), .int .u8 (B 7), .int .u8 (B 8), .int .u8 (B 9), .int .u8 (B 10), .int .u8 (B 11), .int .u8 (B 12), .int .u8 (B 13), .int .u8 (B 14), .int .u8 (B 15), .int .u8 (B 16), .int .u8 (B 17), .int .u8 (B 18), .int .u8 (B 19)]
theorem byt_cells (B : Nat → Int) (k : Nat) (h : k < 20) : (bytV B)[k]? = some (.int .u8 (B k)) := by
  unfold bytV
  match k, h with
  | 0, _ | 1, _ | 2, _ | 3, _ | 4, _ | 5, _ | 6, _ | 7, _ | 8, _ | 9, _ | 10, _ | 11, _ | 12, _ | 13, _ | 14, _ | 15, _ | 16, _ | 17, _ | 18, _ | 19, _ => rfl
  | k + 20, h => exact absurd h (by omega)
def BytAt (W : World) (g : Nat) (B : Nat → Int) : Prop := ∀ k, k < 20 → CellIs W ⟨g, k, none⟩ (.int .u8 (B k))
def BytesIn (B : Nat → Int) : Prop := ∀ k, k < 20 → 0 ≤ B k ∧ B k ≤ 255
/-- The table that Made makes. -/
def madeT (B : Nat → Int) (k : Nat) : Int :=
  if k % 2 = 1 then (if 13 - B (k - 1) % 14 + B k / 14 % 2 < B k % 14 then 13 - B (k - 1) % 14 + B k / 14 % 2 else B k % 14) else B k % 14
theorem madeT_bd {B : Nat → Int} (h : BytesIn B) (k : Nat) (hk : k < 20) : 0 ≤ madeT B k ∧ madeT B k ≤ 13 := by
  have h1 := h k hk
  have h2 := h (k - 1) (by omega)
  unfold madeT
  split
  · split <;> omega
  · omega
theorem madeT_right {B : Nat → Int} (h : BytesIn B) : rightT (madeT B) = true := (rightT_iff _).2 fun k hk => madeT_bd h k hk
def MdRel (w : World) (B : Nat → Int) (n : Nat) (wr : World) : Prop :=
  BytAt wr w.heap.size B ∧ TabAt wr (w.heap.size + 1) (fun _ => 0) ∧ (∃ U, TabAt wr (w.heap.size + 1 + 1) U ∧ ∀ j, j < n → U j = madeT B j) ∧ Below w.heap.size w wr
theorem MdRel.drew {w : World} {B : Nat → Int} {n : Nat} {wr : World} (h : MdRel w B n wr) (m : Nat) : MdRel w B n (wr.drewN m) :=
  let ⟨a, b, ⟨U, c, d⟩, e⟩ := h
  ⟨a, b, ⟨U, c, d⟩, sc_drewN e m⟩
def MdRel1 (w : World) (B : Nat → Int) (i : Value) (wr : World) : Prop := ∃ d : Nat, d ≤ 5 ∧ i = .int .i64 d ∧ MdRel w B (4 * d) wr
def MdRel2 (w : World) (B : Nat → Int) (d : Nat) (i : Value) (wr : World) : Prop := ∃ s : Nat, s ≤ 4 ∧ i = .int .i64 s ∧ MdRel w B (4 * d + s) wr
set_option maxHeartbeats 4000000 in
theorem Made_ok (B : Nat → Int) (w : World) (hB : BytesIn B) : Calls Try.prog 11 #[.agg (bytV B)] w fun e w' => e = .returned (.agg (tabV (madeT B))) ∧ Below w.heap.size w w' := by
  go_enter Try.func11, Try.ntmps11
  go_upto_region 2 with fail
  have hz : (tabV fun _ => 0) = #[.int .i64 0, .int .i64 0, .int .i64 0, .int .i64 0, .int .i64 0, .int .i64 0, .int .i64 0, .int .i64 0, .int .i64 0, .int .i64 0, .int .i64 0, .int .i64 0, .int .i64 0, .int .i64 0, .int .i64 0, .int .i64 0, .int .i64 0, .int .i64 0, .int .i64 0, .int .i64 0] := rfl
  rw [← hz]
  obtain ⟨W, eW, h0⟩ : ∃ W, W = ((w.alloc (.cells (bytV B) 22)).alloc (.cells (tabV fun _ => 0) 25)).alloc (.cells (tabV fun _ => 0) 25) ∧ MdRel w B 0 W := by
    refine ⟨_, rfl, ?_, ?_, ⟨fun _ => 0, ?_, fun j hj => absurd hj (by omega)⟩, sbtr (sbtr (sst1 _ _) (sst1 _ _)) (sst1 _ _)⟩
    · exact fun k hk => cellIs_later (sbtr (sst1 _ _) (sst1 _ _)) (cellIs_row w (bytV B) 22 k _ (byt_cells B k hk))
    · have h := (tab_new (w.alloc (.cells (bytV B) 22)) (fun _ => 0)).later (sst1 _ (.cells (tabV fun _ => 0) 25))
      rwa [World.size_alloc] at h
    · have h := tab_new ((w.alloc (.cells (bytV B) 22)).alloc (.cells (tabV fun _ => 0) 25)) (fun _ => 0)
      rwa [World.size_alloc, World.size_alloc] at h
  rw [← eW]
  clear eW hz
  go_wp2_with fail
  go_loopw [7] (fun i wr => MdRel1 w B i wr) (fun i _ => 5 - (intOf i).toNat)
  case atStart => exact ⟨0, by omega, rfl, h0⟩
  case round =>
    obtain ⟨d, hd, rfl, hI⟩ := hrel
    by_cases hlt : d < 5
    · go_wp2_with fail
      simp only [decide_eq_true (show (d : Int) < 5 by omega)]
      go_loopw [10] (fun i wx => MdRel2 w B d i wx) (fun i _ => 4 - (intOf i).toNat)
      case atStart => exact ⟨0, by omega, rfl, hI⟩
      case round =>
        obtain ⟨s, hs, rfl, hJ⟩ := hrel
        by_cases hls : s < 4
        · obtain ⟨hb, h2, ⟨U, h3, hU⟩, hBw⟩ := hJ
          have hk : 4 * d + s < 20 := by omega
          have hx := hB (4 * d + s) hk
          obtain ⟨c1, -⟩ := hb (4 * d + s) hk
          obtain ⟨k1, l1⟩ := id (h3 (d * 4 + s) (by omega))
          have d0 : (0 : Int) ≤ (d : Int) := by omega
          have s0 : (0 : Int) ≤ (s : Int) := by omega
          have s1 : (s : Int) < 4 := by omega
          have ht1 : (4 * (d : Int) + (s : Int)).toNat = 4 * d + s := by omega
          have hend : ∀ z, z = madeT B (4 * d + s) → MdRel w B (4 * d + (s + 1)) (wr.setCell ⟨w.heap.size + 1 + 1, d * 4 + s, none⟩ (.int .i64 z)) := fun z hz =>
            ⟨fun j hj => cellIs_far (hb j hj) _ (by simp only [ne_eq, Addr.mk.injEq]; omega), h2.put_far _ _ (by omega), ⟨putT U (d * 4 + s) z, h3.put _ (by omega) z, fun j hj => by
              unfold putT
              by_cases e : j = d * 4 + s
              · rw [if_pos e, hz, e, show d * 4 + s = 4 * d + s by omega]
              · rw [if_neg e]; exact hU j (by omega)⟩, hBw.setCell (p := ⟨w.heap.size + 1 + 1, d * 4 + s, none⟩) (by simp; omega) _⟩
          by_cases hodd : s % 2 = 1
          · have hy := hB (4 * d + s - 1) (by omega)
            obtain ⟨k2, -⟩ := h3 (4 * d + s - 1) (by omega)
            rw [hU (4 * d + s - 1) (by omega)] at k2
            have hy2 : madeT B (4 * d + s - 1) = B (4 * d + s - 1) % 14 := by unfold madeT; rw [if_neg (by omega)]
            rw [hy2] at k2
            have hE := Sec.mk (hend (if 13 - B (4 * d + s - 1) % 14 + B (4 * d + s) / 14 % 2 < B (4 * d + s) % 14 then 13 - B (4 * d + s - 1) % 14 + B (4 * d + s) / 14 % 2 else B (4 * d + s) % 14) (by unfold madeT; rw [if_pos (show (4 * d + s) % 2 = 1 by omega)]))
            have hyb : 0 ≤ B (4 * d + s - 1) % 14 ∧ B (4 * d + s - 1) % 14 ≤ 13 := by omega
            clear hend hB hb h2 h3 hU hy2 hy
            generalize B (4 * d + s - 1) % 14 = y at *
            generalize B (4 * d + s) = x at *
            rcases (by omega : s = 1 ∨ s = 3) with rfl | rfl
            · have e1 : 4 * d + 1 - 1 = d * 4 := by omega
              rw [e1] at k2
              by_cases hmin : 13 - y + x / 14 % 2 < x % 14
              · rw [if_pos hmin] at hE
                go_wp2_with fail
                go_quiet (fail)
                go_wp2_with fail
                exact ⟨⟨1 + 1, hls, rfl, hE.out.drew nq⟩, by simp only [intOf]; omega⟩
              · rw [if_neg hmin] at hE
                go_wp2_with fail
                go_quiet (fail)
                go_wp2_with fail
                exact ⟨⟨1 + 1, hls, rfl, hE.out.drew nq⟩, by simp only [intOf]; omega⟩
            · have e1 : 4 * d + 3 - 1 = d * 4 + 2 := by omega
              rw [e1] at k2
              by_cases hmin : 13 - y + x / 14 % 2 < x % 14
              · rw [if_pos hmin] at hE
                go_wp2_with fail
                go_quiet (fail)
                go_wp2_with fail
                exact ⟨⟨3 + 1, hls, rfl, hE.out.drew nq⟩, by simp only [intOf]; omega⟩
              · rw [if_neg hmin] at hE
                go_wp2_with fail
                go_quiet (fail)
                go_wp2_with fail
                exact ⟨⟨3 + 1, hls, rfl, hE.out.drew nq⟩, by simp only [intOf]; omega⟩
          · have hp : ((s : Int) % 2 == 1) = false := by rw [beq_eq_false_iff_ne]; omega
            have hE := Sec.mk (hend (B (4 * d + s) % 14) (by unfold madeT; rw [if_neg (by omega)]))
            clear hend hB hb h2 h3 hU
            generalize B (4 * d + s) = x at *
            go_wp2_with fail
            exact ⟨⟨s + 1, hls, rfl, hE.out⟩, by simp only [intOf]; omega⟩
        · go_wp2_with fail
          have e : 4 * d + s = 4 * (d + 1) := by omega
          rw [e] at hJ
          exact ⟨⟨d + 1, hlt, rfl, hJ⟩, by simp only [intOf]; omega⟩
    · obtain ⟨hb, h2, ⟨U, h3, hU⟩, hBw⟩ := hI
      have hsz : (Try.prog.info? 25).map (·.size) = some (tabV (madeT B)).toList.length := by kernel_rfl
      have h3 := h3.same fun k hk => hU k (by omega)
      have hra := h3.range
      have hth := h2.there (madeT B)
      have h1c := tab_one (madeT B)
      go_wp2_with (first
        | (refine wpList_load_mid (by rfl) 25 (.tmp 3) (by rfl) (w.heap.size + 1 + 1) 0 (by rfl) (tabV (madeT B)).toList _ hra Try.underlying25 rfl hsz ?_; simp only [Array.toArray_toList])
        | (refine wpList_store_mid (by rfl) 25 (.tmp 2) (.tmp 50) (by rfl) (w.heap.size + 1) 0 (tabV (madeT B)) (by rfl) (by rfl) hth info_tab h1c ?_))
      exact bodyPost_ret (results_tab rfl rfl (h2.stored (madeT B))) rfl ⟨rfl, below_setCells _ (by omega) _ _ _ hBw⟩
end Go.Proofs.Ytfacmkelbjfffaa
