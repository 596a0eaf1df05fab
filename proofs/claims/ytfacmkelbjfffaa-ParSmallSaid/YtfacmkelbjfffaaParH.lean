/- par: Bids. -/
import Derived.Test.YtfacmkelbjfffaaParG
import Derived.Deep.DeepCutAuto
import Derived.Laws.AppendOwn
namespace Go.Proofs.Ytfacmkelbjfffaa
open Go.RowKit
set_option linter.unusedVariables false
set_option linter.unusedSimpArgs false
set_option maxRecDepth 100000

/-- The bids from an answer on. -/
def bidsL (F : Nat → Nat → Int) : Nat → Nat → Nat × Int → List Nat
  | 0, _, _ => []
  | n + 1, sd, nx => if nx.1 = 0 then [] else nx.1 :: bidsL F n (1 - sd) (ansZ F nx.1 (1 - sd))
def secondA (F : Nat → Nat → Int) (s : Nat) : Nat × Int := bestC F 35 (1 - s) (0, 0)
def firstA (F : Nat → Nat → Int) (s : Nat) : Nat × Int := bestC F 35 s (0, (secondA F s).2)
/-- Who bids first, and what. -/
def openA (F : Nat → Nat → Int) (s : Nat) : Nat × (Nat × Int) := if (firstA F s).1 = 0 then (1 - s, secondA F s) else (s, firstA F s)
def bidsF (F : Nat → Nat → Int) (s : Nat) : List Nat := bidsL F 38 (openA F s).1 (openA F s).2
theorem bestC_bd (F : Nat → Nat → Int) : ∀ (n : Nat), n ≤ 35 → ∀ q o, bestC F n q o = o ∨ 38 - n ≤ (bestC F n q o).1 ∧ (bestC F n q o).1 ≤ 37
  | 0, _, q, o => .inl rfl
  | n + 1, h, q, o => by
    unfold bestC
    rcases bestC_bd F n (by omega) q (if betB q (bestC F n (1 - q) (0, F (37 - n) q)).2 o.2 then (37 - n, (bestC F n (1 - q) (0, F (37 - n) q)).2) else o) with e | e
    · rw [e]
      split
      · right; dsimp only; omega
      · exact .inl rfl
    · right; omega
theorem ansZ_bd (F : Nat → Nat → Int) (b q : Nat) (hb : 3 ≤ b ∧ b ≤ 37) : (ansZ F b q).1 = 0 ∨ b < (ansZ F b q).1 ∧ (ansZ F b q).1 ≤ 37 := by
  unfold ansZ
  rcases bestC_bd F (37 - b) (by omega) q (0, F b (1 - q)) with e | e
  · rw [e]; exact .inl rfl
  · right; omega
theorem firstC_bd (F : Nat → Nat → Int) (q : Nat) (p : Int) : (bestC F 35 q (0, p)).1 = 0 ∨ 3 ≤ (bestC F 35 q (0, p)).1 ∧ (bestC F 35 q (0, p)).1 ≤ 37 := by
  rcases bestC_bd F 35 (by omega) q (0, p) with e | e
  · rw [e]; exact .inl rfl
  · right; omega
theorem openA_bd (F : Nat → Nat → Int) (s : Nat) : (openA F s).2.1 = 0 ∨ 3 ≤ (openA F s).2.1 ∧ (openA F s).2.1 ≤ 37 := by
  unfold openA
  split
  · exact firstC_bd F _ _
  · exact firstC_bd F _ _
theorem bidsL_len (F : Nat → Nat → Int) : ∀ (n sd : Nat) (nx : Nat × Int), (nx.1 = 0 ∨ 3 ≤ nx.1 ∧ nx.1 ≤ 37) → (bidsL F n sd nx).length + (if nx.1 = 0 then 38 else nx.1) ≤ 38
  | 0, sd, nx, h => by unfold bidsL; simp only [List.length_nil]; split <;> omega
  | n + 1, sd, nx, h => by
    unfold bidsL
    by_cases h0 : nx.1 = 0
    · rw [if_pos h0, if_pos h0]; simp
    · rw [if_neg h0, if_neg h0]
      have hb := ansZ_bd F nx.1 (1 - sd) (by omega)
      have ih := bidsL_len F n (1 - sd) (ansZ F nx.1 (1 - sd)) (by omega)
      rw [List.length_cons]
      split at ih <;> omega

theorem p_own_below {w w' : World} {base : Nat} {e : TypeId} {size n : Nat} {v : Value} {xs : List Value} (h : w.ownsRow base e size v n xs) (hb : Below w.heap.size w w') : w'.ownsRow base e size v n xs :=
  h.kept (w' := w') (row := none) ⟨hb.os, hb.tape, hb.output, hb.size, fun i hi _ => hb.block i hi⟩ (by cases hv : v.ownBlock <;> simp)
theorem p_own_base {w : World} {base base' : Nat} {e : TypeId} {size n : Nat} {v : Value} {xs : List Value} (h : w.ownsRow base e size v n xs) (hb : base' ≤ base) : w.ownsRow base' e size v n xs := by
  refine ⟨h.1, ?_⟩
  rcases h.2 with hn | ⟨g, cap, cur, rfl, hg, rest⟩
  · exact .inl hn
  · exact .inr ⟨g, cap, cur, rfl, Nat.le_trans hb hg, rest⟩
def sliceLen : Value → Nat
  | .slice _ n _ => n
  | _ => 0
theorem own_len {w : World} {base : Nat} {e : TypeId} {size n : Nat} {v : Value} {xs : List Value} (h : w.ownsRow base e size v n xs) : sliceLen v = n := by
  rcases h.2 with ⟨rfl, h0⟩ | ⟨g, cap, cur, rfl, _⟩
  · rw [h0]; rfl
  · rfl
theorem p_news1 {w : World} {x : Value} {T : Nat} (g : Nat) (hg : g = w.heap.size) : ∀ j u, [x][j]? = some u → (w.alloc (.cells #[x] T)).cell? ((⟨g, 0, none⟩ : Addr).add j) = some u := by
  intro j u hj
  subst hg
  match j, hj with
  | 0, hj => simp at hj; subst hj; simp [Addr.add]
/-- Bytes as values. -/
def byteV (l : List Nat) : List Value := l.map fun (x : Nat) => .int .u8 (x : Int)
/-- What a slice of bytes holds. -/
theorem bytes_of_own {w : World} {base : Nat} {e : TypeId} {v : Value} {l : List Nat} (h : w.ownsRow base e 1 v l.length (byteV l)) :
    ∃ A c, v = .slice A l.length c ∧ ∀ (i x : Nat), l[i]? = some x → ∃ b, A = some ⟨b, 0, none⟩ ∧ w.cell? ⟨b, i, none⟩ = some (.int .u8 (x : Int)) := by
  rcases h.2 with ⟨rfl, h0⟩ | ⟨g, cap, cur, hv, hb, _⟩
  · rw [h0]
    exact ⟨none, 0, rfl, fun i p hp => by
      have : l = [] := List.eq_nil_of_length_eq_zero h0
      subst this; simp at hp⟩
  · refine ⟨_, _, hv, fun i p hp => ⟨g, rfl, ?_⟩⟩
    have hc := h.cells (g := g) (by rw [hv]; rfl) i (.int .u8 (p : Int)) (by unfold byteV; rw [List.getElem?_map, hp]; rfl)
    have e0 : (⟨g, 0, none⟩ : Addr).add i = ⟨g, i, none⟩ := by simp only [Addr.add]; split <;> simp_all
    rwa [e0] at hc
theorem cellIs_grown {W W' : World} {row : Option Nat} {a : Addr} {v : Value} (h : CellIs W a v) (hg : W.grownBy W' row) (hne : ∀ r, row = some r → r ≠ a.block) : CellIs W' a v := by
  have hlt := World.block_lt_of_cell? _ _ h.1
  have hb := hg.block a.block hlt (fun e => (hne _ e.symm) rfl)
  exact ⟨(World.cell?_of_block hb).trans h.1, (World.frozen?_of_block hb).trans h.2⟩
/-- The answers lie in block g. -/
def AnsAt (W : World) (g : Nat) (F : Nat → Nat → Int) : Prop := ∀ b q, 3 ≤ b → b ≤ 37 → q ≤ 1 → CellIs W ⟨g, b * 4 + q * 2, none⟩ (.int .u8 (ansZ F b q).1) ∧ CellIs W ⟨g, b * 4 + q * 2 + 1, none⟩ (.int .i64 (ansZ F b q).2)
theorem AnsAt.kept {W W' : World} {g : Nat} {F : Nat → Nat → Int} (h : AnsAt W g F) (hk : ∀ k v, CellIs W ⟨g, k, none⟩ v → CellIs W' ⟨g, k, none⟩ v) : AnsAt W' g F := fun b q h1 h2 h3 => ⟨hk _ _ (h b q h1 h2 h3).1, hk _ _ (h b q h1 h2 h3).2⟩
theorem AnsAt.later {W W' : World} {g : Nat} {F : Nat → Nat → Int} (h : AnsAt W g F) (hb : Below W.heap.size W W') : AnsAt W' g F := h.kept fun _ _ => cellIs_later hb
theorem first_ok (F : Nat → Nat → Int) (g s : Nat) (p : Int) (w : World) (hs : s ≤ 1) (hA : AnsAt w g F) : Calls Try.prog 23 #[.pointer (some ⟨g, 0, none⟩), .int .u8 s, .int .u8 0, .agg #[.int .u8 0, .int .i64 p]] w fun e w' =>
      e = .returned (.agg #[.int .u8 (bestC F 35 s (0, p)).1, .int .i64 (bestC F 35 s (0, p)).2]) ∧ Below w.heap.size w w' := by
  have h := choose_ok (fun x y => (ansZ F x y).2) g s 0 p w hs (by omega) (fun x h1 h2 h3 q h4 => (hA x q h2 h3 h4).2.1)
  rw [chooseC_first F s p hs] at h
  exact h
theorem info_u8 : (Try.prog.info? 5).map (fun i => (i.zero, i.size, i.bytes)) = some (some (.int .u8 0), 1, 1) := by kernel_rfl
def OpenCut (w : World) (g g1 n0 : Nat) (F : Nat → Nat → Int) (O : Nat × (Nat × Int)) (s : Value) (wx : World) : Prop :=
  ∃ (sd : Nat) (nx : Nat × Int), s = .int .u8 sd ∧ sd ≤ 1 ∧ CellIs wx ⟨g1, 0, none⟩ (.int .u8 nx.1) ∧ CellIs wx ⟨g1, 1, none⟩ (.int .i64 nx.2) ∧ AnsAt wx g F ∧ O = (sd, nx) ∧ Below w.heap.size w wx ∧ wx.heap.size = n0
def BidsRel (w : World) (g g1 base : Nat) (F : Nat → Nat → Int) (L : List Nat) (s v : Value) (wr : World) : Prop :=
  ∃ (dn : List Nat) (n sd : Nat) (nx : Nat × Int), s = .int .u8 sd ∧ sd ≤ 1 ∧ wr.ownsRow base 5 1 v dn.length (byteV dn) ∧ CellIs wr ⟨g1, 0, none⟩ (.int .u8 nx.1) ∧ CellIs wr ⟨g1, 1, none⟩ (.int .i64 nx.2) ∧ AnsAt wr g F ∧
    (nx.1 = 0 ∨ 3 ≤ nx.1 ∧ nx.1 ≤ 37 ∧ 38 ≤ n + nx.1 ∧ dn.length + 3 ≤ nx.1) ∧ L = dn ++ bidsL F n sd nx ∧ Below w.heap.size w wr ∧ base ≤ wr.heap.size

set_option maxHeartbeats 4000000 in
theorem Bids_wrong (T : Nat → Int) (u d : Int) (w : World) (h : rightT T = false ∨ 3 < u ∨ 3 < d) : Calls Try.prog 13 #[.agg (tabV T), .int .u8 u, .int .u8 d] w fun e w' =>
    e = .returned (.tuple #[.slice none 0 0, .int .i64 2]) ∧ Below w.heap.size w w' := by
  have HR := Sec.mk fun w' => Right_ok T w'
  have hsz : (Try.prog.info? 25).map (·.size) = some (tabV T).toList.length := by kernel_rfl
  have hra := tab_hra w T
  generalize rightT T = r at *
  go_enter Try.func13, Try.ntmps13
  go_wp2_with (refine wpList_load_mid (by rfl) 25 (.tmp 3) (by rfl) w.heap.size 0 (by rfl) (tabV T).toList _ hra Try.underlying25 rfl hsz ?_; simp only [Array.toArray_toList])
  refine (HR.out _).mono ?_
  rintro e w1 ⟨rfl, hb1⟩
  have hB := sbtr (sst1 _ _) hb1
  clear hra hb1 HR
  cases r
  · clear h
    go_wp2_with fail
    go_ret2
    exact ⟨rfl, hB⟩
  · by_cases h1 : 3 < u
    · clear h
      go_wp2_with fail
      go_ret2
      exact ⟨rfl, hB⟩
    · have h2 : 3 < d := by simpa [h1] using h
      clear h
      go_wp2_with fail
      go_ret2
      exact ⟨rfl, hB⟩

set_option maxHeartbeats 4000000 in
theorem Bids_ok (T : Nat → Int) (u : Int) (d : Nat) (w : World) (hT : rightT T = true) (hu : 0 ≤ u ∧ u ≤ 3) (hd : d ≤ 3) : Calls Try.prog 13 #[.agg (tabV T), .int .u8 u, .int .u8 d] w fun e w' =>
    ∃ v, e = .returned (.tuple #[v, .int .i64 0]) ∧ w'.ownsRow w.heap.size 5 1 v (bidsF (finalZ T u) (d % 2)).length (byteV (bidsF (finalZ T u) (d % 2))) ∧ Below w.heap.size w w' := by
  have HR := Sec.mk fun w' => Right_ok T w'
  have HS := Sec.mk fun w' => solve_ok T u w' ((rightT_iff T).1 hT) hu
  have hsz : (Try.prog.info? 25).map (·.size) = some (tabV T).toList.length := by kernel_rfl
  have hra := tab_hra w T
  have hc := tab_hc w T
  rw [hT] at HR
  have u1 : u ≤ 3 := hu.2
  have d1 : (d : Int) ≤ 3 := by omega
  obtain ⟨s, hs, he, hs1⟩ : ∃ s : Nat, d % 2 = s ∧ (d : Int) % 2 = (s : Int) ∧ s ≤ 1 := ⟨d % 2, rfl, by omega, by omega⟩
  rw [hs]
  clear hs
  have hws : IntKind.u8.wrap (1 - (s : Int)) = ((1 - s : Nat) : Int) := by rw [IntWalk.u8_in _ ⟨by omega, by omega⟩]; omega
  have HF2 := Sec.mk (show secondA (finalZ T u) s = bestC (finalZ T u) 35 (1 - s) (0, 0) from rfl)
  have HF1 := Sec.mk (show firstA (finalZ T u) s = bestC (finalZ T u) 35 s (0, (secondA (finalZ T u) s).2) from rfl)
  have HOp := Sec.mk (show openA (finalZ T u) s = if (firstA (finalZ T u) s).1 = 0 then (1 - s, secondA (finalZ T u) s) else (s, firstA (finalZ T u) s) from rfl)
  have HOb := Sec.mk (openA_bd (finalZ T u) s)
  unfold bidsF
  generalize hF : finalZ T u = F at *
  replace hF := Sec.mk hF
  go_enter Try.func13, Try.ntmps13
  go_wp2_with (refine wpList_load_mid (by rfl) 25 (.tmp 3) (by rfl) w.heap.size 0 (by rfl) (tabV T).toList _ hra Try.underlying25 rfl hsz ?_; simp only [Array.toArray_toList])
  refine (HR.out _).mono ?_
  rintro e w1 ⟨rfl, hb1⟩
  have hra1 := range_later hc hb1
  have hB := sbtr (sst1 _ _) hb1
  clear hra hc hb1 HR
  go_wp2_with (refine wpList_load_mid (by rfl) 25 (.tmp 3) (by rfl) w.heap.size 0 (by rfl) (tabV T).toList _ hra1 Try.underlying25 rfl hsz ?_; simp only [Array.toArray_toList])
  clear hra1
  refine (HS.out _).mono ?_
  rintro e w2 ⟨rfl, hI⟩
  have hAns : AnsAt w2 (w1.heap.size + 1) (finalZ T u) := fun b q h1 h2 h3 => hI.ans b q h1 h2 h3 trivial
  have hB2 := sbtr hB hI.below
  obtain ⟨g, hg, hgl⟩ : ∃ g, w1.heap.size + 1 = g ∧ g < w2.heap.size := ⟨_, rfl, World.block_lt_of_cell? _ _ (hAns 3 0 (by omega) (by omega) (by omega)).1.1⟩
  rw [hg] at hAns ⊢
  clear hg hI HS hB hsz
  rw [hF.out] at hAns
  have C2 := first_ok F g (1 - s) 0 w2 (by omega) hAns
  rw [← HF2.out] at C2
  generalize secondA F s = sec at *
  go_wp2_with fail
  refine C2.mono ?_
  rintro e w3 ⟨rfl, hb3⟩
  clear C2
  have hb4 := sbtr hb3 (sst1 w3 (.cells #[.int .u8 sec.1, .int .i64 sec.2] 57))
  have C1 := first_ok F g s sec.2 _ hs1 (hAns.later hb4)
  rw [← HF1.out] at C1
  generalize firstA F s = fir at *
  go_wp2_with fail
  refine C1.mono ?_
  rintro e w5 ⟨rfl, hb5⟩
  clear C1 HF1 HF2
  have c10 := pcell_new2 w3 (.int .u8 sec.1) (.int .i64 sec.2) 57
  have hs10 := (sst1 w3 (.cells #[.int .u8 sec.1, .int .i64 sec.2] 57)).size
  generalize hg10 : w3.heap.size = g10 at *
  have k10 : CellIs w5 ⟨g10, 0, none⟩ (.int .u8 sec.1) := cellIs_later hb5 c10.1
  have k10' : CellIs w5 ⟨g10, 1, none⟩ (.int .i64 sec.2) := cellIs_later hb5 c10.2
  have hAns5 := (hAns.later hb4).later hb5
  have hB5 := sbtr (sbtr hB2 hb4) hb5
  clear hAns hb4 hb5 c10 hs10 hB2
  obtain ⟨W, g1, eW, eg, k11, k11', q10, q10', hAns6, hB6, hgW, hgg⟩ : ∃ W g1, W = w5.alloc (.cells #[.int .u8 fir.1, .int .i64 fir.2] 57) ∧ g1 = w5.heap.size ∧ CellIs W ⟨g1, 0, none⟩ (.int .u8 fir.1) ∧ CellIs W ⟨g1, 1, none⟩ (.int .i64 fir.2) ∧ CellIs W ⟨g10, 0, none⟩ (.int .u8 sec.1) ∧ CellIs W ⟨g10, 1, none⟩ (.int .i64 sec.2) ∧ AnsAt W g F ∧ Below w.heap.size w W ∧ W.heap.size = g1 + 1 ∧ g < g1 :=
    ⟨_, _, rfl, rfl, (pcell_new2 w5 _ _ _).1, (pcell_new2 w5 _ _ _).2, cellIs_later (sst1 _ _) k10, cellIs_later (sst1 _ _) k10', hAns5.later (sst1 _ _), sbtr hB5 (sst1 _ _), by simp, World.block_lt_of_cell? _ _ (hAns5 3 0 (by omega) (by omega) (by omega)).1.1⟩
  go_upto_if 42 with fail
  rw [← eW, ← eg]
  have hgb : w.heap.size ≤ g1 := by rw [eg]; exact hB5.size
  clear eW eg k10 k10' hAns5 hB5
  go_cut [9] (fun s9 wx => OpenCut w g g1 (g1 + 1) F (openA F s) s9 wx)
  case first =>
    obtain ⟨k11, f11⟩ := k11
    obtain ⟨k11', f11'⟩ := k11'
    obtain ⟨q10, p10⟩ := q10
    obtain ⟨q10', p10'⟩ := q10'
    by_cases h0 : fir.1 = 0
    · have h0' : ((fir.1 : Int) == 0) = true := by simp [h0]
      go_wp2_with fail
      go_region
      go_wp2_with fail
      go_meet
      have hsz2 : (((W.setCell ⟨g1, 0, none⟩ (.int .u8 sec.1)).setCell ⟨g1, 1, none⟩ (.int .i64 sec.2)).drew).heap.size = g1 + 1 := by simp [World.setCell, World.drew, hgW]
      exact ⟨1 - s, sec, rfl, by omega, cellIs_far (cellIs_set ⟨k11, f11⟩ _) _ (by simp), cellIs_set (cellIs_far ⟨k11', f11'⟩ _ (by simp)) _, hAns6.kept (fun k v h => cellIs_far (cellIs_far h _ (by simp only [ne_eq, Addr.mk.injEq]; omega)) _ (by simp only [ne_eq, Addr.mk.injEq]; omega)), by rw [HOp.out, if_pos h0], ((hB6.setCell (p := ⟨g1, 0, none⟩) hgb _).setCell (p := ⟨g1, 1, none⟩) hgb _).drew, hsz2⟩
    · have h0' : ((fir.1 : Int) == 0) = false := by simp [h0]
      go_wp2_with fail
      go_meet
      refine ⟨s, fir, rfl, hs1, ⟨k11, f11⟩, ⟨k11', f11'⟩, hAns6, ?_, hB6, hgW⟩
      rw [HOp.out, if_neg h0]
  case rest =>
    obtain ⟨sd, nx, rfl, hsd, n0, n1, hA, hO, hB, hsz⟩ := hcut
    have HOb2 := HOb.out
    rw [hO] at HOb2
    clear HOb hAns6 hB6 hgW k11 k11' q10 q10' HOp hb3 hF
    obtain ⟨i0, hi, hz0, hz1, hz2⟩ := info_parts info_u8
    have HI := Sec.mk hi
    have Z0 := Sec.mk hz0
    have Z1 := Sec.mk hz1
    have Z2 := Sec.mk hz2
    clear hi hz0 hz1 hz2
    replace hO := Sec.mk hO
    go_wp2_with fail
    go_loopw [9, 12] (fun s v wr => BidsRel w g g1 (g1 + 1) F (bidsL F 38 sd nx) s v wr) (fun _ v _ => 40 - sliceLen v)
    case atStart => exact ⟨[], 38, sd, nx, rfl, hsd, World.ownsRow_nil _ _ _ _, n0, n1, hA, by simp; omega, rfl, hB, by omega⟩
    case round =>
      clear hA n0 n1 hB hsz
      obtain ⟨dn, n, sd', nx', rfl, hsd', hown, k0, k1, hA, hnx, hL, hB, hbase⟩ := hrel
      have hlen := own_len hown
      obtain ⟨j0, f0⟩ := id k0
      obtain ⟨j1, f1⟩ := id k1
      by_cases h0 : nx'.1 = 0
      · have hb0 : bidsL F n sd' nx' = [] := by cases n with
          | zero => rfl
          | succ n => unfold bidsL; rw [if_pos h0]
        rw [hb0, List.append_nil] at hL
        have h0' : ((nx'.1 : Int) == 0) = true := by simp [h0]
        have h0'' : ((nx'.1 : Int) != 0) = false := by simp [h0]
        go_wp2_with fail
        go_ret2
        refine ⟨_, rfl, ?_, hB⟩
        rw [hO.out, hL]
        exact p_own_base hown (by omega)
      · obtain ⟨m, rfl⟩ : ∃ m, n = m + 1 := ⟨n - 1, by omega⟩
        obtain ⟨q, hq, hq1, hwq⟩ : ∃ q : Nat, 1 - sd' = q ∧ q ≤ 1 ∧ IntKind.u8.wrap (1 - (sd' : Int)) = (q : Int) := ⟨1 - sd', rfl, by omega, by rw [IntWalk.u8_in _ ⟨by omega, by omega⟩]; omega⟩
        have hL2 : bidsL F 38 sd nx = (dn ++ [nx'.1]) ++ bidsL F m q (ansZ F nx'.1 q) := by
          rw [hL, List.append_assoc, List.singleton_append, ← hq]
          conv => lhs; unfold bidsL
          rw [if_neg h0]
        have hb := ansZ_bd F nx'.1 q (by omega)
        have hnx2 := hnx.resolve_left h0
        have hn2 : (ansZ F nx'.1 q).1 = 0 ∨ 3 ≤ (ansZ F nx'.1 q).1 ∧ (ansZ F nx'.1 q).1 ≤ 37 ∧ 38 ≤ m + (ansZ F nx'.1 q).1 ∧ (dn ++ [nx'.1]).length + 3 ≤ (ansZ F nx'.1 q).1 := by
          rw [List.length_append, List.length_singleton]; omega
        have h0' : ((nx'.1 : Int) == 0) = false := by simp [h0]
        have h0'' : ((nx'.1 : Int) != 0) = true := by simp [h0]
        have HL2 := Sec.mk hL2
        have HN2 := Sec.mk hn2
        have HO := Sec.mk hown
        have HLen := Sec.mk hlen
        have x0 : (0 : Int) ≤ (nx'.1 : Int) := by omega
        have x1 : (nx'.1 : Int) < 38 := by omega
        have y0 : (0 : Int) ≤ (q : Int) := by omega
        have y1 : (q : Int) < 2 := by omega
        have hdl : dn.length ≤ 40 := by omega
        clear hL hL2 hb hn2 hown hlen hnx
        go_wp2_with (at_builtin; refine wpList_append_own _ rfl _ _ 34 rfl (g1 + 1) 5 i0 _ 1 1 Try.underlying34 HI.out Z0.out Z1.out Z2.out rfl (by decide) _ _ _ rfl (HO.out.alloc _) ⟨wr.heap.size, 0, none⟩ 1 1 [.int .u8 (nx'.1 : Int)] rfl rfl ?c1 ?c2 ?c3 ?c4 ?c5 ?_)
        case c1 => exact p_news1 _ (by simp)
        case c2 => intro u hu; simp at hu; subst hu; rfl
        case c3 => unfold maxLen; omega
        case c4 => omega
        case c5 => simp; omega
        intro v' w2 hown' hgrow _
        obtain ⟨g', cap', rfl⟩ := ownsRow_succ hown'
        have hgr : ∀ (r : Nat), u12.ownBlock = some r → g1 + 1 ≤ r := fun r e => (HO.out.lt r e).1
        have k0' : CellIs w2 ⟨g1, 0, none⟩ (.int .u8 nx'.1) := cellIs_grown (cellIs_later (sst1 _ _) k0) hgrow (fun r e => by have := hgr r e; simp; omega)
        have k1' : CellIs w2 ⟨g1, 1, none⟩ (.int .i64 nx'.2) := cellIs_grown (cellIs_later (sst1 _ _) k1) hgrow (fun r e => by have := hgr r e; simp; omega)
        have hA2 : AnsAt w2 g F := (hA.later (sst1 _ _)).kept fun k v h => cellIs_grown h hgrow (fun r e => by have := hgr r e; simp; omega)
        have hB2 : Below w.heap.size w w2 := (sbtr hB (sst1 _ _)).grown hgrow (by have := hB.size; simp; omega) (fun r e => by have := hgr r e; omega)
        have hsz2 := hgrow.size
        have HO2 := Sec.mk hown'
        clear hown' hgrow k0 k1 j0 f0 j1 f1 hA hgr
        obtain ⟨j0, f0⟩ := id k0'
        obtain ⟨j1, f1⟩ := id k1'
        obtain ⟨⟨a0, -⟩, a1, -⟩ := hA2 nx'.1 q hnx2.1 hnx2.2.1 hq1
        go_wp2_with fail
        go_region
        go_wp2_with fail
        have hown3 : ((w2.setCell ⟨g1, 0, none⟩ (.int .u8 (ansZ F nx'.1 q).1)).setCell ⟨g1, 1, none⟩ (.int .i64 (ansZ F nx'.1 q).2)).ownsRow (g1 + 1) 5 1 (.slice (some ⟨g', 0, none⟩) (dn.length + 1) cap') (dn ++ [nx'.1]).length (byteV (dn ++ [nx'.1])) := by
          have := ownsRow_setCell_below (ownsRow_setCell_below HO2.out (a := ⟨g1, 0, none⟩) (by simp) (.int .u8 (ansZ F nx'.1 q).1)) (a := ⟨g1, 1, none⟩) (by simp) (.int .i64 (ansZ F nx'.1 q).2)
          rw [List.length_append, List.length_singleton, show byteV (dn ++ [nx'.1]) = byteV dn ++ [.int .u8 (nx'.1 : Int)] by simp [byteV]]
          exact this
        refine ⟨⟨dn ++ [nx'.1], m, q, ansZ F nx'.1 q, rfl, hq1, hown3, cellIs_far (cellIs_set k0' _) _ (by simp), cellIs_set (cellIs_far k1' _ (by simp)) _, hA2.kept (fun k v h => cellIs_far (cellIs_far h _ (by simp only [ne_eq, Addr.mk.injEq]; omega)) _ (by simp only [ne_eq, Addr.mk.injEq]; omega)), HN2.out, HL2.out, ((hB2.setCell (p := ⟨g1, 0, none⟩) hgb _).setCell (p := ⟨g1, 1, none⟩) hgb _).drew, ?_⟩, by rw [HLen.out]; simp only [sliceLen]; omega⟩
        have : (wr.alloc (.cells #[.int .u8 (nx'.1 : Int)] 5)).heap.size = wr.heap.size + 1 := by simp
        simp [World.setCell, World.drew]; omega
end Go.Proofs.Ytfacmkelbjfffaa
